import Derived.Test.YtjjgojgahibpgaaNh2
import Derived.SizedLaws
/- Parts: LW2 LW3 LW4 LW5 Eng23 LW6 LW7 LW8 CLaw1 CLaw2 CLaw3 CLaw4 LLaw1 LW9 LLaw2 LLaw3 LLaw4 LLaw5 NSpec Eng18 LW10 LW11 Eng10 LAct LW12 RMem RW1 RW2 CW13. -/
namespace Go.Proofs.Ytjjgojgahibpgaa
open Go.RowKit Go.Proofs.Eng Go.Proofs.Codec Go.Proofs.Link
set_option linter.unusedSimpArgs false
set_option linter.unusedVariables false set_option maxRecDepth 10000
attribute [local irreducible] T TL LV TH TA
def goodE (win pat : Int) : Bool := decide (1 ≤ win ∧ win ≤ 256 ∧ 1 ≤ pat ∧ pat ≤ 1000)
def newE (win pat : Nat) : ES := ⟨win, pat, [], [], 0, 0, [], [], false⟩
theorem LNew_c (win pat : Int) (w : World) (hw : -9223372036854775808 ≤ win ∧ win ≤ 9223372036854775807) (hp : -9223372036854775808 ≤ pat ∧ pat ≤ 9223372036854775807) :
    Ret Try.prog 18 [.int .i64 win, .int .i64 pat] w (fun v w' => Ext w w' ∧ ((goodE win pat = false ∧ v = .tuple #[.pointer none, .int .i64 2]) ∨ (goodE win pat = true ∧ ∃ p m f, v = .tuple #[.pointer (some ⟨p, 0, none⟩), .int .i64 0] ∧ EndM w' w.heap.size p m f (newE win.toNat pat.toNat)))) := by
  refine ret_T (n := 25) Try.func18 rfl rfl ?_
  by_cases h1 : win < 1
  · have hb : goodE win pat = false := by unfold goodE; rw [decide_eq_false]; omega
    repeat (first | refine T_seq ?_ | refine T_region ?_ | refine T_cond_true rfl ?_ | refine TL_lt_t (hk := ?_) | refine TL_nil ?_ | refine TL_move (hk := ?_) | refine TL_assign (hk := ?_) | refine TL_no (hk := ?_) | refine TL_pick_t (hk := ?_))
    exact T_ret2 rfl rfl rfl ⟨Mod.refl _ _, .inl ⟨hb, rfl⟩⟩
  by_cases h2 : 256 < win
  · have hb : goodE win pat = false := by unfold goodE; rw [decide_eq_false]; omega
    repeat (first | refine T_seq ?_ | refine T_region ?_ | refine T_cond_true rfl ?_ | refine TL_lt_f (hk := ?_) | refine TL_gt_t (hk := ?_) | refine TL_nil ?_ | refine TL_move (hk := ?_) | refine TL_assign (hk := ?_) | refine TL_yes (hk := ?_) | refine TL_no (hk := ?_) | refine TL_pick_t (hk := ?_) | refine TL_pick_f (hk := ?_))
    exact T_ret2 rfl rfl rfl ⟨Mod.refl _ _, .inl ⟨hb, rfl⟩⟩
  by_cases h3 : pat < 1
  · have hb : goodE win pat = false := by unfold goodE; rw [decide_eq_false]; omega
    repeat (first | refine T_seq ?_ | refine T_region ?_ | refine T_cond_true rfl ?_ | refine TL_lt_t (hk := ?_) | refine TL_lt_f (hk := ?_) | refine TL_gt_f (hk := ?_) | refine TL_nil ?_ | refine TL_move (hk := ?_) | refine TL_assign (hk := ?_) | refine TL_yes (hk := ?_) | refine TL_no (hk := ?_) | refine TL_pick_t (hk := ?_) | refine TL_pick_f (hk := ?_))
    exact T_ret2 rfl rfl rfl ⟨Mod.refl _ _, .inl ⟨hb, rfl⟩⟩
  by_cases h4 : 1000 < pat
  · have hb : goodE win pat = false := by unfold goodE; rw [decide_eq_false]; omega
    repeat (first | refine T_seq ?_ | refine T_region ?_ | refine T_cond_true rfl ?_ | refine TL_lt_f (hk := ?_) | refine TL_gt_t (hk := ?_) | refine TL_gt_f (hk := ?_) | refine TL_nil ?_ | refine TL_move (hk := ?_) | refine TL_assign (hk := ?_) | refine TL_yes (hk := ?_) | refine TL_pick_f (hk := ?_))
    exact T_ret2 rfl rfl rfl ⟨Mod.refl _ _, .inl ⟨hb, rfl⟩⟩
  have hb : goodE win pat = true := by unfold goodE; rw [decide_eq_true]; omega
  repeat (first | refine T_seq ?_ | refine T_region ?_ | refine T_cond_false rfl ?_ | refine T_skip ?_ | refine TL_lt_f (hk := ?_) | refine TL_gt_f (hk := ?_) | refine TL_nil ?_ | refine TL_move (hk := ?_) | refine TL_assign (hk := ?_) | refine TL_yes (hk := ?_) | refine TL_pick_f (hk := ?_))
  refine TL_makeMap (.int .u64) kU slV (hk := ?_)
  intro hm w1 e1 g1 g2 mp1
  repeat (refine TL_build TE (hk := ?_))
  refine TL_box (hk := ?_); intro b2 w2 e2 h2 h2' k2
  have z1 := e1.size
  have z2 := e2.size
  repeat (first | refine TL_nil ?_ | refine TL_assign (hk := ?_))
  have nbb : b2 ≠ hm := by omega
  refine T_ret2 rfl rfl rfl ⟨e1.ext e2, .inr ⟨hb, b2, ⟨(none, 0, 0), [], (none, 0, 0), [], hm, [], (none, 0, 0), []⟩, fun b => if b = b2 then 1 else if b = hm then 2 else 0, rfl, ?_⟩⟩
  exact {
    blk := by
      have e1 : ((win.toNat : Nat) : Int) = win := by omega
      have e2 : ((pat.toNat : Nat) : Int) = pat := by omega
      show Blk w2 b2 _ [.int .i64 ((win.toNat : Nat) : Int), .int .i64 ((pat.toNat : Nat) : Int), _, _, _, _, _, _, _]
      rw [e1, e2]
      exact k2
    pu := ⟨Seg.nil _ _ _ _, trivial⟩
    pf := ⟨Own.nil _ _ _ _, trivial⟩
    ph := ⟨mp1.be e2, trivial⟩
    pc := ⟨Seg.nil _ _ _ _, trivial⟩
    ki := {
      kp := by simp
      khb := by simp [Ne.symm nbb]
      kun := fun b hb => by simp [blkL] at hb
      kfl := fun b hb => by simp [blkL] at hb
      kco := fun b hb => by simp [blkL] at hb
      kbo := fun b hb => by simp [EM.bods, blkS, blkF, blkH] at hb
      nd := by simp [EM.bods, blkS, blkF, blkH]
      old := fun b hb => by
        by_cases q1 : b = b2
        · subst q1; omega
        · by_cases q2 : b = hm
          · subst q2; omega
          · simp [q1, q2] at hb } }
end Go.Proofs.Ytjjgojgahibpgaa

namespace Go.Proofs.Ytjjgojgahibpgaa
open Go.RowKit Go.Proofs.Eng Go.Proofs.Codec Go.Proofs.Link
set_option linter.unusedSimpArgs false
set_option linter.unusedVariables false set_option maxRecDepth 10000
attribute [local irreducible] T TL LV TH TA
section
variable {base p : Nat} {m : EM} {f : Nat → Nat} {es : ES}
theorem Send_c (B : Option Addr) (n c : Nat) (l : Bs) (w : World) (h : EndM w base p m f es) (hbw : base ≤ w.heap.size) (hs : es.new.length ≤ 100000) (hr : Rd w B n 1 (bv l)) (hn : n ≤ 70368744177664) :
    Ret Try.prog 27 [ptr p, .slice B n c] w (fun v w' => v = .int .i64 ((sendE es l).2 : Int) ∧ ∃ m' f', EndM w' base p m' f' (sendE es l).1 ∧ Turns f f' w w') := by
  have hlen : l.length = n := by simpa using hr.1
  have hk := h.blk
  unfold endV at hk
  have l1 := h.pu.1.len
  have l2 := h.pu.2.len
  rw [slVs_length, Nat.mul_one] at l1
  have hun : m.un.2.1 = es.new.length := by omega
  unfold sendE
  refine ret_T (n := 30) Try.func27 rfl rfl ?_
  by_cases h1 : 4096 < n
  · rw [if_pos (by omega)]
    repeat (first | refine T_seq ?_ | refine T_region ?_ | refine T_cond_true rfl ?_ | refine T_cond_false rfl ?_ | refine T_block ?_ | refine TL_gt_t (hk := ?_) | refine TL_pnil_f TE (hk := ?_) | refine TL_nil ?_ | refine TL_move (hk := ?_) | refine TL_assign (hk := ?_) | refine TL_len TE (hk := ?_))
    exact T_ret1 rfl rfl ⟨rfl, m, f, h, Turns.refl _ _⟩
  by_cases h2 : es.new.length = 1024
  · rw [if_neg (by omega), if_pos h2]
    repeat (first | refine T_seq ?_ | refine T_region ?_ | refine T_cond_true rfl ?_ | refine T_cond_false rfl ?_ | refine T_block ?_ | refine TL_gt_f (hk := ?_) | refine TL_eq_t (hk := ?_) | refine TL_pnil_f TE (hk := ?_) | refine TL_nil ?_ | refine TL_move (hk := ?_) | refine TL_assign (hk := ?_) | refine TL_load TE (hk := ?_) | refine TL_fieldAddr TE (hk := ?_) | refine TL_len TE (hk := ?_) | refine TL_nilCheck (hk := ?_))
    exact T_ret1 rfl rfl ⟨rfl, m, f, h, Turns.refl _ _⟩
  rw [if_neg (by omega), if_neg h2]
  have hpD : p ∉ blkL m.un.1 := fun q => by have := h.ki.kun p q; rw [h.ki.kp] at this; cases this
  have pu := h.pu.1
  repeat (first | refine T_seq ?_ | refine T_region ?_ | refine T_cond_false rfl ?_ | refine T_block ?_ | refine T_inBlock ?_ | refine T_skip ?_ | refine TL_gt_f (hk := ?_) | refine TL_eq_f (hk := ?_) | refine TL_pnil_f TE (hk := ?_) | refine TL_nil ?_ | refine TL_move (hk := ?_) | refine TL_assign (hk := ?_) | refine TL_load TE (hk := ?_) | refine TL_fieldAddr TE (hk := ?_) | refine TL_len TE (hk := ?_) | refine TL_nilCheck (hk := ?_))
  refine T_region_anyz TE.mixed (blkL m.un.1) (some 11) ?_; intro w1 e1 z1
  have hk1 := hk.be e1
  (refine TA_take 0 rfl (by kernel_rfl) (by kernel_rfl) (by kernel_rfl) ?_; (repeat (first | refine TL_move (hk := ?_) | refine TLP_load TE (hk := ?_) | refine TL_fieldAddr TE (hk := ?_) | refine TL_nilCheck (hk := ?_))); refine TL_nil_p ?_); (refine TA_take 1 rfl (by kernel_rfl) (by kernel_rfl) (by kernel_rfl) ?_; (repeat (first | refine TL_move (hk := ?_) | refine TLP_load TE (hk := ?_) | refine TL_fieldAddr TE (hk := ?_) | refine TL_nilCheck (hk := ?_))); refine TL_nil_p ?_); (refine TA_take 2 rfl (by kernel_rfl) (by kernel_rfl) (by kernel_rfl) ?_; (repeat (first | refine TL_move (hk := ?_) | refine TLP_load TE (hk := ?_) | refine TL_fieldAddr TE (hk := ?_) | refine TL_nilCheck (hk := ?_))); refine TL_nil_p ?_); (refine TA_take 3 rfl (by kernel_rfl) (by kernel_rfl) (by kernel_rfl) ?_; (repeat (first | refine TL_move (hk := ?_) | refine TLP_load TE (hk := ?_) | refine TL_fieldAddr TE (hk := ?_) | refine TL_nilCheck (hk := ?_))); refine TL_nil_p ?_); (refine TA_take 4 rfl (by kernel_rfl) (by kernel_rfl) (by kernel_rfl) ?_; (repeat (first | refine TL_move (hk := ?_) | refine TLP_load TE (hk := ?_) | refine TL_fieldAddr TE (hk := ?_) | refine TL_nilCheck (hk := ?_))); refine TL_nil_p ?_); (refine TA_take 5 rfl (by kernel_rfl) (by kernel_rfl) (by kernel_rfl) ?_; (repeat (first | refine TL_move (hk := ?_) | refine TLP_load TE (hk := ?_) | refine TL_fieldAddr TE (hk := ?_) | refine TL_nilCheck (hk := ?_))); refine TL_nil_p ?_)
  refine TA_one 6 rfl (by kernel_rfl) (by kernel_rfl) ?_; (try refine TL_yes (hk := ?_)); refine TL_call TE (hc := Clone_c B n c l w1 (hr.be e1) hn) (hq := fun v w' ⟨_, _, _, h, _⟩ => h.un) (hk := ?_)
  rintro _ w2 ⟨A2, c2, rfl, e2, o2⟩
  refine TL_nil_p ?_
  refine TA_one 7 rfl (by kernel_rfl) (by kernel_rfl) ?_
  refine TL_buildSlice TE (hf := rfl) (hq := fun w' h => Ext.un (e2.ext h)) (hk := ?_); intro b3 w3 e3 h3 h3' k3
  replace k3 : Blk w3 b3 23 (slVs [(A2, n, c2)]) := k3
  have r3 : Rd w3 (some ⟨b3, 0, none⟩) 1 1 (slVs [(A2, n, c2)]) := Rd.blk k3 rfl
  have z2 := e2.size
  have z3 := e3.size
  have e03 := (e1.ext e2).ext e3
  refine TL_nil_p ?_
  refine TA_one 8 rfl (by kernel_rfl) (by kernel_rfl) ?_
  refine TL_append_g TE (pu.be e03) r3 (slVs_one _) (hf := rfl) (hq := fun w' m => (Ext.un (e2.ext e3)).trans m) (hk := ?_); intro A4 c4 w4 o4 m4 n4
  rw [← slVs_append] at o4
  refine TL_nil_p ?_
  (refine TA_one 9 rfl (by kernel_rfl) (by kernel_rfl) ?_; (repeat (first | refine TL_fieldAddr TE (hk := ?_) | refine TL_nilCheck (hk := ?_))); refine TL_nil_p ?_); (refine TA_one 10 rfl (by kernel_rfl) (by kernel_rfl) ?_; (repeat (first | refine TL_fieldAddr TE (hk := ?_) | refine TL_nilCheck (hk := ?_))); refine TL_nil_p ?_)
  refine TA_one 11 rfl (by kernel_rfl) (by kernel_rfl) ?_
  have hk4 := (hk.be e03).mod m4 hpD
  refine TL_store TE (hf := rfl) (hq := fun _ _ _ => trivial) (hb := hk4) (hk := ?_); intro w5 m5 z5 k5
  refine TL_nil_z (by kernel_rfl) ?_
  have offp : ∀ b, w.heap.size ≤ b → b ∉ [p] := fun b q hq => by have := (h.ki.old p (by rw [h.ki.kp]; decide)).2; rw [List.mem_singleton] at hq; omega
  have M1 : Eng.Mod (p :: blkL m.un.1) w w5 := ((e03.mono (S' := p :: blkL m.un.1) (by simp)).step m4 (fun x hx => .inl (List.mem_cons_of_mem _ hx))).step m5 (fun x hx => .inl (by rw [List.mem_singleton.1 hx]; exact List.mem_cons_self))
  have hx2 : ∀ b ∈ blkL A2, w.heap.size ≤ b := fun b q => by have := Hi.blk o2.hi b q; omega
  have hx2' := Lo.blk o2.lo
  have hn4 := Near.blk n4
  have hux : ∀ b ∈ blkL A2, b ∉ blkL A4 := fun b q q' => by
    rcases hn4 b q' with h' | h'
    · have := Lo.blk pu.lo b h'; have := hx2 b q; omega
    · have := hx2' b q; omega
  have hbo : Body w5 base (A2, n, c2) l := (((o2.be e3).mod m4 (off_of fun b q q' => by have := Lo.blk pu.lo b q'; have := hx2 b q; omega)).mod m5 (off_of fun b q => offp b (hx2 b q))).weaken (by omega)
  have hbs := h.pu.2.mod M1 (nin_of h.ki.un6 (fun b q e => by
    rcases List.mem_cons.1 q with rfl | q
    · rw [h.ki.kp] at e; cases e
    · rw [h.ki.kun b q] at e; cases e))
  obtain ⟨m', f', h', t'⟩ := h.send (un' := (A4, m.un.2.1 + 1, c4)) (x := (A2, n, c2)) (l := l) M1 k5 ⟨o4.mod m5 (off_of fun b q q' => by
    rcases hn4 b q with h' | h'
    · rw [List.mem_singleton] at q'; subst q'; exact hpD h'
    · exact offp b (by omega) q'), hbs.snoc hbo⟩ (fun b q => (hn4 b q).imp id (fun h => by omega)) hx2 hux
  repeat (first | refine T_seq ?_ | refine T_region ?_ | refine TL_nil ?_ | refine TL_assign (hk := ?_))
  exact T_ret1 rfl rfl ⟨rfl, m', f', h', t'⟩
theorem Next_c (w : World) (h : EndM w base p m f es) :
    Ret Try.prog 29 [ptr p] w (fun v w' => match nextE es with
      | (_, none) => v = .tuple #[.slice none 0 0, .bool false] ∧ w' = w
      | (es', some b) => ∃ x m' f', v = .tuple #[slV x, .bool true] ∧ EndM w' base p m' f' es' ∧ Turns f f' w w' ∧ Body w' base x b ∧ (∀ b ∈ blkL x.1, f' b = 0) ∧ ∀ b ∈ blkL x.1, f b = 6) := by
  have hk := h.blk
  unfold endV at hk
  have l1 := h.pc.1.len
  have l2 := h.pc.2.len
  have r := h.pc.1.rd
  rw [slVs_length, Nat.mul_one] at l1
  unfold nextE
  refine ret_T (n := 30) Try.func29 rfl rfl ?_
  cases hc : es.come with
  | nil =>
    have hun : m.co.2.1 = 0 := by rw [hc, List.length_nil] at l2; omega
    have hun' : ((m.co.2.1 : Nat) : Int) = 0 := by omega
    repeat (first | refine T_seq ?_ | refine T_region ?_ | refine T_cond_true rfl ?_ | refine TL_eq_t (hk := ?_) | refine TL_pnil_f TE (hk := ?_) | refine TL_nil ?_ | refine TL_move (hk := ?_) | refine TL_assign (hk := ?_) | refine TL_load TE (hk := ?_) | refine TL_fieldAddr TE (hk := ?_) | refine TL_len TE (hk := ?_) | refine TL_yes (hk := ?_) | refine TL_pick_f (hk := ?_) | refine TL_nilCheck (hk := ?_))
    exact T_ret2 rfl rfl rfl ⟨rfl, rfl⟩
  | cons b bt =>
    rw [hc] at l2
    cases hcl : m.cl with
    | nil => rw [hcl] at l2; simp at l2
    | cons x t =>
      rw [hcl] at r l1 l2
      simp only [List.length_cons] at l1 l2
      have hun : ¬ m.co.2.1 = 0 := by omega
      have hv : (slVs (x :: t))[0]? = some (slV x) := rfl
      have hcap := h.pc.1.cap
      repeat (first | refine T_seq ?_ | refine T_region ?_ | refine T_cond_false rfl ?_ | refine T_skip ?_ | refine TL_eq_f (hk := ?_) | refine TL_pnil_f TE (hk := ?_) | refine TL_nil ?_ | refine TL_move (hk := ?_) | refine TL_assign (hk := ?_) | refine TL_load TE (hk := ?_) | refine TL_load_rd TE (hk := ?_) | refine TL_fieldAddr TE (hk := ?_) | refine TL_indexAddr1n TE (hk := ?_) | refine TL_len TE (hk := ?_) | refine TL_yes (hk := ?_) | refine TL_pick_f (hk := ?_) | refine TL_nilCheck (hk := ?_) | refine TL_slice_lo TE (hk := ?_))
      refine TL_store TE (hk := ?_); intro w1 m1 z1 k1
      obtain ⟨m', f', a1, a2, a3, a4⟩ := h.next hcl hc m1 k1
      repeat (first | refine T_seq ?_ | refine T_region ?_ | refine TL_nil ?_ | refine TL_move (hk := ?_) | refine TL_assign (hk := ?_))
      exact T_ret2 rfl rfl rfl ⟨x, m', f', rfl, a1, a2, a3, a4⟩
theorem Unsent_c (w : World) (h : EndM w base p m f es) : Ret Try.prog 41 [ptr p] w (fun v w' => v = .int .i64 ((es.new.length : Nat) : Int) ∧ w' = w) := by
  have hk := h.blk
  unfold endV at hk
  have l1 := h.pu.1.len
  have l2 := h.pu.2.len
  simp only [slVs_length, fv_len, Nat.mul_one] at l1
  refine ret_T (n := 10) Try.func41 rfl rfl ?_
  repeat (first | refine T_seq ?_ | refine T_region ?_ | refine T_cond_false rfl ?_ | refine T_skip ?_ | refine TL_pnil_f TE (hk := ?_) | refine TL_nil ?_ | refine TL_move (hk := ?_) | refine TL_assign (hk := ?_) | refine TL_load TE (hk := ?_) | refine TL_fieldAddr TE (hk := ?_) | refine TL_len TE (hk := ?_) | refine TL_nilCheck (hk := ?_))
  exact T_ret1 rfl rfl ⟨by show Value.int _ ((m.un.2.1 : Nat) : Int) = _; rw [show m.un.2.1 = es.new.length by omega], rfl⟩
theorem Flying_c (w : World) (h : EndM w base p m f es) : Ret Try.prog 23 [ptr p] w (fun v w' => v = .int .i64 ((es.fly.length : Nat) : Int) ∧ w' = w) := by
  have hk := h.blk
  unfold endV at hk
  have l1 := h.pf.1.len
  have l2 := h.pf.2.len
  simp only [slVs_length, fv_len, Nat.mul_one] at l1
  refine ret_T (n := 10) Try.func23 rfl rfl ?_
  repeat (first | refine T_seq ?_ | refine T_region ?_ | refine T_cond_false rfl ?_ | refine T_skip ?_ | refine TL_pnil_f TE (hk := ?_) | refine TL_nil ?_ | refine TL_move (hk := ?_) | refine TL_assign (hk := ?_) | refine TL_load TE (hk := ?_) | refine TL_fieldAddr TE (hk := ?_) | refine TL_len TE (hk := ?_) | refine TL_nilCheck (hk := ?_))
  exact T_ret1 rfl rfl ⟨by show Value.int _ ((m.fl.2.1 : Nat) : Int) = _; rw [show m.fl.2.1 = es.fly.length by omega], rfl⟩
end
end Go.Proofs.Ytjjgojgahibpgaa

namespace Go.Proofs.Ytjjgojgahibpgaa
open Go.RowKit Go.Proofs.Eng Go.Proofs.Codec Go.Proofs.Link
set_option linter.unusedSimpArgs false
set_option linter.unusedVariables false set_option maxRecDepth 10000
attribute [local irreducible] T TL LV TH TA
section
variable {base p : Nat} {m : EM} {f : Nat → Nat} {es : ES}
theorem EndM.p_fl {w : World} (h : EndM w base p m f es) : p ∉ blkL m.fl.1 := fun q => by have := h.ki.kfl p q; rw [h.ki.kp] at this; cases this
theorem EndM.f_fl {w : World} (h : EndM w base p m f es) {fm : List FE} (hs : fm.map (·.sv) = m.fm.map (·.sv)) : ∀ b ∈ blkF fm, b ∉ blkL m.fl.1 := fun b hb q => by
  have h1 : b ∈ blkF m.fm := by unfold blkF at hb ⊢; rwa [hs] at hb
  have h2 := h.ki.fl6 b h1
  rw [h.ki.kfl b q] at h2
  cases h2
theorem sv_set {l : List FE} {i : Nat} {x : FE} (h : i < l.length) (hx : x.sv = (l.getD i fe0).sv) : (l.set i x).map (·.sv) = l.map (·.sv) := by
  rw [List.map_set]
  apply List.ext_getElem?
  intro k
  rw [List.getElem?_set]
  by_cases e : i = k
  · subst e
    rw [if_pos rfl, if_pos (by simpa using h), List.getElem?_map, hx]
    simp [List.getD_eq_getElem?_getD, List.getElem?_eq_getElem h]
  · rw [if_neg e]
theorem getD_set (l : List FE) (i : Nat) (x : FE) (h : i < l.length) : (l.set i x).getD i fe0 = x := by
  rw [List.getD_eq_getElem?_getD, List.getElem?_set_self h]; rfl
theorem Tick_c (w : World) (h : EndM w base p m f es) (hfl : es.fly.length ≤ 100000) (hag : ∀ x ∈ es.fly, x.age ≤ 100000) :
    Ret Try.prog 30 [ptr p] w (fun v w' => ∃ m', EndM w' base p m' f (tickE es) ∧ Turns f f w w') := by
  have hk := h.blk
  unfold endV at hk
  have l1 := h.pf.1.len
  have l2 := h.pf.2.len
  rw [fv_len] at l1
  have hpD := h.p_fl
  refine ret_T (n := 43) Try.func30 rfl rfl ?_
  repeat (first | refine T_seq ?_ | refine T_region ?_ | refine T_cond_false rfl ?_ | refine T_block ?_ | refine T_skip ?_ | refine TL_pnil_f TE (hk := ?_) | refine TL_nil ?_ | refine TL_move (hk := ?_) | refine TL_load TE (hk := ?_) | refine TL_fieldAddr TE (hk := ?_) | refine TL_len TE (hk := ?_) | refine TL_nilCheck (hk := ?_))
  refine T_loop (ι := Nat × List FE) (fun i => [(11, .int .i64 (i.1 : Int)), (10, .int .i64 (m.fl.2.1 : Int)), (0, ptr p)])
    (fun i w' => i.1 ≤ m.fl.2.1 ∧ Eng.Mod (blkL m.fl.1) w w' ∧ FlP w' base m.fl i.2 (tkU (tickM es.pat) es.fly i.1) ∧ i.2.map (·.sv) = m.fm.map (·.sv)) (fun i => m.fl.2.1 - i.1) (0, m.fm) (.c rfl (.c rfl (.c rfl (.n)))) ⟨Nat.zero_le _, Mod.refl _ _, by rw [tkU_zero]; exact h.pf, rfl⟩ ?_
  rintro ⟨i, fm⟩ w1 ⟨hi, m1, hp1, hsv⟩ ih
  simp only at hi m1 hp1 hsv ih ⊢
  have hk1 := hk.mod m1 hpD
  have hlm : fm.length = m.fm.length := by have := congrArg List.length hsv; simpa using this
  by_cases hlt : i < m.fl.2.1
  · have hil : i < fm.length := by omega
    have hg := hp1.2.get i hil
    rw [tkU_get _ _ _ (by omega)] at hg
    have hgm : es.fly.getD i m0 ∈ es.fly := by rw [List.getD_eq_getElem?_getD, List.getElem?_eq_getElem (by omega)]; exact List.getElem_mem _
    have hag1 := hag _ hgm
    have tset := tkU_set (tickM es.pat) es.fly i (by omega)
    have hbF := h.f_fl hsv
    have hv2 := fv_at fm i 2 hil (by omega)
    have hset : ∀ j u x, j < 4 → (f4 (fm.getD i fe0)).set j u = f4 x → (fv fm).set (i * 4 + j) u = fv (fm.set i x) := fun j u x hj he => fv_set1 fm i j u x hil hj he
    have hsvx := sv_set (l := fm) (i := i) (x := fm.getD i fe0) hil rfl
    have hFB := fun (x : FE) (q : Msg) => FB.set (w := w1) (base := base) i x q hp1.2 hil
    rw [tkU_get _ _ _ (by omega)] at hFB
    have hsve := fun x hx => sv_set (l := fm) (i := i) (x := x) hil hx
    have hss := fun x => getD_set fm i x hil
    obtain ⟨x, hx⟩ : ∃ x, fm.getD i fe0 = x := ⟨_, rfl⟩
    obtain ⟨q, hq⟩ : ∃ q, es.fly.getD i m0 = q := ⟨_, rfl⟩
    rw [hx] at hg hv2
    simp only [hx] at hset hFB hsve
    rw [hq] at hg hag1 tset
    simp only [hq] at hFB
    have hv2' : (fv fm)[i * 4 + 2]? = some (.int .i64 (x.age : Int)) := hv2
    have hag2 : x.age ≤ 100000 := by rw [hg.2.1]; exact hag1
    have o1 := hp1.1
    have r1 := o1.rd
    have hA : m.fl.1 ≠ none := by obtain ⟨_, _, hq, _⟩ := r1.2 (by omega); rw [hq]; simp
    have lf := fv_len fm
    have lfs : ∀ x, (fv (fm.set i x)).length = fm.length * 4 := fun x => by rw [fv_len, List.length_set]
    have hc : (x.age : Int) + 1 = ((x.age + 1 : Nat) : Int) := by omega
    obtain ⟨fl, fn, fc⟩ : ∃ fl, m.fl = fl := ⟨_, rfl⟩
    repeat (first | refine T_seq ?_ | refine T_region ?_ | refine T_cond_true rfl ?_ | refine T_block ?_ | refine T_skip ?_ | refine TL_add (hk := ?_) | refine TL_lt_t (hk := ?_) | refine TL_nil ?_ | refine TL_move (hk := ?_) | refine TL_assign (hk := ?_) | refine TL_load TE (hk := ?_) | refine TL_load_rd TE (hk := ?_) | refine TL_fieldAddr TE (hk := ?_) | refine TL_fieldAddr_e TE (hk := ?_) | refine TL_indexAddrn TE (hk := ?_) | refine TL_nilCheck (hk := ?_))
    rw [hc]
    --
    refine TL_store_own TE (hk := ?_); intro w2 m2 z2 o2
    rw [hset 2 _ { x with age := x.age + 1 } (by omega) rfl] at o2
    have hk2 := hk1.mod m2 hpD
    have r2 := o2.rd
    have hv3 : (fv (fm.set i { x with age := x.age + 1 }))[i * 4 + 2]? = some (.int .i64 ((x.age + 1 : Nat) : Int)) := by
      rw [fv_at _ i 2 (by simpa using hil) (by omega), hss]
      rfl
    clear hk1 o1 r1
    by_cases hpat : x.age + 1 = es.pat
    · have hpat' : ((x.age + 1 : Nat) : Int) = (es.pat : Int) := by omega
      repeat (first | refine T_seq ?_ | refine T_region_q TE.mixed (by kernel_rfl) ?_ | refine TL_eq_t (hk := ?_) | refine TL_nil ?_ | refine TL_move (hk := ?_) | refine TL_load TE (hk := ?_) | refine TL_load_rd TE (hk := ?_) | refine TL_fieldAddr TE (hk := ?_) | refine TL_fieldAddr_e TE (hk := ?_) | refine TL_nilCheck (hk := ?_))
      refine TL_nil_q ?_; intro w3 e3
      have o3 := o2.be e3
      have lf2 := lfs { x with age := x.age + 1 }
      have lf4 := lfs { x with age := 0 }
      clear o2
      repeat (first | refine T_region ?_ | refine T_cond_true rfl ?_ | refine TL_move (hk := ?_) | refine TL_fieldAddr_e TE (hk := ?_) | refine TL_nilCheck (hk := ?_))
      refine TL_store_own TE (hk := ?_); intro w4 m4 z4 o4
      rw [fv_set1 _ i 2 _ { x with age := 0 } (by simpa using hil) (by omega) (by rw [hss]; rfl), List.set_set] at o4
      repeat (first | refine TL_fieldAddr_e TE (hk := ?_) | refine TL_nilCheck (hk := ?_))
      refine TL_store_own TE (hk := ?_); intro w5 m5 z5 o5
      rw [fv_set1 _ i 3 _ { x with age := 0, due := true } (by simpa using hil) (by omega) (by rw [hss]; rfl), List.set_set] at o5
      repeat (first | refine T_region ?_ | refine T_inBlock ?_ | refine TL_add (hk := ?_) | refine TL_nil ?_ | refine TL_move (hk := ?_))
      have M5 := ((m2.ext e3).trans m4).trans m5
      refine ih (i + 1, fm.set i { x with age := 0, due := true }) w5 _ (by simp only; omega) ⟨by simp only; omega, m1.trans M5, ⟨o5, ?_⟩, (hsve { x with age := 0, due := true } rfl).trans hsv⟩ (.c rfl (.c rfl (.c rfl (.n))))
      have := hFB { x with age := 0, due := true } (tickM es.pat q) rfl (by unfold tickM; split <;> rfl) (by unfold tickM; split <;> exact hg.1) (by unfold tickM; rw [if_pos (by rw [← hg.2.1]; exact hpat)]) (by unfold tickM; rw [if_pos (by rw [← hg.2.1]; exact hpat)])
      rw [tset] at this
      exact this.mod M5 (h.f_fl ((hsve { x with age := 0, due := true } rfl).trans hsv))
    · have hpat' : ¬ ((x.age + 1 : Nat) : Int) = (es.pat : Int) := by omega
      repeat (first | refine T_seq ?_ | refine T_region_q TE.mixed (by kernel_rfl) ?_ | refine TL_eq_f (hk := ?_) | refine TL_nil ?_ | refine TL_move (hk := ?_) | refine TL_load TE (hk := ?_) | refine TL_load_rd TE (hk := ?_) | refine TL_fieldAddr TE (hk := ?_) | refine TL_fieldAddr_e TE (hk := ?_) | refine TL_nilCheck (hk := ?_))
      refine TL_nil_q ?_; intro w3 e3
      have o3 := o2.be e3
      repeat (first | refine T_region ?_ | refine T_cond_false rfl ?_ | refine T_inBlock ?_ | refine T_skip ?_ | refine TL_add (hk := ?_) | refine TL_nil ?_ | refine TL_move (hk := ?_))
      have M5 := m2.ext e3
      refine ih (i + 1, fm.set i { x with age := x.age + 1 }) w3 _ (by simp only; omega) ⟨by simp only; omega, m1.trans M5, ⟨o3, ?_⟩, (hsve { x with age := x.age + 1 } rfl).trans hsv⟩ (.c rfl (.c rfl (.c rfl (.n))))
      have := hFB { x with age := x.age + 1 } (tickM es.pat q) rfl (by unfold tickM; split <;> rfl) (by unfold tickM; split <;> exact hg.1) (by unfold tickM; rw [if_neg (by rw [← hg.2.1]; exact hpat)]; exact congrArg (· + 1) hg.2.1) (by unfold tickM; rw [if_neg (by rw [← hg.2.1]; exact hpat)]; exact hg.2.2.1)
      rw [tset] at this
      exact this.mod M5 (h.f_fl ((hsve { x with age := x.age + 1 } rfl).trans hsv))
  · have : i = es.fly.length := by omega
    rw [this, tkU_end] at hp1
    clear ih
    repeat (first | refine T_seq ?_ | refine T_region ?_ | refine T_cond_false rfl ?_ | refine T_exit rfl ?_ | refine TL_lt_f (hk := ?_) | refine TL_nil ?_)
    have := h.flies m1 hp1 hsv
    exact T_end0 rfl ⟨_, this⟩
end
end Go.Proofs.Ytjjgojgahibpgaa

namespace Go.Proofs.Ytjjgojgahibpgaa
open Go.RowKit Go.Proofs.Eng Go.Proofs.Codec Go.Proofs.Link
set_option linter.unusedSimpArgs false
set_option linter.unusedVariables false set_option maxRecDepth 10000
attribute [local irreducible] T TL LV TH TA
/-- The frames that go out, as they lie. -/
structure OutP (w : World) (B : Nat) (O : SV) (xs : List SV) (bs : List Bs) : Prop where
  own : Own w B 23 1 O.1 O.2.1 O.2.2 (slVs xs)
  bod : Bods w B xs bs
  off : ∀ b ∈ blkS xs, b ∉ blkL O.1
  nd : (blkS xs).Nodup
theorem OutP.mod {w w' : World} {B : Nat} {O : SV} {xs : List SV} {bs : List Bs} {S : List Nat} (h : OutP w B O xs bs) (hm : Eng.Mod S w w') (hS : ∀ b ∈ S, b < B) : OutP w' B O xs bs :=
  ⟨h.own.mod hm (off_of fun b q q' => by have := Hi.blk h.own.hi b q; have := hS b q'; omega), h.bod.mod hm (fun b q q' => by have := (h.bod.lt b q).1; have := hS b q'; omega), h.off, h.nd⟩
theorem OutP.be {w w' : World} {B : Nat} {O : SV} {xs : List SV} {bs : List Bs} (h : OutP w B O xs bs) (hm : Ext w w') : OutP w' B O xs bs := h.mod hm (fun b hb => by cases hb)
theorem Bods.weaken {w : World} {B B' : Nat} (hb : B' ≤ B) : ∀ {xs : List SV} {ls : List Bs}, Bods w B xs ls → Bods w B' xs ls
  | [], [], _ => trivial
  | x :: xs, l :: ls, h => ⟨Own.weaken h.1 hb, Bods.weaken hb h.2⟩
  | [], _ :: _, h => h.elim
  | _ :: _, [], h => h.elim
theorem OutP.weaken {w : World} {B B' : Nat} {O : SV} {xs : List SV} {bs : List Bs} (h : OutP w B O xs bs) (hb : B' ≤ B) : OutP w B' O xs bs := ⟨h.own.weaken hb, h.bod.weaken hb, h.off, h.nd⟩
theorem OutP.add {w w1 w2 w3 : World} {B : Nat} {O : SV} {xs : List SV} {bs : List Bs} (h : OutP w B O xs bs) {x : SV} {l : Bs} (hB : B ≤ w.heap.size) (e1 : Ext w w1) (hx : Own w1 w.heap.size 5 1 x.1 x.2.1 x.2.2 (bv l)) (e2 : Ext w1 w2) {A4 : Option Addr} {n4 c4 : Nat}
    (o4 : Own w3 B 23 1 A4 n4 c4 (slVs xs ++ slVs [x])) (m4 : Eng.Mod (blkL O.1) w2 w3) (near : Near O.1 A4 w2) : OutP w3 B (A4, n4, c4) (xs ++ [x]) (bs ++ [l]) := by
  have z1 := e1.size
  have z2 := e2.size
  have hxl : ∀ b ∈ blkL x.1, w.heap.size ≤ b ∧ b < w1.heap.size := fun b q => ⟨Hi.blk hx.hi b q, Lo.blk hx.lo b q⟩
  have hOl : ∀ b ∈ blkL O.1, b < w.heap.size := Lo.blk h.own.lo
  have hsl : ∀ b ∈ blkS xs, b < w.heap.size := fun b q => (h.bod.lt b q).2
  refine ⟨by rw [slVs_append]; exact o4, ((h.bod.mod (e1.ext e2) (fun b q q' => by cases q')).mod m4 h.off).snoc (((hx.weaken hB).be e2).mod m4 (off_of fun b q q' => by have := hxl b q; have := hOl b q'; omega)), fun b q q' => ?_, ?_⟩
  · rw [blkS_append, blkS_cons, blkS_nil, List.append_nil, List.mem_append] at q
    rcases Near.blk near b q' with h1 | h1
    · rcases q with q | q
      · exact h.off b q h1
      · have := hxl b q; have := hOl b h1; omega
    · rcases q with q | q
      · have := hsl b q; omega
      · have := hxl b q; omega
  · rw [blkS_append, blkS_cons, blkS_nil, List.append_nil, List.nodup_append]
    exact ⟨h.nd, blkL_nodup _, fun a ha b hb => by have := hsl a ha; have := hxl b hb; omega⟩
section
variable {base p : Nat} {m : EM} {f : Nat → Nat} {es : ES}
set_option maxHeartbeats 1600000
theorem Out_c (w : World) (h : EndM w base p m f es) (hbw : base ≤ w.heap.size) (ok : OkE es) :
    Ret Try.prog 28 [ptr p] w (fun v w' => ∃ O xs m' f', v = slV O ∧ EndM w' base p m' f' (outE es).1 ∧ Turns f f' w w' ∧ OutP w' w.heap.size O xs (outE es).2 ∧ (∀ b ∈ blkL O.1, f' b = 0) ∧ ∀ b ∈ blkS xs, f' b = 0) := by
  have hD : p ∉ ([] : List Nat) := by simp
  refine ret_T (n := 126) Try.func28 rfl rfl ?_
  repeat (first | refine T_seq ?_ | refine T_region ?_ | refine T_cond_false rfl ?_ | refine T_block ?_ | refine T_skip ?_ | refine TL_pnil_f TE (hk := ?_) | refine TL_nil ?_ | refine TL_move (hk := ?_) | refine TL_assign (hk := ?_))
  refine T_loop (ι := ES) (fun _ => [(0, ptr p)]) (fun e w' => (∃ m' f', EndM w' base p m' f' e ∧ Turns f f' w w') ∧ fillE e.new.length e = fillE es.new.length es ∧ OkE e) (fun e => e.new.length) es (.c rfl (.n)) ⟨⟨m, f, h, Turns.refl _ _⟩, rfl, ok⟩ ?_
  rintro e1 w1 ⟨⟨m1, f1, h1, t1⟩, hfe, ok1⟩ ih
  have hk := h1.blk
  unfold endV at hk
  have l1 := h1.pu.1.len
  have l2 := h1.pu.2.len
  have l3 := h1.pf.1.len
  have l4 := h1.pf.2.len
  rw [slVs_length, Nat.mul_one] at l1
  rw [fv_len] at l3
  have hun : m1.un.2.1 = e1.new.length := by omega
  have hfl : m1.fl.2.1 = e1.fly.length := by omega
  have z1 := t1.2.2
  have tot := ok1.tot
  have wi := ok1.wi
  repeat (refine T_seq ?_)
  refine T_join (ι := Unit) (fun _ => [(27, .bool (goE e1)), (0, ptr p)]) (fun _ w' => Ext w1 w') (fun kk join => ?_) ?_
  · by_cases g1 : e1.fly.length < e1.win
    · by_cases g2 : 0 < e1.new.length
      · rw [show goE e1 = true from decide_eq_true ⟨g1, g2⟩] at join
        repeat (first | refine T_region_q TE.mixed (by kernel_rfl) ?_ | refine TL_lt_t (hk := ?_) | refine TL_gt_t (hk := ?_) | refine TL_move (hk := ?_) | refine TL_load TE (hk := ?_) | refine TL_fieldAddr TE (hk := ?_) | refine TL_len TE (hk := ?_) | refine TL_yes (hk := ?_) | refine TL_pick_t (hk := ?_) | refine TL_nilCheck (hk := ?_))
        refine TL_nil_q ?_; intro w2 e2
        exact T.sub (join () _ e2) (.c rfl (.c rfl (.n)))
      · rw [show goE e1 = false from decide_eq_false (fun q => g2 q.2)] at join
        repeat (first | refine T_region_q TE.mixed (by kernel_rfl) ?_ | refine TL_lt_t (hk := ?_) | refine TL_gt_f (hk := ?_) | refine TL_move (hk := ?_) | refine TL_load TE (hk := ?_) | refine TL_fieldAddr TE (hk := ?_) | refine TL_len TE (hk := ?_) | refine TL_yes (hk := ?_) | refine TL_pick_t (hk := ?_) | refine TL_nilCheck (hk := ?_))
        refine TL_nil_q ?_; intro w2 e2
        exact T.sub (join () _ e2) (.c rfl (.c rfl (.n)))
    · rw [show goE e1 = false from decide_eq_false (fun q => g1 q.1)] at join
      repeat (first | refine T_region_q TE.mixed (by kernel_rfl) ?_ | refine TL_lt_f (hk := ?_) | refine TL_move (hk := ?_) | refine TL_load TE (hk := ?_) | refine TL_fieldAddr TE (hk := ?_) | refine TL_len TE (hk := ?_) | refine TL_no (hk := ?_) | refine TL_pick_f (hk := ?_) | refine TL_nilCheck (hk := ?_))
      refine TL_nil_q ?_; intro w2 e2
      exact T.sub (join () _ e2) (.c rfl (.c rfl (.n)))
  rintro _ w2 e2
  have h2 := h1.ext e2
  have hk2 := hk.be e2
  have z2 := e2.size
  have t2 := t1.trans (Turns.ext e2) (fun x hx => (h.ki.old x hx).2)
  cases hgo : goE e1 with
  | true =>
    cases hnew : e1.new with
    | nil => unfold goE at hgo; rw [decide_eq_true_eq, hnew] at hgo; simp at hgo
    | cons b0 bt =>
      have hnl : m1.ul.length = bt.length + 1 := by rw [l2, hnew]; rfl
      cases hul : m1.ul with
      | nil => rw [hul] at hnl; simp at hnl
      | cons x t =>
        have nx := ok1.nx
        rw [hnew] at nx tot l2 hun
        simp only [List.length_cons] at nx tot l2 hun
        have hpD := h2.p_fl
        have r2 := h2.pu.1.rd
        rw [hul] at r2
        have hv0 : (slVs (x :: t))[0]? = some (slV x) := rfl
        have oF := h2.pf.1
        have hunf : ∀ b ∈ blkL m1.un.1, b ∉ blkL m1.fl.1 := fun b q q' => by have a1 := h2.ki.kun b q; rw [h2.ki.kfl b q'] at a1; cases a1
        have offu : Off m1.un.1 (blkL m1.fl.1) := off_of hunf
        repeat (first | refine T_seq ?_ | refine T_cond_true rfl ?_ | refine T_block ?_ | refine T_skip ?_)
        refine T_region_anyz TE.mixed (blkL m1.fl.1) (some 20) ?_; intro w3 e3 z3
        have hk3 := hk2.be e3
        have r3 := r2.be e3
        have oF3 := oF.be e3
        (refine TA_take 0 rfl (by kernel_rfl) (by kernel_rfl) (by kernel_rfl) ?_; (repeat (first | refine TL_move (hk := ?_) | refine TLP_load TE (hk := ?_) | refine TLP_load_rd TE (hk := ?_) | refine TL_fieldAddr TE (hk := ?_) | refine TL_indexAddr1n TE (hk := ?_) | refine TL_nilCheck (hk := ?_) | refine TL_build TE (hk := ?_))); refine TL_nil_p ?_); (refine TA_take 1 rfl (by kernel_rfl) (by kernel_rfl) (by kernel_rfl) ?_; (repeat (first | refine TL_move (hk := ?_) | refine TLP_load TE (hk := ?_) | refine TLP_load_rd TE (hk := ?_) | refine TL_fieldAddr TE (hk := ?_) | refine TL_indexAddr1n TE (hk := ?_) | refine TL_nilCheck (hk := ?_) | refine TL_build TE (hk := ?_))); refine TL_nil_p ?_); (refine TA_take 2 rfl (by kernel_rfl) (by kernel_rfl) (by kernel_rfl) ?_; (repeat (first | refine TL_move (hk := ?_) | refine TLP_load TE (hk := ?_) | refine TLP_load_rd TE (hk := ?_) | refine TL_fieldAddr TE (hk := ?_) | refine TL_indexAddr1n TE (hk := ?_) | refine TL_nilCheck (hk := ?_) | refine TL_build TE (hk := ?_))); refine TL_nil_p ?_); (refine TA_take 3 rfl (by kernel_rfl) (by kernel_rfl) (by kernel_rfl) ?_; (repeat (first | refine TL_move (hk := ?_) | refine TLP_load TE (hk := ?_) | refine TLP_load_rd TE (hk := ?_) | refine TL_fieldAddr TE (hk := ?_) | refine TL_indexAddr1n TE (hk := ?_) | refine TL_nilCheck (hk := ?_) | refine TL_build TE (hk := ?_))); refine TL_nil_p ?_); (refine TA_take 4 rfl (by kernel_rfl) (by kernel_rfl) (by kernel_rfl) ?_; (repeat (first | refine TL_move (hk := ?_) | refine TLP_load TE (hk := ?_) | refine TLP_load_rd TE (hk := ?_) | refine TL_fieldAddr TE (hk := ?_) | refine TL_indexAddr1n TE (hk := ?_) | refine TL_nilCheck (hk := ?_) | refine TL_build TE (hk := ?_))); refine TL_nil_p ?_); (refine TA_take 5 rfl (by kernel_rfl) (by kernel_rfl) (by kernel_rfl) ?_; (repeat (first | refine TL_move (hk := ?_) | refine TLP_load TE (hk := ?_) | refine TLP_load_rd TE (hk := ?_) | refine TL_fieldAddr TE (hk := ?_) | refine TL_indexAddr1n TE (hk := ?_) | refine TL_nilCheck (hk := ?_) | refine TL_build TE (hk := ?_))); refine TL_nil_p ?_); (refine TA_take 6 rfl (by kernel_rfl) (by kernel_rfl) (by kernel_rfl) ?_; (repeat (first | refine TL_move (hk := ?_) | refine TLP_load TE (hk := ?_) | refine TLP_load_rd TE (hk := ?_) | refine TL_fieldAddr TE (hk := ?_) | refine TL_indexAddr1n TE (hk := ?_) | refine TL_nilCheck (hk := ?_) | refine TL_build TE (hk := ?_))); refine TL_nil_p ?_); (refine TA_take 7 rfl (by kernel_rfl) (by kernel_rfl) (by kernel_rfl) ?_; (repeat (first | refine TL_move (hk := ?_) | refine TLP_load TE (hk := ?_) | refine TLP_load_rd TE (hk := ?_) | refine TL_fieldAddr TE (hk := ?_) | refine TL_indexAddr1n TE (hk := ?_) | refine TL_nilCheck (hk := ?_) | refine TL_build TE (hk := ?_))); refine TL_nil_p ?_); (refine TA_take 8 rfl (by kernel_rfl) (by kernel_rfl) (by kernel_rfl) ?_; (repeat (first | refine TL_move (hk := ?_) | refine TLP_load TE (hk := ?_) | refine TLP_load_rd TE (hk := ?_) | refine TL_fieldAddr TE (hk := ?_) | refine TL_indexAddr1n TE (hk := ?_) | refine TL_nilCheck (hk := ?_) | refine TL_build TE (hk := ?_))); refine TL_nil_p ?_); (refine TA_take 9 rfl (by kernel_rfl) (by kernel_rfl) (by kernel_rfl) ?_; (repeat (first | refine TL_move (hk := ?_) | refine TLP_load TE (hk := ?_) | refine TLP_load_rd TE (hk := ?_) | refine TL_fieldAddr TE (hk := ?_) | refine TL_indexAddr1n TE (hk := ?_) | refine TL_nilCheck (hk := ?_) | refine TL_build TE (hk := ?_))); refine TL_nil_p ?_); (refine TA_take 10 rfl (by kernel_rfl) (by kernel_rfl) (by kernel_rfl) ?_; (repeat (first | refine TL_move (hk := ?_) | refine TLP_load TE (hk := ?_) | refine TLP_load_rd TE (hk := ?_) | refine TL_fieldAddr TE (hk := ?_) | refine TL_indexAddr1n TE (hk := ?_) | refine TL_nilCheck (hk := ?_) | refine TL_build TE (hk := ?_))); refine TL_nil_p ?_); (refine TA_take 11 rfl (by kernel_rfl) (by kernel_rfl) (by kernel_rfl) ?_; (repeat (first | refine TL_move (hk := ?_) | refine TLP_load TE (hk := ?_) | refine TLP_load_rd TE (hk := ?_) | refine TL_fieldAddr TE (hk := ?_) | refine TL_indexAddr1n TE (hk := ?_) | refine TL_nilCheck (hk := ?_) | refine TL_build TE (hk := ?_))); refine TL_nil_p ?_); (refine TA_take 12 rfl (by kernel_rfl) (by kernel_rfl) (by kernel_rfl) ?_; (repeat (first | refine TL_move (hk := ?_) | refine TLP_load TE (hk := ?_) | refine TLP_load_rd TE (hk := ?_) | refine TL_fieldAddr TE (hk := ?_) | refine TL_indexAddr1n TE (hk := ?_) | refine TL_nilCheck (hk := ?_) | refine TL_build TE (hk := ?_))); refine TL_nil_p ?_); (refine TA_take 13 rfl (by kernel_rfl) (by kernel_rfl) (by kernel_rfl) ?_; (repeat (first | refine TL_move (hk := ?_) | refine TLP_load TE (hk := ?_) | refine TLP_load_rd TE (hk := ?_) | refine TL_fieldAddr TE (hk := ?_) | refine TL_indexAddr1n TE (hk := ?_) | refine TL_nilCheck (hk := ?_) | refine TL_build TE (hk := ?_))); refine TL_nil_p ?_); (refine TA_take 14 rfl (by kernel_rfl) (by kernel_rfl) (by kernel_rfl) ?_; (repeat (first | refine TL_move (hk := ?_) | refine TLP_load TE (hk := ?_) | refine TLP_load_rd TE (hk := ?_) | refine TL_fieldAddr TE (hk := ?_) | refine TL_indexAddr1n TE (hk := ?_) | refine TL_nilCheck (hk := ?_) | refine TL_build TE (hk := ?_))); refine TL_nil_p ?_); (refine TA_take 15 rfl (by kernel_rfl) (by kernel_rfl) (by kernel_rfl) ?_; (repeat (first | refine TL_move (hk := ?_) | refine TLP_load TE (hk := ?_) | refine TLP_load_rd TE (hk := ?_) | refine TL_fieldAddr TE (hk := ?_) | refine TL_indexAddr1n TE (hk := ?_) | refine TL_nilCheck (hk := ?_) | refine TL_build TE (hk := ?_))); refine TL_nil_p ?_)
        refine TA_one 16 rfl (by kernel_rfl) (by kernel_rfl) ?_
        refine TL_buildSliceA TE (hf := rfl) (hq := fun w' h => h.un) (hk := ?_); intro b4 w4 e4 h4 h4' k4
        replace k4 : Blk w4 b4 118 (fv [⟨e1.next, x, 0, true⟩]) := k4
        have r4 : Rd w4 (some ⟨b4, 0, none⟩) 1 4 (fv [⟨e1.next, x, 0, true⟩]) := Rd.blk k4 rfl
        have z4 := e4.size
        refine TL_nil_p ?_
        refine TA_one 17 rfl (by kernel_rfl) (by kernel_rfl) ?_
        refine TL_append TE (ho := oF3.be e4) (hr := r4) (h1 := fv_one _) (hf := rfl) (hq := fun w' m => (Ext.un e4).trans m) (hk := ?_); intro A5 c5 w5 o5 m5 n5
        rw [← fv_append] at o5
        refine TL_nil_p ?_
        (refine TA_one 18 rfl (by kernel_rfl) (by kernel_rfl) ?_; (repeat (first | refine TL_fieldAddr TE (hk := ?_) | refine TL_nilCheck (hk := ?_))); refine TL_nil_p ?_); (refine TA_one 19 rfl (by kernel_rfl) (by kernel_rfl) ?_; (repeat (first | refine TL_fieldAddr TE (hk := ?_) | refine TL_nilCheck (hk := ?_))); refine TL_nil_p ?_)
        refine TA_one 20 rfl (by kernel_rfl) (by kernel_rfl) ?_
        refine TL_store TE (hf := rfl) (hq := fun _ _ _ => trivial) (hb := (hk3.be e4).mod m5 hpD) (hk := ?_); intro w6 m6 z6 k6
        refine TL_nil_z (by kernel_rfl) ?_
        have hcap := h2.pu.1.cap
        repeat (first | refine T_seq ?_ | refine T_region ?_ | refine TL_move (hk := ?_) | refine TL_load TE (hk := ?_) | refine TL_fieldAddr TE (hk := ?_) | refine TL_nilCheck (hk := ?_) | refine TL_slice_lo TE (hk := ?_))
        refine TL_store TE (hk := ?_); intro w7 m7 z7 k7
        have hc : ((e1.next : Nat) : Int) + 1 = ((e1.next + 1 : Nat) : Int) := by omega
        repeat (first | refine T_region ?_ | refine TL_add (hk := ?_) | refine TL_nil ?_ | refine TL_move (hk := ?_) | refine TL_load TE (hk := ?_) | refine TL_fieldAddr TE (hk := ?_) | refine TL_nilCheck (hk := ?_))
        rw [hc]
        --
        refine TL_store TE (hk := ?_); intro w8 m8 z8 k8
        have M1 : Eng.Mod (p :: blkL m1.fl.1) w2 w8 := ((((((e3.ext e4).mono (S' := p :: blkL m1.fl.1) (by simp)).step m5 (fun x hx => .inl (List.mem_cons_of_mem _ hx))).step m6 (fun x hx => .inl (by rw [List.mem_singleton.1 hx]; exact List.mem_cons_self))).step m7 (fun x hx => .inl (by rw [List.mem_singleton.1 hx]; exact List.mem_cons_self))).step m8 (fun x hx => .inl (by rw [List.mem_singleton.1 hx]; exact List.mem_cons_self)))
        have hA5 : ∀ b ∈ blkL A5, b ∉ [p] := fun b q q' => by
          rw [List.mem_singleton] at q'
          subst q'
          rcases Near.blk n5 b q with a1 | a1
          · exact hpD a1
          · have := (h2.ki.old b (by rw [h2.ki.kp]; decide)).2; omega
        obtain ⟨m9, f9, h9, t9⟩ := h2.fill hul hnew (fl' := (A5, m1.fl.2.1 + 1, c5)) M1 k8 (((o5.mod m6 (off_of hA5)).mod m7 (off_of hA5)).mod m8 (off_of hA5)) (fun b q => (Near.blk n5 b q).imp id (fun a => by omega))
        repeat (first | refine T_inBlock ?_ | refine TL_nil ?_)
        refine ih (fill1 e1 b0 bt) w8 _ (by rw [hnew]; simp [fill1]) ⟨⟨m9, f9, h9, t2.trans t9 (fun x hx => (h.ki.old x hx).2)⟩, ?_, ok1.fill1 hnew⟩ (.c rfl (.n))
        rw [← hfe, fill_go hgo hnew]
        rfl
  | false =>
    clear ih
    rw [fill_stop hgo] at hfe
    unfold outE
    simp only
    rw [← hfe]
    have hf1 : ∀ b, w2.heap.size ≤ b → f1 b = 0 := fun b q => by
      by_cases z : f1 b = 0
      · exact z
      · have := (h2.ki.old b z).2; omega
    have hpD := h2.p_fl
    have hflo := Lo.blk h2.pf.1.lo
    have exb := ok1.ex
    repeat (first | refine T_seq ?_ | refine T_region ?_ | refine T_cond_false rfl ?_ | refine T_block ?_ | refine T_exit rfl ?_ | refine TL_nil ?_ | refine TL_move (hk := ?_) | refine TL_assign (hk := ?_) | refine TL_load TE (hk := ?_) | refine TL_fieldAddr TE (hk := ?_) | refine TL_len TE (hk := ?_) | refine TL_nilCheck (hk := ?_))
    refine T_loop (ι := Nat × SV × List FE × List SV) (fun i => [(68, .int .i64 (i.1 : Int)), (67, .int .i64 (m1.fl.2.1 : Int)), (3, .slice i.2.1.1 i.2.1.2.1 i.2.1.2.2), (0, ptr p)])
      (fun i w' => i.1 ≤ m1.fl.2.1 ∧ Eng.Mod (blkL m1.fl.1) w2 w' ∧ FlP w' base m1.fl i.2.2.1 (tkU undue e1.fly i.1) ∧ i.2.2.1.map (·.sv) = m1.fm.map (·.sv) ∧ OutP w' w2.heap.size i.2.1 i.2.2.2 (dueB e1.exp (e1.fly.take i.1))) (fun i => m1.fl.2.1 - i.1) (0, (none, 0, 0), m1.fm, []) (.c rfl (.c rfl (.c rfl (.c rfl (.n)))))
      ⟨Nat.zero_le _, Mod.refl _ _, by rw [tkU_zero]; exact h2.pf, rfl, ⟨Own.nil _ _ _ _, trivial, fun b q => (by cases q), List.nodup_nil⟩⟩ ?_
    rintro ⟨i, ⟨Oa, on, oc⟩, fm, xs⟩ w3 ⟨hi, m3, hp3, hsv, op3⟩ ih
    simp only at hi m3 hp3 hsv op3 ih ⊢
    have z3 := m3.size
    have hk3 := hk2.mod m3 hpD
    have hlm : fm.length = m1.fm.length := by have := congrArg List.length hsv; simpa using this
    have hOhi := Hi.blk op3.own.hi
    have lon := op3.own.len
    have lob := op3.bod.len
    rw [slVs_length, Nat.mul_one] at lon
    have hdl : (dueB e1.exp (e1.fly.take i)).length ≤ i := by
      unfold dueB
      rw [List.length_map]
      refine Nat.le_trans (List.length_filter_le _ _) ?_
      rw [List.length_take]
      exact Nat.min_le_left _ _
    simp only at lon
    by_cases hlt : i < m1.fl.2.1
    · have hil : i < fm.length := by omega
      have hg := hp3.2.get i hil
      rw [tkU_get _ _ _ (by omega)] at hg
      have hgm : e1.fly.getD i m0 ∈ e1.fly := by rw [List.getD_eq_getElem?_getD, List.getElem?_eq_getElem (by omega)]; exact List.getElem_mem _
      have hq1 := ok1.fb _ hgm
      have tset := tkU_set undue e1.fly i (by omega)
      have tskip := fun hd => tkU_skip (l := e1.fly) (i := i) (by omega) hd
      have dsucc := dueB_succ e1.exp e1.fly i (by omega)
      have hvv := fun j hj => fv_at fm i j hil hj
      have hset : ∀ j u x, j < 4 → (f4 (fm.getD i fe0)).set j u = f4 x → (fv fm).set (i * 4 + j) u = fv (fm.set i x) := fun j u x hj he => fv_set1 fm i j u x hil hj he
      have hFB := fun (x : FE) (q : Msg) => FB.set (w := w3) (base := base) i x q hp3.2 hil
      rw [tkU_get _ _ _ (by omega)] at hFB
      have hsve := fun x hx => sv_set (l := fm) (i := i) (x := x) hil hx
      have hss := fun x => getD_set fm i x hil
      obtain ⟨x, hx⟩ : ∃ x, fm.getD i fe0 = x := ⟨_, rfl⟩
      obtain ⟨q, hq⟩ : ∃ q, e1.fly.getD i m0 = q := ⟨_, rfl⟩
      simp only [hx] at hset hFB hsve hvv
      rw [hx] at hg
      rw [hq] at hg hq1 tset tskip dsucc
      simp only [hq] at hFB
      have hv3 := hvv 3 (by omega)
      have o3 := hp3.1
      have r3 := o3.rd
      have hA : m1.fl.1 ≠ none := by obtain ⟨_, _, hq, _⟩ := r3.2 (by omega); rw [hq]; simp
      have lf := fv_len fm
      cases hdue : q.due with
      | false =>
        have hxd : x.due = false := by rw [hg.2.2.1]; exact hdue
        have hv3' : (fv fm)[i * 4 + 3]? = some (.bool false) := by rw [hv3, ← hxd]; rfl
        clear hv3
        repeat (first | refine T_seq ?_ | refine T_region ?_ | refine T_cond_true rfl ?_ | refine T_cond_false rfl ?_ | refine T_block ?_ | refine T_inBlock ?_ | refine T_skip ?_ | refine TL_add (hk := ?_) | refine TL_lt_t (hk := ?_) | refine TL_nil ?_ | refine TL_move (hk := ?_) | refine TL_assign (hk := ?_) | refine TL_load TE (hk := ?_) | refine TL_load_rd TE (hk := ?_) | refine TL_fieldAddr TE (hk := ?_) | refine TL_fieldAddr_e TE (hk := ?_) | refine TL_indexAddrn TE (hk := ?_) | refine TL_nilCheck (hk := ?_))
        refine ih (i + 1, (Oa, on, oc), fm, xs) w3 _ (by simp only; omega) ⟨by simp only; omega, m3, by simp only; rw [tskip hdue]; exact hp3, hsv, ?_⟩ (.c rfl (.c rfl (.c rfl (.c rfl (.n)))))
        simp only
        rw [dsucc, if_neg (by rw [hdue]; decide), List.append_nil]
        exact op3
      | true =>
        have hxd : x.due = true := by rw [hg.2.2.1]; exact hdue
        have hv3' : (fv fm)[i * 4 + 3]? = some (.bool true) := by rw [hv3, ← hxd]; rfl
        rw [if_pos hdue] at dsucc
        clear hv3
        repeat (first | refine T_seq ?_ | refine T_region ?_ | refine T_cond_true rfl ?_ | refine T_block ?_ | refine T_skip ?_ | refine TL_lt_t (hk := ?_) | refine TL_nil ?_ | refine TL_move (hk := ?_) | refine TL_assign (hk := ?_) | refine TL_load TE (hk := ?_) | refine TL_load_rd TE (hk := ?_) | refine TL_fieldAddr TE (hk := ?_) | refine TL_fieldAddr_e TE (hk := ?_) | refine TL_indexAddrn TE (hk := ?_) | refine TL_nilCheck (hk := ?_))
        refine TL_store_own TE (hk := ?_); intro w4 m4 z4 o4
        rw [hset 3 _ { x with due := false } (by omega) rfl] at o4
        have hsv4 := (hsve { x with due := false } rfl).trans hsv
        have hk4 := hk3.mod m4 hpD
        have hFB4 := (hFB { x with due := false } (undue q) rfl rfl hg.1 hg.2.1 rfl).mod m4 (h2.f_fl hsv4)
        rw [tset] at hFB4
        have hbq := hg.2.2.2
        have hbl : q.body.length = x.sv.2.1 := hbq.len
        have hbo4 : ∀ b ∈ blkL x.sv.1, b ∉ blkL m1.fl.1 := fun b hb => h2.f_fl hsv b (by
          unfold blkF blkS
          rw [List.mem_flatMap]
          exact ⟨x.sv, List.mem_map.2 ⟨x, by rw [← hx, List.getD_eq_getElem?_getD, List.getElem?_eq_getElem hil]; exact List.getElem_mem _, rfl⟩, hb⟩)
        have hb4 := (hbq.mod m4 hbo4)
        have op4 := op3.mod m4 hflo
        have r4 := o4.rd
        have hv0 : (fv (fm.set i { x with due := false }))[i * 4 + 0]? = some (.int .u64 (x.seq : Int)) := by rw [fv_at _ i 0 (by simpa using hil) (by omega), hss]; rfl
        have hv1 : (fv (fm.set i { x with due := false }))[i * 4 + 1]? = some (slV x.sv) := by rw [fv_at _ i 1 (by simpa using hil) (by omega), hss]; rfl
        clear hv3' r3 hk3
        repeat (first | refine T_seq ?_ | refine TL_nil ?_)
        refine T_region_any TE.mixed [] ?_; intro w5 e5 z5
        have hk5 := hk4.be e5
        have r5 := r4.be e5
        (refine TA_take 0 rfl (by kernel_rfl) (by kernel_rfl) (by kernel_rfl) ?_; (repeat (first | refine TL_move (hk := ?_) | refine TL_fieldAddr_e TE (hk := ?_) | refine TL_nilCheck (hk := ?_))); refine TL_nil_p ?_); (refine TA_take 1 rfl (by kernel_rfl) (by kernel_rfl) (by kernel_rfl) ?_; (repeat (first | refine TL_move (hk := ?_) | refine TL_fieldAddr_e TE (hk := ?_) | refine TL_nilCheck (hk := ?_))); refine TL_nil_p ?_); (refine TA_take 2 rfl (by kernel_rfl) (by kernel_rfl) (by kernel_rfl) ?_; (repeat (first | refine TL_move (hk := ?_) | refine TL_fieldAddr_e TE (hk := ?_) | refine TL_nilCheck (hk := ?_))); refine TL_nil_p ?_)
        (refine TA_take 3 rfl (by kernel_rfl) (by kernel_rfl) (by kernel_rfl) ?_; (repeat (refine TLP_load_rd TE (hk := ?_))); refine TL_nil_p ?_)
        (refine TA_take 4 rfl (by kernel_rfl) (by kernel_rfl) (by kernel_rfl) ?_; (repeat (first | refine TL_move (hk := ?_) | refine TL_fieldAddr TE (hk := ?_) | refine TL_nilCheck (hk := ?_))); refine TL_nil_p ?_); (refine TA_take 5 rfl (by kernel_rfl) (by kernel_rfl) (by kernel_rfl) ?_; (repeat (first | refine TL_move (hk := ?_) | refine TL_fieldAddr TE (hk := ?_) | refine TL_nilCheck (hk := ?_))); refine TL_nil_p ?_); (refine TA_take 6 rfl (by kernel_rfl) (by kernel_rfl) (by kernel_rfl) ?_; (repeat (first | refine TL_move (hk := ?_) | refine TL_fieldAddr TE (hk := ?_) | refine TL_nilCheck (hk := ?_))); refine TL_nil_p ?_)
        (refine TA_take 7 rfl (by kernel_rfl) (by kernel_rfl) (by kernel_rfl) ?_; (repeat (refine TLP_load TE (hk := ?_))); refine TL_nil_p ?_)
        (refine TA_take 8 rfl (by kernel_rfl) (by kernel_rfl) (by kernel_rfl) ?_; (repeat (first | refine TL_move (hk := ?_) | refine TL_nilCheck (hk := ?_))); refine TL_nil_p ?_); (refine TA_take 9 rfl (by kernel_rfl) (by kernel_rfl) (by kernel_rfl) ?_; (repeat (first | refine TL_move (hk := ?_) | refine TL_nilCheck (hk := ?_))); refine TL_nil_p ?_)
        (refine TA_take 10 rfl (by kernel_rfl) (by kernel_rfl) (by kernel_rfl) ?_; (repeat (refine TL_fieldAddr_e TE (hk := ?_))); refine TL_nil_p ?_)
        (refine TA_take 11 rfl (by kernel_rfl) (by kernel_rfl) (by kernel_rfl) ?_; (repeat (refine TLP_load_rd TE (hk := ?_))); refine TL_nil_p ?_)
        refine TA_one 12 rfl (by kernel_rfl) (by kernel_rfl) ?_; (try refine TL_yes (hk := ?_)); refine TL_call TE (hc := Data_c x.sv.1 x.sv.2.1 x.sv.2.2 x.seq e1.exp q.body w5 ((Own.be e5 hb4).rd) (by omega) (by omega) (by omega)) (hq := fun v w' ⟨_, _, _, _, h, _⟩ => h) (hk := ?_)
        rintro _ w6 ⟨A6, n6, c6, rfl, e6, o6⟩
        rw [if_neg (by omega)] at o6
        refine TL_nil_p ?_
        (refine TA_take 13 rfl (by kernel_rfl) (by kernel_rfl) (by kernel_rfl) ?_; (repeat (first | refine TL_move (hk := ?_) | refine TL_assign (hk := ?_) | refine TL_extract (hk := ?_))); refine TL_nil_p ?_); (refine TA_take 14 rfl (by kernel_rfl) (by kernel_rfl) (by kernel_rfl) ?_; (repeat (first | refine TL_move (hk := ?_) | refine TL_assign (hk := ?_) | refine TL_extract (hk := ?_))); refine TL_nil_p ?_); (refine TA_take 15 rfl (by kernel_rfl) (by kernel_rfl) (by kernel_rfl) ?_; (repeat (first | refine TL_move (hk := ?_) | refine TL_assign (hk := ?_) | refine TL_extract (hk := ?_))); refine TL_nil_p ?_); (refine TA_take 16 rfl (by kernel_rfl) (by kernel_rfl) (by kernel_rfl) ?_; (repeat (first | refine TL_move (hk := ?_) | refine TL_assign (hk := ?_) | refine TL_extract (hk := ?_))); refine TL_nil_p ?_); (refine TA_take 17 rfl (by kernel_rfl) (by kernel_rfl) (by kernel_rfl) ?_; (repeat (first | refine TL_move (hk := ?_) | refine TL_assign (hk := ?_) | refine TL_extract (hk := ?_))); refine TL_nil_p ?_)
        refine TA_done (by kernel_rfl) ?_
        repeat (first | refine T_region ?_ | refine TL_move (hk := ?_))
        refine TL_buildSlice TE (hk := ?_); intro b7 w7 e7 h7 h7' k7
        replace k7 : Blk w7 b7 23 (slVs [(A6, n6, c6)]) := k7
        have r7 : Rd w7 (some ⟨b7, 0, none⟩) 1 1 (slVs [(A6, n6, c6)]) := Rd.blk k7 rfl
        have hone := slVs_one [(A6, n6, c6)]
        have z6 := e6.size
        have z7 := e7.size
        have op5 := op4.be e5
        have oo7 := (op5.own.be e6).be e7
        simp only at oo7
        --
        refine TL_append TE (hk := ?_); intro A8 c8 w8 o8 m8 n8
        have e57 := (e5.ext e6).ext e7
        have hOf : ∀ b ∈ blkL m1.fl.1, b ∉ blkL Oa := fun b q1 q2 => by have := hflo b q1; have := hOhi b q2; omega
        have op8 := op5.add (x := (A6, n6, c6)) (by omega) e6 o6 e7 o8 m8 n8
        repeat (first | refine T_region ?_ | refine T_inBlock ?_ | refine TL_add (hk := ?_) | refine TL_nil ?_ | refine TL_move (hk := ?_) | refine TL_assign (hk := ?_))
        refine ih (i + 1, (A8, on + 1, c8), fm.set i { x with due := false }, xs ++ [(A6, n6, c6)]) w8 _ (by simp only; omega) ⟨by simp only; omega, Mod.step ((m3.trans m4).ext e57) m8 (fun y hy => .inr (hOhi y hy)), ⟨(o4.be e57).mod m8 (off_of hOf), ?_⟩, hsv4, ?_⟩ (.c rfl (.c rfl (.c rfl (.c rfl (.n)))))
        · refine (FB.mod hFB4 e57 (fun b _ q' => by cases q')).mod m8 (fun b q1 q2 => ?_)
          have := (FB.lt hp3.2 b (by unfold blkF at q1 ⊢; rw [hsve { x with due := false } rfl] at q1; exact q1)).2
          have h6 := h2.ki.fl6 b (by unfold blkF at q1 ⊢; rw [hsv4] at q1; exact q1)
          have := (h2.ki.old b (by rw [h6]; decide)).2
          have := hOhi b q2
          omega
        · simp only
          rw [dsucc]
          rw [hg.1] at op8
          exact op8
    · have hin : i = e1.fly.length := by omega
      clear ih
      rw [hin, tkU_end] at hp3
      rw [hin, List.take_length] at op3 lob
      have h4 := (h2.flies m3 hp3 hsv).1
      have hk4 := h4.blk
      unfold endV at hk4
      simp only at hk4
      have hfO : ∀ b ∈ blkL Oa, f1 b = 0 := fun b hb => hf1 b (hOhi b hb)
      have hS4 : ∀ b ∈ blkL m1.fl.1, f1 b ≠ 0 := fun b hb => by rw [h2.ki.kfl b hb]; decide
      have hold := fun x hx => (h.ki.old x hx).2
      have zz := t2.2.2
      have hfin : ∀ (O : SV) (ys : List SV) (bs : List Bs) (w6 w7 : World), Eng.Mod (blkL m1.fl.1) w2 w6 → EndM w6 base p { m1 with fm := fm } f1 { e1 with fly := e1.fly.map undue } → OutP w6 w2.heap.size O ys bs → Eng.Mod [p] w6 w7 → Blk w7 p 113 (endV { m1 with fm := fm } { e1 with fly := e1.fly.map undue, owed := false }) →
          ∃ O' xs m' f', slV O = slV O' ∧ EndM w7 base p m' f' { e1 with fly := e1.fly.map undue, owed := false } ∧ Turns f f' w w7 ∧ OutP w7 w.heap.size O' xs bs ∧ (∀ b ∈ blkL O'.1, f' b = 0) ∧ ∀ b ∈ blkS xs, f' b = 0 := by
        intro O ys bs w6 w7 M6 h6 o6 m7 k7
        obtain ⟨h7, t7⟩ := h6.nums m7 k7 rfl rfl rfl rfl
        have t6 : Turns f1 f1 w2 w6 := ⟨⟨_, M6, hS4⟩, fun b hb => .inl hb, M6.size⟩
        have hpl := (h2.ki.old p (by rw [h2.ki.kp]; decide)).2
        refine ⟨O, ys, _, f1, rfl, h7, (t2.trans t6 hold).trans t7 hold, (o6.mod m7 (fun b hb => by rw [List.mem_singleton.1 hb]; exact hpl)).weaken zz, fun b hb => hf1 b (Hi.blk o6.own.hi b hb), fun b hb => hf1 b (o6.bod.lt b hb).1⟩
      cases how : e1.owed with
      | false =>
        rw [if_neg (fun q => by cases q.1)]
        rw [how] at hk4
        repeat (first | refine T_seq ?_ | refine T_region ?_ | refine T_cond_false rfl ?_ | refine T_skip ?_ | refine T_exit rfl ?_ | refine TL_lt_f (hk := ?_) | refine TL_nil ?_ | refine TL_move (hk := ?_) | refine TL_load TE (hk := ?_) | refine TL_fieldAddr TE (hk := ?_) | refine TL_no (hk := ?_) | refine TL_pick_f (hk := ?_) | refine TL_nilCheck (hk := ?_))
        refine TL_store TE (hk := ?_); intro w5 m5 z5 k5
        repeat (first | refine T_seq ?_ | refine T_region ?_ | refine TL_nil ?_ | refine TL_move (hk := ?_) | refine TL_assign (hk := ?_))
        exact T_ret1 rfl rfl (hfin (Oa, on, oc) xs _ w3 w5 m3 h4 op3 m5 k5)
      | true =>
        rw [how] at hk4
        by_cases hon : on = 0
        · have hd0 : (dueB e1.exp e1.fly).length = 0 := by omega
          have hxs : xs = [] := List.eq_nil_of_length_eq_zero (by omega)
          have hd1 : dueB e1.exp e1.fly = [] := List.eq_nil_of_length_eq_zero hd0
          rw [if_pos ⟨rfl, hd0⟩]
          rw [hd1, hxs] at op3
          subst hon
          repeat (first | refine T_seq ?_ | refine T_region ?_ | refine T_cond_true rfl ?_ | refine T_cond_false rfl ?_ | refine T_exit rfl ?_ | refine TL_lt_f (hk := ?_) | refine TL_eq_t (hk := ?_) | refine TL_nil ?_ | refine TL_move (hk := ?_) | refine TL_load TE (hk := ?_) | refine TL_fieldAddr TE (hk := ?_) | refine TL_len TE (hk := ?_) | refine TL_yes (hk := ?_) | refine TL_pick_t (hk := ?_) | refine TL_nilCheck (hk := ?_))
          refine TL_call TE (hc := Ack_c e1.exp _ (by omega)) (hk := ?_)
          rintro _ w4 ⟨A4, n4, c4, rfl, e4, o4⟩
          --
          refine TL_buildSlice TE (hk := ?_); intro b5 w5 e5 h5 h5' k5
          replace k5 : Blk w5 b5 23 (slVs [(A4, n4, c4)]) := k5
          have r5 : Rd w5 (some ⟨b5, 0, none⟩) 1 1 (slVs [(A4, n4, c4)]) := Rd.blk k5 rfl
          have hone := slVs_one [(A4, n4, c4)]
          have z4 := e4.size
          have z5 := e5.size
          have oo5 := (op3.own.be e4).be e5
          simp only at oo5
          --
          refine TL_append TE (hk := ?_); intro A6 c6 w6 o6 m6 n6
          have op6 := op3.add (x := (A4, n4, c4)) (by omega) e4 o4 e5 o6 m6 n6
          have h6 := (h4.ext (e4.ext e5)).mod m6 hfO
          have hk6 := h6.blk
          unfold endV at hk6
          simp only at hk6
          rw [how] at hk6
          clear hk4
          repeat (first | refine T_seq ?_ | refine T_region ?_ | refine TL_nil ?_ | refine TL_move (hk := ?_) | refine TL_assign (hk := ?_) | refine TL_fieldAddr TE (hk := ?_) | refine TL_nilCheck (hk := ?_))
          refine TL_store TE (hk := ?_); intro w7 m7 z7 k7
          repeat (first | refine T_seq ?_ | refine T_region ?_ | refine TL_nil ?_ | refine TL_move (hk := ?_) | refine TL_assign (hk := ?_))
          exact T_ret1 rfl rfl (hfin (A6, 0 + 1, c6) _ _ w6 w7 (Mod.step (m3.ext (e4.ext e5)) m6 (fun y hy => .inr (hOhi y hy))) h6 op6 m7 k7)
        · rw [if_neg (fun q => hon (by omega))]
          repeat (first | refine T_seq ?_ | refine T_region ?_ | refine T_cond_false rfl ?_ | refine T_skip ?_ | refine T_exit rfl ?_ | refine TL_lt_f (hk := ?_) | refine TL_eq_f (hk := ?_) | refine TL_nil ?_ | refine TL_move (hk := ?_) | refine TL_load TE (hk := ?_) | refine TL_fieldAddr TE (hk := ?_) | refine TL_len TE (hk := ?_) | refine TL_yes (hk := ?_) | refine TL_pick_t (hk := ?_) | refine TL_nilCheck (hk := ?_))
          refine TL_store TE (hk := ?_); intro w5 m5 z5 k5
          repeat (first | refine T_seq ?_ | refine T_region ?_ | refine TL_nil ?_ | refine TL_move (hk := ?_) | refine TL_assign (hk := ?_))
          exact T_ret1 rfl rfl (hfin (Oa, on, oc) xs _ w3 w5 m3 h4 op3 m5 k5)
end
end Go.Proofs.Ytjjgojgahibpgaa

/- clear on what is behind a beginning of an own row; five results. -/
namespace Go.Proofs.Eng
open Go.RowKit
set_option linter.unusedSimpArgs false
set_option linter.unusedVariables false
set_option linter.unusedSectionVars false
section
variable {q : Qm} {P : Program} {fn : Func} {R : Ending → World → Prop} {M : Md} {n : Nat} {st : Slots} {k : List Item} {w : World} {ops rest : List Oper} {Φ : Value → World → Prop} {dd : Bool}
  {d : Nat} {ty : TypeId} {ps : String} {af : Array Edge} {X Y : Operand} {t e : TypeId} {by_ base : Nat} {z : Value} {A B : Option Addr}
theorem T_ret5 {t1 t2 t3 t4 t5 : Tmp} {v1 v2 v3 v4 v5 : Value} (hr : fn.results = #[.tmp t1, .tmp t2, .tmp t3, .tmp t4, .tmp t5]) (h1 : look st t1 = some v1) (h2 : look st t2 = some v2) (h3 : look st t3 = some v3) (h4 : look st t4 = some v4) (h5 : look st t5 = some v5)
    (hR : Φ (.tuple #[v1, v2, v3, v4, v5]) w) : T P fn (RR Φ) ⟨dd, []⟩ n st (.code .ret :: k) w := T_ret rfl (fun a ha => by
  have e1 := ha.get _ _ h1
  have e2 := ha.get _ _ h2
  have e3 := ha.get _ _ h3
  have e4 := ha.get _ _ h4
  have e5 := ha.get _ _ h5
  simp only [Array.getD_eq_getD_getElem?] at e1 e2 e3 e4 e5
  simp [results, hr, e1, e2, e3, e4, e5]) hR
theorem run_clear_own {m c l dn dc s : Nat} {xs : List Value} (E : Env P) (ht : E.und t = some (.slice e)) (he : E.inf e = some (s, by_, z)) (hzs : z.cells.size = s) (hs : 0 < s) (h1 : ∀ u ∈ z.cells.toList, u.oneCell' = true)
    (ho : Own w base e s A m c xs) (hl : l + dn = m) :
    ∃ w', (Builtin.clear_ #[t] ty #[.slice (cutA A c l s) dn dc]).run P w = .ok (.tuple #[]) w' ∧ Mod (blkL A) w w' ∧ w'.heap.size = w.heap.size ∧ Own w' base e s A l c (xs.take (l * s)) := by
  rcases Nat.eq_zero_or_pos dn with h0 | h0
  · subst h0
    refine ⟨w, ?_, Mod.refl _ _, rfl, ho.shrink (by omega)⟩
    cases cutA A c l s <;> simp [Builtin.clear_, run_underlying (E.und_ok _ _ ht)]
  · obtain ⟨hxl, ⟨_, hz⟩ | ⟨g, cap, cur, hv, hg, hh, hnc, hcm, hcs, htk⟩⟩ := id ho
    · omega
    · cases hv
      have hcl : ¬ c = l := by omega
      have hca : cutA (some ⟨g, 0, none⟩) c l s = some ⟨g, l * s, none⟩ := by
        simp only [cutA, hcl, if_false, Option.map_some, Addr.add]
        by_cases h : l * s = 0 <;> simp [h]
      have hb : Blk w g e cur.toList := by unfold Blk; simpa using hh
      have hzl : (Builtin.zeroCells z.cells dn).toList.length = dn * s := by simp [Builtin.zeroCells, hzs]
      have hz1 : ∀ u ∈ (Builtin.zeroCells z.cells dn).toList, u.oneCell' = true := fun u hu => by
        unfold Builtin.zeroCells at hu
        simp only [Array.toList_map, List.mem_map] at hu
        obtain ⟨i, _, rfl⟩ := hu
        have hlt : i % z.cells.size < z.cells.size := Nat.mod_lt _ (by omega)
        rw [getElem!_pos z.cells _ hlt]
        exact h1 _ (by simp)
      have hle : l * s + dn * s ≤ cur.toList.length := by
        rw [← Nat.add_mul, hl]
        simp only [Array.length_toList]
        rw [hcs]
        exact Nat.mul_le_mul_right _ hnc
      obtain ⟨w', g1, g2, g3, g4⟩ := run_storeAll (P := P) (b := g) (o := l * s) (Builtin.zeroCells z.cells dn).toList cur.toList 0 w hb (by omega) hz1
      rw [Nat.add_zero] at g4
      obtain ⟨dm, hdm⟩ : ∃ dm, dn = dm + 1 := ⟨dn - 1, by omega⟩
      refine ⟨w', ?_, g2, g3, ?_⟩
      · rw [hca]
        subst hdm
        simp only [Builtin.clear_]
        simp [run_underlying (E.und_ok _ _ ht), run_zero' (E.inf_ok _ _ _ _ he), g1]
      · have hcl2 : cur.toList.length = cur.size := Array.length_toList
        refine ⟨?_, .inr ⟨g, c, _, rfl, hg, g4, by omega, hcm, ?_, ?_⟩⟩
        · rw [List.length_take, hxl, ← hl, Nat.add_mul]
          omega
        · simp [setAll_length]; simpa using hcs
        · simp only [List.toList_toArray]
          rw [setAll_eq _ _ _ (by omega), ← htk, List.take_take]
          have e1 : min (l * s) (m * s) = l * s := by rw [← hl, Nat.add_mul]; omega
          rw [e1, List.append_assoc, List.take_append_of_le_length (by rw [List.length_take]; omega), List.take_take, Nat.min_self]
theorem TL_clear {m c l dn dc s : Nat} {xs : List Value} (E : Env P) (ho : Own w base e s A m c xs) (hx : ev st X = some (.slice (cutA A c l s) dn dc) := by exact rfl) (hl : l + dn = m := by omega) (ht : E.und t = some (.slice e) := by exact rfl) (he : E.inf e = some (s, by_, z) := by exact rfl) (hzs : z.cells.size = s := by exact rfl) (hs : Nat.blt 0 s = true := by exact rfl) (h1 : z.cells.toList.all (fun u => u.oneCell') = true := by exact rfl)
    (hf : Fl q (rest.length + 1) := by first | exact trivial | exact rfl) (hq : ∀ w', Mod (blkL A) w w' → w'.heap.size = w.heap.size → Kp q w' := by exact fun _ _ _ => trivial)
    (hk : ∀ w', Mod (blkL A) w w' → w'.heap.size = w.heap.size → Own w' base e s A l c (xs.take (l * s)) → TL q P fn R M n st ops rest k w') :
    TL q P fn R M n st ops (⟨none, .call { callee := .builtin .clear, args := #[X], argTypes := #[t] }, ty, ps, af, none⟩ :: rest) k w := by
  obtain ⟨w', g1, g2, g3, g4⟩ := run_clear_own (ty := ty) (dc := dc) E ht he hzs (by simpa [Nat.blt_eq] using hs) (fun u hu => List.all_eq_true.1 h1 u hu) ho hl
  exact TL_do_v (w' := w') (v := .tuple #[]) (fun ρ h => by simp [execOp, resolve, invoke, builtin, h _ _ hx, g1]) hf (hq _ g2 g3) (hk _ g2 g3 g4)
end
end Go.Proofs.Eng

namespace Go.Proofs.Ytjjgojgahibpgaa
open Go.RowKit Go.Proofs.Eng Go.Proofs.Codec Go.Proofs.Link
set_option linter.unusedSimpArgs false
set_option linter.unusedVariables false set_option maxRecDepth 10000
attribute [local irreducible] T TL LV TH TA
theorem openF_le (b : Bs) : (openF b).1.length ≤ b.length := by
  unfold openF
  split
  · simp
  · split
    · simp
    · split
      · simp
      · split
        · simp only [List.length_take, List.length_drop]; omega
        · simp
def PFit (w w' : World) (k sq ak : Nat) (body : Bs) (ok : Bool) (v : Value) : Prop :=
  ∃ x : SV, v = .tuple #[.int .u8 (k : Int), .int .u64 (sq : Int), .int .u64 (ak : Int), slV x, .bool ok] ∧ Ext w w' ∧ Rd w' x.1 x.2.1 1 (bv body) ∧ Hi x.1 w.heap.size
theorem parse_c (B : Option Addr) (n c : Nat) (b : Bs) (w : World) (h : Rd w B n 1 (bv b)) (hn : n ≤ 7036874417) (hc : n ≤ c) :
    Ret Try.prog 68 [.slice B n c] w (fun v w' => PFit w w' (parseF b).1 (parseF b).2.1 (parseF b).2.2.1 (parseF b).2.2.2.1 (parseF b).2.2.2.2 v) := by
  have hlen : b.length = n := by simpa using h.1
  have hole := openF_le b
  refine ret_T (n := 69) Try.func68 rfl rfl ?_
  repeat (first | refine T_seq ?_ | refine T_region ?_ | refine TL_nil ?_ | refine TL_move (hk := ?_) | refine TL_assign (hk := ?_))
  refine TL_call TE (hc := Open_c B n c b _ h hn hc) (hk := ?_)
  rintro _ w1 ⟨LA, ln, lc, rfl, e1, oL⟩
  unfold parseF
  obtain ⟨o, ho⟩ : ∃ o, openF b = o := ⟨_, rfl⟩
  rw [ho] at oL hole ⊢
  obtain ⟨load, on, oe⟩ := o
  simp only at oL hole ⊢
  have hll : load.length = ln := by have := oL.len; simpa using this
  have hfail : ∀ w', Ext w w' → PFit w w' 0 0 0 [] false (.tuple #[.int .u8 0, .int .u64 0, .int .u64 0, .slice none 0 0, .bool false]) := fun w' e => ⟨(none, 0, 0), rfl, e, Rd.nil _ _ _, fun _ q => by cases q⟩
  by_cases he : oe = 0
  · by_cases hl : on = b.length
    · rw [if_neg (fun q => q ⟨he, hl⟩)]
      subst he
      have hln : (on : Int) = (n : Int) := by omega
      repeat (first | refine T_seq ?_ | refine T_region ?_ | refine T_cond_false rfl ?_ | refine T_skip ?_ | refine TL_ne_f (hk := ?_) | refine TL_nil ?_ | refine TL_move (hk := ?_) | refine TL_assign (hk := ?_) | refine TL_len TE (hk := ?_) | refine TL_yes (hk := ?_) | refine TL_pick_f (hk := ?_) | refine TL_extract (hk := ?_))
      refine TL_call TE (hc := NewReader_c LA ln lc load _ oL.rd (by omega)) (hk := ?_)
      rintro _ w2 ⟨br, A', n', c', rfl, e2, hbr, hiA, loA, rd⟩
      have z1 := e1.size
      have z2 := e2.size
      have hnn := rd.len
      simp only at hnn
      repeat (first | refine T_seq ?_ | refine T_region ?_ | refine TL_nil ?_ | refine TL_move (hk := ?_) | refine TL_assign (hk := ?_))
      refine TL_call TE (hc := Byte_c br _ A' n' c' _ rd) (hk := ?_)
      rintro _ w3 ⟨rfl, m3, rd3⟩
      obtain ⟨t1, ht1⟩ : ∃ t, RS.take ⟨load, 0, 0, 0, 0⟩ (0 : Nat) tByte = t := ⟨_, rfl⟩
      rw [ht1] at rd3 ⊢
      obtain ⟨kd, r1⟩ := t1
      simp only at rd3 ⊢
      have E3 : Ext w1 w3 := Mod.step e2 m3 (by simp; omega)
      by_cases k1 : kd = 1
      · rw [if_pos k1]
        subst k1
        repeat (first | refine T_seq ?_ | refine T_region ?_ | refine T_cond_true rfl ?_ | refine T_block ?_ | refine TL_eq_t (hk := ?_) | refine TL_nil ?_ | refine TL_move (hk := ?_) | refine TL_assign (hk := ?_))
        refine TL_call TE (hc := Uint_c br r1 A' n' c' _ rd3) (hk := ?_)
        rintro _ w4 ⟨rfl, m4, rd4⟩
        obtain ⟨t2, ht2⟩ : ∃ t, RS.take r1 (0 : Nat) num0 = t := ⟨_, rfl⟩
        rw [ht2] at rd4 ⊢
        obtain ⟨sq, r2⟩ := t2
        simp only at rd4 ⊢
        repeat (refine TL_move (hk := ?_))
        refine TL_call TE (hc := Uint_c br r2 A' n' c' _ rd4) (hk := ?_)
        rintro _ w5 ⟨rfl, m5, rd5⟩
        obtain ⟨t3, ht3⟩ : ∃ t, RS.take r2 (0 : Nat) num0 = t := ⟨_, rfl⟩
        rw [ht3] at rd5 ⊢
        obtain ⟨ak, r3⟩ := t3
        simp only at rd5 ⊢
        repeat (first | refine T_seq ?_ | refine T_region ?_ | refine TL_nil ?_ | refine TL_move (hk := ?_) | refine TL_assign (hk := ?_))
        refine TL_call TE (hc := Why_c br r3 A' n' c' _ rd5) (hk := ?_)
        rintro _ w6 ⟨rfl, e6⟩
        have rd6 := rd5.ext e6
        have E6 : Ext w1 w6 := (Mod.step (Mod.step E3 m4 (by simp; omega)) m5 (by simp; omega)).ext e6
        by_cases q1 : r3.err = 0
        · repeat (first | refine T_seq ?_ | refine T_region ?_ | refine TL_ne_f (hk := ?_) | refine TL_nil ?_ | refine TL_move (hk := ?_) | refine TL_assign (hk := ?_) | refine TL_yes (hk := ?_) | refine TL_extract (hk := ?_))
          refine TL_call TE (hc := Rest_c br r3 A' n' c' _ rd6) (hk := ?_)
          rintro _ w7 ⟨rfl, e7⟩
          by_cases q2 : r3.rest ≤ 4096
          · rw [if_pos ⟨q1, q2⟩]
            have hre : r3.rest ≤ ln := by have h1 := rd6.len; unfold RS.rest; split <;> omega
            repeat (first | refine T_seq ?_ | refine T_region_q TE.mixed (by kernel_rfl) ?_ | refine T_cond_false rfl ?_ | refine T_skip ?_ | refine TL_gt_f (hk := ?_) | refine TL_nil ?_ | refine TL_move (hk := ?_) | refine TL_len TE (hk := ?_) | refine TL_yes (hk := ?_) | refine TL_pick_f (hk := ?_))
            refine TL_call_q TE rfl rfl rfl ((fun w' e' => Rest_c br r3 A' n' c' w' (rd6.ext (e7.ext e')))) ?_
            repeat (first | refine TL_sub (hk := ?_) | refine TL_assign (hk := ?_) | refine TL_slice_lo TE (hk := ?_))
            refine TL_nil_q ?_; intro w8 e8
            --
            have E8 := (E6.ext e7).ext e8
            have hj : ((ln : Int) - (r3.rest : Int)).toNat = ln - r3.rest := by omega
            refine T_ret5 rfl rfl rfl rfl rfl rfl ⟨(cutA LA lc ((ln : Int) - (r3.rest : Int)).toNat 1, ln - ((ln : Int) - (r3.rest : Int)).toNat, lc - ((ln : Int) - (r3.rest : Int)).toNat), rfl, e1.ext E8, ?_, Hi.cut oL.hi⟩
            have r8 := (oL.be E8).rd
            have hcap := oL.cap.1
            simp only [hj]
            have := Rd.cut (l := ln - r3.rest) (h := ln) r8 (by omega) (Nat.le_refl _) hcap
            rw [hll]
            rw [show bv (load.drop (ln - r3.rest)) = ((bv load).drop ((ln - r3.rest) * 1)).take ((ln - (ln - r3.rest)) * 1) by
              rw [Nat.mul_one, Nat.mul_one, List.take_of_length_le (by simp; omega)]
              simp [bv, List.map_drop]]
            exact this
          · rw [if_neg (fun q => q2 q.2)]
            repeat (first | refine T_seq ?_ | refine T_region ?_ | refine T_cond_true rfl ?_ | refine TL_gt_t (hk := ?_) | refine TL_nil ?_ | refine TL_assign (hk := ?_) | refine TL_yes (hk := ?_) | refine TL_pick_f (hk := ?_))
            exact T_ret5 rfl rfl rfl rfl rfl rfl (hfail _ (e1.ext (E6.ext e7)))
        · rw [if_neg (fun q => q1 q.1)]
          repeat (first | refine T_seq ?_ | refine T_region ?_ | refine T_cond_true rfl ?_ | refine TL_ne_t (hk := ?_) | refine TL_nil ?_ | refine TL_move (hk := ?_) | refine TL_assign (hk := ?_) | refine TL_no (hk := ?_) | refine TL_pick_t (hk := ?_) | refine TL_extract (hk := ?_))
          exact T_ret5 rfl rfl rfl rfl rfl rfl (hfail _ (e1.ext E6))
      · rw [if_neg k1]
        by_cases k2 : kd = 2
        · rw [if_pos k2]
          subst k2
          repeat (first | refine T_seq ?_ | refine T_region ?_ | refine T_cond_true rfl ?_ | refine T_cond_false rfl ?_ | refine T_block ?_ | refine TL_eq_t (hk := ?_) | refine TL_eq_f (hk := ?_) | refine TL_nil ?_ | refine TL_move (hk := ?_) | refine TL_assign (hk := ?_))
          refine TL_call TE (hc := Uint_c br r1 A' n' c' _ rd3) (hk := ?_)
          rintro _ w4 ⟨rfl, m4, rd4⟩
          obtain ⟨t2, ht2⟩ : ∃ t, RS.take r1 (0 : Nat) num0 = t := ⟨_, rfl⟩
          rw [ht2] at rd4 ⊢
          obtain ⟨ak, r2⟩ := t2
          simp only at rd4 ⊢
          repeat (first | refine T_seq ?_ | refine T_region ?_ | refine TL_nil ?_ | refine TL_move (hk := ?_) | refine TL_assign (hk := ?_))
          refine TL_call TE (hc := End_c br r2 A' n' c' _ rd4) (hk := ?_)
          rintro _ w5 ⟨rfl, m5, rd5⟩
          have E5 : Ext w1 w5 := Mod.step (Mod.step E3 m4 (by simp; omega)) m5 (by simp; omega)
          have hR : ∀ q, decide (r2.fin.err = 0) = q → PFit w w5 2 0 ak [] (decide (r2.fin.err = 0)) (.tuple #[.int .u8 2, .int .u64 0, .int .u64 (ak : Int), .slice none 0 0, .bool q]) := fun q hq => by
            subst hq
            exact ⟨(none, 0, 0), rfl, e1.ext E5, Rd.nil _ _ _, fun _ q => by cases q⟩
          by_cases q1 : r2.fin.err = 0
          · repeat (first | refine TL_eq_t (hk := ?_) | refine TL_nil ?_ | refine TL_assign (hk := ?_))
            exact T_ret5 rfl rfl rfl rfl rfl rfl (hR true (decide_eq_true q1))
          · repeat (first | refine TL_eq_f (hk := ?_) | refine TL_nil ?_ | refine TL_assign (hk := ?_))
            exact T_ret5 rfl rfl rfl rfl rfl rfl (hR false (decide_eq_false q1))
        · rw [if_neg k2]
          repeat (first | refine T_seq ?_ | refine T_region ?_ | refine T_cond_false rfl ?_ | refine T_block ?_ | refine T_inBlock ?_ | refine T_skip ?_ | refine TL_eq_f (hk := ?_) | refine TL_nil ?_ | refine TL_move (hk := ?_) | refine TL_assign (hk := ?_))
          exact T_ret5 rfl rfl rfl rfl rfl rfl (hfail _ (e1.ext E3))
    · rw [if_pos (fun q => hl q.2)]
      subst he
      have hln : ¬ (on : Int) = (n : Int) := by omega
      repeat (first | refine T_seq ?_ | refine T_region ?_ | refine T_cond_true rfl ?_ | refine TL_ne_t (hk := ?_) | refine TL_ne_f (hk := ?_) | refine TL_nil ?_ | refine TL_move (hk := ?_) | refine TL_assign (hk := ?_) | refine TL_len TE (hk := ?_) | refine TL_yes (hk := ?_) | refine TL_pick_f (hk := ?_) | refine TL_extract (hk := ?_))
      exact T_ret5 rfl rfl rfl rfl rfl rfl (hfail _ e1)
  · rw [if_pos (fun q => he q.1)]
    repeat (first | refine T_seq ?_ | refine T_region ?_ | refine T_cond_true rfl ?_ | refine TL_ne_t (hk := ?_) | refine TL_nil ?_ | refine TL_move (hk := ?_) | refine TL_assign (hk := ?_) | refine TL_no (hk := ?_) | refine TL_pick_t (hk := ?_) | refine TL_extract (hk := ?_))
    exact T_ret5 rfl rfl rfl rfl rfl rfl (hfail _ e1)
end Go.Proofs.Ytjjgojgahibpgaa

namespace Go.Proofs.Ytjjgojgahibpgaa
open Go.RowKit Go.Proofs.Eng Go.Proofs.Codec Go.Proofs.Link
set_option linter.unusedSimpArgs false
set_option linter.unusedVariables false set_option maxRecDepth 10000
attribute [local irreducible] T TL LV TH TA
theorem fv_take (l : List FE) (i : Nat) : (fv l).take (i * 4) = fv (l.take i) := by
  induction l generalizing i with
  | nil => simp [fv]
  | cons p l ih =>
    cases i with
    | zero => simp [fv]
    | succ i =>
      rw [fv_cons, List.take_succ_cons, fv_cons, ← ih i, show (i + 1) * 4 = (f4 p).length + i * 4 by simp [f4]; omega, List.take_length_add_append]
theorem Before_c (x : FE) (b7 ack : Nat) (w : World) (h7 : Blk w b7 22 [.int .u64 (ack : Int)]) :
    Ret Try.prog 70 [.agg #[.int .u64 (x.seq : Int), slV x.sv, .int .i64 (x.age : Int), .bool x.due], ptr b7] w (fun v w' => v = .bool (decide (x.seq < ack)) ∧ Ext w w') := by
  refine ret_T (n := 8) Try.func70 rfl rfl ?_
  repeat (first | refine T_seq ?_ | refine T_region ?_)
  refine TL_box (hk := ?_); intro b2 w2 e2 h2 h2' k2
  replace k2 : Blk w2 b2 118 (f4 x) := k2
  have k72 := h7.be e2
  unfold f4 at k2
  by_cases h : x.seq < ack
  · repeat (first | refine T_seq ?_ | refine T_region ?_ | refine TL_lt_t (hk := ?_) | refine TL_nil ?_ | refine TL_assign (hk := ?_) | refine TL_load TE (hk := ?_) | refine TL_fieldAddr TE (hk := ?_))
    exact T_ret1 rfl rfl ⟨by rw [decide_eq_true h], e2⟩
  · repeat (first | refine T_seq ?_ | refine T_region ?_ | refine TL_lt_f (hk := ?_) | refine TL_nil ?_ | refine TL_assign (hk := ?_) | refine TL_load TE (hk := ?_) | refine TL_fieldAddr TE (hk := ?_))
    exact T_ret1 rfl rfl ⟨by rw [decide_eq_false h], e2⟩
abbrev befF (b7 : Nat) : Value := .func (.func 70) #[] #[ptr b7]
theorem IndexBefore_c (A : Option Addr) (n c : Nat) (fm : List FE) (b7 ack : Nat) (w : World) (h : Rd w A n 4 (fv fm)) (hn : n ≤ 1000000) (h7 : Blk w b7 22 [.int .u64 (ack : Int)]) :
    Ret Try.prog 97 [.slice A n c, befF b7] w (fun v w' => Ext w w' ∧ ((v = .int .i64 (-1) ∧ ∀ j, j < n → ¬ (fm.getD j fe0).seq < ack) ∨ ∃ i : Nat, v = .int .i64 (i : Int) ∧ i < n ∧ (fm.getD i fe0).seq < ack ∧ ∀ j, j < i → ¬ (fm.getD j fe0).seq < ack)) := by
  have hl : fm.length = n := by have := h.1; rw [fv_len] at this; omega
  refine ret_T (n := 19) Try.func97 rfl rfl ?_
  repeat (first | refine T_seq ?_ | refine T_region ?_ | refine T_block ?_ | refine TL_nil ?_ | refine TL_move (hk := ?_) | refine TL_assign (hk := ?_) | refine TL_len TE (hk := ?_))
  refine T_loop (ι := Nat) (fun i => [(8, .int .i64 (i : Int)), (7, .int .i64 (n : Int)), (0, .slice A n c), (1, befF b7)]) (fun i w' => Ext w w' ∧ i ≤ n ∧ ∀ j, j < i → ¬ (fm.getD j fe0).seq < ack) (fun i => n - i) 0 (.c rfl (.c rfl (.c rfl (.c rfl (.n))))) ⟨Mod.refl _ _, Nat.zero_le _, fun j h => absurd h (by omega)⟩ ?_
  rintro i w1 ⟨e1, hi, hu⟩ ih
  have h1 := h.be e1
  have h71 := h7.be e1
  by_cases hlt : i < n
  · have t1 := fv_four fm i (by omega)
    obtain ⟨x, hx⟩ : ∃ x, fm.getD i fe0 = x := ⟨_, rfl⟩
    rw [hx] at t1
    repeat (first | refine T_seq ?_ | refine T_region ?_ | refine T_cond_true rfl ?_ | refine T_block ?_ | refine T_skip ?_ | refine TL_lt_t (hk := ?_) | refine TL_nil ?_ | refine TL_move (hk := ?_) | refine TL_assign (hk := ?_) | refine TL_indexAddrn TE (hk := ?_))
    refine TL_loada TE (cs := f4 x) (hx := rfl) (ht := rfl) (hi := rfl) (hr := h1) (hc := t1) (h0 := Nat.succ_pos _) (hk := ?_)
    --
    refine TL_callc TE (fst := []) (cap := [ptr b7]) rfl rfl rfl rfl (R' := RR (fun v w'' => v = .bool (decide (x.seq < ack)) ∧ Ext w1 w'')) (by have := Before_c x b7 ack w1 h71; unfold Ret at this; simpa [f4] using this) ?_ (fun _ _ h => h.elim) (fun _ h => h)
    rintro _ w2 ⟨rfl, e2⟩
    by_cases hb : x.seq < ack
    · rw [decide_eq_true hb]
      repeat (first | refine T_seq ?_ | refine T_region ?_ | refine T_cond_true rfl ?_ | refine TL_nil ?_ | refine TL_move (hk := ?_) | refine TL_assign (hk := ?_))
      exact T_ret1 rfl rfl ⟨e1.ext e2, .inr ⟨i, rfl, hlt, by rw [hx]; exact hb, hu⟩⟩
    · rw [decide_eq_false hb]
      repeat (first | refine T_region ?_ | refine T_cond_false rfl ?_ | refine T_inBlock ?_ | refine T_skip ?_ | refine TL_add (hk := ?_) | refine TL_nil ?_ | refine TL_move (hk := ?_))
      exact ih (i + 1) _ _ (by omega) ⟨e1.ext e2, by omega, fun j hj => by
        by_cases q : j = i
        · rw [q, hx]; exact hb
        · exact hu j (by omega)⟩ (.c rfl (.c rfl (.c rfl (.c rfl (.n)))))
  · clear ih
    have : i = n := by omega
    subst this
    repeat (first | refine T_seq ?_ | refine T_region ?_ | refine T_cond_false rfl ?_ | refine T_exit rfl ?_ | refine TL_lt_f (hk := ?_) | refine TL_nil ?_ | refine TL_assign (hk := ?_))
    exact T_ret1 rfl rfl ⟨e1, .inl ⟨rfl, hu⟩⟩
def keepF (ack : Nat) (l : List FE) : List FE := l.filter fun x => !decide (x.seq < ack)
theorem keepF_all {ack : Nat} {l : List FE} : ∀ (i : Nat), i ≤ l.length → (∀ j, j < i → ¬ (l.getD j fe0).seq < ack) → keepF ack (l.take i) = l.take i
  | 0, _, _ => by simp [keepF]
  | i + 1, hi, h => by
    have := keepF_all i (by omega) (fun j hj => h j (by omega))
    have h1 := h i (by omega)
    rw [List.getD_eq_getElem?_getD, List.getElem?_eq_getElem (by omega)] at h1
    unfold keepF at this ⊢
    rw [List.take_succ_eq_append_getElem (by omega), List.filter_append, this]
    congr 1
    simp only [Option.getD_some] at h1
    simp [h1]
theorem keepF_succ {ack : Nat} {l : List FE} {j : Nat} (h : j < l.length) : keepF ack (l.take (j + 1)) = keepF ack (l.take j) ++ (if (l.getD j fe0).seq < ack then [] else [l.getD j fe0]) := by
  unfold keepF
  rw [List.take_succ_eq_append_getElem h, List.filter_append]
  congr 1
  simp only [List.getD_eq_getElem?_getD, List.getElem?_eq_getElem h, Option.getD_some]
  by_cases q : l[j].seq < ack <;> simp [q]
set_option maxHeartbeats 1600000
theorem DeleteFunc_c (A : Option Addr) (n c base : Nat) (fm : List FE) (b7 ack : Nat) (w : World) (h : Own w base 118 4 A n c (fv fm)) (hn : n ≤ 1000000) (h7 : Blk w b7 22 [.int .u64 (ack : Int)]) (hb7 : b7 ∉ blkL A) :
    Ret Try.prog 69 [.slice A n c, befF b7] w (fun v w' => v = .slice A (keepF ack fm).length c ∧ Eng.Mod (blkL A) w w' ∧ Own w' base 118 4 A (keepF ack fm).length c (fv (keepF ack fm))) := by
  have hl : fm.length = n := by have := h.len; rw [fv_len] at this; omega
  have hcap := h.cap.1
  refine ret_T (n := 42) Try.func69 rfl rfl ?_
  repeat (first | refine T_seq ?_ | refine T_region ?_ | refine TL_nil ?_ | refine TL_move (hk := ?_) | refine TL_assign (hk := ?_))
  refine TL_call TE (hc := IndexBefore_c A n c fm b7 ack _ h.rd hn h7) (hk := ?_)
  rintro _ w1 ⟨e1, ⟨rfl, hu⟩ | ⟨z, rfl, hz, hzs, hu⟩⟩
  · have hk : keepF ack fm = fm := by have := keepF_all (ack := ack) (l := fm) n (by omega) hu; rwa [List.take_of_length_le (by omega)] at this
    rw [hk, hl]
    repeat (first | refine T_seq ?_ | refine T_region ?_ | refine T_cond_true rfl ?_ | refine TL_eq_t (hk := ?_) | refine TL_nil ?_ | refine TL_move (hk := ?_) | refine TL_assign (hk := ?_))
    exact T_ret1 rfl rfl ⟨rfl, Ext.un e1, h.be e1⟩
  have hk0 := keepF_all (ack := ack) (l := fm) z (by omega) hu
  have hk1 : keepF ack (fm.take (z + 1)) = fm.take z := by rw [keepF_succ (by omega), if_pos hzs, List.append_nil, hk0]
  have hsx : ¬ (z : Int) = -1 := by omega
  repeat (first | refine T_seq ?_ | refine T_region ?_ | refine T_cond_false rfl ?_ | refine T_block ?_ | refine T_skip ?_ | refine TL_add (hk := ?_) | refine TL_eq_f (hk := ?_) | refine TL_nil ?_ | refine TL_move (hk := ?_) | refine TL_assign (hk := ?_))
  refine T_loop (ι := Nat × List FE) (fun j => [(5, .int .i64 ((keepF ack (fm.take j.1)).length : Int)), (6, .int .i64 (j.1 : Int)), (0, .slice A n c), (1, befF b7)])
    (fun j w' => j.1 ≤ n ∧ Eng.Mod (blkL A) w1 w' ∧ Own w' base 118 4 A n c (fv j.2) ∧ j.2.length = n ∧ j.2.take (keepF ack (fm.take j.1)).length = keepF ack (fm.take j.1) ∧ j.2.drop j.1 = fm.drop j.1 ∧ (keepF ack (fm.take j.1)).length < j.1) (fun j => n - j.1) (z + 1, fm) (by
      have hq : ((keepF ack (fm.take (z + 1))).length : Int) = (z : Int) := by rw [hk1, List.length_take]; omega
      simp only [hq]
      exact (.c rfl (.c rfl (.c rfl (.c rfl (.n)))))) ⟨by simp only; omega, Mod.refl _ _, h.be e1, hl, by simp only; rw [hk1, List.length_take, Nat.min_eq_left (by omega)], rfl, by simp only; rw [hk1, List.length_take]; omega⟩ ?_
  rintro ⟨j, fm'⟩ w2 ⟨hj, m2, o2, hl', htk, hdr, hij⟩ ih
  simp only at hj m2 o2 hl' htk hdr hij ih ⊢
  have h72 := (h7.be e1).mod m2 hb7
  by_cases hlt : j < n
  · have hks := keepF_succ (ack := ack) (l := fm) (j := j) (by omega)
    have hgd : fm'.getD j fe0 = fm.getD j fe0 := by
      have := congrArg (fun l : List FE => l[0]?) hdr
      simp only [List.getElem?_drop, Nat.add_zero] at this
      rw [List.getD_eq_getElem?_getD, List.getD_eq_getElem?_getD, this]
    have t1 := fv_four fm' j (by omega)
    rw [hgd] at t1
    obtain ⟨x, hx⟩ : ∃ x, fm.getD j fe0 = x := ⟨_, rfl⟩
    rw [hx] at t1 hks
    obtain ⟨i, hi⟩ : ∃ i, (keepF ack (fm.take j)).length = i := ⟨_, rfl⟩
    have hset := fv_set fm' i x (by omega)
    rw [hi] at htk hij ⊢
    have r2 := o2.rd
    repeat (first | refine T_seq ?_ | refine T_region ?_ | refine T_cond_true rfl ?_ | refine T_block ?_ | refine T_skip ?_ | refine TL_lt_t (hk := ?_) | refine TL_nil ?_ | refine TL_move (hk := ?_) | refine TL_indexAddrn TE (hk := ?_) | refine TL_len TE (hk := ?_))
    refine TL_loada TE (cs := f4 x) (hx := rfl) (ht := rfl) (hi := rfl) (hr := r2) (hc := t1) (h0 := Nat.succ_pos _) (hk := ?_)
    --
    refine TL_alloc TE (hk := ?_); intro b3 w3 e3 h3 h3' k3
    --
    refine TL_storea TE (hk := ?_); intro w4 m4 z4 k4
    have z3 := e3.size
    have e24 : Ext w2 w4 := Mod.step e3 m4 (by simp; omega)
    replace k4 : Blk w4 b3 118 (f4 x) := k4
    have h74 := h72.be e24
    have o4 := o2.be e24
    clear k3 r2 o2 h72
    repeat (first | refine T_seq ?_ | refine T_region ?_ | refine TL_nil ?_ | refine TL_move (hk := ?_))
    refine TL_loadb TE (cs := f4 x) (o := 0) rfl rfl k4 rfl rfl (Nat.succ_pos _) (hk := ?_)
    --
    refine TL_callc TE (fst := []) (cap := [ptr b7]) rfl rfl rfl rfl (R' := RR (fun v w'' => v = .bool (decide (x.seq < ack)) ∧ Ext w4 w'')) (by have := Before_c x b7 ack w4 h74; unfold Ret at this; simpa [f4] using this) ?_ (fun _ _ h => h.elim) (fun _ h => h)
    rintro _ w5 ⟨rfl, e5⟩
    have o5 := o4.be e5
    have k5 := k4.be e5
    by_cases hb : x.seq < ack
    · rw [if_pos hb, List.append_nil] at hks
      rw [decide_eq_true hb]
      repeat (first | refine T_region ?_ | refine T_cond_false rfl ?_ | refine T_inBlock ?_ | refine T_skip ?_ | refine TL_add (hk := ?_) | refine TL_nil ?_ | refine TL_move (hk := ?_) | refine TL_assign (hk := ?_) | refine TL_not (hk := ?_))
      refine ih (j + 1, fm') w5 _ (by simp only; omega) ⟨by simp only; omega, m2.ext (e24.ext e5), o5, hl', by simp only; rw [hks, hi]; exact htk, by simp only; rw [← List.drop_drop, hdr, List.drop_drop], by simp only; rw [hks]; omega⟩ (by simp only [hks, hi]; exact (.c rfl (.c rfl (.c rfl (.c rfl (.n))))))
    · rw [if_neg hb] at hks
      rw [decide_eq_false hb]
      have r5 := o5.rd
      have hlx := fv_len fm'
      have hf4 : (f4 x).length = 4 := rfl
      repeat (first | refine T_seq ?_ | refine T_region ?_ | refine T_cond_true rfl ?_ | refine TL_nil ?_ | refine TL_move (hk := ?_) | refine TL_not (hk := ?_))
      refine TL_loadb TE (cs := f4 x) (o := 0) rfl rfl k5 rfl rfl (Nat.succ_pos _) (hk := ?_)
      repeat (refine TL_indexAddrn TE (hk := ?_))
      refine TL_storea_own TE (ho := o5) (j := i * 4) (vs := f4 x) (hj := by rw [hlx, hf4]; omega) (hk := ?_); intro w6 m6 z6 o6
      rw [hset] at o6
      have hc : ((i : Nat) : Int) + 1 = ((i + 1 : Nat) : Int) := by omega
      have hkl : (keepF ack (fm.take (j + 1))).length = i + 1 := by rw [hks, List.length_append, hi]; rfl
      repeat (first | refine T_region ?_ | refine T_inBlock ?_ | refine TL_add (hk := ?_) | refine TL_nil ?_ | refine TL_move (hk := ?_) | refine TL_assign (hk := ?_))
      rw [hc]
      --
      refine ih (j + 1, fm'.set i x) w6 _ (by simp only; omega) ⟨by simp only; omega, (m2.ext (e24.ext e5)).trans m6, o6, by simp [hl'], ?_, ?_, by simp only; omega⟩ (by simp only [hkl]; exact (.c rfl (.c rfl (.c rfl (.c rfl (.n))))))
      · simp only
        rw [hkl, hks, ← htk, List.take_succ_eq_append_getElem (by rw [List.length_set]; omega), List.take_set_of_le (Nat.le_refl _), List.getElem_set_self]
      · simp only
        rw [List.drop_set_of_lt (by omega), ← List.drop_drop, hdr, List.drop_drop]
  · have : n = j := by omega
    subst this
    clear ih
    have hfull : fm.take n = fm := List.take_of_length_le (by omega)
    rw [hfull] at htk hij ⊢
    obtain ⟨kf, hkf⟩ : ∃ kf, keepF ack fm = kf := ⟨_, rfl⟩
    rw [hkf] at htk hij ⊢
    obtain ⟨i, hi⟩ : ∃ i, kf.length = i := ⟨_, rfl⟩
    rw [hi] at htk hij ⊢
    have r2 := o2.rd
    repeat (first | refine T_seq ?_ | refine T_region ?_ | refine T_cond_false rfl ?_ | refine T_exit rfl ?_ | refine TL_lt_f (hk := ?_) | refine TL_nil ?_ | refine TL_move (hk := ?_) | refine TL_len TE (hk := ?_) | refine TL_slice_lo TE (hk := ?_))
    refine TL_clear TE (ho := o2) (hk := ?_); intro w3 m3 z3 o3
    rw [Int.toNat_natCast, fv_take, htk] at o3
    repeat (first | refine T_seq ?_ | refine T_region ?_ | refine TL_nil ?_ | refine TL_move (hk := ?_) | refine TL_assign (hk := ?_) | refine TL_slice_hi TE (hk := ?_))
    exact T_ret1 rfl rfl ⟨rfl, (Mod.trans (Ext.un e1) m2).trans m3, o3⟩
end Go.Proofs.Ytjjgojgahibpgaa

namespace Go.Proofs.Ytjjgojgahibpgaa
open Go.RowKit Go.Proofs.Eng Go.Proofs.Codec Go.Proofs.Link
set_option linter.unusedSimpArgs false
set_option linter.unusedVariables false set_option maxRecDepth 10000
attribute [local irreducible] T TL LV TH TA
theorem take_lt (s : RS) : (s.take (0 : Nat) num0).1 < 2 ^ 64 := by
  unfold RS.take
  split
  · split
    · rename_i h; exact (num0_ok h).1
    · show 0 < 2 ^ 64; decide
  · show 0 < 2 ^ 64; decide
theorem parseF_lt (b : Bs) : (parseF b).2.1 < 2 ^ 64 ∧ (parseF b).2.2.1 < 2 ^ 64 ∧ ((parseF b).2.2.2.2 = true → (parseF b).1 = 1 ∨ (parseF b).1 = 2) := by
  unfold parseF
  simp only
  split
  · exact ⟨by decide, by decide, fun h => by cases h⟩
  · split
    · split
      · exact ⟨take_lt _, take_lt _, fun _ => .inl rfl⟩
      · exact ⟨by decide, by decide, fun h => by cases h⟩
    · split
      · exact ⟨by show 0 < _; decide, take_lt _, fun _ => .inr rfl⟩
      · exact ⟨by decide, by decide, fun h => by cases h⟩
theorem parseF_body (b : Bs) : (parseF b).2.2.2.1.length ≤ 4096 := by
  unfold parseF
  simp only
  split
  · simp
  · split
    · split
      · rename_i h
        simp only [List.length_drop]
        omega
      · simp
    · split <;> simp
theorem mdel_len {α : Type} : ∀ (l : List (Nat × α)) (k : Nat) (v : α), mget l k = some v → (mdel l k).length + 1 = l.length
  | [], _, _, h => by cases h
  | x :: l, k, v, h => by
    unfold mget at h
    unfold mdel
    by_cases e : x.1 = k
    · rw [if_pos e]; simp
    · rw [if_neg e] at h ⊢
      have := mdel_len l k v h
      simp only [List.length_cons]
      omega
theorem blkF_sub {l l' : List FE} (h : l.Sublist l') : (blkF l).Sublist (blkF l') := by
  induction h with
  | slnil => exact List.Sublist.refl _
  | cons a _ ih => rw [blkF_cons]; exact ih.trans (List.sublist_append_right _ _)
  | cons_cons a _ ih => rw [blkF_cons, blkF_cons]; exact (List.Sublist.refl _).append ih
theorem HB.isSome {w : World} {base : Nat} {xs : List (Nat × SV)} {ls : List (Nat × Bs)} (k : Nat) (h : HB w base xs ls) : (mget xs k).isSome = (mget ls k).isSome := by
  cases hg : mget ls k with
  | none => rw [HB.none k h hg]; rfl
  | some b => obtain ⟨x, h1, _⟩ := HB.some k b h hg; rw [h1]; rfl
theorem drain_stop {e : ES} (h : mget e.held e.exp = none) : ∀ k, drainE k e = e
  | 0 => rfl
  | k + 1 => by unfold drainE; rw [h]
theorem drain_go {e : ES} {b : Bs} (h : mget e.held e.exp = some b) : drainE e.held.length e = drainE (mdel e.held e.exp).length { e with held := mdel e.held e.exp, come := e.come ++ [b], exp := e.exp + 1 } := by
  rw [← mdel_len _ _ _ h]
  show (match mget e.held e.exp with
    | none => e
    | some b => drainE (mdel e.held e.exp).length { e with held := mdel e.held e.exp, come := e.come ++ [b], exp := e.exp + 1 }) = _
  rw [h]
section
variable {base p : Nat} {m : EM} {f : Nat → Nat} {es : ES}
set_option maxHeartbeats 1600000
theorem Receive_c (B : Option Addr) (n c : Nat) (b : Bs) (w : World) (h : EndM w base p m f es) (hbw : base ≤ w.heap.size) (ok : OkE es) (hr : Rd w B n 1 (bv b)) (hn : n ≤ 7036874417) (hc : n ≤ c) :
    Ret Try.prog 19 [ptr p, .slice B n c] w (fun v w' => v = .int .i64 ((recvE es b).2 : Int) ∧ ∃ m' f', EndM w' base p m' f' (recvE es b).1 ∧ Turns f f' w w') := by
  have hD : p ∉ ([] : List Nat) := by simp
  obtain ⟨hsq, hak, hkd⟩ := parseF_lt b
  have hbd := parseF_body b
  refine ret_T (n := 138) Try.func19 rfl rfl ?_
  repeat (first | refine T_seq ?_ | refine T_region ?_ | refine T_cond_false rfl ?_ | refine T_skip ?_ | refine TL_pnil_f TE (hk := ?_) | refine TL_nil ?_ | refine TL_move (hk := ?_) | refine TL_assign (hk := ?_))
  refine TL_call TE (hc := parse_c B n c b _ hr hn hc) (hk := ?_)
  unfold recvE
  obtain ⟨pf, hpf⟩ : ∃ q, parseF b = q := ⟨_, rfl⟩
  rw [hpf] at hsq hak hkd hbd ⊢
  obtain ⟨kd, sq, ak, bd, okk⟩ := pf
  simp only at hsq hak hkd hbd ⊢
  rintro _ w1 ⟨⟨BA, bn, bc⟩, rfl, e1, rB, hiB⟩
  simp only at rB hiB
  repeat (first | refine TL_move (hk := ?_) | refine TL_extract (hk := ?_))
  refine TL_alloc TE (hk := ?_); intro b7 w2 e2 h2 h2' k2
  repeat (refine TL_assign (hk := ?_))
  refine TL_store TE (hk := ?_); intro w3 m3 z3 k3
  have z1 := e1.size
  have z2 := e2.size
  have e13 : Ext w1 w3 := Mod.step e2 m3 (by simp; omega)
  have e03 := e1.ext e13
  replace k3 : Blk w3 b7 22 [.int .u64 (ak : Int)] := k3
  have h3 := h.ext e03
  have rB3 := rB.be e13
  have hk3 := h3.blk
  unfold endV at hk3
  have hold := fun x hx => (h.ki.old x hx).2
  have hret : ∀ w', Ext w3 w' → ∃ m' f', EndM w' base p m' f' es ∧ Turns f f' w w' := fun w' e => ⟨m, f, h3.ext e, Turns.ext (e03.ext e)⟩
  have wi := ok.wi
  clear k2 m3 hpf
  cases okk with
  | false =>
    rw [if_pos rfl]
    repeat (first | refine T_seq ?_ | refine T_region ?_ | refine T_cond_true rfl ?_ | refine T_block ?_ | refine TL_nil ?_ | refine TL_move (hk := ?_) | refine TL_assign (hk := ?_) | refine TL_not (hk := ?_))
    exact T_ret1 rfl rfl ⟨rfl, hret _ (Mod.refl _ _)⟩
  | true =>
    rw [if_neg (by decide)]
    by_cases g1 : es.next < ak
    · rw [if_pos g1]
      repeat (first | refine T_seq ?_ | refine T_region ?_ | refine T_region_q TE.mixed (by kernel_rfl) ?_ | refine T_cond_false rfl ?_ | refine T_block ?_ | refine TL_gt_t (hk := ?_) | refine TL_nil ?_ | refine TL_move (hk := ?_) | refine TL_assign (hk := ?_) | refine TL_load TE (hk := ?_) | refine TL_fieldAddr TE (hk := ?_) | refine TL_nilCheck (hk := ?_) | refine TL_not (hk := ?_))
      refine TL_nil_q ?_; intro w4 e4
      repeat (first | refine T_seq ?_ | refine T_region ?_ | refine T_cond_true rfl ?_ | refine TL_nil ?_ | refine TL_assign (hk := ?_))
      exact T_ret1 rfl rfl ⟨rfl, hret _ e4⟩
    rw [if_neg g1]
    repeat (first | refine T_seq ?_ | refine T_region ?_ | refine T_region_q TE.mixed (by kernel_rfl) ?_ | refine T_cond_false rfl ?_ | refine T_block ?_ | refine TL_gt_f (hk := ?_) | refine TL_nil ?_ | refine TL_move (hk := ?_) | refine TL_assign (hk := ?_) | refine TL_load TE (hk := ?_) | refine TL_fieldAddr TE (hk := ?_) | refine TL_nilCheck (hk := ?_) | refine TL_not (hk := ?_))
    refine TL_nil_q ?_; intro w4 e4
    have hk4 := hk3.be e4
    repeat (first | refine T_seq ?_ | refine T_cond_false rfl ?_)
    refine T_join (ι := Unit) (fun _ => [(34, .bool (decide (kd = 1 ∧ es.exp ≤ sq ∧ es.win ≤ sq - es.exp))), (5, .int .u8 (kd : Int)), (6, .int .u64 (sq : Int)), (7, ptr b7), (8, .slice BA bn bc), (0, ptr p)]) (fun _ w' => Ext w4 w') (fun kk join => ?_) ?_
    · by_cases a1 : kd = 1
      · by_cases a2 : es.exp ≤ sq
        · have hsub : (sq : Int) - (es.exp : Int) = ((sq - es.exp : Nat) : Int) := by omega
          by_cases a3 : es.win ≤ sq - es.exp
          · rw [decide_eq_true ⟨a1, a2, a3⟩] at join
            repeat (first | refine T_region_q TE.mixed (by kernel_rfl) ?_ | refine TL_sub (hk := ?_) | refine TL_ge_t (hk := ?_) | refine TL_eq_t (hk := ?_) | refine TL_move (hk := ?_) | refine TL_assign (hk := ?_) | refine TL_load TE (hk := ?_) | refine TL_fieldAddr TE (hk := ?_) | refine TL_yes (hk := ?_) | refine TL_pick_t (hk := ?_) | refine TL_nilCheck (hk := ?_) | refine TL_conv TE (hk := ?_))
            refine TL_nil_q ?_; intro w5 e5
            exact T.sub (join () _ e5) (.c rfl (.c rfl (.c rfl (.c rfl (.c rfl (.c rfl (.n)))))))
          · rw [decide_eq_false (fun q => a3 q.2.2)] at join
            repeat (first | refine T_region_q TE.mixed (by kernel_rfl) ?_ | refine TL_sub (hk := ?_) | refine TL_ge_t (hk := ?_) | refine TL_ge_f (hk := ?_) | refine TL_eq_t (hk := ?_) | refine TL_move (hk := ?_) | refine TL_assign (hk := ?_) | refine TL_load TE (hk := ?_) | refine TL_fieldAddr TE (hk := ?_) | refine TL_yes (hk := ?_) | refine TL_pick_t (hk := ?_) | refine TL_nilCheck (hk := ?_) | refine TL_conv TE (hk := ?_))
            refine TL_nil_q ?_; intro w5 e5
            exact T.sub (join () _ e5) (.c rfl (.c rfl (.c rfl (.c rfl (.c rfl (.c rfl (.n)))))))
        · rw [decide_eq_false (fun q => a2 q.2.1)] at join
          repeat (first | refine T_region_q TE.mixed (by kernel_rfl) ?_ | refine TL_ge_f (hk := ?_) | refine TL_eq_t (hk := ?_) | refine TL_move (hk := ?_) | refine TL_assign (hk := ?_) | refine TL_load TE (hk := ?_) | refine TL_fieldAddr TE (hk := ?_) | refine TL_yes (hk := ?_) | refine TL_no (hk := ?_) | refine TL_pick_t (hk := ?_) | refine TL_pick_f (hk := ?_) | refine TL_nilCheck (hk := ?_))
          refine TL_nil_q ?_; intro w5 e5
          exact T.sub (join () _ e5) (.c rfl (.c rfl (.c rfl (.c rfl (.c rfl (.c rfl (.n)))))))
      · rw [decide_eq_false (fun q => a1 q.1)] at join
        repeat (first | refine T_region_q TE.mixed (by kernel_rfl) ?_ | refine TL_eq_f (hk := ?_) | refine TL_move (hk := ?_) | refine TL_assign (hk := ?_) | refine TL_no (hk := ?_) | refine TL_pick_f (hk := ?_))
        refine TL_nil_q ?_; intro w5 e5
        exact T.sub (join () _ e5) (.c rfl (.c rfl (.c rfl (.c rfl (.c rfl (.c rfl (.n)))))))
    rintro _ w5 e5
    have e35 := e4.ext e5
    by_cases g2 : kd = 1 ∧ es.exp ≤ sq ∧ es.win ≤ sq - es.exp
    · rw [if_pos g2, decide_eq_true g2]
      repeat (first | refine T_seq ?_ | refine T_region ?_ | refine T_cond_true rfl ?_ | refine TL_nil ?_ | refine TL_assign (hk := ?_))
      exact T_ret1 rfl rfl ⟨rfl, hret _ e35⟩
    rw [if_neg g2, decide_eq_false g2]
    have h5 := h3.ext e35
    have k5 := k3.be e35
    have rB5 := rB3.be e35
    have hk5 := hk4.be e5
    have e05 := e03.ext e35
    have hb7 : b7 ∉ blkL m.fl.1 := fun q => by have := Lo.blk h.pf.1.lo b7 q; omega
    have hfl := h5.pf.2.len
    have hfl2 := h5.pf.1.len
    rw [fv_len] at hfl2
    have tot := ok.tot
    clear hk4 hk3 k3 rB3 rB e4 e5
    repeat (first | refine T_seq ?_ | refine T_region ?_ | refine T_cond_false rfl ?_ | refine T_inBlock ?_ | refine T_skip ?_ | refine TL_move (hk := ?_) | refine TL_load TE (hk := ?_) | refine TL_fieldAddr TE (hk := ?_) | refine TL_nilCheck (hk := ?_) | refine TL_makeFunc (hk := ?_))
    refine TL_call TE (hc := DeleteFunc_c m.fl.1 m.fl.2.1 m.fl.2.2 base m.fm b7 ak _ h5.pf.1 (by omega) k5 hb7) (hk := ?_)
    rintro _ w6 ⟨rfl, m6, o6⟩
    have hk6 := hk5.mod m6 h5.p_fl
    repeat (first | refine TL_fieldAddr TE (hk := ?_) | refine TL_nilCheck (hk := ?_))
    refine TL_store TE (hk := ?_); intro w7 m7 z7 k7
    have hnfp : ∀ b ∈ blkL m.fl.1, b ∉ [p] := fun b q q' => by rw [List.mem_singleton] at q'; subst q'; exact h5.p_fl q
    have M57 : Eng.Mod (p :: blkL m.fl.1) w5 w7 := (m6.mono (fun x hx => .inl (List.mem_cons_of_mem _ hx))).step m7 (fun x hx => .inl (by rw [List.mem_singleton.1 hx]; exact List.mem_cons_self))
    have hfb6 : FB w7 base (keepF ak m.fm) (ackE es ak).fly := FB.mod (h5.pf.2.filter (fun s => !decide (s < ak))) M57 (fun b q q' => by
      have h6 := h5.ki.fl6 b ((blkF_sub List.filter_sublist).subset q)
      rcases List.mem_cons.1 q' with rfl | q'
      · rw [h5.ki.kp] at h6; cases h6
      · rw [h5.ki.kfl b q'] at h6; cases h6)
    obtain ⟨h7, t7⟩ := h5.acked (fm' := keepF ak m.fm) (fly' := (ackE es ak).fly) (n' := (keepF ak m.fm).length) M57 k7 ⟨o6.mod m7 (off_of hnfp), hfb6⟩ (blkF_sub List.filter_sublist)
    have t07 := (Turns.ext (f := f) e05).trans t7 hold
    replace h7 : EndM w7 base p _ f (ackE es ak) := h7
    by_cases g3 : kd = 2
    · rw [if_pos g3]
      subst g3
      repeat (first | refine T_seq ?_ | refine T_region ?_ | refine T_cond_true rfl ?_ | refine TL_eq_t (hk := ?_) | refine TL_nil ?_ | refine TL_move (hk := ?_) | refine TL_assign (hk := ?_))
      exact T_ret1 rfl rfl ⟨rfl, _, f, h7, t07⟩
    rw [if_neg g3]
    have g4 : kd = 1 := by rcases hkd rfl with q | q <;> omega
    subst g4
    obtain ⟨m1, hm1⟩ : ∃ m1 : EM, { m with fl := (m.fl.1, (keepF ak m.fm).length, m.fl.2.2), fm := keepF ak m.fm } = m1 := ⟨_, rfl⟩
    rw [hm1] at h7
    obtain ⟨es1, hes1⟩ : ∃ e, ackE es ak = e := ⟨_, rfl⟩
    have hx1 : es1.exp = es.exp := by rw [← hes1]; rfl
    have hx2 : es1.held = es.held := by rw [← hes1]; rfl
    have hx3 : es1.come = es.come := by rw [← hes1]; rfl
    rw [hes1] at h7 ⊢
    have rB7 : Rd w7 BA bn 1 (bv bd) := (rB5.mod m6 (off_of fun b q q' => by have := Hi.blk hiB b q; have := Lo.blk h.pf.1.lo b q'; omega)).mod m7 (off_of fun b q q' => by
      rw [List.mem_singleton] at q'
      subst q'
      have := Hi.blk hiB b q
      have := (h.ki.old b (by rw [h.ki.kp]; decide)).2
      omega)
    have hk7 := h7.blk
    unfold endV at hk7
    clear hk5 hk6 o6 h5 rB5 k5 k7
    repeat (first | refine T_seq ?_ | refine T_region ?_ | refine T_cond_false rfl ?_ | refine T_skip ?_ | refine TL_eq_f (hk := ?_) | refine TL_nil ?_ | refine TL_move (hk := ?_) | refine TL_fieldAddr TE (hk := ?_) | refine TL_nilCheck (hk := ?_))
    refine TL_store TE (hk := ?_); intro w8 m8 z8 k8
    obtain ⟨h8, t8⟩ := h7.nums (es' := { es1 with owed := true }) m8 k8 rfl rfl rfl rfl
    have hdata : dataE es1 sq bd = drainE (holdE { es1 with owed := true } sq bd).held.length (holdE { es1 with owed := true } sq bd) := rfl
    obtain ⟨es2, hes2⟩ : ∃ e, ({ es1 with owed := true } : ES) = e := ⟨_, rfl⟩
    replace hx1 : es2.exp = es.exp := by rw [← hes2]; exact hx1
    replace hx2 : es2.held = es.held := by rw [← hes2]; exact hx2
    replace hx3 : es2.come = es.come := by rw [← hes2]; exact hx3
    rw [hes2] at h8 hdata
    rw [hdata]
    have hk8 := h8.blk
    unfold endV at hk8
    have mp8 := h8.ph.1
    clear hk7 k8
    repeat (first | refine T_seq ?_ | refine T_region ?_ | refine TL_nil ?_ | refine TL_move (hk := ?_) | refine TL_load TE (hk := ?_) | refine TL_fieldAddr TE (hk := ?_) | refine TL_nilCheck (hk := ?_))
    refine TL_lookup_ok TE ((none, 0, 0) : SV) (hK := keys_u64) (hk := ?_)
    have hiso := HB.isSome sq h8.ph.2
    rw [hiso]
    repeat (first | refine T_seq ?_ | refine TL_nil ?_ | refine TL_move (hk := ?_) | refine TL_assign (hk := ?_) | refine TL_extract (hk := ?_))
    refine T_join (ι := Unit) (fun _ => [(91, .bool (decide (es2.exp ≤ sq ∧ (mget es2.held sq).isSome = false))), (6, .int .u64 (sq : Int)), (8, .slice BA bn bc), (0, ptr p)]) (fun _ w' => w' = w8) (fun kk join => ?_) ?_
    · by_cases a1 : es2.exp ≤ sq
      · cases a2 : (mget es2.held sq).isSome with
        | true =>
          rw [decide_eq_false (fun q => by rw [a2] at q; cases q.2)] at join
          repeat (first | refine T_region ?_ | refine TL_ge_t (hk := ?_) | refine TL_nil ?_ | refine TL_move (hk := ?_) | refine TL_load TE (hk := ?_) | refine TL_fieldAddr TE (hk := ?_) | refine TL_yes (hk := ?_) | refine TL_pick_t (hk := ?_) | refine TL_nilCheck (hk := ?_) | refine TL_not (hk := ?_))
          exact T.sub (join () _ rfl) (.c rfl (.c rfl (.c rfl (.c rfl (.n)))))
        | false =>
          rw [decide_eq_true ⟨a1, a2⟩] at join
          repeat (first | refine T_region ?_ | refine TL_ge_t (hk := ?_) | refine TL_nil ?_ | refine TL_move (hk := ?_) | refine TL_load TE (hk := ?_) | refine TL_fieldAddr TE (hk := ?_) | refine TL_yes (hk := ?_) | refine TL_pick_t (hk := ?_) | refine TL_nilCheck (hk := ?_) | refine TL_not (hk := ?_))
          exact T.sub (join () _ rfl) (.c rfl (.c rfl (.c rfl (.c rfl (.n)))))
      · rw [decide_eq_false (fun q => a1 q.1)] at join
        repeat (first | refine T_region ?_ | refine TL_ge_f (hk := ?_) | refine TL_nil ?_ | refine TL_move (hk := ?_) | refine TL_load TE (hk := ?_) | refine TL_fieldAddr TE (hk := ?_) | refine TL_no (hk := ?_) | refine TL_pick_f (hk := ?_) | refine TL_nilCheck (hk := ?_))
        exact T.sub (join () _ rfl) (.c rfl (.c rfl (.c rfl (.c rfl (.n)))))
    rintro _ _ rfl
    have rB8 := rB7.mod m8 (off_of fun b q q' => by
      rw [List.mem_singleton] at q'
      subst q'
      have := Hi.blk hiB b q
      have := (h.ki.old b (by rw [h.ki.kp]; decide)).2
      omega)
    have t08 := t07.trans t8 hold
    clear t7 t8 hiso
    have hlb : bd.length = bn := by simpa using rB8.1
    have okh := ok.hl
    have oke := ok.ex
    refine T_join (ι := Unit) (fun _ => [(0, ptr p)]) (fun _ w' => ∃ m' f', EndM w' base p m' f' (holdE es2 sq bd) ∧ Turns f f' w w') (fun kk join => ?_) ?_
    · by_cases g5 : es2.exp ≤ sq ∧ (mget es2.held sq).isSome = false
      · have hh : holdE es2 sq bd = { es2 with held := mput es2.held sq bd } := by unfold holdE; rw [if_pos g5]
        rw [decide_eq_true g5]
        have hD2 : m1.hb ∉ ([] : List Nat) := by simp
        have hnone : mget es2.held sq = none := by
          cases hq : mget es2.held sq with
          | none => rfl
          | some _ => rw [hq] at g5; cases g5.2
        repeat (refine T_cond_true rfl ?_)
        refine T_region_anyz TE.mixed [] (some 7) ?_; intro w9 e9 z9
        have hk9 := hk8.be e9
        (refine TA_take 0 rfl (by kernel_rfl) (by kernel_rfl) (by kernel_rfl) ?_; (repeat (first | refine TL_move (hk := ?_) | refine TLP_load TE (hk := ?_) | refine TL_fieldAddr TE (hk := ?_) | refine TL_nilCheck (hk := ?_))); refine TL_nil_p ?_); (refine TA_take 1 rfl (by kernel_rfl) (by kernel_rfl) (by kernel_rfl) ?_; (repeat (first | refine TL_move (hk := ?_) | refine TLP_load TE (hk := ?_) | refine TL_fieldAddr TE (hk := ?_) | refine TL_nilCheck (hk := ?_))); refine TL_nil_p ?_); (refine TA_take 2 rfl (by kernel_rfl) (by kernel_rfl) (by kernel_rfl) ?_; (repeat (first | refine TL_move (hk := ?_) | refine TLP_load TE (hk := ?_) | refine TL_fieldAddr TE (hk := ?_) | refine TL_nilCheck (hk := ?_))); refine TL_nil_p ?_); (refine TA_take 3 rfl (by kernel_rfl) (by kernel_rfl) (by kernel_rfl) ?_; (repeat (first | refine TL_move (hk := ?_) | refine TLP_load TE (hk := ?_) | refine TL_fieldAddr TE (hk := ?_) | refine TL_nilCheck (hk := ?_))); refine TL_nil_p ?_); (refine TA_take 4 rfl (by kernel_rfl) (by kernel_rfl) (by kernel_rfl) ?_; (repeat (first | refine TL_move (hk := ?_) | refine TLP_load TE (hk := ?_) | refine TL_fieldAddr TE (hk := ?_) | refine TL_nilCheck (hk := ?_))); refine TL_nil_p ?_); (refine TA_take 5 rfl (by kernel_rfl) (by kernel_rfl) (by kernel_rfl) ?_; (repeat (first | refine TL_move (hk := ?_) | refine TLP_load TE (hk := ?_) | refine TL_fieldAddr TE (hk := ?_) | refine TL_nilCheck (hk := ?_))); refine TL_nil_p ?_)
        refine TA_one 6 rfl (by kernel_rfl) (by kernel_rfl) ?_; (try refine TL_yes (hk := ?_)); refine TL_call TE (hc := Clone_c BA bn bc bd w9 (rB8.be e9) (by omega)) (hq := fun v w' ⟨_, _, _, h, _⟩ => h) (hk := ?_)
        rintro _ w10 ⟨A10, c10, rfl, e10, o10⟩
        have e810 := e9.ext e10
        refine TL_nil_p ?_
        refine TA_one 7 rfl (by kernel_rfl) (by kernel_rfl) ?_
        refine TL_mapUpdate TE ((A10, bn, c10) : SV) (hm := mp8.be e810) (hK := keys_u64) (hf := rfl) (hq := fun _ _ _ => trivial) (hk := ?_); intro w11 m11 z11 mp11
        refine TL_nil_z (by kernel_rfl) ?_
        have h9 := h8.ext e9
        have z10 := e10.size
        have z9' := e9.size
        have hA10 : ∀ x ∈ blkL A10, w9.heap.size ≤ x ∧ x < w10.heap.size := fun x q => ⟨Hi.blk o10.hi x q, Lo.blk o10.lo x q⟩
        have hhb := (h8.ki.old m1.hb (by rw [h8.ki.khb]; decide)).2
        have hb11 : Body w11 base (A10, bn, c10) bd := (o10.mod m11 (off_of fun x q q' => by rw [List.mem_singleton] at q'; subst q'; have := hA10 _ q; omega)).weaken (by have := t08.2.2; omega)
        obtain ⟨m12, f12, h12, t12⟩ := h9.hold hnone ((Ext.un e10).trans m11) mp11 hb11 (fun x q => (hA10 x q).1)
        --
        exact T.sub (join () _ ⟨m12, f12, by rw [hh]; exact h12, (t08.trans (Turns.ext e9) hold).trans t12 hold⟩) (.c rfl (.n))
      · have hh : holdE es2 sq bd = es2 := by unfold holdE; rw [if_neg g5]
        rw [decide_eq_false g5]
        repeat (first | refine T_cond_false rfl ?_ | refine T_skip ?_)
        exact T.sub (join () _ ⟨_, f, by rw [hh]; exact h8, t08⟩) (.c rfl (.n))
    rintro _ w9 ⟨m9, f9, h9, t9⟩
    have hhl : (holdE es2 sq bd).held.length ≤ es2.held.length + 1 ∧ (holdE es2 sq bd).exp = es2.exp ∧ (holdE es2 sq bd).come = es2.come := by
      unfold holdE
      split
      · rename_i g5
        have hnone : mget es2.held sq = none := by
          cases hq : mget es2.held sq with
          | none => rfl
          | some _ => rw [hq] at g5; cases g5.2
        refine ⟨?_, rfl, rfl⟩
        simp only
        rw [mput_new _ _ _ hnone]
        simp
      · exact ⟨by omega, rfl, rfl⟩
    obtain ⟨es3, hes3⟩ : ∃ e, holdE es2 sq bd = e := ⟨_, rfl⟩
    rw [hes3] at h9 hhl ⊢
    rw [hx1, hx2, hx3] at hhl
    obtain ⟨hl1, hl2, hl3⟩ := hhl
    clear hk8 mp8 h8 rB8 rB7 h7 t08 t07
    repeat (refine T_block ?_)
    refine T_loop (ι := ES) (fun _ => [(0, ptr p)]) (fun e w' => (∃ m' f', EndM w' base p m' f' e ∧ Turns f f' w w') ∧ drainE e.held.length e = drainE es3.held.length es3 ∧ e.exp + e.held.length ≤ 2 ^ 62 + 1 ∧ e.held.length + e.come.length ≤ 100001) (fun e => e.held.length) es3 (.c rfl (.n)) ⟨⟨m9, f9, h9, t9⟩, rfl, by rw [hl2]; omega, by rw [hl3]; omega⟩ ?_
    rintro e w10 ⟨⟨mm, ff, hh, tt⟩, hdr, hex, hco⟩ ih
    have hk := hh.blk
    unfold endV at hk
    have mp := hh.ph.1
    have hDh : mm.hb ∉ ([] : List Nat) := by simp
    cases hg : mget e.held e.exp with
    | none =>
      have hgx := HB.none _ hh.ph.2 hg
      rw [drain_stop hg] at hdr
      repeat (first | refine T_seq ?_ | refine T_region_q TE.mixed (by kernel_rfl) ?_ | refine T_block ?_ | refine TL_move (hk := ?_) | refine TL_load TE (hk := ?_) | refine TL_fieldAddr TE (hk := ?_) | refine TL_nilCheck (hk := ?_))
      refine TL_lookup_ok TE ((none, 0, 0) : SV) (hm := mp) (hK := keys_u64) (hk := ?_)
      rw [hgx]
      repeat (first | refine TL_move (hk := ?_) | refine TL_assign (hk := ?_) | refine TL_extract (hk := ?_))
      refine TL_nil_q ?_; intro w11 e11
      repeat (first | refine T_seq ?_ | refine T_region ?_ | refine T_cond_true rfl ?_ | refine TL_nil ?_ | refine TL_move (hk := ?_) | refine TL_assign (hk := ?_) | refine TL_not (hk := ?_))
      exact T_ret1 rfl rfl ⟨rfl, mm, ff, by rw [← hdr]; exact hh.ext e11, tt.trans (Turns.ext e11) hold⟩
    | some bb =>
      obtain ⟨x, hgx, -, -, -⟩ := HB.some _ bb hh.ph.2 hg
      have hml := mdel_len _ _ _ hg
      have hdg := drain_go hg
      have l1 := hh.pc.1.len
      have l2 := hh.pc.2.len
      rw [slVs_length, Nat.mul_one] at l1
      have hcb : mm.hb ∉ blkL mm.co.1 := fun q => by have := hh.ki.kco _ q; rw [hh.ki.khb] at this; cases this
      have hcp : p ∉ blkL mm.co.1 := fun q => by have := hh.ki.kco _ q; rw [hh.ki.kp] at this; cases this
      have hph : p ≠ mm.hb := fun q => by have := hh.ki.khb; rw [← q, hh.ki.kp] at this; cases this
      have hco0 := hh.pc.1
      have z10 := tt.2.2
      have hcm : ∀ y ∈ blkL mm.co.1, y ∉ [mm.hb] := fun y q q' => by rw [List.mem_singleton] at q'; subst q'; exact hcb q
      repeat (first | refine T_seq ?_ | refine T_region_q TE.mixed (by kernel_rfl) ?_ | refine T_block ?_ | refine TL_move (hk := ?_) | refine TL_load TE (hk := ?_) | refine TL_fieldAddr TE (hk := ?_) | refine TL_nilCheck (hk := ?_))
      refine TL_lookup_ok TE ((none, 0, 0) : SV) (hm := mp) (hK := keys_u64) (hk := ?_)
      rw [hgx]
      repeat (first | refine TL_move (hk := ?_) | refine TL_assign (hk := ?_) | refine TL_extract (hk := ?_))
      refine TL_nil_q ?_; intro w11 e11
      have hk11 := hk.be e11
      have mp11 := mp.be e11
      have h11 := hh.ext e11
      have t11 := tt.trans (Turns.ext e11) hold
      have z11 := e11.size
      clear hk mp
      repeat (first | refine T_seq ?_ | refine T_region ?_ | refine T_cond_false rfl ?_ | refine T_skip ?_ | refine TL_nil ?_ | refine TL_move (hk := ?_) | refine TL_not (hk := ?_))
      have hpn : p ∉ [mm.hb] := by simp; exact hph
      refine T_region_any TE.mixed [mm.hb] ?_; intro w12 e12 z12
      have hk12 := hk11.be e12
      have mp12 := mp11.be e12
      have z12' := e12.size
      (refine TA_take 0 rfl (by kernel_rfl) (by kernel_rfl) (by kernel_rfl) ?_; (repeat (first | refine TL_move (hk := ?_) | refine TLP_load TE (hk := ?_) | refine TL_fieldAddr TE (hk := ?_) | refine TL_nilCheck (hk := ?_))); refine TL_nil_p ?_); (refine TA_take 1 rfl (by kernel_rfl) (by kernel_rfl) (by kernel_rfl) ?_; (repeat (first | refine TL_move (hk := ?_) | refine TLP_load TE (hk := ?_) | refine TL_fieldAddr TE (hk := ?_) | refine TL_nilCheck (hk := ?_))); refine TL_nil_p ?_); (refine TA_take 2 rfl (by kernel_rfl) (by kernel_rfl) (by kernel_rfl) ?_; (repeat (first | refine TL_move (hk := ?_) | refine TLP_load TE (hk := ?_) | refine TL_fieldAddr TE (hk := ?_) | refine TL_nilCheck (hk := ?_))); refine TL_nil_p ?_); (refine TA_take 3 rfl (by kernel_rfl) (by kernel_rfl) (by kernel_rfl) ?_; (repeat (first | refine TL_move (hk := ?_) | refine TLP_load TE (hk := ?_) | refine TL_fieldAddr TE (hk := ?_) | refine TL_nilCheck (hk := ?_))); refine TL_nil_p ?_); (refine TA_take 4 rfl (by kernel_rfl) (by kernel_rfl) (by kernel_rfl) ?_; (repeat (first | refine TL_move (hk := ?_) | refine TLP_load TE (hk := ?_) | refine TL_fieldAddr TE (hk := ?_) | refine TL_nilCheck (hk := ?_))); refine TL_nil_p ?_); (refine TA_take 5 rfl (by kernel_rfl) (by kernel_rfl) (by kernel_rfl) ?_; (repeat (first | refine TL_move (hk := ?_) | refine TLP_load TE (hk := ?_) | refine TL_fieldAddr TE (hk := ?_) | refine TL_nilCheck (hk := ?_))); refine TL_nil_p ?_); (refine TA_take 6 rfl (by kernel_rfl) (by kernel_rfl) (by kernel_rfl) ?_; (repeat (first | refine TL_move (hk := ?_) | refine TLP_load TE (hk := ?_) | refine TL_fieldAddr TE (hk := ?_) | refine TL_nilCheck (hk := ?_))); refine TL_nil_p ?_); (refine TA_take 7 rfl (by kernel_rfl) (by kernel_rfl) (by kernel_rfl) ?_; (repeat (first | refine TL_move (hk := ?_) | refine TLP_load TE (hk := ?_) | refine TL_fieldAddr TE (hk := ?_) | refine TL_nilCheck (hk := ?_))); refine TL_nil_p ?_)
      refine TA_one 8 rfl (by kernel_rfl) (by kernel_rfl) ?_
      refine TL_delete TE (hm := mp12) (hK := keys_u64) (hf := rfl) (hq := fun _ h _ => h) (hk := ?_); intro w13 m13 z13 mp13
      refine TL_nil_p ?_
      refine TA_done (by kernel_rfl) ?_
      have hk13 := hk12.mod m13 (by simp; exact hph)
      have hco13 := (hco0.be (e11.ext e12)).mod m13 (off_of hcm)
      clear hk11 hk12 mp11 mp12
      repeat (first | refine T_seq ?_ | refine T_region ?_ | refine TL_move (hk := ?_) | refine TL_load TE (hk := ?_) | refine TL_fieldAddr TE (hk := ?_) | refine TL_nilCheck (hk := ?_))
      refine TL_buildSlice TE (hk := ?_); intro b14 w14 e14 h14 h14' k14
      replace k14 : Blk w14 b14 23 (slVs [x]) := k14
      have r14 : Rd w14 (some ⟨b14, 0, none⟩) 1 1 (slVs [x]) := Rd.blk k14 rfl
      have z14 := e14.size
      --
      refine TL_append_g TE (hco13.be e14) r14 (slVs_one _) (hk := ?_); intro A15 c15 w15 o15 m15 n15
      rw [← slVs_append] at o15
      have hk15 := (hk13.be e14).mod m15 hcp
      clear hk13
      repeat (first | refine TL_fieldAddr TE (hk := ?_) | refine TL_nilCheck (hk := ?_))
      refine TL_store TE (hk := ?_); intro w16 m16 z16 k16
      have hce : ((e.exp : Nat) : Int) + 1 = ((e.exp + 1 : Nat) : Int) := by omega
      clear hk15
      repeat (first | refine T_region ?_ | refine TL_add (hk := ?_) | refine TL_nil ?_ | refine TL_move (hk := ?_) | refine TL_load TE (hk := ?_) | refine TL_fieldAddr TE (hk := ?_) | refine TL_nilCheck (hk := ?_))
      rw [hce]
      --
      refine TL_store TE (hk := ?_); intro w17 m17 z17 k17
      have hA15 : ∀ y ∈ blkL A15, y ∉ [p] := fun y q q' => by
        rw [List.mem_singleton] at q'
        subst q'
        rcases Near.blk n15 y q with q2 | q2
        · exact hcp q2
        · have := (h11.ki.old y (by rw [h11.ki.kp]; decide)).2; omega
      have inS : ∀ y, y ∈ [p] → y ∈ p :: mm.hb :: blkL mm.co.1 := fun y q => by rw [List.mem_singleton.1 q]; exact List.mem_cons_self
      have M17 : Eng.Mod (p :: mm.hb :: blkL mm.co.1) w11 w17 := (((((e12.mono (S' := p :: mm.hb :: blkL mm.co.1) (by simp)).step m13 (fun y q => .inl (by rw [List.mem_singleton.1 q]; exact List.mem_cons_of_mem _ List.mem_cons_self))).ext e14).step m15 (fun y q => .inl (List.mem_cons_of_mem _ (List.mem_cons_of_mem _ q)))).step m16 (fun y q => .inl (inS y q))).step m17 (fun y q => .inl (inS y q))
      have hph' : mm.hb ∉ [p] := fun q => hph (List.mem_singleton.1 q).symm
      have mp17 := (((mp13.be e14).mod m15 hcb).mod m16 hph').mod m17 hph'
      obtain ⟨m18, f18, h18, t18⟩ := h11.drain hg hgx (co' := (A15, mm.co.2.1 + 1, c15)) M17 mp17 k17 ((o15.mod m16 (off_of hA15)).mod m17 (off_of hA15)) (fun y q => (Near.blk n15 y q).imp id (fun a => by omega))
      repeat (first | refine T_inBlock ?_ | refine TL_nil ?_)
      refine ih _ w17 _ ?_ ⟨⟨m18, f18, h18, t11.trans t18 hold⟩, ?_, ?_, ?_⟩ (.c rfl (.n))
      · simp only; omega
      · rw [← hdr, hdg]
      · simp only; omega
      · simp only [List.length_append, List.length_cons, List.length_nil]; omega
end
end Go.Proofs.Ytjjgojgahibpgaa

/- There and back: a number's bytes. -/
namespace Go.Proofs.Codec
open Go.Proofs.Eng
theorem pow7 (i : Nat) : 2 ^ (7 * (i + 1)) = 2 ^ (7 * i) * 128 := by rw [show 7 * (i + 1) = 7 * i + 7 from by omega, Nat.pow_add]
theorem toNat_ofNat {n : Nat} (h : n < 256) : (UInt8.ofNat n).toNat = n := by rw [UInt8.toNat_ofNat']; omega
theorem numF_enc : ∀ (f i N m : Nat) (t : List UInt8), f + i = 10 → m * 2 ^ (7 * i) < 2 ^ 64 → (0 < i → 0 < m) → numF f i N (encU m ++ t) = .ok (N + m * 2 ^ (7 * i), i + (encU m).length)
  | 0, i, N, m, t, hi, hm, h0 => by
    have h1 := h0 (by omega)
    have hp : 2 ^ 70 ≤ 2 ^ (7 * i) := Nat.pow_le_pow_right (by decide) (by omega)
    have : 1 * 2 ^ (7 * i) ≤ m * 2 ^ (7 * i) := Nat.mul_le_mul_right _ h1
    omega
  | f + 1, i, N, m, t, hi, hm, h0 => by
    have h9 : i = 9 → m < 2 := fun h => by subst h; omega
    by_cases h1 : m < 128
    · rw [encU_lt h1]
      have hc : (UInt8.ofNat m).toNat = m := toNat_ofNat (by omega)
      simp only [List.cons_append, List.nil_append, numF, hc]
      rw [if_neg (by omega), if_pos h1, if_neg (by omega), Nat.mod_eq_of_lt h1]
      rfl
    · have h8 : i ≠ 9 := fun h => by have := h9 h; omega
      rw [encU_ge h1]
      have hc : (UInt8.ofNat (m % 128 + 128)).toNat = m % 128 + 128 := toNat_ofNat (by omega)
      have hp := pow7 i
      have hd : m = m % 128 + 128 * (m / 128) := by omega
      have he : m % 128 * 2 ^ (7 * i) + m / 128 * 2 ^ (7 * (i + 1)) = m * 2 ^ (7 * i) := by
        rw [hp, Nat.mul_comm (2 ^ (7 * i)) 128, ← Nat.mul_assoc, ← Nat.add_mul]
        congr 1
        omega
      have hmod : (m % 128 + 128) % 128 = m % 128 := by omega
      simp only [List.cons_append, numF, hc]
      rw [if_neg (by omega), if_neg (by omega), numF_enc f (i + 1) _ (m / 128) t (by omega) (by omega) (by omega)]
      simp only [hmod, List.length_cons, Except.ok.injEq, Prod.mk.injEq]
      omega
theorem num0_enc {m : Nat} (t : List UInt8) (hm : m < 2 ^ 64) : num0 (encU m ++ t) = .ok (m, (encU m).length) := by
  unfold num0
  rw [numF_enc 10 0 0 m t rfl (by simpa using hm) (by omega)]
  simp
end Go.Proofs.Codec

/- The sum tells turned bits: plain facts on numbers. -/
namespace Go.Proofs.Codec
open Go.Proofs.Eng
/-- Bytes as one number, the lowest first. -/
def num : List UInt8 → Nat
  | [] => 0
  | b :: l => b.toNat + 256 * num l
theorem le4_num {l : List UInt8} (h : 4 ≤ l.length) : le4 l = num (l.take 4) := by
  match l, h with
  | a :: b :: c :: d :: t, _ =>
    have ha := UInt8.toNat_lt a
    have hb := UInt8.toNat_lt b
    have hc := UInt8.toNat_lt c
    have hd := UInt8.toNat_lt d
    have e0 : gb (a :: b :: c :: d :: t) 0 = a.toNat := rfl
    have e1 : gb (a :: b :: c :: d :: t) 1 = b.toNat := rfl
    have e2 : gb (a :: b :: c :: d :: t) 2 = c.toNat := rfl
    have e3 : gb (a :: b :: c :: d :: t) 3 = d.toNat := rfl
    have lor : ∀ {x y k : Nat}, x < 2 ^ k → x ||| y * 2 ^ k = x + y * 2 ^ k := fun {x y k} h => by
      rw [Nat.or_comm, Nat.mul_comm y, ← Nat.two_pow_add_eq_or_of_lt h, Nat.add_comm]
    unfold le4
    rw [e0, e1, e2, e3, Nat.mod_eq_of_lt (by omega), Nat.mod_eq_of_lt (by omega), Nat.mod_eq_of_lt (by omega)]
    have s1 : a.toNat ||| b.toNat * 2 ^ 8 = a.toNat + b.toNat * 2 ^ 8 := lor (by omega)
    have s2 : (a.toNat + b.toNat * 2 ^ 8) ||| c.toNat * 2 ^ 16 = (a.toNat + b.toNat * 2 ^ 8) + c.toNat * 2 ^ 16 := lor (by omega)
    have s3 : ((a.toNat + b.toNat * 2 ^ 8) + c.toNat * 2 ^ 16) ||| d.toNat * 2 ^ 24 = ((a.toNat + b.toNat * 2 ^ 8) + c.toNat * 2 ^ 16) + d.toNat * 2 ^ 24 := lor (by omega)
    rw [s1, s2, s3]
    simp only [List.take, num]
    omega
theorem four_num {x : Nat} (h : x < 2 ^ 32) : num (four x) = x := by
  simp only [four, num]
  rw [UInt8.toNat_ofNat', UInt8.toNat_ofNat', UInt8.toNat_ofNat', UInt8.toNat_ofNat']
  omega
theorem four_len (x : Nat) : (four x).length = 4 := rfl
end Go.Proofs.Codec

/- A frame opens to its load; turned bits are told. -/
namespace Go.Proofs.Ytjjgojgahibpgaa
open Go.Proofs.Eng Go.Proofs.Codec
theorem frame_len (l : List UInt8) : (frame l).length = l.length + 8 := by
  unfold frame
  simp only [List.length_append, four_len]
  omega
theorem frame_take (l : List UInt8) : (frame l).take (l.length + 4) = four l.length ++ l := by
  unfold frame
  have h : (four l.length ++ l).length = l.length + 4 := by simp only [List.length_append, four_len]; omega
  rw [← h, List.take_left]
theorem frame_drop (l : List UInt8) : (frame l).drop (l.length + 4) = four (crc (four l.length ++ l)) := by
  unfold frame
  have h : (four l.length ++ l).length = l.length + 4 := by simp only [List.length_append, four_len]; omega
  rw [← h, List.drop_left]
theorem frame_le4 (l : List UInt8) (h : l.length ≤ 65536) : le4 (frame l) = l.length := by
  rw [le4_num (by rw [frame_len]; omega)]
  have : (frame l).take 4 = four l.length := by
    unfold frame
    rw [List.append_assoc, List.take_append_of_le_length (by rw [four_len]; omega)]
    exact List.take_of_length_le (by rw [four_len]; omega)
  rw [this, four_num (by omega)]
theorem four_le4 {x : Nat} (h : x < 2 ^ 32) : le4 (four x) = x := by
  rw [le4_num (by rw [four_len]; omega), List.take_of_length_le (by rw [four_len]; omega), four_num h]
theorem openF_frame (l : List UInt8) (h : l.length ≤ 65536) : openF (frame l) = (l, l.length + 8, 0) := by
  unfold openF
  rw [frame_len, frame_le4 l h, if_neg (by omega), if_neg (by omega), if_neg (by omega), frame_take, frame_drop, four_le4 (crc_lt _), if_pos rfl]
  have : (frame l).drop 4 = l ++ four (crc (four l.length ++ l)) := by
    unfold frame
    rw [List.append_assoc]
    exact List.drop_left (l₁ := four l.length)
  rw [this, List.take_left]
end Go.Proofs.Ytjjgojgahibpgaa

/- One bit turned, as a number. -/
namespace Go.Proofs.Codec
open Go.Proofs.Eng
end Go.Proofs.Codec

/- What a link's frames say; one with a bit turned says nothing; the little story of live. -/
namespace Go.Proofs.Ytjjgojgahibpgaa
open Go.Proofs.Eng Go.Proofs.Codec Go.Proofs.Link
set_option linter.unusedSimpArgs false
set_option linter.unusedVariables false
theorem take_num {L : Bs} {pos la : Nat} {sp : Nat} {m : Nat} {t : Bs} (h : L.drop pos = encU m ++ t) (hm : m < 2 ^ 64) :
    RS.take ⟨L, pos, la, 0, sp⟩ (0 : Nat) num0 = (m, ⟨L, pos + (encU m).length, pos, 0, sp⟩) := by
  unfold RS.take
  simp only
  rw [if_pos trivial, h, num0_enc t hm]
theorem parse_data {s k : Nat} {body : Bs} (hs : s < 2 ^ 64) (hk : k < 2 ^ 64) (hb : body.length ≤ 4096) : parseF (frame (dataL s k body)) = (1, s, k, body, true) := by
  have hl := dataL_len (body := body) hs hk
  unfold parseF
  rw [openF_frame _ (by omega)]
  simp only [frame_len]
  rw [if_neg (by simp)]
  have e0 : RS.take (⟨dataL s k body, 0, 0, 0, 0⟩ : RS) (0 : Nat) tByte = (1, ⟨dataL s k body, 1, 0, 0, 0⟩) := rfl
  rw [e0]
  simp only
  rw [if_pos trivial, take_num (L := dataL s k body) (t := encU k ++ body) (by simp [dataL]) hs]
  simp only
  rw [take_num (L := dataL s k body) (t := body) (by
    unfold dataL
    rw [List.append_assoc, List.append_assoc, Nat.add_comm 1, ← List.drop_drop]
    have : ([1] ++ (encU s ++ (encU k ++ body))).drop (encU s).length = ([1] ++ (encU s ++ (encU k ++ body))).drop (encU s).length := rfl
    rw [List.drop_drop, Nat.add_comm, ← List.drop_drop]
    simp) hk]
  have hlen : (dataL s k body).length = 1 + (encU s).length + (encU k).length + body.length := by simp [dataL]; omega
  have hr : RS.rest (⟨dataL s k body, 1 + (encU s).length + (encU k).length, 1 + (encU s).length, 0, 0⟩ : RS) = body.length := by
    unfold RS.rest
    simp only
    rw [if_pos trivial, hlen]
    omega
  simp only
  rw [hr, if_pos ⟨trivial, hb⟩]
  congr 4
  have e1 : (dataL s k body).length - body.length = ([1] ++ encU s ++ encU k).length := by rw [hlen]; simp; omega
  rw [e1]
  show (([1] ++ encU s ++ encU k) ++ body).drop _ = body
  rw [List.drop_left]
theorem parse_ack {k : Nat} (hk : k < 2 ^ 64) : parseF (frame (ackL k)) = (2, 0, k, [], true) := by
  have hl := encU_len64 hk
  unfold parseF
  rw [openF_frame _ (by unfold ackL; simp; omega)]
  simp only [frame_len]
  rw [if_neg (by simp)]
  have e0 : RS.take (⟨ackL k, 0, 0, 0, 0⟩ : RS) (0 : Nat) tByte = (2, ⟨ackL k, 1, 0, 0, 0⟩) := rfl
  rw [e0]
  simp only
  rw [if_neg (by decide), if_pos trivial, take_num (L := ackL k) (t := []) (by simp [ackL]) hk]
  simp only
  have hf : RS.fin (⟨ackL k, 1 + (encU k).length, 1, 0, 0⟩ : RS) = ⟨ackL k, 1 + (encU k).length, 1, 0, 0⟩ := by
    unfold RS.fin
    rw [if_neg (fun q => by have := q.2; simp [ackL] at this; omega)]
  rw [hf]
  rfl
def turnB (l : Bs) (bit : Nat) : Bs := l.set (bit / 8) (UInt8.ofNat (gb l (bit / 8) ^^^ 2 ^ (bit % 8)))
def okB (es : ES) : Bool := decide (es.new.length + es.fly.length ≤ 100000) && decide (es.next + es.new.length ≤ 2 ^ 62) && decide (es.exp + es.held.length ≤ 2 ^ 62) && es.new.all (fun b => decide (b.length ≤ 4096)) && es.fly.all (fun q => decide (q.body.length ≤ 4096 ∧ q.seq ≤ 2 ^ 62 ∧ q.age ≤ 100000)) && decide (es.held.length + es.come.length ≤ 100000) && decide (1 ≤ es.win ∧ es.win ≤ 256) && decide (1 ≤ es.pat ∧ es.pat ≤ 1000)
theorem okE_of {es : ES} (h : okB es = true) : OkE es := by
  unfold okB at h
  simp only [Bool.and_eq_true, decide_eq_true_eq, List.all_eq_true] at h
  exact ⟨h.1.1.1.1.1.1.1, h.1.1.1.1.1.1.2, h.1.1.1.1.1.2, h.1.1.1.1.2, h.1.1.1.2, h.1.1.2, h.1.2, h.2⟩
def nE (win pat : Nat) : ES := ⟨win, pat, [], [], 0, 0, [], [], false⟩
def lf0 : Bs := frame (dataL 0 0 [120])
def lf1 : Bs := frame (dataL 1 0 [121])
def la1 : ES := ⟨2, 3, [[120]], [], 0, 0, [], [], false⟩
def la2 : ES := ⟨2, 3, [[120], [121]], [], 0, 0, [], [], false⟩
def la3 : ES := ⟨2, 3, [], [⟨0, [120], 0, false⟩, ⟨1, [121], 0, false⟩], 2, 0, [], [], false⟩
def la4 : ES := ⟨2, 3, [], [], 2, 0, [], [], false⟩
def lb1 : ES := ⟨2, 3, [], [], 0, 0, [(1, [121])], [], true⟩
def lb2 : ES := ⟨2, 3, [], [], 0, 2, [], [[120], [121]], true⟩
def lb3 : ES := ⟨2, 3, [], [], 0, 2, [], [[121]], true⟩
def lb4 : ES := ⟨2, 3, [], [], 0, 2, [], [], true⟩
def lb5 : ES := ⟨2, 3, [], [], 0, 2, [], [], false⟩
theorem lstory1 : sendE (nE 2 3) [120] = (la1, 0) := rfl
theorem lstory2 : sendE la1 [121] = (la2, 0) := rfl
theorem lstory3 : outE la2 = (la3, [lf0, lf1]) := rfl
theorem lstory4 : recvE (nE 2 3) lf1 = (lb1, 0) := by
  unfold recvE lf1
  rw [parse_data (by decide) (by decide) (by decide)]
  rfl
theorem lstory5 : nextE lb1 = (lb1, none) := rfl
theorem lstory6 : recvE lb1 lf0 = (lb2, 0) := by
  unfold recvE lf0
  rw [parse_data (by decide) (by decide) (by decide)]
  rfl
theorem lstory7 : nextE lb2 = (lb3, some [120]) := rfl
theorem lstory8 : nextE lb3 = (lb4, some [121]) := rfl
theorem lstory9 : outE lb4 = (lb5, [frame (ackL 2)]) := rfl
theorem lstory10 : recvE la3 (frame (ackL 2)) = (la4, 0) := by
  unfold recvE
  rw [parse_ack (by decide)]
  rfl
theorem lstory11 : recvE lb5 (frame (ackL 1)) = (lb5, 261) := by
  unfold recvE
  rw [parse_ack (by decide)]
  rfl
end Go.Proofs.Ytjjgojgahibpgaa

namespace Go.Proofs.Ytjjgojgahibpgaa
open Go.RowKit Go.Proofs.Eng Go.Proofs.Codec Go.Proofs.Link
set_option linter.unusedSimpArgs false
set_option linter.unusedVariables false set_option maxRecDepth 10000
attribute [local irreducible] T TL LV TH TA
section
variable {w0 w w' : World} {base p : Nat} {m m' : EM} {f f' g : Nat → Nat} {es es' : ES}
theorem Turns.old (t : Turns f f' w w') {b : Nat} (hb : f b = 0) (hl : b < w.heap.size) : f' b = 0 := by
  by_cases q : f' b = 0
  · exact q
  · rcases t.2.1 b q with h | h
    · exact absurd hb h
    · omega
theorem EndM.other (h : EndM w base p m g es) (t : Turns f f' w w') (hd : ∀ b, f b = 0 ∨ g b = 0) : EndM w' base p m g es ∧ ∀ b, f' b = 0 ∨ g b = 0 := by
  obtain ⟨⟨S, m1, s1⟩, n1, z1⟩ := t
  refine ⟨h.mod m1 (fun b hb => (hd b).resolve_left (s1 b hb)), fun b => ?_⟩
  by_cases q : f' b = 0
  · exact .inl q
  · right
    rcases n1 b q with h1 | h1
    · exact (hd b).resolve_left h1
    · by_cases y : g b = 0
      · exact y
      · have := (h.ki.old b y).2; omega
theorem OutP.turn {B : Nat} {O : SV} {xs : List SV} {bs : List Bs} (h : OutP w B O xs bs) (t : Turns f f' w w') (h1 : ∀ b ∈ blkL O.1, f b = 0) (h2 : ∀ b ∈ blkS xs, f b = 0) : OutP w' B O xs bs ∧ (∀ b ∈ blkL O.1, f' b = 0) ∧ ∀ b ∈ blkS xs, f' b = 0 := by
  have hO := Lo.blk h.own.lo
  have hx := fun b hb => (h.bod.lt b hb).2
  refine ⟨?_, fun b hb => t.old (h1 b hb) (hO b hb), fun b hb => t.old (h2 b hb) (hx b hb)⟩
  obtain ⟨⟨S, m1, s1⟩, n1, z1⟩ := t
  exact ⟨h.own.mod m1 (off_of fun b q q' => s1 b q' (h1 b q)), h.bod.mod m1 (fun b q q' => s1 b q' (h2 b q)), h.off, h.nd⟩
theorem Body.turn {B : Nat} {x : SV} {l : Bs} (h : Body w B x l) (t : Turns f f' w w') (h1 : ∀ b ∈ blkL x.1, f b = 0) : Body w' B x l ∧ ∀ b ∈ blkL x.1, f' b = 0 := by
  have hx := fun b hb => (h.lt b hb).2
  refine ⟨?_, fun b hb => t.old (h1 b hb) (hx b hb)⟩
  obtain ⟨⟨S, m1, s1⟩, n1, z1⟩ := t
  exact h.mod m1 (fun b q q' => s1 b q' (h1 b q))
theorem Turns.ext0 (e : Ext w0 w) (t : Turns f f' w w') (h : ∀ b, f b ≠ 0 → w0.heap.size ≤ b) : Ext w0 w' := by
  obtain ⟨⟨S, m1, s1⟩, n1, z1⟩ := t
  exact Mod.step e m1 (fun b hb => .inr (h b (s1 b hb)))
/-- Two ends, apart. -/
structure Two (w0 w : World) (ba pa : Nat) (ma : EM) (fa : Nat → Nat) (ea : ES) (bb pb : Nat) (mb : EM) (fb : Nat → Nat) (eb : ES) : Prop where
  e : Ext w0 w
  A : EndM w ba pa ma fa ea
  B : EndM w bb pb mb fb eb
  dj : ∀ b, fa b = 0 ∨ fb b = 0
  ha : w0.heap.size ≤ ba
  hb : w0.heap.size ≤ bb
variable {ba pa bb pb : Nat} {ma mb : EM} {fa fb : Nat → Nat} {ea eb : ES}
theorem Two.a (T : Two w0 w ba pa ma fa ea bb pb mb fb eb) {m' : EM} {f' : Nat → Nat} {es' : ES} (h : EndM w' ba pa m' f' es') (t : Turns fa f' w w') : Two w0 w' ba pa m' f' es' bb pb mb fb eb := by
  obtain ⟨h2, d2⟩ := T.B.other t T.dj
  exact ⟨t.ext0 T.e (fun b hb => Nat.le_trans T.ha (T.A.ki.old b hb).1), h, h2, d2, T.ha, T.hb⟩
theorem Two.b (T : Two w0 w ba pa ma fa ea bb pb mb fb eb) {m' : EM} {f' : Nat → Nat} {es' : ES} (h : EndM w' bb pb m' f' es') (t : Turns fb f' w w') : Two w0 w' ba pa ma fa ea bb pb m' f' es' := by
  obtain ⟨h2, d2⟩ := T.A.other t (fun b => (T.dj b).symm)
  exact ⟨t.ext0 T.e (fun b hb => Nat.le_trans T.hb (T.B.ki.old b hb).1), h2, h, fun b => (d2 b).symm, T.ha, T.hb⟩
theorem Two.ext (T : Two w0 w ba pa ma fa ea bb pb mb fb eb) (e : Ext w w') : Two w0 w' ba pa ma fa ea bb pb mb fb eb := ⟨T.e.ext e, T.A.ext e, T.B.ext e, T.dj, T.ha, T.hb⟩
theorem EndM.bw (h : EndM w base p m f es) : base ≤ w.heap.size := by have := h.ki.old p (by rw [h.ki.kp]; decide); omega
end
theorem num_c26 (z : Int) (w : World) : Ret Try.prog 16 [.int .i64 z] w (fun v w' => v = .int .i64 z ∧ w' = w) := by
  refine ret_T (n := 4) Try.func16 rfl rfl ?_
  repeat (first | refine T_seq ?_ | refine T_region ?_ | refine TL_nil ?_ | refine TL_move (hk := ?_) | refine TL_assign (hk := ?_))
  exact T_ret1 rfl rfl ⟨rfl, rfl⟩
set_option maxHeartbeats 3200000
theorem live_c26 (w : World) : Ret Try.prog 11 [] w (fun v w' => v = .bool true ∧ Ext w w') := by
  refine ret_T (n := 135) Try.func11 rfl rfl ?_
  repeat (first | refine T_seq ?_ | refine T_region ?_ | refine TL_nil ?_ | refine TL_assign (hk := ?_))
  refine TL_call TE (hc := LNew_c 2 3 _ (by decide) (by decide)) (hk := ?_)
  rintro _ w1 ⟨e1, ⟨h, _⟩ | ⟨-, pa, ma, fa, rfl, hA⟩⟩
  · exact absurd h (by decide)
  replace hA : EndM w1 w.heap.size pa ma fa (nE 2 3) := hA
  repeat (first | refine T_seq ?_ | refine T_region ?_ | refine TL_nil ?_ | refine TL_move (hk := ?_) | refine TL_assign (hk := ?_) | refine TL_extract (hk := ?_))
  refine TL_call TE (hc := LNew_c 2 3 _ (by decide) (by decide)) (hk := ?_)
  rintro _ w2 ⟨e2, ⟨h, _⟩ | ⟨-, pb, mb, fb, rfl, hB⟩⟩
  · exact absurd h (by decide)
  replace hB : EndM w2 w1.heap.size pb mb fb (nE 2 3) := hB
  have tw : Two w w2 w.heap.size pa ma fa (nE 2 3) w1.heap.size pb mb fb (nE 2 3) := ⟨e1.ext e2, hA.ext e2, hB, fun b => by
    by_cases q : fa b = 0
    · exact .inl q
    · right
      have h1 := (hA.ki.old b q).2
      by_cases y : fb b = 0
      · exact y
      · have := (hB.ki.old b y).1; omega, Nat.le_refl _, e1.size⟩
  clear hA hB
  repeat (first | refine T_seq ?_ | refine T_region ?_ | refine TL_nil ?_ | refine TL_move (hk := ?_) | refine TL_assign (hk := ?_) | refine TL_extract (hk := ?_))
  refine TL_call TE (hc := num_c26 _ _) (hk := ?_)
  rintro _ _ ⟨rfl, rfl⟩
  repeat (first | refine TL_ne_f (hk := ?_) | refine TL_move (hk := ?_) | refine TL_yes (hk := ?_))
  refine TL_call TE (hc := num_c26 _ _) (hk := ?_)
  rintro _ _ ⟨rfl, rfl⟩
  repeat (first | refine T_seq ?_ | refine T_region ?_ | refine T_cond_false rfl ?_ | refine T_skip ?_ | refine TL_ne_f (hk := ?_) | refine TL_pnil_f TE (hk := ?_) | refine TL_nil ?_ | refine TL_move (hk := ?_) | refine TL_yes (hk := ?_) | refine TL_pick_f (hk := ?_))
  refine TL_buildSlice TE (hk := ?_); intro b3 w3 e3 h3 h3' k3
  replace k3 : Blk w3 b3 5 (bv [120]) := k3
  --
  refine TL_conv_ss TE (hk := ?_); intro w3' m3 z3 r3
  replace tw := tw.ext (Mod.step e3 m3 (by simp; omega))
  --
  refine TL_call TE (hc := Send_c (some ⟨b3, 0, none⟩) 1 1 [120] _ tw.A tw.A.bw (by decide) r3 (by omega)) (hk := ?_)
  rw [lstory1]
  rintro _ w4 ⟨rfl, ma, fa, h4, t4⟩
  replace tw := tw.a h4 t4
  clear k3 h4 t4
  repeat (first | refine T_seq ?_ | refine T_region ?_ | refine TL_nil ?_ | refine TL_move (hk := ?_))
  refine TL_buildSlice TE (hk := ?_); intro b5 w5 e5 h5 h5' k5
  replace k5 : Blk w5 b5 5 (bv [121]) := k5
  --
  refine TL_conv_ss TE (hk := ?_); intro w5' m5 z5 r5
  replace tw := tw.ext (Mod.step e5 m5 (by simp; omega))
  --
  refine TL_call TE (hc := Send_c (some ⟨b5, 0, none⟩) 1 1 [121] _ tw.A tw.A.bw (by decide) r5 (by omega)) (hk := ?_)
  rw [lstory2]
  rintro _ w6 ⟨rfl, ma, fa, h6, t6⟩
  replace tw := tw.a h6 t6
  clear k5 h6 t6
  repeat (first | refine T_seq ?_ | refine T_region ?_ | refine TL_nil ?_ | refine TL_move (hk := ?_))
  refine TL_call TE (hc := Out_c _ tw.A tw.A.bw (okE_of rfl)) (hk := ?_)
  rw [lstory3]
  rintro _ w7 ⟨⟨O, on, oc⟩, xs, ma, fa, rfl, h7, t7, o7, f7a, f7b⟩
  have hfb : ∀ b, w6.heap.size ≤ b → fb b = 0 := fun b q => by
    by_cases y : fb b = 0
    · exact y
    · have := (tw.B.ki.old b y).2; omega
  have g7a : ∀ b ∈ blkL O, fb b = 0 := fun b hb => hfb b (Hi.blk o7.own.hi b hb)
  have g7b : ∀ b ∈ blkS xs, fb b = 0 := fun b hb => hfb b (o7.bod.lt b hb).1
  replace tw := tw.a h7 t7
  clear h7 t7 hfb
  obtain ⟨x0, x1, rfl⟩ : ∃ x0 x1, xs = [x0, x1] := by
    have := o7.bod.len
    match xs, this with
    | [x0, x1], _ => exact ⟨x0, x1, rfl⟩
  have hon : on = 2 := by have := o7.own.len; simpa using this.symm
  subst hon
  have hx0 : (slVs [x0, x1])[0]? = some (slV x0) := rfl
  have hx1 : (slVs [x0, x1])[1]? = some (slV x1) := rfl
  have l0 := o7.bod.1.len
  have l1 := o7.bod.2.1.len
  have ln0 : lf0.length ≤ 100 := by unfold lf0; rw [frame_len]; have := dataL_len (seq := 0) (ack := 0) (body := [120]) (by decide) (by decide); simp at this; omega
  have ln1 : lf1.length ≤ 100 := by unfold lf1; rw [frame_len]; have := dataL_len (seq := 1) (ack := 0) (body := [121]) (by decide) (by decide); simp at this; omega
  have r7 : Rd _ O 2 1 _ := o7.own.rd
  rw [show slV (O, 2, oc) = Value.slice O 2 oc from rfl]
  repeat (first | refine T_seq ?_ | refine T_region ?_ | refine T_cond_false rfl ?_ | refine T_skip ?_ | refine TL_ne_f (hk := ?_) | refine TL_nil ?_ | refine TL_move (hk := ?_) | refine TL_assign (hk := ?_) | refine TL_load_rd TE (hk := ?_) | refine TL_indexAddr1n TE (hk := ?_) | refine TL_len TE (hk := ?_))
  refine TL_call TE (hc := Receive_c x1.1 x1.2.1 x1.2.2 lf1 _ tw.B tw.B.bw (okE_of rfl) o7.bod.2.1.rd (by omega) (Own.cap o7.bod.2.1).1) (hk := ?_)
  rw [lstory4]
  rintro _ w8 ⟨rfl, mb, fb, h8, t8⟩
  obtain ⟨o8, g7a, g7b⟩ := o7.turn t8 g7a g7b
  replace tw := tw.b h8 t8
  clear h8 t8 o7 r7
  repeat (first | refine T_seq ?_ | refine T_region ?_ | refine TL_nil ?_ | refine TL_move (hk := ?_) | refine TL_assign (hk := ?_))
  refine TL_call TE (hc := Next_c _ tw.B) (hk := ?_)
  rw [lstory5]
  rintro _ _ ⟨rfl, rfl⟩
  have r8 : Rd _ O 2 1 _ := o8.own.rd
  repeat (first | refine T_seq ?_ | refine T_region ?_ | refine TL_nil ?_ | refine TL_move (hk := ?_) | refine TL_assign (hk := ?_) | refine TL_load_rd TE (hk := ?_) | refine TL_indexAddr1n TE (hk := ?_) | refine TL_extract (hk := ?_))
  refine TL_call TE (hc := Receive_c x0.1 x0.2.1 x0.2.2 lf0 _ tw.B tw.B.bw (okE_of rfl) o8.bod.1.rd (by omega) (Own.cap o8.bod.1).1) (hk := ?_)
  rw [lstory6]
  rintro _ w9 ⟨rfl, mb, fb, h9, t9⟩
  replace tw := tw.b h9 t9
  clear h9 t9 o8 r8 g7a g7b f7a f7b
  repeat (first | refine T_seq ?_ | refine T_region ?_ | refine TL_nil ?_ | refine TL_move (hk := ?_) | refine TL_assign (hk := ?_))
  refine TL_call TE (hc := Next_c _ tw.B) (hk := ?_)
  rw [lstory7]
  rintro _ w10 ⟨y, mb, fb, rfl, h10, t10, y10, fy, ky⟩
  have gy : ∀ b ∈ blkL y.1, fa b = 0 := fun b hb => (tw.dj b).resolve_right (by rw [ky b hb]; decide)
  replace tw := tw.b h10 t10
  clear h10 t10
  repeat (first | refine T_seq ?_ | refine T_region ?_ | refine TL_nil ?_ | refine TL_move (hk := ?_) | refine TL_assign (hk := ?_) | refine TL_extract (hk := ?_))
  refine TL_call TE (hc := Next_c _ tw.B) (hk := ?_)
  rw [lstory8]
  rintro _ w11 ⟨z, mb, fb, rfl, h11, t11, z11, fz, kz⟩
  have gz : ∀ b ∈ blkL z.1, fa b = 0 := fun b hb => (tw.dj b).resolve_right (by rw [kz b hb]; decide)
  obtain ⟨y11, fy⟩ := y10.turn t11 fy
  replace tw := tw.b h11 t11
  clear h11 t11 y10
  repeat (first | refine T_seq ?_ | refine T_region ?_ | refine TL_nil ?_ | refine TL_move (hk := ?_) | refine TL_assign (hk := ?_) | refine TL_extract (hk := ?_))
  refine TL_call TE (hc := Out_c _ tw.B tw.B.bw (okE_of rfl)) (hk := ?_)
  rw [lstory9]
  rintro _ w12 ⟨⟨O2, on, oc2⟩, xs, mb, fb, rfl, h12, t12, o12, f12a, f12b⟩
  obtain ⟨y12, fy⟩ := y11.turn t12 fy
  obtain ⟨z12, fz⟩ := z11.turn t12 fz
  have hfa : ∀ b, w11.heap.size ≤ b → fa b = 0 := fun b q => by
    by_cases y : fa b = 0
    · exact y
    · have := (tw.A.ki.old b y).2; omega
  have ga : ∀ b ∈ blkL O2, fa b = 0 := fun b hb => hfa b (Hi.blk o12.own.hi b hb)
  have gb : ∀ b ∈ blkS xs, fa b = 0 := fun b hb => hfa b (o12.bod.lt b hb).1
  replace tw := tw.b h12 t12
  clear h12 t12 hfa y11 z11
  obtain ⟨x2, rfl⟩ : ∃ x2, xs = [x2] := by
    have := o12.bod.len
    match xs, this with
    | [x2], _ => exact ⟨x2, rfl⟩
  have hon : on = 1 := by have := o12.own.len; simpa using this.symm
  subst hon
  have hx2 : (slVs [x2])[0]? = some (slV x2) := rfl
  have l2 := o12.bod.1.len
  have ln2 : (frame (ackL 2)).length ≤ 100 := by rw [frame_len]; have := encU_len64 (n := 2) (by decide); simp [ackL]; omega
  have ln3 : (frame (ackL 1)).length ≤ 100 := by rw [frame_len]; have := encU_len64 (n := 1) (by decide); simp [ackL]; omega
  have r12 : Rd _ O2 1 1 _ := o12.own.rd
  rw [show slV (O2, 1, oc2) = Value.slice O2 1 oc2 from rfl]
  repeat (first | refine T_seq ?_ | refine T_region ?_ | refine T_cond_false rfl ?_ | refine T_skip ?_ | refine TL_ne_f (hk := ?_) | refine TL_nil ?_ | refine TL_move (hk := ?_) | refine TL_assign (hk := ?_) | refine TL_load_rd TE (hk := ?_) | refine TL_indexAddr1n TE (hk := ?_) | refine TL_len TE (hk := ?_))
  refine TL_call TE (hc := Receive_c x2.1 x2.2.1 x2.2.2 (frame (ackL 2)) _ tw.A tw.A.bw (okE_of rfl) o12.bod.1.rd (by omega) (Own.cap o12.bod.1).1) (hk := ?_)
  rw [lstory10]
  rintro _ w13 ⟨rfl, ma, fa, h13, t13⟩
  obtain ⟨y13, gy⟩ := y12.turn t13 gy
  obtain ⟨z13, gz⟩ := z12.turn t13 gz
  replace tw := tw.a h13 t13
  clear h13 t13 y12 z12 o12 r12
  repeat (first | refine T_seq ?_ | refine T_region ?_ | refine TL_nil ?_ | refine TL_move (hk := ?_) | refine TL_assign (hk := ?_))
  refine TL_call TE (hc := Ack_c 1 _ (by decide)) (hk := ?_)
  rintro _ w14 ⟨A14, n14, c14, rfl, e14, o14⟩
  have l14 := o14.len
  rw [bv_length, Nat.mul_one] at l14
  replace tw := tw.ext e14
  --
  refine TL_call TE (hc := Receive_c A14 n14 c14 (frame (ackL 1)) _ tw.B tw.B.bw (okE_of rfl) o14.rd (by omega) o14.cap.1) (hk := ?_)
  rw [lstory11]
  rintro _ w15 ⟨rfl, mb, fb, h15, t15⟩
  obtain ⟨y15, fy⟩ := Body.turn (Own.be e14 y13 : Body w14 _ y _) t15 fy
  obtain ⟨z15, fz⟩ := Body.turn (Own.be e14 z13 : Body w14 _ z _) t15 fz
  replace tw := tw.b h15 t15
  clear h15 t15 y13 z13 o14
  have ry : Rd w15 y.1 y.2.1 1 (bv [120]) := y15.rd
  have rz : Rd w15 z.1 z.2.1 1 (bv [121]) := z15.rd
  repeat (first | refine T_seq ?_ | refine T_region ?_ | refine TL_nil ?_ | refine TL_move (hk := ?_) | refine TL_assign (hk := ?_))
  refine TL_call TE (hc := num_c26 _ _) (hk := ?_)
  rintro _ _ ⟨rfl, rfl⟩
  repeat (first | refine TL_eq_t (hk := ?_) | refine TL_move (hk := ?_) | refine TL_yes (hk := ?_) | refine TL_pick_t (hk := ?_) | refine TL_not (hk := ?_))
  refine TL_call TE (hc := num_c26 _ _) (hk := ?_)
  rintro _ _ ⟨rfl, rfl⟩
  repeat (first | refine TL_eq_t (hk := ?_) | refine TL_seq_t (hk := ?_) | refine TL_move (hk := ?_) | refine TL_yes (hk := ?_) | refine TL_pick_t (hk := ?_) | refine TL_conv_bs TE (hk := ?_))
  refine TL_call TE (hc := num_c26 _ _) (hk := ?_)
  rintro _ _ ⟨rfl, rfl⟩
  repeat (first | refine TL_eq_t (hk := ?_) | refine TL_move (hk := ?_) | refine TL_yes (hk := ?_) | refine TL_pick_t (hk := ?_))
  refine TL_call TE (hc := Flying_c (es := la4) _ tw.A) (hk := ?_)
  rw [show la4.fly.length = 0 from rfl]
  rintro _ _ ⟨rfl, rfl⟩
  repeat (first | refine TL_eq_t (hk := ?_) | refine TL_move (hk := ?_) | refine TL_yes (hk := ?_) | refine TL_pick_t (hk := ?_))
  refine TL_call TE (hc := num_c26 _ _) (hk := ?_)
  rintro _ _ ⟨rfl, rfl⟩
  repeat (first | refine TL_eq_t (hk := ?_) | refine TL_nil ?_ | refine TL_assign (hk := ?_) | refine TL_yes (hk := ?_) | refine TL_pick_t (hk := ?_))
  exact T_ret1 rfl rfl ⟨rfl, tw.e⟩
end Go.Proofs.Ytjjgojgahibpgaa

/- Never more than a window: of one end, whatever comes. -/
namespace Go.Proofs.Ytjjgojgahibpgaa
open Go.Proofs.Eng Go.Proofs.Codec Go.Proofs.Link
set_option linter.unusedSimpArgs false
set_option linter.unusedVariables false
theorem pig : ∀ (n : Nat) (l : List Nat), l.Nodup → (∀ x ∈ l, x < n) → l.length ≤ n
  | 0, l, _, h => by
    cases l with
    | nil => simp
    | cons a t => have := h a List.mem_cons_self; omega
  | n + 1, l, hn, h => by
    have h1 := pig n (l.erase n) (hn.erase n) (fun x hx => by
      have h2 := (hn.mem_erase_iff).1 hx
      have := h x h2.2
      have := h2.1
      omega)
    rw [List.length_erase] at h1
    split at h1 <;> omega
theorem pig2 {a W : Nat} {l : List Nat} (hn : l.Nodup) (h : ∀ x ∈ l, a < x ∧ x < a + W) : l.length ≤ W := by
  have h1 := pig W (l.map (· - a)) (by
    rw [List.nodup_iff_pairwise_ne, List.pairwise_map]
    rw [List.nodup_iff_pairwise_ne] at hn
    refine hn.imp_of_mem (fun {x y} hx hy hne e => ?_)
    have := h x hx
    have := h y hy
    omega) (fun x hx => by
      obtain ⟨y, hy, rfl⟩ := List.mem_map.1 hx
      have := h y hy
      omega)
  simpa using h1
structure WinI (W P i : Nat) (es : ES) : Prop where
  wi : es.win = W
  pa : es.pat = P
  nx : es.next + es.new.length ≤ i
  fn : es.fly.length ≤ es.next
  fw : es.fly.length ≤ W
  nl : es.new.length ≤ 1024
  nb : ∀ b ∈ es.new, b.length ≤ 4096
  fb : ∀ q ∈ es.fly, q.body.length ≤ 4096 ∧ q.seq < es.next ∧ q.age < P
  eh : es.exp + es.held.length ≤ i
  ch : es.come.length + es.held.length ≤ i
  hk : (es.held.map (·.1)).Nodup
  hr : ∀ k ∈ es.held.map (·.1), es.exp < k ∧ k < es.exp + W
theorem WinI.new {W P : Nat} : WinI W P 0 (nE W P) := ⟨rfl, rfl, by simp [nE], by simp [nE], by simp [nE], by simp [nE], by simp [nE], by simp [nE], by simp [nE], by simp [nE], by simp [nE], by simp [nE]⟩
theorem WinI.ok {W P i : Nat} {es : ES} (h : WinI W P i es) (hW : 1 ≤ W ∧ W ≤ 256) (hP : 1 ≤ P ∧ P ≤ 1000) (hi : i ≤ 3000) : OkE es :=
  { tot := by have := h.nl; have := h.fw; omega, nx := by have := h.nx; omega, ex := by have := h.eh; omega, nb := h.nb, fb := fun q hq => ⟨(h.fb q hq).1, by have := (h.fb q hq).2.1; have := h.nx; omega, by have := (h.fb q hq).2.2; omega⟩, hl := by have := h.ch; omega, wi := by rw [h.wi]; exact hW, pa := by rw [h.pa]; exact hP }
theorem WinI.held {W P i : Nat} {es : ES} (h : WinI W P i es) : es.held.length ≤ W := by
  have := pig2 h.hk h.hr
  simpa using this
theorem WinI.mono {W P i j : Nat} {es : ES} (h : WinI W P i es) (hj : i ≤ j) : WinI W P j es := { h with nx := Nat.le_trans h.nx hj, eh := Nat.le_trans h.eh hj, ch := Nat.le_trans h.ch hj }
theorem WinI.send {W P i : Nat} {es : ES} (h : WinI W P i es) (b : Bs) : WinI W P (i + 1) (sendE es b).1 := by
  unfold sendE
  by_cases h1 : 4096 < b.length
  · rw [if_pos h1]; exact h.mono (by omega)
  · rw [if_neg h1]
    by_cases h2 : es.new.length = 1024
    · rw [if_pos h2]; exact h.mono (by omega)
    · rw [if_neg h2]
      have a1 := h.nx
      have a2 := h.nl
      have a3 := h.eh
      have a4 := h.ch
      refine { h with nx := ?_, nl := ?_, nb := fun x hx => ?_, eh := ?_, ch := ?_ }
      · simp; omega
      · simp; omega
      · rcases List.mem_append.1 hx with hx | hx
        · exact h.nb x hx
        · rw [List.mem_singleton.1 hx]; omega
      · simp only; omega
      · simp only; omega
theorem WinI.fill {W P : Nat} (hP : 1 ≤ P) : ∀ (f i : Nat) {es : ES}, WinI W P i es → WinI W P i (fillE f es)
  | 0, i, es, h => h
  | f + 1, i, es, h => by
    rw [fillE_succ]
    by_cases h1 : es.fly.length < es.win
    · rw [if_pos h1]
      cases hn : es.new with
      | nil => exact h
      | cons b t =>
        refine WinI.fill hP f i ?_
        have a1 := h.nx
        have a2 := h.nl
        have a3 := h.fn
        have a4 := h.nb
        have a5 := h.wi
        rw [hn] at a1 a2 a4
        simp only [List.length_cons] at a1 a2
        refine { h with nx := ?_, fn := ?_, fw := ?_, nl := ?_, nb := fun x hx => a4 x (List.mem_cons_of_mem _ hx), fb := fun q hq => ?_ }
        · simp only; omega
        · simp; omega
        · simp; omega
        · simp only; omega
        · rcases List.mem_append.1 hq with hq | hq
          · have := h.fb q hq
            exact ⟨this.1, by simp only; omega, this.2.2⟩
          · rw [List.mem_singleton.1 hq]
            exact ⟨a4 b List.mem_cons_self, by simp, by simp; omega⟩
    · rw [if_neg h1]; exact h
theorem WinI.out {W P i : Nat} {es : ES} (hP : 1 ≤ P) (h : WinI W P i es) : WinI W P i (outE es).1 := by
  have h1 := WinI.fill hP es.new.length i h
  refine { h1 with fn := ?_, fw := ?_, fb := fun q hq => ?_ }
  · simp only [outE, List.length_map]; exact h1.fn
  · simp only [outE, List.length_map]; exact h1.fw
  · obtain ⟨q0, hq0, rfl⟩ := List.mem_map.1 hq
    exact h1.fb q0 hq0
theorem WinI.tick {W P i : Nat} {es : ES} (hP : 1 ≤ P) (h : WinI W P i es) : WinI W P i (tickE es) := by
  have e1 := h.pa
  refine { h with fn := ?_, fw := ?_, fb := fun q hq => ?_ }
  · simp only [tickE, List.length_map]; exact h.fn
  · simp only [tickE, List.length_map]; exact h.fw
  · obtain ⟨q0, hq0, rfl⟩ := List.mem_map.1 hq
    have := h.fb q0 hq0
    unfold tickM
    split
    · exact ⟨this.1, this.2.1, by simp only; omega⟩
    · exact ⟨this.1, this.2.1, by simp only; omega⟩
theorem WinI.next {W P i : Nat} {es : ES} (h : WinI W P i es) {b : Bs} {t : List Bs} (hc : es.come = b :: t) : WinI W P i { es with come := t } :=
  { h with ch := by have := h.ch; rw [hc] at this; simp only [List.length_cons] at this ⊢; omega }
theorem mget_key {α : Type} : ∀ (l : List (Nat × α)) (k : Nat), mget l k = none ↔ k ∉ l.map (·.1)
  | [], k => by simp [mget]
  | x :: l, k => by
    unfold mget
    by_cases e : x.1 = k
    · rw [if_pos e]; simp [e]
    · rw [if_neg e, mget_key l k]
      have : ¬ k = x.1 := fun q => e q.symm
      simp [this]
theorem mdel_keys {α : Type} : ∀ (l : List (Nat × α)) (k : Nat), ((mdel l k).map (·.1)).Sublist (l.map (·.1)) ∧ ((l.map (·.1)).Nodup → k ∉ (mdel l k).map (·.1))
  | [], k => by simp [mdel]
  | x :: l, k => by
    unfold mdel
    obtain ⟨h1, h2⟩ := mdel_keys l k
    by_cases e : x.1 = k
    · rw [if_pos e]
      refine ⟨by rw [List.map_cons]; exact List.sublist_cons_self _ _, fun hn => ?_⟩
      rw [List.map_cons, List.nodup_cons, e] at hn
      exact hn.1
    · rw [if_neg e]
      refine ⟨by rw [List.map_cons, List.map_cons]; exact h1.cons_cons _, fun hn => ?_⟩
      rw [List.map_cons, List.nodup_cons] at hn
      rw [List.map_cons, List.mem_cons, not_or]
      exact ⟨fun q => e q.symm, h2 hn.2⟩
/-- As it drains: the numbers held are from the next one on. -/
structure DrI (W P i : Nat) (es : ES) : Prop where
  wi : es.win = W
  pa : es.pat = P
  nx : es.next + es.new.length ≤ i
  fn : es.fly.length ≤ es.next
  fw : es.fly.length ≤ W
  nl : es.new.length ≤ 1024
  nb : ∀ b ∈ es.new, b.length ≤ 4096
  fb : ∀ q ∈ es.fly, q.body.length ≤ 4096 ∧ q.seq < es.next ∧ q.age < P
  eh : es.exp + es.held.length ≤ i
  ch : es.come.length + es.held.length ≤ i
  hk : (es.held.map (·.1)).Nodup
  hr : ∀ k ∈ es.held.map (·.1), es.exp ≤ k ∧ k < es.exp + W
theorem DrI.drain {W P i : Nat} : ∀ (f : Nat) {es : ES}, es.held.length ≤ f → DrI W P i es → WinI W P i (drainE f es)
  | 0, es, hf, h => by
    have h0 : es.held = [] := List.eq_nil_of_length_eq_zero (by omega)
    exact ⟨h.wi, h.pa, h.nx, h.fn, h.fw, h.nl, h.nb, h.fb, h.eh, h.ch, h.hk, by show ∀ k ∈ es.held.map (·.1), _; rw [h0]; simp⟩
  | f + 1, es, hf, h => by
    unfold drainE
    cases hg : mget es.held es.exp with
    | none =>
      have hne := (mget_key _ _).1 hg
      exact ⟨h.wi, h.pa, h.nx, h.fn, h.fw, h.nl, h.nb, h.fb, h.eh, h.ch, h.hk, fun k hk => by
        have := h.hr k hk
        have : k ≠ es.exp := fun q => hne (q ▸ hk)
        show es.exp < k ∧ k < es.exp + W
        omega⟩
    | some b =>
      have hl := mdel_len _ _ _ hg
      obtain ⟨s1, s2⟩ := mdel_keys es.held es.exp
      have s2 := s2 h.hk
      have a1 := h.eh
      have a2 := h.ch
      refine DrI.drain f (by simp only; omega) ⟨h.wi, h.pa, h.nx, h.fn, h.fw, h.nl, h.nb, h.fb, by simp only; omega, by simp; omega, s1.nodup h.hk, fun k hk => ?_⟩
      have := h.hr k (s1.subset hk)
      have : k ≠ es.exp := fun q => s2 (q ▸ hk)
      simp only
      omega
theorem WinI.recv {W P i : Nat} {es : ES} (h : WinI W P i es) (b : Bs) : WinI W P (i + 1) (recvE es b).1 := by
  unfold recvE
  have hkd := (parseF_lt b).2.2
  obtain ⟨pf, hpf⟩ : ∃ q, parseF b = q := ⟨_, rfl⟩
  rw [hpf] at hkd ⊢
  obtain ⟨kd, sq, ak, bd, ok⟩ := pf
  simp only at hkd ⊢
  have h0 := h.mono (j := i + 1) (by omega)
  split
  · exact h0
  rename_i g1
  split
  · exact h0
  split
  · exact h0
  rename_i g3
  have hf : (ackE es ak).fly.length ≤ es.fly.length := List.length_filter_le _ _
  have ha : WinI W P i (ackE es ak) := { h with fn := by have := h.fn; show (ackE es ak).fly.length ≤ es.next; omega, fw := by have := h.fw; omega, fb := fun q hq => h.fb q (List.mem_filter.1 hq).1 }
  split
  · exact ha.mono (by omega)
  rename_i g4
  unfold dataE holdE
  by_cases g5 : (ackE es ak).exp ≤ sq ∧ (mget (ackE es ak).held sq).isSome = false
  · simp only
    rw [if_pos g5]
    have hnone : mget (ackE es ak).held sq = none := by
      cases hq : mget (ackE es ak).held sq with
      | none => rfl
      | some _ => rw [hq] at g5; cases g5.2
    have hnk := (mget_key _ _).1 hnone
    refine DrI.drain _ (Nat.le_refl _) ?_
    have hk1 : kd = 1 := by
      rcases hkd (by simpa using g1) with q | q
      · exact q
      · exact absurd q g4
    have hlt : sq < es.exp + W := by
      have a1 : es.exp ≤ sq := g5.1
      have a2 := h.wi
      by_cases q : es.win ≤ sq - es.exp
      · exact absurd ⟨hk1, a1, q⟩ g3
      · omega
    have a3 := ha.eh
    have a4 := ha.ch
    have hb := ha.mono (j := i + 1) (by omega)
    rw [mput_new _ _ _ hnone]
    refine ⟨hb.wi, hb.pa, hb.nx, hb.fn, hb.fw, hb.nl, hb.nb, hb.fb, ?_, ?_, ?_, fun k hk => ?_⟩
    · simp only [List.length_append, List.length_cons, List.length_nil]; omega
    · simp only [List.length_append, List.length_cons, List.length_nil]; omega
    · simp only [List.map_append, List.map_cons, List.map_nil]
      rw [List.nodup_append]
      refine ⟨ha.hk, by simp, fun x hx y hy e => ?_⟩
      simp only [List.mem_singleton] at hy
      rw [e, hy] at hx
      exact hnk hx
    · simp only [List.map_append, List.map_cons, List.map_nil, List.mem_append, List.mem_singleton] at hk
      rcases hk with hk | rfl
      · have := hb.hr k hk
        exact ⟨Nat.le_of_lt this.1, this.2⟩
      · exact ⟨g5.1, hlt⟩
  · simp only
    rw [if_neg g5]
    refine DrI.drain _ (Nat.le_refl _) ?_
    have hb := ha.mono (j := i + 1) (by omega)
    exact ⟨hb.wi, hb.pa, hb.nx, hb.fn, hb.fw, hb.nl, hb.nb, hb.fb, hb.eh, hb.ch, hb.hk, fun k hk => by have := hb.hr k hk; exact ⟨Nat.le_of_lt this.1, this.2⟩⟩
end Go.Proofs.Ytjjgojgahibpgaa

/- What flies, flies by rising numbers. -/
namespace Go.Proofs.Ytjjgojgahibpgaa
open Go.Proofs.Eng Go.Proofs.Codec Go.Proofs.Link
set_option linter.unusedSimpArgs false
set_option linter.unusedVariables false
def Srt (es : ES) : Prop := es.fly.Pairwise fun a b => a.seq < b.seq
theorem Srt.new {W P : Nat} : Srt (nE W P) := by simp [Srt, nE]
theorem Srt.send {es : ES} (h : Srt es) (b : Bs) : Srt (sendE es b).1 := by
  unfold sendE
  split
  · exact h
  · split <;> exact h
theorem Srt.fill {W P : Nat} (hP : 1 ≤ P) : ∀ (f i : Nat) {es : ES}, WinI W P i es → Srt es → Srt (fillE f es)
  | 0, i, es, _, h => h
  | f + 1, i, es, hw, h => by
    rw [fillE_succ]
    by_cases h1 : es.fly.length < es.win
    · rw [if_pos h1]
      cases hn : es.new with
      | nil => exact h
      | cons b t =>
        have h2 := WinI.fill hP 1 i hw
        rw [show fillE 1 es = { es with fly := es.fly ++ [⟨es.next, b, 0, true⟩], new := t, next := es.next + 1 } by rw [fillE_succ, if_pos h1, hn]; rfl] at h2
        refine Srt.fill hP f i h2 ?_
        unfold Srt at h ⊢
        simp only
        rw [List.pairwise_append]
        refine ⟨h, List.pairwise_singleton _ _, fun a ha c hc => ?_⟩
        rw [List.mem_singleton.1 hc]
        exact (hw.fb a ha).2.1
    · rw [if_neg h1]; exact h
theorem Srt.map {es es' : ES} (h : Srt es) (g : Msg → Msg) (hg : ∀ q, (g q).seq = q.seq) (he : es'.fly = es.fly.map g) : Srt es' := by
  unfold Srt at h ⊢
  rw [he, List.pairwise_map]
  exact h.imp (fun {a b} q => by rw [hg, hg]; exact q)
theorem Srt.out {W P i : Nat} {es : ES} (hP : 1 ≤ P) (hw : WinI W P i es) (h : Srt es) : Srt (outE es).1 :=
  (Srt.fill hP es.new.length i hw h).map undue (fun _ => rfl) rfl
theorem Srt.tick {es : ES} (h : Srt es) : Srt (tickE es) := h.map (tickM es.pat) (fun q => by unfold tickM; split <;> rfl) rfl
theorem drain_fly : ∀ (f : Nat) (es : ES), (drainE f es).fly = es.fly
  | 0, es => rfl
  | f + 1, es => by
    unfold drainE
    cases mget es.held es.exp with
    | none => rfl
    | some b => exact drain_fly f _
theorem data_fly (es : ES) (q : Nat) (b : Bs) : (dataE es q b).fly = es.fly := by
  unfold dataE
  simp only
  rw [drain_fly]
  unfold holdE
  split <;> rfl
theorem Srt.recv {es : ES} (h : Srt es) (b : Bs) : Srt (recvE es b).1 := by
  have ha : ∀ ak, Srt (ackE es ak) := fun ak => by
    unfold Srt at h ⊢
    exact h.filter _
  unfold recvE
  simp only
  split
  · exact h
  split
  · exact h
  split
  · exact h
  split
  · exact ha _
  · show List.Pairwise _ (dataE _ _ _).fly
    rw [data_fly]
    exact ha _
theorem Srt.ack {es : ES} (h : Srt es) (ak : Nat) : es.fly.dropWhile (fun q => decide (q.seq < ak)) = (ackE es ak).fly := by
  unfold Srt at h
  unfold ackE
  simp only
  generalize es.fly = l at h ⊢
  induction l with
  | nil => rfl
  | cons q t ih =>
    rw [List.pairwise_cons] at h
    replace ih := ih h.2
    rw [List.dropWhile_cons, List.filter_cons]
    by_cases e : q.seq < ak
    · simp only [e, decide_true, if_true, Bool.not_true, Bool.false_eq_true, if_false]
      exact ih
    · simp only [e, decide_false, Bool.false_eq_true, if_false, Bool.not_false, if_true]
      congr 1
      symm
      rw [List.filter_eq_self]
      intro x hx
      have := h.1 x hx
      simp
      omega
end Go.Proofs.Ytjjgojgahibpgaa

/- Two ends, one way: what is sent is told once, in order. -/
namespace Go.Proofs.Ytjjgojgahibpgaa
open Go.Proofs.Eng Go.Proofs.Codec Go.Proofs.Link
set_option linter.unusedSimpArgs false
set_option linter.unusedVariables false
/-- What s sent (L), what r was told of it (T): below lo all is acknowledged. -/
structure Dir (L : List Bs) (T lo : Nat) (s r : ES) : Prop where
  len : ∀ x ∈ L, x.length ≤ 4096
  nl : s.next ≤ L.length
  new : s.new = L.drop s.next
  fly : s.fly.map (·.seq) = List.range' lo (s.next - lo)
  lon : lo ≤ s.next
  lor : lo ≤ r.exp
  flb : ∀ q ∈ s.fly, L[q.seq]? = some q.body
  ex : r.exp ≤ s.next
  tc : T + r.come.length = r.exp
  come : r.come = (L.take r.exp).drop T
  held : ∀ x ∈ r.held, x.1 < s.next ∧ L[x.1]? = some x.2
theorem Dir.start {W P W2 P2 : Nat} : Dir [] 0 0 (nE W P) (nE W2 P2) := by
  constructor <;> simp [nE]
theorem Dir.rcong {L : List Bs} {T lo : Nat} {s r r' : ES} (h : Dir L T lo s r) (h1 : r'.exp = r.exp) (h2 : r'.come = r.come) (h3 : r'.held = r.held) : Dir L T lo s r' :=
  { h with lor := by rw [h1]; exact h.lor, ex := by rw [h1]; exact h.ex, tc := by rw [h1, h2]; exact h.tc, come := by rw [h1, h2]; exact h.come, held := by rw [h3]; exact h.held }
theorem Dir.scong {L : List Bs} {T lo : Nat} {s s' r : ES} (h : Dir L T lo s r) (h1 : s'.next = s.next) (h2 : s'.new = s.new) (h3 : s'.fly.map (fun q => (q.seq, q.body)) = s.fly.map (fun q => (q.seq, q.body))) : Dir L T lo s' r :=
  { h with
    nl := by rw [h1]; exact h.nl
    new := by rw [h1, h2]; exact h.new
    fly := by
      rw [h1, ← h.fly]
      have := congrArg (fun l : List (Nat × Bs) => l.map (·.1)) h3
      simpa [List.map_map, Function.comp_def] using this
    lon := by rw [h1]; exact h.lon
    flb := fun q hq => by
      have h4 : (q.seq, q.body) ∈ s.fly.map (fun q => (q.seq, q.body)) := by rw [← h3]; exact List.mem_map.2 ⟨q, hq, rfl⟩
      obtain ⟨q0, hq0, e⟩ := List.mem_map.1 h4
      have e1 := congrArg Prod.fst e
      have e2 := congrArg Prod.snd e
      simp only at e1 e2
      rw [← e1, ← e2]
      exact h.flb q0 hq0
    ex := by rw [h1]; exact h.ex
    held := by rw [h1]; exact h.held }
theorem getE_app {L : List Bs} {b x : Bs} {k : Nat} (h : L[k]? = some x) : (L ++ [b])[k]? = some x := by
  rw [List.getElem?_append_left]
  · exact h
  · by_cases q : k < L.length
    · exact q
    · rw [List.getElem?_eq_none (by omega)] at h; cases h
theorem Dir.exl {L : List Bs} {T lo : Nat} {s r : ES} (h : Dir L T lo s r) : r.exp ≤ L.length := by have := h.ex; have := h.nl; omega
theorem Dir.app {L : List Bs} {T lo : Nat} {s r : ES} (h : Dir L T lo s r) {b : Bs} (hb : b.length ≤ 4096) : Dir (L ++ [b]) T lo { s with new := s.new ++ [b] } r :=
  { len := fun x hx => by
      rcases List.mem_append.1 hx with hx | hx
      · exact h.len x hx
      · rw [List.mem_singleton.1 hx]; exact hb
    nl := by have := h.nl; simp only [List.length_append, List.length_cons, List.length_nil]; omega
    new := by
      simp only
      rw [List.drop_append_of_le_length h.nl, h.new]
    fly := h.fly
    lon := h.lon
    lor := h.lor
    flb := fun q hq => getE_app (h.flb q hq)
    ex := h.ex
    tc := h.tc
    come := by rw [List.take_append_of_le_length h.exl]; exact h.come
    held := fun x hx => ⟨(h.held x hx).1, getE_app (h.held x hx).2⟩ }
theorem Dir.send {L : List Bs} {T lo : Nat} {s r : ES} (h : Dir L T lo s r) (b : Bs) : ((sendE s b).2 = 0 → Dir (L ++ [b]) T lo (sendE s b).1 r) ∧ ((sendE s b).2 ≠ 0 → (sendE s b).1 = s) := by
  unfold sendE
  split
  · exact ⟨fun q => absurd q (by simp), fun _ => rfl⟩
  rename_i g1
  split
  · exact ⟨fun q => absurd q (by simp), fun _ => rfl⟩
  · exact ⟨fun _ => h.app (by omega), fun q => absurd rfl q⟩
theorem Dir.fill {L : List Bs} {T lo : Nat} {r : ES} : ∀ (f : Nat) {s : ES}, Dir L T lo s r → Dir L T lo (fillE f s) r
  | 0, s, h => h
  | f + 1, s, h => by
    rw [fillE_succ]
    by_cases h1 : s.fly.length < s.win
    · rw [if_pos h1]
      cases hn : s.new with
      | nil => exact h
      | cons b t =>
        have hd := h.new
        rw [hn] at hd
        have hg : L[s.next]? = some b := by
          have := congrArg (fun l : List Bs => l[0]?) hd
          simp only [List.getElem?_cons_zero, List.getElem?_drop, Nat.add_zero] at this
          exact this.symm
        have hlt : s.next < L.length := by
          by_cases q : s.next < L.length
          · exact q
          · rw [List.getElem?_eq_none (by omega)] at hg; cases hg
        refine Dir.fill f { h with nl := hlt, new := ?_, fly := ?_, lon := ?_, flb := ?_, ex := ?_, held := ?_ }
        · simp only
          have := congrArg (List.drop 1) hd
          rw [List.drop_drop] at this
          simpa using this
        · simp only [List.map_append, List.map_cons, List.map_nil]
          have := h.lon
          rw [h.fly, show s.next + 1 - lo = (s.next - lo) + 1 by omega, List.range'_concat]
          congr 2
          omega
        · have := h.lon; simp only; omega
        · intro q hq
          rcases List.mem_append.1 hq with hq | hq
          · exact h.flb q hq
          · rw [List.mem_singleton.1 hq]; exact hg
        · have := h.ex; simp only; omega
        · intro x hx
          have := h.held x hx
          exact ⟨by simp only; omega, this.2⟩
    · rw [if_neg h1]; exact h
theorem fill_keeps : ∀ (f : Nat) (s : ES), (fillE f s).exp = s.exp ∧ (fillE f s).come = s.come ∧ (fillE f s).held = s.held ∧ (fillE f s).owed = s.owed ∧ s.next ≤ (fillE f s).next ∧ (fillE f s).win = s.win ∧ (fillE f s).pat = s.pat
  | 0, s => ⟨rfl, rfl, rfl, rfl, Nat.le_refl _, rfl, rfl⟩
  | f + 1, s => by
    rw [fillE_succ]
    split
    · cases s.new with
      | nil => exact ⟨rfl, rfl, rfl, rfl, Nat.le_refl _, rfl, rfl⟩
      | cons b t =>
        obtain ⟨a1, a2, a3, a4, a5, a6, a7⟩ := fill_keeps f { s with fly := s.fly ++ [⟨s.next, b, 0, true⟩], new := t, next := s.next + 1 }
        exact ⟨a1, a2, a3, a4, by simp only at a5 ⊢; omega, a6, a7⟩
    · exact ⟨rfl, rfl, rfl, rfl, Nat.le_refl _, rfl, rfl⟩
/-- A frame of who has sent L, is at the number nx, expects ex. -/
def GoodF (L : List Bs) (nx ex : Nat) (fr : Bs) : Prop := (∃ q a b, fr = frame (dataL q a b) ∧ q < nx ∧ a ≤ ex ∧ L[q]? = some b) ∨ ∃ a, fr = frame (ackL a) ∧ a ≤ ex
theorem GoodF.mono {L : List Bs} {nx ex nx' ex' : Nat} {fr : Bs} (h : GoodF L nx ex fr) (h1 : nx ≤ nx') (h2 : ex ≤ ex') : GoodF L nx' ex' fr := by
  rcases h with ⟨q, a, b, e, g1, g2, g3⟩ | ⟨a, e, g⟩
  · exact .inl ⟨q, a, b, e, by omega, by omega, g3⟩
  · exact .inr ⟨a, e, by omega⟩
theorem GoodF.app {L : List Bs} {nx ex : Nat} {fr : Bs} (h : GoodF L nx ex fr) (b : Bs) : GoodF (L ++ [b]) nx ex fr := by
  rcases h with ⟨q, a, c, e, g1, g2, g3⟩ | ⟨a, e, g⟩
  · exact .inl ⟨q, a, c, e, g1, g2, getE_app g3⟩
  · exact .inr ⟨a, e, g⟩
theorem Dir.out {L : List Bs} {T lo : Nat} {s r : ES} (h : Dir L T lo s r) : Dir L T lo (outE s).1 r ∧ ∀ fr ∈ (outE s).2, GoodF L (outE s).1.next s.exp fr := by
  have h1 := Dir.fill s.new.length h
  obtain ⟨k1, k2, k3, k4, k5, k6, k7⟩ := fill_keeps s.new.length s
  refine ⟨h1.scong rfl rfl (by simp [outE, undue, List.map_map, Function.comp_def]), fun fr hfr => ?_⟩
  have hd : ∀ fr ∈ dueB (fillE s.new.length s).exp (fillE s.new.length s).fly, GoodF L (outE s).1.next s.exp fr := fun fr hfr => by
    unfold dueB at hfr
    obtain ⟨m, hm, rfl⟩ := List.mem_map.1 hfr
    have hm := (List.mem_filter.1 hm).1
    refine .inl ⟨m.seq, s.exp, m.body, by unfold msgB; rw [k1], ?_, Nat.le_refl _, h1.flb m hm⟩
    have : m.seq ∈ (fillE s.new.length s).fly.map (·.seq) := List.mem_map.2 ⟨m, hm, rfl⟩
    rw [h1.fly, List.mem_range'_1] at this
    have h2 := h1.lon
    show m.seq < (fillE s.new.length s).next
    omega
  unfold outE at hfr
  simp only at hfr
  split at hfr
  · rw [List.mem_singleton.1 hfr]
    exact .inr ⟨_, rfl, by rw [k1]; exact Nat.le_refl _⟩
  · exact hd fr hfr
theorem Dir.routE {L : List Bs} {T lo : Nat} {s r : ES} (h : Dir L T lo s r) : Dir L T lo s (outE r).1 := by
  obtain ⟨k1, k2, k3, k4, k5, k6, k7⟩ := fill_keeps r.new.length r
  exact h.rcong k1 k2 k3
theorem Dir.tick {L : List Bs} {T lo : Nat} {s r : ES} (h : Dir L T lo s r) : Dir L T lo (tickE s) r := by
  refine h.scong rfl rfl ?_
  simp only [tickE, List.map_map]
  refine List.map_congr_left (fun q _ => ?_)
  simp only [Function.comp_def, tickM]
  split <;> rfl
theorem Dir.rtick {L : List Bs} {T lo : Nat} {s r : ES} (h : Dir L T lo s r) : Dir L T lo s (tickE r) := h.rcong rfl rfl rfl
theorem Dir.next {L : List Bs} {T lo : Nat} {s r : ES} (h : Dir L T lo s r) {b : Bs} {t : List Bs} (hc : r.come = b :: t) : L[T]? = some b ∧ Dir L (T + 1) lo s { r with come := t } := by
  have h1 := h.tc
  have h2 := h.come
  rw [hc] at h1 h2
  simp only [List.length_cons] at h1
  have hx := h.exl
  refine ⟨?_, { h with tc := by simp only; omega, come := ?_ }⟩
  · have := congrArg (fun l : List Bs => l[0]?) h2
    simp only [List.getElem?_cons_zero, List.getElem?_drop, Nat.add_zero] at this
    rw [List.getElem?_take_of_lt (by omega)] at this
    exact this.symm
  · simp only
    have := congrArg (List.drop 1) h2
    rw [List.drop_drop] at this
    simpa using this
theorem range_ack (a : Nat) : ∀ (k lo : Nat), (List.range' lo k).filter (fun x => !decide (x < a)) = List.range' (max lo a) (lo + k - max lo a)
  | 0, lo => by
    rw [show lo + 0 - max lo a = 0 by omega]
    rfl
  | k + 1, lo => by
    rw [List.range'_succ, List.filter_cons]
    have ih := range_ack a k (lo + 1)
    by_cases e : lo < a
    · simp only [e, decide_true, Bool.not_true, Bool.false_eq_true, if_false]
      rw [ih, show max (lo + 1) a = max lo a by omega]
      congr 1
      omega
    · simp only [e, decide_false, Bool.not_false, if_true]
      rw [ih, show max (lo + 1) a = lo + 1 by omega, show max lo a = lo by omega, show lo + (k + 1) - lo = (lo + 1 + k - (lo + 1)) + 1 by omega, List.range'_succ]
theorem Dir.ack {L : List Bs} {T lo : Nat} {s r : ES} (h : Dir L T lo s r) {a : Nat} (ha : a ≤ r.exp) : Dir L T (max lo a) (ackE s a) r :=
  { h with
    fly := by
      have h1 := h.lon
      have h2 := h.ex
      show ((s.fly.filter fun m => !decide (m.seq < a)).map (·.seq)) = List.range' (max lo a) (s.next - max lo a)
      rw [show (s.fly.filter fun m => !decide (m.seq < a)).map (·.seq) = (s.fly.map (·.seq)).filter (fun x => !decide (x < a)) by rw [List.filter_map]; rfl, h.fly, range_ack]
      congr 1
      omega
    lon := by have := h.lon; have := h.ex; show max lo a ≤ s.next; omega
    lor := by have := h.lor; omega
    flb := fun q hq => h.flb q (List.mem_filter.1 hq).1 }
theorem mget_mem {α : Type} : ∀ {l : List (Nat × α)} {k : Nat} {v : α}, mget l k = some v → (k, v) ∈ l
  | [], k, v, h => by cases h
  | x :: l, k, v, h => by
    unfold mget at h
    by_cases e : x.1 = k
    · rw [if_pos e] at h
      cases h
      rw [← e]
      exact List.mem_cons_self
    · rw [if_neg e] at h
      exact List.mem_cons_of_mem _ (mget_mem h)
theorem mdel_mem {α : Type} : ∀ {l : List (Nat × α)} {k : Nat} {x : Nat × α}, x ∈ mdel l k → x ∈ l
  | [], k, x, h => h
  | y :: l, k, x, h => by
    unfold mdel at h
    by_cases e : y.1 = k
    · rw [if_pos e] at h; exact List.mem_cons_of_mem _ h
    · rw [if_neg e] at h
      rcases List.mem_cons.1 h with rfl | h
      · exact List.mem_cons_self
      · exact List.mem_cons_of_mem _ (mdel_mem h)
theorem Dir.drain {L : List Bs} {T lo : Nat} {s : ES} : ∀ (f : Nat) {r : ES}, Dir L T lo s r → Dir L T lo s (drainE f r) ∧ r.exp ≤ (drainE f r).exp
  | 0, r, h => ⟨h, Nat.le_refl _⟩
  | f + 1, r, h => by
    unfold drainE
    cases hg : mget r.held r.exp with
    | none => exact ⟨h, Nat.le_refl _⟩
    | some b =>
      have hm := h.held _ (mget_mem hg)
      simp only at hm
      have h1 := h.tc
      have h2 := h.nl
      have h3 : r.come ++ [b] = (L.take (r.exp + 1)).drop T := by
        rw [h.come, List.take_add_one, hm.2, List.drop_append_of_le_length (by rw [List.length_take]; omega)]
        rfl
      obtain ⟨g1, g2⟩ := Dir.drain f (r := { r with held := mdel r.held r.exp, come := r.come ++ [b], exp := r.exp + 1 }) { h with lor := by have := h.lor; simp only; omega, ex := hm.1, tc := by simp; omega, come := h3, held := fun x hx => h.held x (mdel_mem hx) }
      exact ⟨g1, by simp only at g2 ⊢; omega⟩
theorem drain_keeps : ∀ (f : Nat) (s : ES), (drainE f s).next = s.next ∧ (drainE f s).new = s.new ∧ (drainE f s).fly = s.fly ∧ (drainE f s).owed = s.owed ∧ (drainE f s).win = s.win ∧ (drainE f s).pat = s.pat
  | 0, s => ⟨rfl, rfl, rfl, rfl, rfl, rfl⟩
  | f + 1, s => by
    unfold drainE
    cases mget s.held s.exp with
    | none => exact ⟨rfl, rfl, rfl, rfl, rfl, rfl⟩
    | some b => exact drain_keeps f _
theorem hold_keeps (s : ES) (q : Nat) (b : Bs) : (holdE s q b).next = s.next ∧ (holdE s q b).new = s.new ∧ (holdE s q b).fly = s.fly ∧ (holdE s q b).owed = s.owed ∧ (holdE s q b).win = s.win ∧ (holdE s q b).pat = s.pat ∧ (holdE s q b).exp = s.exp ∧ (holdE s q b).come = s.come := by
  unfold holdE
  split <;> exact ⟨rfl, rfl, rfl, rfl, rfl, rfl, rfl, rfl⟩
theorem data_keeps (s : ES) (q : Nat) (b : Bs) : (dataE s q b).next = s.next ∧ (dataE s q b).new = s.new ∧ (dataE s q b).fly = s.fly ∧ (dataE s q b).owed = true ∧ (dataE s q b).win = s.win ∧ (dataE s q b).pat = s.pat := by
  unfold dataE
  simp only
  obtain ⟨a1, a2, a3, a4, a5, a6⟩ := drain_keeps (holdE { s with owed := true } q b).held.length (holdE { s with owed := true } q b)
  obtain ⟨b1, b2, b3, b4, b5, b6, b7, b8⟩ := hold_keeps { s with owed := true } q b
  exact ⟨a1.trans b1, a2.trans b2, a3.trans b3, a4.trans b4, a5.trans b5, a6.trans b6⟩
theorem Dir.hold {L : List Bs} {T lo : Nat} {s r : ES} (h : Dir L T lo s r) {q : Nat} {b : Bs} (hq : q < s.next) (hb : L[q]? = some b) : Dir L T lo s (holdE r q b) := by
  unfold holdE
  split
  · rename_i g
    have hn : mget r.held q = none := by
      cases hx : mget r.held q with
      | none => rfl
      | some _ => rw [hx] at g; cases g.2
    refine { h with held := fun x hx => ?_ }
    simp only at hx
    rw [mput_new _ _ _ hn] at hx
    rcases List.mem_append.1 hx with hx | hx
    · exact h.held x hx
    · rw [List.mem_singleton.1 hx]; exact ⟨hq, hb⟩
  · exact h
theorem mget_snoc {α : Type} {b : α} {k : Nat} : ∀ {l : List (Nat × α)}, mget l k = none → mget (l ++ [(k, b)]) k = some b
  | [], _ => by simp [mget]
  | x :: l, hn => by
    unfold mget at hn
    by_cases e : x.1 = k
    · rw [if_pos e] at hn; cases hn
    · rw [if_neg e] at hn
      rw [List.cons_append]
      unfold mget
      rw [if_neg e]
      exact mget_snoc hn
theorem Dir.data {L : List Bs} {T lo : Nat} {s r : ES} (h : Dir L T lo s r) {q : Nat} {b : Bs} (hq : q < s.next) (hb : L[q]? = some b) :
    Dir L T lo s (dataE r q b) ∧ r.exp ≤ (dataE r q b).exp ∧ (q = r.exp → r.exp + 1 ≤ (dataE r q b).exp) := by
  have h0 : Dir L T lo s { r with owed := true } := h.rcong rfl rfl rfl
  have h1 := h0.hold hq hb
  obtain ⟨b1, b2, b3, b4, b5, b6, b7, b8⟩ := hold_keeps { r with owed := true } q b
  obtain ⟨h2, h3⟩ := Dir.drain (holdE { r with owed := true } q b).held.length h1
  rw [b7] at h3
  refine ⟨h2, h3, fun e => ?_⟩
  show r.exp + 1 ≤ (drainE _ _).exp
  have hs : ∃ v, mget (holdE { r with owed := true } q b).held r.exp = some v := by
    unfold holdE
    split
    · rename_i g
      have hn : mget r.held q = none := by
        cases hx : mget r.held q with
        | none => rfl
        | some _ => simp only [hx] at g; cases g.2
      simp only
      rw [mput_new _ _ _ hn]
      subst e
      exact ⟨b, mget_snoc hn⟩
    · rename_i g
      simp only
      subst e
      cases hx : mget r.held r.exp with
      | none => exact absurd ⟨Nat.le_refl _, by simp only; rw [hx]; rfl⟩ g
      | some v => exact ⟨v, rfl⟩
  obtain ⟨v, hv⟩ := hs
  generalize holdE { r with owed := true } q b = e0 at *
  replace b7 : e0.exp = r.exp := b7
  replace h3 : r.exp ≤ (drainE e0.held.length e0).exp := h3
  have hne : 0 < e0.held.length := by
    cases hh : e0.held with
    | nil => rw [hh] at hv; cases hv
    | cons x l => simp
  obtain ⟨n, hn⟩ : ∃ n, e0.held.length = n + 1 := ⟨e0.held.length - 1, by omega⟩
  rw [hn]
  unfold drainE
  rw [b7, hv]
  simp only
  have hm := h1.held _ (mget_mem hv)
  simp only at hm
  have h5 := h1.tc
  have h6 := h1.nl
  rw [b7] at h5
  have h7 : e0.come ++ [v] = (L.take (r.exp + 1)).drop T := by
    rw [h1.come, b7, List.take_add_one, hm.2, List.drop_append_of_le_length (by rw [List.length_take]; omega)]
    rfl
  have := (Dir.drain n (r := { e0 with held := mdel e0.held r.exp, come := e0.come ++ [v], exp := r.exp + 1 }) { h1 with lor := by have := h.lor; simp only; omega, ex := hm.1, tc := by simp; omega, come := h7, held := fun x hx => h1.held x (mdel_mem hx) }).2
  simp only at this
  exact this
/-- A frame that the other end let out comes. -/
theorem recv_good {L M : List Bs} {T lo U lu : Nat} {a b : ES} {fr : Bs} {nx ex : Nat} (h : Dir L T lo a b) (g : Dir M U lu b a) (hf : GoodF M nx ex fr) (hn : nx ≤ b.next) (he : ex ≤ b.exp) (hL : L.length ≤ 2 ^ 62) (hM : M.length ≤ 2 ^ 62) :
    ∃ lo', lo ≤ lo' ∧ Dir L T lo' (recvE a fr).1 b ∧ Dir M U lu b (recvE a fr).1 ∧ a.exp ≤ (recvE a fr).1.exp ∧ (recvE a fr).1.next = a.next ∧ (recvE a fr).1.win = a.win ∧ ((recvE a fr).2 = 0 ∨ (recvE a fr).2 = 261) ∧ (b.fly.length ≤ a.win → (recvE a fr).2 = 0) := by
  have e1 := h.ex
  have e2 := h.nl
  have e3 := g.nl
  have e4 := g.lor
  have e5 := g.lon
  rcases hf with ⟨q, k, x, rfl, g1, g2, g3⟩ | ⟨k, rfl, g2⟩
  · have hxl : x.length ≤ 4096 := g.len x (List.mem_of_getElem? g3)
    have hp := parse_data (s := q) (k := k) (body := x) (by omega) (by omega) hxl
    unfold recvE
    rw [hp]
    simp only
    rw [if_neg (by decide), if_neg (by omega)]
    have hfl : b.fly.length = b.next - lu := by have := congrArg List.length g.fly; simpa using this
    by_cases hw : a.exp ≤ q ∧ a.win ≤ q - a.exp
    · rw [if_pos ⟨trivial, hw⟩]
      exact ⟨lo, Nat.le_refl _, h, g, Nat.le_refl _, rfl, rfl, .inr rfl, fun hwin => by omega⟩
    · rw [if_neg (fun y => hw y.2), if_neg (by decide)]
      have ha := h.ack (a := k) (by omega)
      have ga : Dir M U lu b (ackE a k) := g.rcong rfl rfl rfl
      obtain ⟨d1, d2, d3⟩ := ga.data (q := q) (b := x) (by omega) g3
      obtain ⟨k1, k2, k3, k4, k5, k6⟩ := data_keeps (ackE a k) q x
      exact ⟨_, Nat.le_max_left _ _, ha.scong k1 k2 (by rw [k3]), d1, d2, k1, k5, .inl rfl, fun _ => rfl⟩
  · have hp := parse_ack (k := k) (by omega)
    unfold recvE
    rw [hp]
    simp only
    rw [if_neg (by decide), if_neg (by omega), if_neg (fun y => absurd y.1 (by decide)), if_pos trivial]
    exact ⟨_, Nat.le_max_left _ _, h.ack (a := k) (by omega), g.rcong rfl rfl rfl, Nat.le_refl _, rfl, rfl, .inl rfl, fun _ => rfl⟩
end Go.Proofs.Ytjjgojgahibpgaa

/- Two ends over a net that loses, doubles and turns round. -/
namespace Go.Proofs.Ytjjgojgahibpgaa
open Go.Proofs.Eng Go.Proofs.Codec Go.Proofs.Link
set_option linter.unusedSimpArgs false
set_option linter.unusedVariables false
theorem WinI.norm {V Q i : Nat} {L M : List Bs} {T U lo lu : Nat} {s r : ES} (h : WinI V Q i r) (d : Dir L T lo s r) (e : Dir M U lu r s) (hV : V ≤ 256) (hL : L.length ≤ 600) (hM : M.length ≤ 600) : WinI V Q 900 r :=
  { h with
    nx := by have h1 := congrArg List.length e.new; have h2 := e.nl; rw [List.length_drop] at h1; omega
    eh := by have h1 := d.exl; have h2 := h.held; omega
    ch := by have h1 := d.exl; have h2 := h.held; have h3 := d.tc; omega }
structure Meet (W P V Q : Nat) (L M : List Bs) (T U : Nat) (F G : List Bs) (a b : ES) : Prop where
  d : ∃ lo, Dir L T lo a b
  e : ∃ lo, Dir M U lo b a
  wa : WinI W P 900 a
  wb : WinI V Q 900 b
  f : ∀ fr ∈ F, GoodF L a.next a.exp fr
  g : ∀ fr ∈ G, GoodF M b.next b.exp fr
  hL : L.length ≤ 600
  hM : M.length ≤ 600
section
variable {W P V Q : Nat} {L M : List Bs} {T U : Nat} {F G : List Bs} {a b : ES}
theorem Meet.start : Meet W P V Q [] [] 0 0 [] [] (nE W P) (nE V Q) := ⟨⟨0, Dir.start⟩, ⟨0, Dir.start⟩, WinI.new.mono (by omega), WinI.new.mono (by omega), (fun fr h => by cases h), (fun fr h => by cases h), by simp, by simp⟩
theorem Meet.swap (h : Meet W P V Q L M T U F G a b) : Meet V Q W P M L U T G F b a := ⟨h.e, h.d, h.wb, h.wa, h.g, h.f, h.hM, h.hL⟩
theorem Meet.few (h : Meet W P V Q L M T U F G a b) {F' G' : List Bs} (hF : ∀ x ∈ F', x ∈ F) (hG : ∀ x ∈ G', x ∈ G) : Meet W P V Q L M T U F' G' a b := { h with f := fun x q => h.f x (hF x q), g := fun x q => h.g x (hG x q) }
theorem Meet.send (h : Meet W P V Q L M T U F G a b) (hW : W ≤ 256) (hl : L.length < 600) (x : Bs) (h0 : (sendE a x).2 = 0) : Meet W P V Q (L ++ [x]) M T U F G (sendE a x).1 b := by
  obtain ⟨lo, d⟩ := h.d
  obtain ⟨lu, e⟩ := h.e
  have d1 := (d.send x).1 h0
  have hk : (sendE a x).1 = { a with new := a.new ++ [x] } := by
    unfold sendE at h0 ⊢
    split at h0
    · cases h0
    · split at h0
      · cases h0
      · rename_i g1 g2; rw [if_neg g1, if_neg g2]
  have e1 : Dir M U lu b (sendE a x).1 := e.rcong (by rw [hk]) (by rw [hk]) (by rw [hk])
  have hl' : (L ++ [x]).length ≤ 600 := by simp; omega
  exact ⟨⟨lo, d1⟩, ⟨lu, e1⟩, (h.wa.send x).norm e1 d1 hW h.hM hl', h.wb, fun fr q => by rw [hk]; exact (h.f fr q).app x, h.g, hl', h.hM⟩
theorem Meet.out (h : Meet W P V Q L M T U F G a b) (hP : 1 ≤ P) : Meet W P V Q L M T U (F ++ (outE a).2) G (outE a).1 b := by
  obtain ⟨lo, d⟩ := h.d
  obtain ⟨lu, e⟩ := h.e
  obtain ⟨d1, hg⟩ := d.out
  obtain ⟨k1, k2, k3, k4, k5, k6, k7⟩ := fill_keeps a.new.length a
  have hx : (outE a).1.exp = a.exp := k1
  have hn : a.next ≤ (outE a).1.next := k5
  exact ⟨⟨lo, d1⟩, ⟨lu, e.routE⟩, h.wa.out hP, h.wb, fun fr q => by
    rcases List.mem_append.1 q with q | q
    · exact (h.f fr q).mono hn (by rw [hx]; exact Nat.le_refl _)
    · rw [hx]; exact hg fr q, h.g, h.hL, h.hM⟩
theorem Meet.recv (h : Meet W P V Q L M T U F G a b) (hW : W ≤ 256) {fr : Bs} (hf : fr ∈ G) : Meet W P V Q L M T U F G (recvE a fr).1 b ∧ ((recvE a fr).2 = 0 ∨ (recvE a fr).2 = 261) ∧ (W = V → (recvE a fr).2 = 0) := by
  obtain ⟨lo, d⟩ := h.d
  obtain ⟨lu, e⟩ := h.e
  obtain ⟨lo', _, d1, e1, k1, k2, k3, k4, k5⟩ := recv_good d e (h.g fr hf) (Nat.le_refl _) (Nat.le_refl _) (by have := h.hL; omega) (by have := h.hM; omega)
  exact ⟨⟨⟨_, d1⟩, ⟨_, e1⟩, (h.wa.recv fr).norm e1 d1 hW h.hM h.hL, h.wb, fun x q => (h.f x q).mono (by rw [k2]; exact Nat.le_refl _) k1, h.g, h.hL, h.hM⟩, k4, fun hv => k5 (by have h1 := h.wb.fw; have h2 := h.wa.wi; omega)⟩
theorem Meet.tick (h : Meet W P V Q L M T U F G a b) (hP : 1 ≤ P) : Meet W P V Q L M T U F G (tickE a) b := by
  obtain ⟨lo, d⟩ := h.d
  obtain ⟨lu, e⟩ := h.e
  exact ⟨⟨lo, d.tick⟩, ⟨lu, e.rtick⟩, h.wa.tick hP, h.wb, h.f, h.g, h.hL, h.hM⟩
theorem Meet.next (h : Meet W P V Q L M T U F G a b) {c : Bs} {t : List Bs} (hc : a.come = c :: t) : M[U]? = some c ∧ Meet W P V Q L M T (U + 1) F G { a with come := t } b := by
  obtain ⟨lo, d⟩ := h.d
  obtain ⟨lu, e⟩ := h.e
  obtain ⟨h1, h2⟩ := e.next hc
  exact ⟨h1, ⟨⟨lo, d.scong rfl rfl rfl⟩, ⟨lu, h2⟩, (h.wa.next hc), h.wb, h.f, h.g, h.hL, h.hM⟩⟩
/-- What has come is what is left to be told. -/
theorem Meet.left (h : Meet W P V Q L M T U F G a b) : U + a.come.length = a.exp ∧ a.exp ≤ M.length := by
  obtain ⟨lu, e⟩ := h.e
  exact ⟨e.tc, e.exl⟩
end
/-! ## Rounds -/
def recvs (s : ES) (l : List Bs) : ES := l.foldl (fun s fr => (recvE s fr).1) s
def ticks : Nat → ES → ES
  | 0, s => s
  | k + 1, s => tickE (ticks k s)
def roundE (P Q : Nat) (a b : ES) : ES × ES :=
  let a1 := ticks P a
  let b2 := recvs (ticks Q b) (outE a1).2
  (recvs (outE a1).1 (outE b2).2, (outE b2).1)
theorem ticks_same : ∀ (k : Nat) (s : ES), (ticks k s).next = s.next ∧ (ticks k s).new = s.new ∧ (ticks k s).exp = s.exp ∧ (ticks k s).owed = s.owed ∧ (ticks k s).win = s.win ∧ (ticks k s).pat = s.pat ∧ (ticks k s).fly.length = s.fly.length
  | 0, s => ⟨rfl, rfl, rfl, rfl, rfl, rfl, rfl⟩
  | k + 1, s => by
    obtain ⟨h1, h2, h3, h4, h5, h6, h7⟩ := ticks_same k s
    exact ⟨h1, h2, h3, h4, h5, h6, by rw [← h7]; simp [ticks, tickE]⟩
theorem ticks_fly {P : Nat} : ∀ (k : Nat) {s : ES}, s.pat = P → k ≤ P → (∀ q ∈ s.fly, q.age < P) → ∀ i, i < s.fly.length → ∃ q, s.fly[i]? = some q ∧ ∃ q', (ticks k s).fly[i]? = some q' ∧ (q.age + k < P → q'.age = q.age + k) ∧ (P ≤ q.age + k → q'.age + P = q.age + k ∧ q'.due = true)
  | 0, s, hp, hk, ha, i, hi => ⟨_, List.getElem?_eq_getElem hi, _, List.getElem?_eq_getElem hi, fun _ => rfl, fun h => by have := ha _ (List.getElem_mem hi); omega⟩
  | k + 1, s, hp, hk, ha, i, hi => by
    obtain ⟨q, h1, q', h2, h3, h4⟩ := ticks_fly k hp (by omega) ha i hi
    have hpat : (ticks k s).pat = P := by rw [(ticks_same k s).2.2.2.2.2.1]; exact hp
    refine ⟨q, h1, tickM P q', by show (List.map (tickM (ticks k s).pat) _)[i]? = _; rw [List.getElem?_map, h2, hpat]; rfl, fun h => ?_, fun h => ?_⟩
    · have := h3 (by omega)
      unfold tickM
      rw [if_neg (by omega)]
      simp only; omega
    · have hq := ha q (List.mem_of_getElem? h1)
      by_cases e : q.age + k < P
      · have := h3 e
        unfold tickM
        rw [if_pos (by omega)]
        simp only
        exact ⟨by omega, trivial⟩
      · obtain ⟨h5, h6⟩ := h4 (by omega)
        unfold tickM
        rw [if_neg (by omega)]
        simp only
        exact ⟨by omega, h6⟩
theorem ticks_due {P : Nat} {s : ES} (hp : s.pat = P) (ha : ∀ q ∈ s.fly, q.age < P) : ∀ q ∈ (ticks P s).fly, q.due = true := by
  intro q hq
  obtain ⟨i, hi, rfl⟩ := List.mem_iff_getElem.1 hq
  obtain ⟨_, h1, q', h2, _, h4⟩ := ticks_fly P hp (Nat.le_refl _) ha i (by rw [← (ticks_same P s).2.2.2.2.2.2]; exact hi)
  rw [List.getElem?_eq_getElem hi] at h2
  cases h2
  exact (h4 (by omega)).2
theorem fill_more : ∀ (f : Nat) (s : ES), (fillE f s).new.length ≤ s.new.length ∧ s.fly.length ≤ (fillE f s).fly.length ∧ (s.new = [] → (fillE f s) = s) ∧ ((∀ q ∈ s.fly, q.due = true) → ∀ q ∈ (fillE f s).fly, q.due = true)
  | 0, s => ⟨Nat.le_refl _, Nat.le_refl _, fun _ => rfl, fun h => h⟩
  | f + 1, s => by
    rw [fillE_succ]
    split
    · cases hn : s.new with
      | nil => exact ⟨by simp [hn], Nat.le_refl _, fun _ => rfl, fun h => h⟩
      | cons b t =>
        obtain ⟨h1, h2, h3, h4⟩ := fill_more f { s with fly := s.fly ++ [⟨s.next, b, 0, true⟩], new := t, next := s.next + 1 }
        simp only [List.length_append, List.length_cons, List.length_nil] at h1 h2
        refine ⟨by simp only [List.length_cons]; omega, by simp only; omega, fun e => by simp at e, fun h => h4 (fun q hq => ?_)⟩
        rcases List.mem_append.1 hq with hq | hq
        · exact h q hq
        · rw [List.mem_singleton.1 hq]
    · exact ⟨Nat.le_refl _, Nat.le_refl _, fun _ => rfl, fun h => h⟩
theorem fill_less {s : ES} (hw : 1 ≤ s.win) (hf : s.fly = []) (hn : s.new ≠ []) : (fillE s.new.length s).new.length < s.new.length ∧ (fillE s.new.length s).fly ≠ [] := by
  cases h : s.new with
  | nil => exact absurd h hn
  | cons b t =>
    rw [List.length_cons, fillE_succ, if_pos (by rw [hf]; exact hw), h]
    simp only
    obtain ⟨h1, h2, _, _⟩ := fill_more t.length { s with fly := s.fly ++ [⟨s.next, b, 0, true⟩], new := t, next := s.next + 1 }
    simp only [List.length_append, List.length_cons, List.length_nil] at h1 h2
    exact ⟨by simpa using Nat.lt_succ_of_le h1, fun e => by rw [e] at h2; simp at h2⟩
def ackF (k : Nat) (l : List Msg) : List Msg := l.filter fun m => !decide (m.seq < k)
theorem ackF_ackF (k : Nat) (l : List Msg) : ackF k (ackF k l) = ackF k l := by unfold ackF; rw [List.filter_filter]; congr 1; funext m; simp
section
variable {L M : List Bs} {T U lo lu : Nat} {a b : ES}
/-- Data frames, rising from what is expected on. -/
theorem recvs_data (hL : L.length ≤ 600) (hM : M.length ≤ 600) : ∀ (l : List Msg) {q lu : Nat} {r : ES}, Dir L T lo a r → Dir M U lu r a → 1 ≤ r.win → (∀ m ∈ l, m.seq < a.next ∧ L[m.seq]? = some m.body) → l.map (·.seq) = List.range' q l.length → q ≤ r.exp →
    ∃ lu', Dir L T lo a (recvs r (l.map (msgB a.exp))) ∧ Dir M U lu' (recvs r (l.map (msgB a.exp))) a ∧ (recvs r (l.map (msgB a.exp))).win = r.win ∧ (recvs r (l.map (msgB a.exp))).new = r.new ∧ (recvs r (l.map (msgB a.exp))).next = r.next ∧ r.exp ≤ (recvs r (l.map (msgB a.exp))).exp ∧
      q + l.length ≤ (recvs r (l.map (msgB a.exp))).exp ∧ (recvs r (l.map (msgB a.exp))).fly = (if l = [] then r.fly else ackF a.exp r.fly) ∧ (recvs r (l.map (msgB a.exp))).owed = (if l = [] then r.owed else true)
  | [], q, lu, r, d, e, hw, hm, hs, hq => ⟨lu, d, e, rfl, rfl, rfl, Nat.le_refl _, hq, rfl, rfl⟩
  | m :: l, q, lu, r, d, e, hw, hm, hs, hq => by
    have hm0 := hm m List.mem_cons_self
    simp only [List.map_cons, List.length_cons, List.range'_succ, List.cons.injEq] at hs
    obtain ⟨hs0, hs1⟩ := hs
    have hbl : m.body.length ≤ 4096 := d.len _ (List.mem_of_getElem? hm0.2)
    have e1 := d.ex
    have e2 := d.nl
    have e3 := e.ex
    have e4 := e.nl
    have hp := parse_data (s := m.seq) (k := a.exp) (body := m.body) (by omega) (by omega) hbl
    have hrec : recvE r (msgB a.exp m) = (dataE (ackE r a.exp) m.seq m.body, 0) := by
      unfold recvE msgB
      rw [hp]
      simp only
      rw [if_neg (by decide), if_neg (by omega), if_neg (fun y => by have := y.2; omega), if_neg (by decide)]
    have ha := e.ack (a := a.exp) (Nat.le_refl _)
    have da : Dir L T lo a (ackE r a.exp) := d.rcong rfl rfl rfl
    obtain ⟨d1, d2, d3⟩ := da.data (q := m.seq) (b := m.body) hm0.1 hm0.2
    obtain ⟨k1, k2, k3, k4, k5, k6⟩ := data_keeps (ackE r a.exp) m.seq m.body
    have e5 : Dir M U (max lu a.exp) (dataE (ackE r a.exp) m.seq m.body) a := ha.scong k1 k2 (by rw [k3])
    have hx : r.exp ≤ (dataE (ackE r a.exp) m.seq m.body).exp := d2
    have hx1 : q + 1 ≤ (dataE (ackE r a.exp) m.seq m.body).exp := by
      by_cases z : m.seq = r.exp
      · have h1 : r.exp + 1 ≤ _ := d3 z; omega
      · omega
    obtain ⟨lu', g1, g2, g3, g4, g5, g6, g7, g8, g9⟩ := recvs_data hL hM l (r := dataE (ackE r a.exp) m.seq m.body) d1 e5 (by rw [k5]; exact hw) (fun x hx => hm x (List.mem_cons_of_mem _ hx)) hs1 hx1
    have hrw : recvs r ((m :: l).map (msgB a.exp)) = recvs (dataE (ackE r a.exp) m.seq m.body) (l.map (msgB a.exp)) := by
      unfold recvs
      rw [List.map_cons, List.foldl_cons, hrec]
    rw [hrw]
    refine ⟨lu', g1, g2, g3.trans k5, g4.trans k2, g5.trans k1, by omega, by simp only [List.length_cons]; omega, ?_, ?_⟩
    · rw [g8, k3, if_neg (c := m :: l = []) (by simp)]
      show (if l = [] then ackF a.exp r.fly else ackF a.exp (ackF a.exp r.fly)) = _
      rw [ackF_ackF]
      split <;> rfl
    · rw [g9, k4, if_neg (c := m :: l = []) (by simp)]
      split <;> rfl
/-- One end's frames go over, all of them due. -/
theorem half {W P V Q : Nat} {F G : List Bs} (hP : 1 ≤ P) (hV : 1 ≤ V ∧ V ≤ 256) (h : Meet W P V Q L M T U F G a b) (hd : ∀ q ∈ a.fly, q.due = true) :
    Meet W P V Q L M T U [] [] (outE a).1 (recvs b (outE a).2) ∧ (recvs b (outE a).2).exp = (outE a).1.next ∧ (recvs b (outE a).2).new = b.new ∧ (recvs b (outE a).2).next = b.next ∧
      (recvs b (outE a).2).fly = (if (outE a).2 = [] then b.fly else ackF a.exp b.fly) ∧ ((outE a).1.fly ≠ [] → (recvs b (outE a).2).owed = true) ∧ ((outE a).1.fly ≠ [] ∨ a.owed = true → (outE a).2 ≠ []) := by
  obtain ⟨k1, k2, k3, k4, k5, k6, k7⟩ := fill_keeps a.new.length a
  obtain ⟨-, -, -, hdue⟩ := fill_more a.new.length a
  replace hdue := hdue hd
  have ho := (h.few (F' := []) (G' := []) (fun x q => by cases q) (fun x q => by cases q)).out hP
  obtain ⟨lo, d⟩ := ho.d
  obtain ⟨lu, e⟩ := ho.e
  have hx : (outE a).1.exp = a.exp := k1
  have hdb : dueB (fillE a.new.length a).exp (fillE a.new.length a).fly = (fillE a.new.length a).fly.map (msgB a.exp) := by
    unfold dueB
    rw [k1, List.filter_eq_self.2 hdue]
  have hfl : (outE a).1.fly = (fillE a.new.length a).fly.map undue := rfl
  have hmb : (fillE a.new.length a).fly.map (msgB a.exp) = (outE a).1.fly.map (msgB a.exp) := by
    rw [hfl, List.map_map]
    rfl
  have hfly := d.fly
  have hlon := d.lon
  have hlen : (outE a).1.fly.length = (outE a).1.next - lo := by have := congrArg List.length hfly; simpa using this
  have hlor := d.lor
  have hex := d.ex
  have hwv := h.wb.wi
  by_cases hne : (outE a).1.fly = []
  · have hf0 : (fillE a.new.length a).fly = [] := by rw [hfl] at hne; simpa using hne
    have hxn : b.exp = (outE a).1.next := by rw [hne] at hlen; simp at hlen; omega
    have hout : (outE a).2 = if a.owed = true then [frame (ackL a.exp)] else [] := by
      unfold outE
      simp only
      rw [hdb, hf0, k4, k1]
      simp
    by_cases how : a.owed = true
    · rw [if_pos how] at hout
      have hp := parse_ack (k := a.exp) (by have := h.left; have := h.hM; omega)
      have e3 := e.ex
      have hrec : recvE b (frame (ackL a.exp)) = (ackE b a.exp, 0) := by
        unfold recvE
        rw [hp]
        simp only
        rw [if_neg (by decide), if_neg (by rw [hx] at e3; omega), if_neg (fun y => absurd y.1 (by decide)), if_pos trivial]
      have hrc : recvs b (outE a).2 = ackE b a.exp := by rw [hout]; unfold recvs; simp [hrec]
      have hg := (ho.swap.few (F' := []) (G' := (outE a).2) (fun x q => by cases q) (fun x q => by simpa using q)).recv (fr := frame (ackL a.exp)) hV.2 (by rw [hout]; simp)
      rw [hrec] at hg
      rw [hrc]
      refine ⟨hg.1.swap.few (fun x q => by cases q) (fun x q => by cases q), hxn, rfl, rfl, ?_, fun q => absurd hne q, fun _ => by rw [hout]; simp⟩
      rw [if_neg (by rw [hout]; simp)]
      rfl
    · rw [if_neg how] at hout
      rw [hout]
      refine ⟨ho.few (fun x q => by cases q) (fun x q => by cases q), hxn, rfl, rfl, rfl, fun q => absurd hne q, fun q => ?_⟩
      rcases q with q | q
      · exact absurd hne q
      · exact absurd q how
  · have hout : (outE a).2 = (outE a).1.fly.map (msgB (outE a).1.exp) := by
      rw [hx, ← hmb]
      show (if (fillE a.new.length a).owed = true ∧ (dueB (fillE a.new.length a).exp (fillE a.new.length a).fly).length = 0 then _ else _) = _
      rw [hdb, if_neg (fun q => ?_)]
      have h1 := q.2
      rw [hmb, List.length_map] at h1
      exact hne (List.eq_nil_of_length_eq_zero h1)
    have hrg : (outE a).1.fly.map (·.seq) = List.range' lo (outE a).1.fly.length := by rw [hlen]; exact hfly
    have hm : ∀ m ∈ (outE a).1.fly, m.seq < (outE a).1.next ∧ L[m.seq]? = some m.body := fun m hm => by
      refine ⟨?_, d.flb m hm⟩
      have : m.seq ∈ (outE a).1.fly.map (·.seq) := List.mem_map.2 ⟨m, hm, rfl⟩
      rw [hfly, List.mem_range'_1] at this
      omega
    obtain ⟨lu', g1, g2, g3, g4, g5, g6, g7, g8, g9⟩ := recvs_data h.hL h.hM (outE a).1.fly d e (by omega) hm hrg hlor
    rw [← hout, if_neg hne] at g8 g9
    rw [← hout] at g1 g2 g3 g4 g5 g6 g7
    have g10 := g1.ex
    rw [hx] at g8
    have hwb : ∀ (l : List Bs) {r : ES} {lu : Nat}, WinI V Q 900 r → ∃ i, WinI V Q i (recvs r l) := fun l => by
      induction l with
      | nil => intro r lu hr; exact ⟨_, hr⟩
      | cons x l ih =>
        intro r lu hr
        have : ∀ (l : List Bs) (i : Nat) {r : ES}, WinI V Q i r → ∃ j, WinI V Q j (recvs r l) := fun l => by
          induction l with
          | nil => intro i r hr; exact ⟨_, hr⟩
          | cons x l ih => intro i r hr; exact ih _ (hr.recv x)
        exact this (x :: l) _ hr
    obtain ⟨i, hwi⟩ := hwb (outE a).2 (lu := 0) h.wb
    refine ⟨⟨⟨_, g1⟩, ⟨_, g2⟩, ho.wa, hwi.norm g1 g2 hV.2 h.hL h.hM, (fun x q => by cases q), (fun x q => by cases q), h.hL, h.hM⟩, by omega, g4, g5, ?_, fun _ => g9, fun _ q => hne ?_⟩
    · rw [if_neg (fun q => hne ?_), g8]
      rw [hout] at q
      simpa using q
    · rw [hout] at q
      simpa using q
end
/-- After each round: the first one's flying ones are acknowledged, the other's have come. -/
structure RQ (a b : ES) : Prop where
  fa : a.fly = []
  ea : a.exp = b.next
  eb : b.exp = a.next
  ow : b.fly ≠ [] → a.owed = true
def potA (a : ES) : Nat := a.new.length + (if a.fly = [] then 0 else 1)
def potB (b : ES) : Nat := if b.new = [] ∧ b.fly = [] then 0 else b.new.length + 1
section
variable {W P V Q : Nat} {L M : List Bs} {T U : Nat} {F G : List Bs} {a b : ES}
theorem Meet.ticks (hP : 1 ≤ P) (h : Meet W P V Q L M T U F G a b) : ∀ k, Meet W P V Q L M T U F G (ticks k a) b
  | 0 => h
  | k + 1 => (h.ticks hP k).tick hP
theorem ackF_all {k : Nat} {l : List Msg} (h : ∀ m ∈ l, m.seq < k) : ackF k l = [] := by
  unfold ackF
  rw [List.filter_eq_nil_iff]
  intro m hm
  simp [h m hm]
def rounds (P Q : Nat) : Nat → ES → ES → ES × ES
  | 0, a, b => (a, b)
  | k + 1, a, b => roundE P Q (rounds P Q k a b).1 (rounds P Q k a b).2
end
end Go.Proofs.Ytjjgojgahibpgaa

/- A net of ends, in plain words; what holds of it. -/
namespace Go.Proofs.Ytjjgojgahibpgaa
open Go.Proofs.Eng Go.Proofs.Codec Go.Proofs.Link
set_option linter.unusedSimpArgs false
set_option linter.unusedVariables false
structure PK where
  fr : Nat
  to : Nat
  b : Bs
structure NS where
  N : Nat
  win : Nat
  pat : Nat
  E : Nat → Nat → ES
  P : Nat → Nat → Bool
  way : List PK
def upd2 {α : Type} (f : Nat → Nat → α) (a c : Nat) (v : α) : Nat → Nat → α := fun x y => if x = a ∧ y = c then v else f x y
theorem upd2_at {α : Type} (f : Nat → Nat → α) (a c : Nat) (v : α) : upd2 f a c v a c = v := if_pos ⟨rfl, rfl⟩
theorem upd2_ne {α : Type} (f : Nat → Nat → α) {a c x y : Nat} (v : α) (h : ¬ (x = a ∧ y = c)) : upd2 f a c v x y = f x y := if_neg h
theorem upd2_same {α : Type} (f : Nat → Nat → α) (a c : Nat) : upd2 f a c (f a c) = f := by
  funext x y
  unfold upd2
  split
  · rename_i h; rw [h.1, h.2]
  · rfl
def twoN (ns : NS) (a c : Int) : Bool := decide (0 ≤ a ∧ 0 ≤ c ∧ a < ns.N ∧ c < ns.N ∧ a ≠ c)
def sendN (ns : NS) (a c : Nat) (b : Bs) : NS × Nat := ({ ns with E := upd2 ns.E a c (sendE (ns.E a c) b).1 }, (sendE (ns.E a c) b).2)
def capA (l : List PK) (x : PK) : List PK := if l.length < 4096 then l ++ [x] else l
def let1 (ns : NS) (a c : Nat) : NS := { ns with E := upd2 ns.E a c (outE (ns.E a c)).1, way := if ns.P a c then ns.way else ((outE (ns.E a c)).2.map (PK.mk a c)).foldl capA ns.way }
def letK (a : Nat) : Nat → NS → NS
  | 0, ns => ns
  | k + 1, ns => let1 (letK a k ns) a k
def letC (a : Nat) : Nat → NS → Nat
  | 0, _ => 0
  | k + 1, ns => letC a k ns + (outE ((letK a k ns).E a k)).2.length
def delN (ns : NS) (i : Nat) : NS × Nat := match ns.way[i]? with
  | none => (ns, 7)
  | some p => ({ ns with E := upd2 ns.E p.to p.fr (recvE (ns.E p.to p.fr) p.b).1, way := ns.way.eraseIdx i }, (recvE (ns.E p.to p.fr) p.b).2)
def dropN (ns : NS) (i : Nat) : NS := { ns with way := ns.way.eraseIdx i }
def dblN (ns : NS) (i : Nat) : NS := match ns.way[i]? with
  | none => ns
  | some p => { ns with way := ns.way ++ [p] }
def setN (ns : NS) (a c : Nat) (v : Bool) : NS := { ns with P := upd2 (upd2 ns.P a c v) c a v }
def tickN (ns : NS) : NS := { ns with E := fun x y => tickE (ns.E x y) }
def firstN (ns : NS) (a : Nat) : Nat → Option Nat
  | 0 => none
  | k + 1 => match firstN ns a k with
    | some c => some c
    | none => if (ns.E a k).come = [] then none else some k
def nextN (ns : NS) (a c : Nat) : NS := { ns with E := upd2 ns.E a c (nextE (ns.E a c)).1 }
def restR (ns : NS) (a : Nat) : Nat → Nat
  | 0 => 0
  | k + 1 => restR ns a k + ((ns.E a k).new.length + (ns.E a k).fly.length)
def restA (ns : NS) : Nat → Nat
  | 0 => 0
  | k + 1 => restA ns k + restR ns k ns.N
def restN (ns : NS) : Nat := restA ns ns.N
def tickR : Nat → NS → NS
  | 0, ns => ns
  | k + 1, ns => tickN (tickR k ns)
def letR : Nat → NS → NS
  | 0, ns => ns
  | k + 1, ns => letK k ns.N (letR k ns)
def delR : Nat → NS → NS
  | 0, ns => ns
  | k + 1, ns => delR k (delN ns 0).1
def sentN (ns : NS) : NS := letR ns.N (tickR ns.pat ns)
def roundN (ns : NS) : NS := delR (sentN ns).way.length (sentN ns)
def drainN : Nat → NS → NS × Nat
  | 0, ns => (ns, 0)
  | f + 1, ns => if restN ns = 0 then (ns, 0) else ((drainN f (roundN ns)).1, (drainN f (roundN ns)).2 + 1)
/-- The frames under way from one to another. -/
def fra (way : List PK) (a c : Nat) : List Bs := (way.filter fun x => decide (x.fr = a ∧ x.to = c)).map (·.b)
theorem fra_mem {way : List PK} {a c : Nat} {f : Bs} : f ∈ fra way a c ↔ ∃ x ∈ way, x.fr = a ∧ x.to = c ∧ x.b = f := by
  unfold fra
  simp only [List.mem_map, List.mem_filter, decide_eq_true_eq]
  constructor
  · rintro ⟨x, ⟨h1, h2, h3⟩, h4⟩; exact ⟨x, h1, h2, h3, h4⟩
  · rintro ⟨x, h1, h2, h3, h4⟩; exact ⟨x, ⟨h1, h2, h3⟩, h4⟩
theorem fra_append (l m : List PK) (a c : Nat) : fra (l ++ m) a c = fra l a c ++ fra m a c := by unfold fra; rw [List.filter_append, List.map_append]
theorem fra_mk (l : List Bs) (a c : Nat) : fra (l.map (PK.mk a c)) a c = l := by
  unfold fra
  rw [List.filter_eq_self.2, List.map_map]
  · show l.map (fun x => x) = l
    simp
  · intro x hx
    obtain ⟨b, _, rfl⟩ := List.mem_map.1 hx
    simp
theorem fra_mk_ne (l : List Bs) (a c x y : Nat) (h : ¬ (x = a ∧ y = c)) : fra (l.map (PK.mk a c)) x y = [] := by
  unfold fra
  rw [List.filter_eq_nil_iff.2, List.map_nil]
  intro z hz
  obtain ⟨b, _, rfl⟩ := List.mem_map.1 hz
  simp only [decide_eq_true_eq]
  rintro ⟨rfl, rfl⟩
  exact h ⟨rfl, rfl⟩
theorem cap_fold : ∀ (l way : List PK), ∃ j, l.foldl capA way = way ++ l.take j ∧ (way.length ≤ 4096 → (l.foldl capA way).length ≤ 4096) ∧ (way.length + l.length ≤ 4096 → l.foldl capA way = way ++ l)
  | [], way => ⟨0, by simp, fun h => h, fun _ => by simp⟩
  | x :: l, way => by
    by_cases h : way.length < 4096
    · have hx : capA way x = way ++ [x] := if_pos h
      rw [List.foldl_cons, hx]
      obtain ⟨j, h1, h2, h3⟩ := cap_fold l (way ++ [x])
      refine ⟨j + 1, by rw [h1]; simp, fun _ => h2 (by simp; omega), fun q => ?_⟩
      rw [h3 (by simp only [List.length_append, List.length_cons, List.length_nil] at q ⊢; omega)]
      simp
    · have hx : ∀ x, capA way x = way := fun x => if_neg h
      have hf : ∀ l : List PK, l.foldl capA way = way := fun l => by
        induction l with
        | nil => rfl
        | cons y l ih => rw [List.foldl_cons, hx]; exact ih
      exact ⟨0, by rw [hf]; simp, fun q => by rw [hf]; exact q, fun q => by simp at q; omega⟩
abbrev LL := Nat → Nat → List Bs
structure NI (k : Nat) (ns : NS) (L : LL) (T : Nat → Nat → Nat) : Prop where
  n2 : 2 ≤ ns.N ∧ ns.N ≤ 8
  wi : 1 ≤ ns.win ∧ ns.win ≤ 256
  pa : 1 ≤ ns.pat ∧ ns.pat ≤ 1000
  mt : ∀ a c, a < ns.N → c < ns.N → a ≠ c → Meet ns.win ns.pat ns.win ns.pat (L a c) (L c a) (T a c) (T c a) (fra ns.way a c) (fra ns.way c a) (ns.E a c) (ns.E c a)
  dg : ∀ a, a < ns.N → ns.E a a = nE ns.win ns.pat
  wl : ns.way.length ≤ 4096
  wk : ∀ x ∈ ns.way, x.fr < ns.N ∧ x.to < ns.N ∧ x.fr ≠ x.to
  ln : ∀ a c, (L a c).length ≤ k
section
variable {k : Nat} {ns : NS} {L : LL} {T : Nat → Nat → Nat}
theorem NI.mono {j : Nat} (h : NI k ns L T) (hj : k ≤ j) : NI j ns L T := { h with ln := fun a c => Nat.le_trans (h.ln a c) hj }
theorem NI.win (h : NI k ns L T) {a c : Nat} (ha : a < ns.N) (hc : c < ns.N) : WinI ns.win ns.pat 900 (ns.E a c) := by
  by_cases e : a = c
  · subst e; rw [h.dg a ha]; exact WinI.new.mono (by omega)
  · exact (h.mt a c ha hc e).wa
theorem NI.ok (h : NI k ns L T) {a c : Nat} (ha : a < ns.N) (hc : c < ns.N) : OkE (ns.E a c) := (h.win ha hc).ok h.wi h.pa (by omega)
/-- One pair's ends turn. -/
theorem NI.pair (h : NI k ns L T) {a c : Nat} (ha : a < ns.N) (hc : c < ns.N) (hac : a ≠ c) {e' : ES} {way' : List PK} {L' : LL} {T' : Nat → Nat → Nat} {j : Nat}
    (hm : Meet ns.win ns.pat ns.win ns.pat (L' a c) (L' c a) (T' a c) (T' c a) (fra way' a c) (fra way' c a) e' (ns.E c a))
    (hL : ∀ x y, ¬ (x = a ∧ y = c) → ¬ (x = c ∧ y = a) → L' x y = L x y ∧ T' x y = T x y) (hw : ∀ x y, ¬ (x = a ∧ y = c) → ¬ (x = c ∧ y = a) → ∀ f ∈ fra way' x y, f ∈ fra ns.way x y)
    (wl : way'.length ≤ 4096) (wk : ∀ x ∈ way', x.fr < ns.N ∧ x.to < ns.N ∧ x.fr ≠ x.to) (ln : ∀ x y, (L' x y).length ≤ j) : NI j { ns with E := upd2 ns.E a c e', way := way' } L' T' :=
  { n2 := h.n2, wi := h.wi, pa := h.pa, wl := wl, wk := wk, ln := ln
    dg := fun x hx => by
      show upd2 ns.E a c e' x x = _
      rw [upd2_ne _ _ (fun q => hac (q.1.symm.trans q.2))]
      exact h.dg x hx
    mt := fun x y hx hy hxy => by
      show Meet ns.win ns.pat ns.win ns.pat (L' x y) (L' y x) (T' x y) (T' y x) (fra way' x y) (fra way' y x) (upd2 ns.E a c e' x y) (upd2 ns.E a c e' y x)
      by_cases e1 : x = a ∧ y = c
      · obtain ⟨rfl, rfl⟩ := e1
        rw [upd2_at, upd2_ne _ _ (fun q => hxy q.2)]
        exact hm
      · by_cases e2 : x = c ∧ y = a
        · obtain ⟨rfl, rfl⟩ := e2
          rw [upd2_at, upd2_ne _ _ (fun q => hxy q.1)]
          exact hm.swap
        · have e3 : ¬ (y = a ∧ x = c) := fun q => e2 ⟨q.2, q.1⟩
          have e4 : ¬ (y = c ∧ x = a) := fun q => e1 ⟨q.2, q.1⟩
          rw [upd2_ne _ _ e1, upd2_ne _ _ e3, (hL x y e1 e2).1, (hL x y e1 e2).2, (hL y x e3 e4).1, (hL y x e3 e4).2]
          exact (h.mt x y hx hy hxy).few (hw x y e1 e2) (hw y x e3 e4) }
theorem NI.way (h : NI k ns L T) {way' : List PK} (hw : ∀ x y f, f ∈ fra way' x y → f ∈ fra ns.way x y) (wl : way'.length ≤ 4096) (wk : ∀ x ∈ way', x.fr < ns.N ∧ x.to < ns.N ∧ x.fr ≠ x.to) : NI k { ns with way := way' } L T :=
  { h with wl := wl, wk := wk, mt := fun a c ha hc e => (h.mt a c ha hc e).few (hw a c) (hw c a) }
theorem NI.send (h : NI k ns L T) (hk : k < 600) {a c : Nat} (ha : a < ns.N) (hc : c < ns.N) (hac : a ≠ c) (b : Bs) (h0 : (sendN ns a c b).2 = 0) : NI (k + 1) (sendN ns a c b).1 (upd2 L a c (L a c ++ [b])) T := by
  have hm := h.mt a c ha hc hac
  refine h.pair (way' := ns.way) ha hc hac ?_ (fun x y e1 e2 => ⟨upd2_ne _ _ e1, rfl⟩) (fun x y _ _ f hf => hf) h.wl h.wk (fun x y => ?_)
  · rw [upd2_at, upd2_ne _ _ (fun q => hac q.2)]
    exact hm.send h.wi.2 (by have := h.ln a c; omega) b h0
  · unfold upd2
    have := h.ln x y
    split
    · have := h.ln a c; simp; omega
    · omega
theorem send_no (ns : NS) (a c : Nat) (b : Bs) (h0 : (sendN ns a c b).2 ≠ 0) : (sendN ns a c b).1 = ns := by
  have : (sendE (ns.E a c) b).1 = ns.E a c := by
    unfold sendN sendE at h0
    unfold sendE
    simp only at h0
    split at h0
    · rename_i g; rw [if_pos g]
    · rename_i g
      split at h0
      · rename_i g2; rw [if_neg g, if_pos g2]
      · exact absurd rfl h0
  unfold sendN
  simp only
  rw [this, upd2_same]
theorem nE_out (W P : Nat) : outE (nE W P) = (nE W P, []) := by simp [outE, nE, fillE, dueB]
theorem NI.let1 (h : NI k ns L T) {a c : Nat} (ha : a < ns.N) (hc : c < ns.N) : NI k (let1 ns a c) L T := by
  by_cases hac : a = c
  · subst hac
    have : Ytjjgojgahibpgaa.let1 ns a a = ns := by
      unfold Go.Proofs.Ytjjgojgahibpgaa.let1
      rw [h.dg a ha, nE_out]
      simp only [List.map_nil, List.foldl_nil, ite_self]
      rw [← h.dg a ha, upd2_same]
    rw [this]
    exact h
  · have hm := (h.mt a c ha hc hac).out h.pa.1
    obtain ⟨j, h1, h2, h3⟩ := cap_fold ((outE (ns.E a c)).2.map (PK.mk a c)) ns.way
    have hin : ∀ x ∈ (if ns.P a c then ns.way else ((outE (ns.E a c)).2.map (PK.mk a c)).foldl capA ns.way), x ∈ ns.way ∨ x ∈ (outE (ns.E a c)).2.map (PK.mk a c) := fun x hx => by
      split at hx
      · exact .inl hx
      · rw [h1] at hx
        rcases List.mem_append.1 hx with q | q
        · exact .inl q
        · exact .inr (List.mem_of_mem_take q)
    refine h.pair ha hc hac (hm.few (fun f hf => ?_) (fun f hf => ?_)) (fun _ _ _ _ => ⟨rfl, rfl⟩) (fun x y e1 e2 f hf => ?_) ?_ (fun x hx => ?_) h.ln
    · obtain ⟨x, hx, g1, g2, g3⟩ := fra_mem.1 hf
      rcases hin x hx with q | q
      · exact List.mem_append_left _ (fra_mem.2 ⟨x, q, g1, g2, g3⟩)
      · obtain ⟨b, hb, rfl⟩ := List.mem_map.1 q
        rw [← g3]
        exact List.mem_append_right _ hb
    · obtain ⟨x, hx, g1, g2, g3⟩ := fra_mem.1 hf
      rcases hin x hx with q | q
      · exact fra_mem.2 ⟨x, q, g1, g2, g3⟩
      · obtain ⟨b, hb, rfl⟩ := List.mem_map.1 q
        exact absurd g1 hac
    · obtain ⟨x', hx, g1, g2, g3⟩ := fra_mem.1 hf
      rcases hin x' hx with q | q
      · exact fra_mem.2 ⟨x', q, g1, g2, g3⟩
      · obtain ⟨b, hb, rfl⟩ := List.mem_map.1 q
        exact absurd ⟨g1.symm, g2.symm⟩ e1
    · split
      · exact h.wl
      · exact h2 h.wl
    · rcases hin x hx with q | q
      · exact h.wk x q
      · obtain ⟨b, hb, rfl⟩ := List.mem_map.1 q
        exact ⟨ha, hc, hac⟩
theorem letK_N (a : Nat) : ∀ (c : Nat) (ns : NS), (letK a c ns).N = ns.N ∧ (letK a c ns).win = ns.win ∧ (letK a c ns).pat = ns.pat ∧ (letK a c ns).P = ns.P
  | 0, ns => ⟨rfl, rfl, rfl, rfl⟩
  | c + 1, ns => letK_N a c ns
theorem NI.letK (h : NI k ns L T) {a : Nat} (ha : a < ns.N) : ∀ c, c ≤ ns.N → NI k (letK a c ns) L T
  | 0, _ => h
  | c + 1, hc => (h.letK ha c (by omega)).let1 (by rw [(letK_N a c ns).1]; exact ha) (by rw [(letK_N a c ns).1]; omega)
theorem letR_N : ∀ (c : Nat) (ns : NS), (letR c ns).N = ns.N ∧ (letR c ns).win = ns.win ∧ (letR c ns).pat = ns.pat ∧ (letR c ns).P = ns.P
  | 0, ns => ⟨rfl, rfl, rfl, rfl⟩
  | c + 1, ns => by
    have h1 := letR_N c ns
    have h2 := letK_N c ns.N (letR c ns)
    unfold letR
    exact ⟨h2.1.trans h1.1, h2.2.1.trans h1.2.1, h2.2.2.1.trans h1.2.2.1, h2.2.2.2.trans h1.2.2.2⟩
theorem NI.letR (h : NI k ns L T) : ∀ c, c ≤ ns.N → NI k (letR c ns) L T
  | 0, _ => h
  | c + 1, hc => (h.letR c (by omega)).letK (by rw [(letR_N c ns).1]; omega) ns.N (by rw [(letR_N c ns).1]; exact Nat.le_refl _)
theorem erase_mem {way : List PK} {i : Nat} {x : PK} (h : x ∈ way.eraseIdx i) : x ∈ way := (List.eraseIdx_sublist way i).subset h
theorem NI.drop (h : NI k ns L T) (i : Nat) : NI k (dropN ns i) L T := h.way (fun x y f hf => by
    obtain ⟨z, hz, g⟩ := fra_mem.1 hf
    exact fra_mem.2 ⟨z, erase_mem hz, g⟩) (by have := h.wl; have := (List.eraseIdx_sublist ns.way i).length_le; omega) (fun x hx => h.wk x (erase_mem hx))
theorem NI.del (h : NI k ns L T) {i : Nat} {p : PK} (hp : ns.way[i]? = some p) : NI k (delN ns i).1 L T ∧ (delN ns i).2 = 0 := by
  have hmem : p ∈ ns.way := List.mem_of_getElem? hp
  obtain ⟨h1, h2, h3⟩ := h.wk p hmem
  obtain ⟨g1, g2, g3⟩ := (h.mt p.to p.fr h2 h1 (Ne.symm h3)).recv h.wi.2 (fra_mem.2 ⟨p, hmem, rfl, rfl, rfl⟩)
  unfold delN
  rw [hp]
  refine ⟨h.pair h2 h1 (Ne.symm h3) (g1.few ?_ ?_) (fun _ _ _ _ => ⟨rfl, rfl⟩) (fun x y _ _ => ?_) (h.drop i).wl (h.drop i).wk h.ln, g3 rfl⟩ <;>
    (intro f hf; obtain ⟨z, hz, g⟩ := fra_mem.1 hf; exact fra_mem.2 ⟨z, erase_mem hz, g⟩)
theorem del_none {i : Nat} (h : ns.way[i]? = none) : delN ns i = (ns, 7) := by unfold delN; rw [h]
theorem NI.dbl (h : NI k ns L T) (hl : ns.way.length < 4096) (i : Nat) : NI k (dblN ns i) L T := by
  unfold dblN
  cases hp : ns.way[i]? with
  | none => exact h
  | some p =>
    have hmem : p ∈ ns.way := List.mem_of_getElem? hp
    have hin : ∀ x ∈ ns.way ++ [p], x ∈ ns.way := fun x hx => by
      rcases List.mem_append.1 hx with q | q
      · exact q
      · rw [List.mem_singleton.1 q]; exact hmem
    exact h.way (fun x y f hf => by
      obtain ⟨z, hz, g⟩ := fra_mem.1 hf
      exact fra_mem.2 ⟨z, hin z hz, g⟩) (by simp; omega) (fun x hx => h.wk x (hin x hx))
theorem NI.set (h : NI k ns L T) (a c : Nat) (v : Bool) : NI k (setN ns a c v) L T := { h with }
theorem nE_tick (W P : Nat) : tickE (nE W P) = nE W P := by simp [tickE, nE]
theorem NI.tick (h : NI k ns L T) : NI k (tickN ns) L T :=
  { h with
    mt := fun a c ha hc e => ((((h.mt a c ha hc e).tick h.pa.1).swap).tick h.pa.1).swap
    dg := fun a ha => by
      show tickE (ns.E a a) = _
      rw [h.dg a ha, nE_tick]
      rfl }
theorem tickR_N : ∀ (c : Nat) (ns : NS), (tickR c ns).N = ns.N ∧ (tickR c ns).win = ns.win ∧ (tickR c ns).pat = ns.pat ∧ (tickR c ns).P = ns.P ∧ (tickR c ns).way = ns.way
  | 0, ns => ⟨rfl, rfl, rfl, rfl, rfl⟩
  | c + 1, ns => tickR_N c ns
theorem NI.tickR (h : NI k ns L T) : ∀ c, NI k (tickR c ns) L T
  | 0 => h
  | c + 1 => (h.tickR c).tick
theorem NI.next (h : NI k ns L T) {a c : Nat} (ha : a < ns.N) (hc : c < ns.N) {b : Bs} {t : List Bs} (he : (ns.E a c).come = b :: t) :
    a ≠ c ∧ (L c a)[T c a]? = some b ∧ NI k (nextN ns a c) L (upd2 T c a (T c a + 1)) := by
  have hac : a ≠ c := fun e => by
    subst e
    rw [h.dg a ha] at he
    simp [nE] at he
  obtain ⟨g1, g2⟩ := (h.mt a c ha hc hac).next he
  refine ⟨hac, g1, ?_⟩
  unfold nextN
  have : (nextE (ns.E a c)).1 = { ns.E a c with come := t } := by unfold nextE; rw [he]
  rw [this]
  refine h.pair (way' := ns.way) ha hc hac ?_ (fun x y e1 e2 => ⟨rfl, upd2_ne _ _ e2⟩) (fun x y _ _ f hf => hf) h.wl h.wk h.ln
  rw [upd2_at, upd2_ne _ _ (fun q => hac q.1)]
  exact g2
theorem delR_N : ∀ (c : Nat) (ns : NS), (delR c ns).N = ns.N ∧ (delR c ns).win = ns.win ∧ (delR c ns).pat = ns.pat ∧ (delR c ns).P = ns.P
  | 0, ns => ⟨rfl, rfl, rfl, rfl⟩
  | c + 1, ns => by
    have h1 := delR_N c (delN ns 0).1
    have h2 : (delN ns 0).1.N = ns.N ∧ (delN ns 0).1.win = ns.win ∧ (delN ns 0).1.pat = ns.pat ∧ (delN ns 0).1.P = ns.P := by
      unfold delN
      split <;> exact ⟨rfl, rfl, rfl, rfl⟩
    unfold delR
    exact ⟨h1.1.trans h2.1, h1.2.1.trans h2.2.1, h1.2.2.1.trans h2.2.2.1, h1.2.2.2.trans h2.2.2.2⟩
theorem NI.delR : ∀ (c : Nat) {ns : NS}, NI k ns L T → NI k (delR c ns) L T
  | 0, ns, h => h
  | c + 1, ns, h => by
    refine NI.delR c ?_
    cases hp : ns.way[0]? with
    | none => rw [del_none hp]; exact h
    | some p => exact (h.del hp).1
theorem sentN_N (ns : NS) : (sentN ns).N = ns.N ∧ (sentN ns).win = ns.win ∧ (sentN ns).pat = ns.pat ∧ (sentN ns).P = ns.P := by
  have h1 := letR_N ns.N (tickR ns.pat ns)
  have h2 := tickR_N ns.pat ns
  unfold sentN
  exact ⟨h1.1.trans h2.1, h1.2.1.trans h2.2.1, h1.2.2.1.trans h2.2.2.1, h1.2.2.2.trans h2.2.2.2.1⟩
theorem NI.sent (h : NI k ns L T) : NI k (sentN ns) L T := (h.tickR ns.pat).letR ns.N (by rw [(tickR_N ns.pat ns).1]; exact Nat.le_refl _)
theorem roundN_N (ns : NS) : (roundN ns).N = ns.N ∧ (roundN ns).win = ns.win ∧ (roundN ns).pat = ns.pat ∧ (roundN ns).P = ns.P := by
  have h1 := delR_N (sentN ns).way.length (sentN ns)
  have h2 := sentN_N ns
  unfold roundN
  exact ⟨h1.1.trans h2.1, h1.2.1.trans h2.2.1, h1.2.2.1.trans h2.2.2.1, h1.2.2.2.trans h2.2.2.2⟩
theorem NI.round (h : NI k ns L T) : NI k (roundN ns) L T := NI.delR _ h.sent
theorem drainN_N : ∀ (f : Nat) (ns : NS), (drainN f ns).1.N = ns.N ∧ (drainN f ns).1.win = ns.win ∧ (drainN f ns).1.pat = ns.pat ∧ (drainN f ns).1.P = ns.P
  | 0, ns => ⟨rfl, rfl, rfl, rfl⟩
  | f + 1, ns => by
    unfold drainN
    split
    · exact ⟨rfl, rfl, rfl, rfl⟩
    · have h1 := drainN_N f (roundN ns)
      have h2 := roundN_N ns
      exact ⟨h1.1.trans h2.1, h1.2.1.trans h2.2.1, h1.2.2.1.trans h2.2.2.1, h1.2.2.2.trans h2.2.2.2⟩
theorem NI.drain : ∀ (f : Nat) {ns : NS}, NI k ns L T → NI k (drainN f ns).1 L T
  | 0, ns, h => h
  | f + 1, ns, h => by
    unfold drainN
    split
    · exact h
    · exact NI.drain f h.round
theorem NI.start {W P N : Nat} (hN : 2 ≤ N ∧ N ≤ 8) (hW : 1 ≤ W ∧ W ≤ 256) (hP : 1 ≤ P ∧ P ≤ 1000) : NI 0 ⟨N, W, P, fun _ _ => nE W P, fun _ _ => false, []⟩ (fun _ _ => []) (fun _ _ => 0) :=
  ⟨hN, hW, hP, fun a c _ _ _ => Meet.start, fun _ _ => rfl, Nat.zero_le _, fun x hx => by (cases hx), fun _ _ => Nat.le_refl _⟩
end
end Go.Proofs.Ytjjgojgahibpgaa

/- What an argument that reads as data looks like, when each row and text of it lies within the reach. -/
namespace Go.Proofs.Eng
open Go.RowKit Go.WideShapes
set_option linter.unusedSimpArgs false
set_option linter.unusedVariables false
/-- Bytes of a type, at least. -/
def Ty.wt : Ty → Nat
  | .int _ => 1
  | .bool => 1
  | .str => 16
  | .slice _ => 24
  | .unit => 0
  | .cons a b => a.wt + b.wt
  | .struct p => p.wt
  | .array n e => n * e.wt
def FitS (w : World) : Ty → List Value → Prop
  | .int k, cs => ∃ n, cs = [.int k n] ∧ Fits k n
  | .bool, cs => ∃ b, cs = [.bool b]
  | .str, cs => ∃ s : ByteArray, cs = [.string s] ∧ s.size ≤ 140737488351232
  | .slice e, cs => ∃ (A : Option Addr) (n c : Nat) (xs : List (List Value)), cs = [.slice A n c] ∧ n ≤ c ∧ c ≤ maxLen ∧ c * e.wt ≤ 140737488351232 ∧ xs.length = n ∧ Rd w A n e.size xs.flatten ∧ ∀ x ∈ xs, x.length = e.size ∧ FitS w e x
  | .unit, cs => cs = []
  | .cons a b, cs => ∃ x y, cs = x ++ y ∧ x.length = a.size ∧ FitS w a x ∧ FitS w b y
  | .struct p, cs => FitS w p cs
  | .array n e, cs => ∃ xs : List (List Value), cs = xs.flatten ∧ xs.length = n ∧ ∀ x ∈ xs, x.length = e.size ∧ FitS w e x
def tyW {P : Program} (E : Env P) : Ty → Where → Bool
  | .slice e, .at t => match E.und t with
    | some (.slice u) => match E.inf u with
      | some (_, b, _) => Nat.ble e.wt b && tyW E e (.at u)
      | none => false
    | _ => false
  | .array n e, .at t => match E.und t with
    | some (.array m u) => tyW E e (.at u)
    | _ => false
  | .struct p, .at t => match E.fld t with
    | some fl => tyW E p (.from 0 fl)
    | none => false
  | .cons a b, .from off ((o, t) :: fl) => tyW E a (.at t) && tyW E b (.from (off + a.size) fl)
  | _, _ => true
section
variable {H : Type} {enc : TypeId × Value → H} {P : Program} {w : World} {base : Nat} {held : Bool}
theorem weightsAll_mem {e : TypeId} : ∀ {l : List (DataW H)} {d : DataW H}, d ∈ l → ∀ k ∈ d.weights P e, k ∈ DataW.weightsAll P e l
  | a :: l, d, h, k, hk => by
    simp only [DataW.weightsAll, List.mem_append]
    rcases List.mem_cons.1 h with rfl | h
    · exact .inl hk
    · exact .inr (weightsAll_mem h k hk)
theorem fits_of_trod (E : Env P) : ∀ (ty : Ty),
    (∀ t, tyOk E ty (.at t) = true → tyW E ty (.at t) = true → ∀ fuel cs x, DataW.trod enc P w base (fun _ => true) held fuel t cs = some x → (∀ k ∈ x.1.weights P t, k ≤ reachBytes) → FitS w ty cs) ∧
    (∀ off fl, tyOk E ty (.from off fl) = true → tyW E ty (.from off fl) = true → ∀ (cs : List Value) (ys : List (DataW H × List MemPlace)), cs.length = off + ty.size → ys.length = fl.length →
      (∀ (i : Nat) (o : Nat) (t : TypeId) y, fl[i]? = some (o, t) → ys[i]? = some y → ∃ n, DataW.trod enc P w base (fun _ => true) held n t ((cs.drop o).take (P.cellsOf t)) = some y) →
      (∀ k ∈ DataW.weightsEach P (fl.map (·.2)) (ys.map (·.1)), k ≤ reachBytes) → FitS w ty (cs.drop off)) := by
  intro ty
  induction ty with
  | int k =>
    refine ⟨fun t h _ fuel cs x hd _ => ?_, fun _ _ h => by simp [tyOk] at h⟩
    obtain ⟨n, h1, h3, h2⟩ := DataW.trod_int (und_int h) hd
    exact ⟨n, h1, fits_of_wf h2⟩
  | bool =>
    refine ⟨fun t h _ fuel cs x hd _ => ?_, fun _ _ h => by simp [tyOk] at h⟩
    obtain ⟨b, h1, h3⟩ := DataW.trod_bool (und_bool h) hd
    exact ⟨b, h1⟩
  | str =>
    refine ⟨fun t h _ fuel cs x hd hw => ?_, fun _ _ h => by simp [tyOk] at h⟩
    obtain ⟨s, h1, h3, h2⟩ := DataW.trod_string (und_str h) hd
    rw [h3] at hw
    have := hw s.data.toList.length (by simp [DataW.weights])
    refine ⟨s, h1, ?_⟩
    simpa [reachBytes] using this
  | slice e ih =>
    refine ⟨fun t h hW fuel cs x hd hw => ?_, fun _ _ h => by simp [tyOk] at h⟩
    simp only [tyOk] at h
    simp only [tyW] at hW
    split at h
    · rename_i u hu
      simp only [Bool.and_eq_true] at h
      obtain ⟨⟨h1, h2⟩, h3⟩ := h
      rw [hu] at hW
      simp only at hW
      split at hW
      · rename_i s' by_ z' hinf
        simp only [Bool.and_eq_true] at hW
        obtain ⟨hW1, hW2⟩ := hW
        have hW1 := Nat.le_of_ble_eq_true hW1
        have hsz := sizeIs_ok h2
        have h0 : 0 < e.size := by simpa [Nat.blt_eq] using h3
        have hund := E.und_ok _ _ hu
        have hbytes : P.bytesOf u = by_ := by
          obtain ⟨i, i1, i2, i3, i4⟩ := E.inf_ok _ _ _ _ hinf
          simp [Program.bytesOf, i1, i3]
        rcases DataW.trod_slice hund hd with ⟨rfl, hx⟩ | ⟨a, len, cap, elems, rest, n, _, rfl, hx, hb, hl, hm, hlen, hel, hsp, _⟩
        · exact ⟨none, 0, 0, [], rfl, Nat.le_refl _, by decide, by simp, rfl, Rd.nil _ _ _, by simp⟩
        · have hrest := (hsp rfl).1
          rw [hx] at hw
          simp only [DataW.weights, hund, List.length_map, hbytes] at hw
          have hcap := hw _ (List.mem_cons_self ..)
          rw [hlen, hrest] at hcap
          have hcap2 : cap * e.wt ≤ 140737488351232 := by
            have e1 : len + (cap - len) = cap := by omega
            rw [e1] at hcap
            have := Nat.mul_le_mul_left cap hW1
            simp only [reachBytes] at hcap
            omega
          rw [hsz] at hel
          have hget : ∀ i, i < len → ∃ y z, w.cells? base (a.add (i * e.size)) e.size = some y ∧ elems[i]? = some z ∧ DataW.trod enc P w base (fun _ => true) held n u y = some z := fun i hi => by
            have h4 := hel i hi
            rw [List.getElem?_eq_getElem (by omega)] at h4
            cases hc : w.cells? base (a.add (i * e.size)) e.size with
            | none => rw [hc] at h4; simp at h4
            | some y => rw [hc] at h4; simp at h4; exact ⟨y, _, rfl, List.getElem?_eq_getElem (by omega), h4⟩
          have hsome : ∀ (i : Nat) (x : List Value), ((List.range len).map fun i => (w.cells? base (a.add (i * e.size)) e.size).getD [])[i]? = some x → w.cells? base (a.add (i * e.size)) e.size = some x ∧ x.length = e.size ∧ FitS w e x := fun i x hx => by
            have hi : i < len := by have := (List.getElem?_eq_some_iff.1 hx).1; simpa using this
            obtain ⟨y, z, hy, hz, ht⟩ := hget i hi
            rw [List.getElem?_map, List.getElem?_range hi] at hx
            simp only [Option.map_some, hy, Option.getD_some, Option.some.injEq] at hx
            subst hx
            refine ⟨hy, (World.cells?_some hy).2.1, ih.1 u h1 hW2 n y z ht fun k hk => hw k (List.mem_cons_of_mem _ (List.mem_append_left _ ?_))⟩
            exact weightsAll_mem (List.mem_map_of_mem (List.mem_of_getElem? hz)) k hk
          have hmem : ∀ x ∈ (List.range len).map (fun i => (w.cells? base (a.add (i * e.size)) e.size).getD []), x.length = e.size ∧ FitS w e x := fun x hx => by
            obtain ⟨i, hi⟩ := List.getElem?_of_mem hx
            exact (hsome i x hi).2
          exact ⟨some a, len, cap, _, rfl, hl, hm, hcap2, by simp, rows_read h0 (by simp) (fun i x hx => (hsome i x hx).1) (fun x hx => (hmem x hx).1), hmem⟩
      · cases hW
    · cases h
  | unit =>
    refine ⟨fun t h => by simp [tyOk] at h, fun off fl h _ cs ys hl _ _ _ => ?_⟩
    show cs.drop off = []
    exact List.drop_of_length_le (by simp only [Ty.size] at hl; omega)
  | cons a b iha ihb =>
    refine ⟨fun t h => by simp [tyOk] at h, fun off fl h hW cs ys hl hyl hf hw => ?_⟩
    cases fl with
    | nil => simp [tyOk] at h
    | cons p fl =>
      cases ys with
      | nil => simp at hyl
      | cons y ys =>
        obtain ⟨o, t⟩ := p
        simp only [tyOk, Bool.and_eq_true] at h
        simp only [tyW, Bool.and_eq_true] at hW
        obtain ⟨⟨⟨h1, h2⟩, h3⟩, h4⟩ := h
        have ho := Nat.eq_of_beq_eq_true h1
        subst ho
        simp only [Ty.size] at hl
        have hsz := sizeIs_ok h3
        obtain ⟨n, hx⟩ := hf 0 o t y rfl rfl
        rw [hsz] at hx
        simp only [List.map_cons, DataW.weightsEach, List.mem_append] at hw
        refine ⟨(cs.drop o).take a.size, cs.drop (o + a.size), ?_, by simp; omega, iha.1 t h2 hW.1 n _ y hx (fun k hk => hw k (.inl hk)), ?_⟩
        · rw [← List.drop_drop, List.take_append_drop]
        · exact ihb.2 (o + a.size) fl h4 hW.2 cs ys (by omega) (by simpa using hyl) (fun i o' t' y' h' g' => hf (i + 1) o' t' y' (by simpa using h') (by simpa using g')) (fun k hk => hw k (.inr hk))
  | struct p ih =>
    refine ⟨fun t h hW fuel cs x hd hw => ?_, fun _ _ h => by simp [tyOk] at h⟩
    simp only [tyOk] at h
    simp only [tyW] at hW
    split at h
    · rename_i fl hfl
      rw [hfl] at hW
      simp only [Bool.and_eq_true] at h
      obtain ⟨h1, h2⟩ := h
      obtain ⟨fs, hu, hmap⟩ := E.fld_ok _ _ hfl
      obtain ⟨xs, n, _, hx, hl, hxl, hfs⟩ := DataW.trod_struct hu hd
      rw [sizeIs_ok h2] at hl
      have e9 : fl.map (·.2) = fs.toList.map (·.type) := by rw [← hmap]; simp
      have := ih.2 0 fl h1 hW cs xs (by omega) (by rw [hxl, ← hmap]; simp) (fun i o t y h' g' => by
        rw [← hmap, List.getElem?_map] at h'
        cases hf : fs.toList[i]? with
        | none => rw [hf] at h'; cases h'
        | some f =>
          rw [hf] at h'
          cases h'
          have hf' : fs[i]? = some f := by simpa using hf
          have h5 := hfs i f hf'
          rw [g'] at h5
          exact ⟨n, h5⟩) (fun k hk => hw k (by rw [hx]; simp only [DataW.weights, hu]; rw [← e9]; exact hk))
      simpa [FitS] using this
    · cases h
  | array n e ih =>
    refine ⟨fun t h hW fuel cs x hd hw => ?_, fun _ _ h => by simp [tyOk] at h⟩
    simp only [tyOk] at h
    simp only [tyW] at hW
    split at h
    · rename_i m u hu
      rw [hu] at hW
      simp only [Bool.and_eq_true] at h
      obtain ⟨⟨⟨h1, h2⟩, h3⟩, h4⟩ := h
      have hm := Nat.eq_of_beq_eq_true h1
      subst hm
      have hund := E.und_ok _ _ hu
      obtain ⟨xs, q, _, hx, hl, hxl, hel⟩ := DataW.trod_array hund hd
      rw [sizeIs_ok h4] at hl
      rw [sizeIs_ok h3] at hel
      refine ⟨(List.range m).map fun i => (cs.drop (i * e.size)).take e.size, (take_drop_chunks m cs hl).symm, by simp, fun y hy => ?_⟩
      obtain ⟨i, hi, rfl⟩ := List.mem_map.1 hy
      have hi' : i < m := by simpa using hi
      have h5 := hel i hi'
      cases ht : DataW.trod enc P w base (fun _ => true) held q u ((cs.drop (i * e.size)).take e.size) with
      | none => rw [ht] at h5; rw [List.getElem?_eq_getElem (by omega)] at h5; cases h5
      | some z =>
        refine ⟨?_, ih.1 u h2 hW q _ _ ht fun k hk => hw k ?_⟩
        · have : (i + 1) * e.size ≤ m * e.size := Nat.mul_le_mul_right _ hi'
          rw [Nat.succ_mul] at this
          simp; omega
        · rw [hx]
          simp only [DataW.weights, hund]
          rw [ht] at h5
          exact weightsAll_mem (List.mem_map_of_mem (List.mem_of_getElem? h5.symm)) k hk
    · cases h
/-- An argument that reads as data, each row and text of it within the reach. -/
def ReadsS (P : Program) (w : World) (base : Nat) (t : TypeId) (v : Value) : Prop :=
  ∃ (H : Type) (enc : TypeId × Value → H) (d : DataW H) (ps : List MemPlace), DataW.Trod enc P w 0 (fun _ => true) true t v d ps ∧ Value.okWide P w .any base t v ∧ ∀ k ∈ d.weights P t, k ≤ reachBytes
theorem ReadsS.fit {t : TypeId} {v : Value} (E : Env P) (h : ReadsS P w base t v) (ty : Ty) (hok : tyOk E ty (.at t) = true) (hW : tyW E ty (.at t) = true) : FitS w ty v.cells.toList := by
  obtain ⟨H, enc, d, ps, ⟨fuel, hf⟩, _, hm⟩ := h
  exact (fits_of_trod E ty).1 t hok hW fuel _ _ hf hm
theorem ReadsS.slice {t e : TypeId} {v : Value} (E : Env P) (h : ReadsS P w base t v) (ht : E.und t = some (.slice e)) : ∃ A n c, v = .slice A n c := by
  obtain ⟨_, _, _, _, _, hv, _⟩ := h
  exact okWide_slice (E.und_ok _ _ ht) hv
theorem FitS.fit : ∀ {ty : Ty} {cs : List Value}, FitS w ty cs → Fit w ty cs
  | .int _, _, h => h
  | .bool, _, h => h
  | .str, _, ⟨s, h1, h2⟩ => ⟨s, h1, by unfold maxLen; omega⟩
  | .slice _, _, ⟨A, n, c, xs, h1, h2, h3, _, h5, h6, h7⟩ => ⟨A, n, c, xs, h1, h2, h3, h5, h6, fun x hx => ⟨(h7 x hx).1, FitS.fit (h7 x hx).2⟩⟩
  | .unit, _, h => h
  | .cons _ _, _, ⟨x, y, h1, h2, h3, h4⟩ => ⟨x, y, h1, h2, FitS.fit h3, FitS.fit h4⟩
  | .struct p, _, h => FitS.fit (ty := p) h
  | .array _ _, _, ⟨xs, h1, h2, h3⟩ => ⟨xs, h1, h2, fun x hx => ⟨(h3 x hx).1, FitS.fit (h3 x hx).2⟩⟩
theorem FitS.bytes {A : Option Addr} {n c : Nat} (h : FitS w (.slice (.int .u8)) [.slice A n c]) : ∃ l, Rd w A n 1 (bv l) ∧ n ≤ c ∧ c ≤ 140737488351232 := by
  obtain ⟨l, h1, h2, _⟩ := Fit.bytes h.fit
  obtain ⟨A', n', c', xs, hv, _, _, h3, _⟩ := h
  cases hv
  exact ⟨l, h1, h2, by simpa [Ty.wt] using h3⟩
theorem bytes_inS {H : Type} {enc : TypeId × Value → H} (E : Env P) {t : TypeId} {A : Option Addr} {n c : Nat} {d : DataW H} {ps : List MemPlace} (hok : tyOk E (.slice (.int .u8)) (.at t) = true) (hW : tyW E (.slice (.int .u8)) (.at t) = true)
    (h : DataW.Trod enc P w 0 (fun _ => true) true t (.slice A n c) d ps) (hw : ∀ k ∈ d.weights P t, k ≤ reachBytes) : ∃ l, Rd w A n 1 (bv l) ∧ n ≤ c ∧ c ≤ 140737488351232 := by
  obtain ⟨fuel, hf⟩ := h
  exact FitS.bytes ((fits_of_trod E _).1 t hok hW fuel _ _ hf hw)
theorem each_one {H : Type} {P : Program} {t : TypeId} {ts : List TypeId} {d : DataW H} {ds : List (DataW H)} (h : ∀ k ∈ DataW.weightsEach P (t :: ts) (d :: ds), k ≤ reachBytes) : (∀ k ∈ d.weights P t, k ≤ reachBytes) ∧ ∀ k ∈ DataW.weightsEach P ts ds, k ≤ reachBytes :=
  ⟨fun k hk => h k (by simp only [DataW.weightsEach, List.mem_append]; exact .inl hk), fun k hk => h k (by simp only [DataW.weightsEach, List.mem_append]; exact .inr hk)⟩
end
end Go.Proofs.Eng

namespace Go.Proofs.Ytjjgojgahibpgaa
open Go.RowKit Go.Proofs.Eng Go.Proofs.Codec Go.Proofs.Link
set_option linter.unusedSimpArgs false
set_option linter.unusedVariables false set_option maxRecDepth 10000
attribute [local irreducible] T TL LV TH TA
theorem ETick_n (w : World) : Ret Try.prog 30 [.pointer none] w (fun v w' => w' = w) := by
  refine ret_T (n := 43) Try.func30 rfl rfl ?_
  repeat (first | refine T_seq ?_ | refine T_region ?_ | refine T_cond_true rfl ?_ | refine TL_pnil_t TE (hk := ?_) | refine TL_nil ?_ | refine TL_move (hk := ?_))
  exact T_ret0 rfl rfl
theorem ENext_n (w : World) : Ret Try.prog 29 [.pointer none] w (fun v w' => v = .tuple #[.slice none 0 0, .bool false] ∧ w' = w) := by
  refine ret_T (n := 30) Try.func29 rfl rfl ?_
  repeat (first | refine T_seq ?_ | refine T_region ?_ | refine T_cond_true rfl ?_ | refine TL_pnil_t TE (hk := ?_) | refine TL_nil ?_ | refine TL_move (hk := ?_) | refine TL_assign (hk := ?_) | refine TL_no (hk := ?_) | refine TL_pick_t (hk := ?_))
  exact T_ret2 rfl rfl rfl ⟨rfl, rfl⟩
theorem EOut_n (x : Value) (w : World) : Ret Try.prog 28 [.pointer none] w (fun v w' => v = .slice none 0 0 ∧ w' = w) := by
  refine ret_T (n := 126) Try.func28 rfl rfl ?_
  repeat (first | refine T_seq ?_ | refine T_region ?_ | refine T_cond_true rfl ?_ | refine TL_pnil_t TE (hk := ?_) | refine TL_nil ?_ | refine TL_move (hk := ?_) | refine TL_assign (hk := ?_))
  exact T_ret1 rfl rfl ⟨rfl, rfl⟩
theorem EUnsent_n (x : Value) (w : World) : Ret Try.prog 41 [.pointer none] w (fun v w' => v = .int .i64 0 ∧ w' = w) := by
  refine ret_T (n := 10) Try.func41 rfl rfl ?_
  repeat (first | refine T_seq ?_ | refine T_region ?_ | refine T_cond_true rfl ?_ | refine TL_pnil_t TE (hk := ?_) | refine TL_nil ?_ | refine TL_move (hk := ?_) | refine TL_assign (hk := ?_))
  exact T_ret1 rfl rfl ⟨rfl, rfl⟩
theorem EFlying_n (x : Value) (w : World) : Ret Try.prog 23 [.pointer none] w (fun v w' => v = .int .i64 0 ∧ w' = w) := by
  refine ret_T (n := 10) Try.func23 rfl rfl ?_
  repeat (first | refine T_seq ?_ | refine T_region ?_ | refine T_cond_true rfl ?_ | refine TL_pnil_t TE (hk := ?_) | refine TL_nil ?_ | refine TL_move (hk := ?_) | refine TL_assign (hk := ?_))
  exact T_ret1 rfl rfl ⟨rfl, rfl⟩
theorem same_c26 (A B : Option Addr) (n c m d : Nat) (la lb : Bs) (w : World) (h : Rd w A n 1 (bv la)) (g : Rd w B m 1 (bv lb)) :
    Ret Try.prog 15 [.slice A n c, .slice B m d] w (fun v w' => v = .bool (decide (la = lb)) ∧ w' = w) := by
  refine ret_T (n := 10) Try.func15 rfl rfl ?_
  by_cases e : la = lb
  · subst e
    repeat (first | refine T_seq ?_ | refine T_region ?_ | refine TL_seq_t (hk := ?_) | refine TL_nil ?_ | refine TL_move (hk := ?_) | refine TL_assign (hk := ?_) | refine TL_conv_bs TE (hk := ?_))
    exact T_ret1 rfl rfl ⟨by simp, rfl⟩
  · have hne : ¬ ofL la = ofL lb := fun q => e (by have := congrArg (fun x : ByteArray => x.data.toList) q; simpa [ofL] using this)
    repeat (first | refine T_seq ?_ | refine T_region ?_ | refine TL_seq_f (hk := ?_) | refine TL_nil ?_ | refine TL_move (hk := ?_) | refine TL_assign (hk := ?_) | refine TL_conv_bs TE (hk := ?_))
    exact T_ret1 rfl rfl ⟨by simp [e], rfl⟩
end Go.Proofs.Ytjjgojgahibpgaa

namespace Go.Proofs.Ytjjgojgahibpgaa
open Go.RowKit Go.Proofs.Eng Go.Proofs.Codec Go.Proofs.Link
set_option linter.unusedSimpArgs false
set_option linter.unusedVariables false set_option maxRecDepth 10000
attribute [local irreducible] T TL LV TH TA
abbrev tyFrame : Ty := .struct (.cons (.int .u64) (.cons (.int .u64) (.cons (.slice (.int .u8)) (.cons (.int .i64) .unit))))
set_option maxHeartbeats 1600000
end Go.Proofs.Ytjjgojgahibpgaa

/- What an argument that reads as data looks like, and how much it holds. -/
namespace Go.Proofs.Eng
open Go.RowKit Go.WideShapes
set_option linter.unusedSimpArgs false
set_option linter.unusedVariables false
/-- How much a reading holds. -/
structure Bulk (H : Type) where
  one : DataW H → Nat
  all : List (DataW H) → Nat
  lit : ∀ l, 1 ≤ one (.lit l)
  str : ∀ b, one (.lit (.string b)) = b.length + 1
  nil : one .nil = 1
  slice : ∀ e s, one (.slice e s) = all e + all s + 1
  agg : ∀ p, one (.agg p) = all p + 1
  none : all [] = 0
  some : ∀ d r, all (d :: r) = one d + all r
def FitB (w : World) : Ty → List Value → Nat → Prop
  | .int k, cs, m => 1 ≤ m ∧ ∃ n, cs = [.int k n] ∧ Fits k n
  | .bool, cs, m => 1 ≤ m ∧ ∃ b, cs = [.bool b]
  | .str, cs, m => ∃ s : ByteArray, cs = [.string s] ∧ s.size ≤ maxLen ∧ s.size + 1 ≤ m
  | .slice e, cs, m => ∃ (A : Option Addr) (n c : Nat) (xs : List (List Value)) (ms : List Nat), cs = [.slice A n c] ∧ n ≤ c ∧ c ≤ maxLen ∧ xs.length = n ∧ ms.length = n ∧ ms.sum + 1 ≤ m ∧ Rd w A n e.size xs.flatten ∧
      ∀ (i : Nat) (x : List Value) (k : Nat), xs[i]? = some x → ms[i]? = some k → x.length = e.size ∧ FitB w e x k
  | .unit, cs, _ => cs = []
  | .cons a b, cs, m => ∃ x y p q, cs = x ++ y ∧ x.length = a.size ∧ p + q ≤ m ∧ FitB w a x p ∧ FitB w b y q
  | .struct p, cs, m => FitB w p cs m
  | .array n e, cs, m => ∃ (xs : List (List Value)) (ms : List Nat), cs = xs.flatten ∧ xs.length = n ∧ ms.length = n ∧ ms.sum ≤ m ∧ ∀ (i : Nat) (x : List Value) (k : Nat), xs[i]? = some x → ms[i]? = some k → x.length = e.size ∧ FitB w e x k
theorem FitB.mono {w : World} : ∀ {ty : Ty} {cs : List Value} {m m' : Nat}, FitB w ty cs m → m ≤ m' → FitB w ty cs m'
  | .int _, _, _, _, ⟨h, r⟩, hm => ⟨Nat.le_trans h hm, r⟩
  | .bool, _, _, _, ⟨h, r⟩, hm => ⟨Nat.le_trans h hm, r⟩
  | .str, _, _, _, ⟨s, h1, h2, h3⟩, hm => ⟨s, h1, h2, Nat.le_trans h3 hm⟩
  | .slice _, _, _, _, ⟨A, n, c, xs, ms, h1, h2, h3, h4, h5, h6, h7⟩, hm => ⟨A, n, c, xs, ms, h1, h2, h3, h4, h5, Nat.le_trans h6 hm, h7⟩
  | .unit, _, _, _, h, _ => h
  | .cons _ _, _, _, _, ⟨x, y, p, q, h1, h2, h3, h4⟩, hm => ⟨x, y, p, q, h1, h2, Nat.le_trans h3 hm, h4⟩
  | .struct p, _, _, _, h, hm => FitB.mono (ty := p) h hm
  | .array _ _, _, _, _, ⟨xs, ms, h1, h2, h3, h4, h5⟩, hm => ⟨xs, ms, h1, h2, h3, Nat.le_trans h4 hm, h5⟩
section
variable {H : Type} {enc : TypeId × Value → H} {P : Program} {w : World} {base : Nat} {spare : Nat → Bool} {held : Bool}
theorem Bulk.map_sum (K : Bulk H) (l : List (DataW H × List MemPlace)) : K.all (l.map (·.1)) = (l.map fun x => K.one x.1).sum := by
  induction l with
  | nil => simp [K.none]
  | cons a l ih => simp [K.some, ih]
theorem fitb_of_trod (E : Env P) (K : Bulk H) : ∀ (ty : Ty),
    (∀ t, tyOk E ty (.at t) = true → ∀ fuel cs x, DataW.trod enc P w base spare held fuel t cs = some x → FitB w ty cs (K.one x.1)) ∧
    (∀ off fl, tyOk E ty (.from off fl) = true → ∀ (cs : List Value) (ys : List (DataW H × List MemPlace)), cs.length = off + ty.size → ys.length = fl.length →
      (∀ (i : Nat) (o : Nat) (t : TypeId) y, fl[i]? = some (o, t) → ys[i]? = some y → ∃ n, DataW.trod enc P w base spare held n t ((cs.drop o).take (P.cellsOf t)) = some y) → FitB w ty (cs.drop off) (ys.map fun x => K.one x.1).sum) := by
  intro ty
  induction ty with
  | int k =>
    refine ⟨fun t h fuel cs x hd => ?_, fun _ _ h => by simp [tyOk] at h⟩
    obtain ⟨n, h1, h3, h2⟩ := DataW.trod_int (und_int h) hd
    rw [h3]
    exact ⟨K.lit _, n, h1, fits_of_wf h2⟩
  | bool =>
    refine ⟨fun t h fuel cs x hd => ?_, fun _ _ h => by simp [tyOk] at h⟩
    obtain ⟨b, h1, h3⟩ := DataW.trod_bool (und_bool h) hd
    rw [h3]
    exact ⟨K.lit _, b, h1⟩
  | str =>
    refine ⟨fun t h fuel cs x hd => ?_, fun _ _ h => by simp [tyOk] at h⟩
    obtain ⟨s, h1, h3, h2⟩ := DataW.trod_string (und_str h) hd
    rw [h3]
    exact ⟨s, h1, h2, by rw [K.str]; simp⟩
  | slice e ih =>
    refine ⟨fun t h fuel cs x hd => ?_, fun _ _ h => by simp [tyOk] at h⟩
    simp only [tyOk] at h
    split at h
    · rename_i u hu
      simp only [Bool.and_eq_true] at h
      obtain ⟨⟨h1, h2⟩, h3⟩ := h
      have hsz := sizeIs_ok h2
      have h0 : 0 < e.size := by simpa [Nat.blt_eq] using h3
      rcases DataW.trod_slice (E.und_ok _ _ hu) hd with ⟨rfl, hx⟩ | ⟨a, len, cap, elems, rest, n, _, rfl, hx, hb, hl, hm, hlen, hel, _⟩
      · rw [hx]
        exact ⟨none, 0, 0, [], [], rfl, Nat.le_refl _, by decide, rfl, rfl, by simp [K.nil], Rd.nil _ _ _, by simp⟩
      · rw [hsz] at hel
        have hget : ∀ i, i < len → ∃ y z, w.cells? base (a.add (i * e.size)) e.size = some y ∧ elems[i]? = some z ∧ DataW.trod enc P w base spare held n u y = some z := fun i hi => by
          have h4 := hel i hi
          rw [List.getElem?_eq_getElem (by omega)] at h4
          cases hc : w.cells? base (a.add (i * e.size)) e.size with
          | none => rw [hc] at h4; simp at h4
          | some y => rw [hc] at h4; simp at h4; exact ⟨y, _, rfl, List.getElem?_eq_getElem (by omega), h4⟩
        have hsome : ∀ (i : Nat) (x : List Value), ((List.range len).map fun i => (w.cells? base (a.add (i * e.size)) e.size).getD [])[i]? = some x → w.cells? base (a.add (i * e.size)) e.size = some x ∧ x.length = e.size ∧ ∃ z, elems[i]? = some z ∧ FitB w e x (K.one z.1) := fun i x hx => by
          have hi : i < len := by have := (List.getElem?_eq_some_iff.1 hx).1; simpa using this
          obtain ⟨y, z, hy, hz, ht⟩ := hget i hi
          rw [List.getElem?_map, List.getElem?_range hi] at hx
          simp only [Option.map_some, hy, Option.getD_some, Option.some.injEq] at hx
          subst hx
          exact ⟨hy, (World.cells?_some hy).2.1, z, hz, ih.1 u h1 n y z ht⟩
        have hmem : ∀ x ∈ (List.range len).map (fun i => (w.cells? base (a.add (i * e.size)) e.size).getD []), x.length = e.size := fun x hx => by
          obtain ⟨i, hi⟩ := List.getElem?_of_mem hx
          exact (hsome i x hi).2.1
        refine ⟨some a, len, cap, _, elems.map fun x => K.one x.1, rfl, hl, hm, by simp, by simp [hlen], ?_, rows_read h0 (by simp) (fun i x hx => (hsome i x hx).1) hmem, ?_⟩
        · rw [hx]
          simp only [K.slice, K.map_sum]
          omega
        · intro i x k hx hk
          obtain ⟨_, h5, z, hz, h6⟩ := hsome i x hx
          rw [List.getElem?_map, hz] at hk
          simp at hk
          subst hk
          exact ⟨h5, h6⟩
    · cases h
  | unit =>
    refine ⟨fun t h => by simp [tyOk] at h, fun off fl h cs ys hl _ _ => ?_⟩
    show cs.drop off = []
    exact List.drop_of_length_le (by simp only [Ty.size] at hl; omega)
  | cons a b iha ihb =>
    refine ⟨fun t h => by simp [tyOk] at h, fun off fl h cs ys hl hyl hf => ?_⟩
    cases fl with
    | nil => simp [tyOk] at h
    | cons p fl =>
      cases ys with
      | nil => simp at hyl
      | cons y ys =>
        obtain ⟨o, t⟩ := p
        simp only [tyOk, Bool.and_eq_true] at h
        obtain ⟨⟨⟨h1, h2⟩, h3⟩, h4⟩ := h
        have ho := Nat.eq_of_beq_eq_true h1
        subst ho
        simp only [Ty.size] at hl
        have hsz := sizeIs_ok h3
        obtain ⟨n, hx⟩ := hf 0 o t y rfl rfl
        rw [hsz] at hx
        refine ⟨(cs.drop o).take a.size, cs.drop (o + a.size), K.one y.1, (ys.map fun x => K.one x.1).sum, ?_, by simp; omega, by simp, iha.1 t h2 n _ y hx, ?_⟩
        · rw [← List.drop_drop, List.take_append_drop]
        · exact ihb.2 (o + a.size) fl h4 cs ys (by omega) (by simpa using hyl) (fun i o' t' y' h' g' => hf (i + 1) o' t' y' (by simpa using h') (by simpa using g'))
  | struct p ih =>
    refine ⟨fun t h fuel cs x hd => ?_, fun _ _ h => by simp [tyOk] at h⟩
    simp only [tyOk] at h
    split at h
    · rename_i fl hfl
      simp only [Bool.and_eq_true] at h
      obtain ⟨h1, h2⟩ := h
      obtain ⟨fs, hu, hmap⟩ := E.fld_ok _ _ hfl
      obtain ⟨xs, n, _, hx, hl, hxl, hfs⟩ := DataW.trod_struct hu hd
      rw [sizeIs_ok h2] at hl
      have := ih.2 0 fl h1 cs xs (by omega) (by rw [hxl, ← hmap]; simp) (fun i o t' y h' g' => by
        rw [← hmap, List.getElem?_map] at h'
        cases hf : fs.toList[i]? with
        | none => rw [hf] at h'; cases h'
        | some f =>
          rw [hf] at h'
          cases h'
          have hf' : fs[i]? = some f := by simpa using hf
          have h5 := hfs i f hf'
          rw [g'] at h5
          exact ⟨n, h5⟩)
      rw [hx]
      refine FitB.mono (ty := p) (by simpa using this) ?_
      rw [K.agg, K.map_sum]
      omega
    · cases h
  | array n e ih =>
    refine ⟨fun t h fuel cs x hd => ?_, fun _ _ h => by simp [tyOk] at h⟩
    simp only [tyOk] at h
    split at h
    · rename_i m u hu
      simp only [Bool.and_eq_true] at h
      obtain ⟨⟨⟨h1, h2⟩, h3⟩, h4⟩ := h
      have hm := Nat.eq_of_beq_eq_true h1
      subst hm
      obtain ⟨xs, q, _, hx, hl, hxl, hel⟩ := DataW.trod_array (E.und_ok _ _ hu) hd
      rw [sizeIs_ok h4] at hl
      rw [sizeIs_ok h3] at hel
      refine ⟨(List.range m).map fun i => (cs.drop (i * e.size)).take e.size, xs.map fun x => K.one x.1, (take_drop_chunks m cs hl).symm, by simp, by simp [hxl], ?_, fun i y k hy hk => ?_⟩
      · rw [hx, K.agg, K.map_sum]
        omega
      · have hi' : i < m := by have := (List.getElem?_eq_some_iff.1 hy).1; simpa using this
        rw [List.getElem?_map, List.getElem?_range hi'] at hy
        simp at hy
        subst hy
        have h5 := hel i hi'
        rw [List.getElem?_map, ← h5] at hk
        cases ht : DataW.trod enc P w base spare held q u ((cs.drop (i * e.size)).take e.size) with
        | none => rw [ht] at hk; simp at hk
        | some z =>
          rw [ht] at hk
          simp at hk
          subst hk
          refine ⟨?_, ih.1 u h2 q _ _ ht⟩
          have : (i + 1) * e.size ≤ m * e.size := Nat.mul_le_mul_right _ hi'
          rw [Nat.succ_mul] at this
          simp; omega
    · cases h
/-- An argument that reads as data and holds so much. -/
def ReadsB (P : Program) (w : World) (base : Nat) (t : TypeId) (v : Value) (m : Nat) : Prop :=
  ∃ (H : Type) (enc : TypeId × Value → H) (d : DataW H) (ps : List MemPlace) (K : Bulk H), DataW.Trod enc P w 0 (fun _ => true) true t v d ps ∧ Value.okWide P w .any base t v ∧ K.one d ≤ m
theorem ReadsB.fit {t : TypeId} {v : Value} {m : Nat} (E : Env P) (h : ReadsB P w base t v m) (ty : Ty) (hok : tyOk E ty (.at t) = true) : FitB w ty v.cells.toList m := by
  obtain ⟨H, enc, d, ps, K, ⟨fuel, hf⟩, _, hm⟩ := h
  exact FitB.mono ((fitb_of_trod E K ty).1 t hok fuel _ _ hf) hm
theorem ReadsB.slice {t e : TypeId} {v : Value} {m : Nat} (E : Env P) (h : ReadsB P w base t v m) (ht : E.und t = some (.slice e)) : ∃ A n c, v = .slice A n c := by
  obtain ⟨_, _, _, _, _, _, hv, _⟩ := h
  exact okWide_slice (E.und_ok _ _ ht) hv
theorem FitB.bytes {A : Option Addr} {n c m : Nat} (h : FitB w (.slice (.int .u8)) [.slice A n c] m) : ∃ l, Rd w A n 1 (bv l) ∧ n ≤ c ∧ c ≤ maxLen ∧ n + 1 ≤ m := by
  obtain ⟨A', n', c', xs, ms, hv, h1, h2, h3, h4, h5, h6, h7⟩ := h
  cases hv
  have hn : n ≤ ms.sum := by
    rw [← h4]
    have key : ∀ (xs : List (List Value)) (ms : List Nat), xs.length = ms.length → (∀ (i : Nat) (x : List Value) (k : Nat), xs[i]? = some x → ms[i]? = some k → 1 ≤ k) → ms.length ≤ ms.sum := by
      intro xs
      induction xs with
      | nil => intro ms hl _; cases ms <;> simp at hl ⊢
      | cons x xs ih =>
        intro ms hl hk
        cases ms with
        | nil => simp
        | cons k ms =>
          have := ih ms (by simpa using hl) (fun i x k a b => hk (i + 1) x k (by simpa using a) (by simpa using b))
          have := hk 0 x k rfl rfl
          simp
          omega
    exact key xs ms (by omega) (fun i x k a b => (h7 i x k a b).2.1)
  have h8 : ∀ x ∈ xs, x.length = 1 ∧ Fit w (.int .u8) x := fun x hx => by
    obtain ⟨i, hi⟩ := List.getElem?_of_mem hx
    have hlt := (List.getElem?_eq_some_iff.1 hi).1
    have := h7 i x ms[i] hi (List.getElem?_eq_getElem (by omega))
    exact ⟨this.1, this.2.2⟩
  obtain ⟨l, hl, h9, h10⟩ := Fit.bytes (w := w) (A := A) (n := n) (c := c) ⟨A, n, c, xs, rfl, h1, h2, h3, h6, h8⟩
  exact ⟨l, hl, h9, h10, by omega⟩
end
end Go.Proofs.Eng

namespace Go.Proofs.Ytjjgojgahibpgaa
open Go.RowKit Go.Proofs.Eng Go.Proofs.Codec Go.Proofs.Link
set_option linter.unusedSimpArgs false
set_option linter.unusedVariables false set_option maxRecDepth 10000
attribute [local irreducible] T TL LV TH TA
/-- An act in a row. -/
structure AV where
  kd : Int
  A : Option Addr
  n : Nat
  c : Nat
  b : Bs
def av0 : AV := ⟨0, none, 0, 0, []⟩
def avs (l : List AV) : List Value := (l.map fun x => [Value.int .i64 x.kd, Value.slice x.A x.n x.c]).flatten
theorem avs_cons (x : AV) (l : List AV) : avs (x :: l) = [Value.int .i64 x.kd, Value.slice x.A x.n x.c] ++ avs l := by simp [avs]
theorem avs_len (l : List AV) : (avs l).length = l.length * 2 := by
  induction l with
  | nil => rfl
  | cons x l ih => rw [avs_cons, List.length_append, ih]; simp; omega
structure Acts (w : World) (A : Option Addr) (n : Nat) (l : List AV) : Prop where
  rd : Rd w A n 2 (avs l)
  mem : ∀ x ∈ l, Rd w x.A x.n 1 (bv x.b) ∧ x.n ≤ x.c ∧ x.n ≤ 1048576 ∧ -9223372036854775808 ≤ x.kd ∧ x.kd ≤ 9223372036854775807
theorem Acts.be {w w' : World} {A : Option Addr} {n : Nat} {l : List AV} (e : Ext w w') (h : Acts w A n l) : Acts w' A n l := ⟨h.rd.be e, fun x hx => ⟨(h.mem x hx).1.be e, (h.mem x hx).2⟩⟩
theorem Acts.len {w : World} {A : Option Addr} {n : Nat} {l : List AV} (h : Acts w A n l) : l.length = n := by
  have := h.rd.1
  rw [avs_len] at this
  omega
theorem Acts.get {w : World} {A : Option Addr} {n : Nat} {l : List AV} (h : Acts w A n l) (i : Nat) (hi : i < n) : Rd w (l.getD i av0).A (l.getD i av0).n 1 (bv (l.getD i av0).b) ∧ (l.getD i av0).n ≤ (l.getD i av0).c ∧ (l.getD i av0).n ≤ 1048576 ∧ -9223372036854775808 ≤ (l.getD i av0).kd ∧ (l.getD i av0).kd ≤ 9223372036854775807 :=
  h.mem _ (by rw [List.getD_eq_getElem?_getD, List.getElem?_eq_getElem (by rw [h.len]; exact hi)]; exact List.getElem_mem _)
abbrev tyAct : Ty := .struct (.cons (.int .i64) (.cons (.slice (.int .u8)) .unit))
def totA (l : List AV) (i : Nat) : Nat := ((l.take i).map fun x => x.n).sum
end Go.Proofs.Ytjjgojgahibpgaa

namespace Go.Proofs.Ytjjgojgahibpgaa
open Go.RowKit Go.Proofs.Eng Go.Proofs.Codec Go.Proofs.Link
set_option linter.unusedSimpArgs false
set_option linter.unusedVariables false set_option maxRecDepth 10000
attribute [local irreducible] T TL LV TH TA
set_option maxHeartbeats 3200000
end Go.Proofs.Ytjjgojgahibpgaa

/- The document's end: how it lies in memory. -/
namespace Go.Proofs.Ytjjgojgahibpgaa
open Go.RowKit Go.Proofs.Eng Go.Proofs.Codec Go.Proofs.Link
set_option linter.unusedSimpArgs false
set_option linter.unusedVariables false set_option maxRecDepth 10000
attribute [local irreducible] T TL LV TH TA
structure RM where
  un : SV
  ul : List SV
  fl : SV
  fm : List FE
  ke : SV
  km : List FE
  co : SV
  cl : List SV
def RM.bods (m : RM) : List Nat := blkS m.ul ++ (blkF m.fm ++ (blkF m.km ++ blkS m.cl))
def heldM (l : List (Nat × Bs)) : List Msg := l.map fun x => ⟨x.1, x.2, 0, false⟩
def FlR (w : World) (base : Nat) (s : SV) (l : List FE) (ms : List Msg) : Prop := Own w base 125 4 s.1 s.2.1 s.2.2 (fv l) ∧ FB w base l ms
structure KindsR (base B p : Nat) (m : RM) (f : Nat → Nat) : Prop where
  kp : f p = 1
  kke : ∀ b ∈ blkL m.ke.1, f b = 2
  kun : ∀ b ∈ blkL m.un.1, f b = 3
  kfl : ∀ b ∈ blkL m.fl.1, f b = 4
  kco : ∀ b ∈ blkL m.co.1, f b = 5
  kbo : ∀ b ∈ m.bods, f b = 6
  old : ∀ b, f b ≠ 0 → base ≤ b ∧ b < B
def rendV (m : RM) (es : ES) : List Value := [.int .i64 (es.win : Int), .int .i64 (es.pat : Int), slV m.un, slV m.fl, slV m.ke, slV m.co, .int .u64 (es.next : Int), .int .u64 (es.exp : Int), .bool es.owed]
structure REndM (w : World) (base p : Nat) (m : RM) (f : Nat → Nat) (es : ES) : Prop where
  blk : Blk w p 123 (rendV m es)
  pu : RowP w base m.un m.ul es.new
  pf : FlR w base m.fl m.fm es.fly
  ph : FlR w base m.ke m.km (heldM es.held)
  pc : RowP w base m.co m.cl es.come
  ki : KindsR base w.heap.size p m f
section
variable {w w' : World} {base : Nat} {S : List Nat}
theorem FlR.mod {s : SV} {l : List FE} {bs : List Msg} (h : FlR w base s l bs) (hm : Eng.Mod S w w') (h1 : ∀ b ∈ blkL s.1, b ∉ S) (h2 : ∀ b ∈ blkF l, b ∉ S) : FlR w' base s l bs := ⟨h.1.mod hm (off_of h1), h.2.mod hm h2⟩
variable {p : Nat} {m : RM} {f : Nat → Nat} {es : ES}
theorem KindsR.un6 {B : Nat} (k : KindsR base B p m f) : ∀ b ∈ blkS m.ul, f b = 6 := fun b hb => k.kbo b (by unfold RM.bods; exact List.mem_append_left _ hb)
theorem KindsR.fl6 {B : Nat} (k : KindsR base B p m f) : ∀ b ∈ blkF m.fm, f b = 6 := fun b hb => k.kbo b (by unfold RM.bods; exact List.mem_append_right _ (List.mem_append_left _ hb))
theorem KindsR.ke6 {B : Nat} (k : KindsR base B p m f) : ∀ b ∈ blkF m.km, f b = 6 := fun b hb => k.kbo b (by unfold RM.bods; exact List.mem_append_right _ (List.mem_append_right _ (List.mem_append_left _ hb)))
theorem KindsR.co6 {B : Nat} (k : KindsR base B p m f) : ∀ b ∈ blkS m.cl, f b = 6 := fun b hb => k.kbo b (by unfold RM.bods; exact List.mem_append_right _ (List.mem_append_right _ (List.mem_append_right _ hb)))
theorem REndM.pu_mod (h : REndM w base p m f es) (hm : Eng.Mod S w w') (h3 : ∀ b ∈ S, f b ≠ 3) (h6 : ∀ b ∈ S, f b ≠ 6) : RowP w' base m.un m.ul es.new := h.pu.mod hm (nin_of h.ki.kun h3) (nin_of h.ki.un6 h6)
theorem REndM.pf_mod (h : REndM w base p m f es) (hm : Eng.Mod S w w') (h3 : ∀ b ∈ S, f b ≠ 4) (h6 : ∀ b ∈ S, f b ≠ 6) : FlR w' base m.fl m.fm es.fly := h.pf.mod hm (nin_of h.ki.kfl h3) (nin_of h.ki.fl6 h6)
theorem REndM.ph_mod (h : REndM w base p m f es) (hm : Eng.Mod S w w') (h3 : ∀ b ∈ S, f b ≠ 2) (h6 : ∀ b ∈ S, f b ≠ 6) : FlR w' base m.ke m.km (heldM es.held) := h.ph.mod hm (nin_of h.ki.kke h3) (nin_of h.ki.ke6 h6)
theorem REndM.pc_mod (h : REndM w base p m f es) (hm : Eng.Mod S w w') (h3 : ∀ b ∈ S, f b ≠ 5) (h6 : ∀ b ∈ S, f b ≠ 6) : RowP w' base m.co m.cl es.come := h.pc.mod hm (nin_of h.ki.kco h3) (nin_of h.ki.co6 h6)
theorem KindsR.mono {B B' : Nat} (k : KindsR base B p m f) (h : B ≤ B') : KindsR base B' p m f := { k with old := fun b hb => ⟨(k.old b hb).1, Nat.lt_of_lt_of_le (k.old b hb).2 h⟩ }
theorem REndM.mod (h : REndM w base p m f es) (hm : Eng.Mod S w w') (hS : ∀ b ∈ S, f b = 0) : REndM w' base p m f es :=
  ⟨h.blk.mod hm (fun hq => by have := hS _ hq; rw [h.ki.kp] at this; cases this), h.pu_mod hm (fun b hb => by rw [hS b hb]; decide) (fun b hb => by rw [hS b hb]; decide), h.pf_mod hm (fun b hb => by rw [hS b hb]; decide) (fun b hb => by rw [hS b hb]; decide), h.ph_mod hm (fun b hb => by rw [hS b hb]; decide) (fun b hb => by rw [hS b hb]; decide), h.pc_mod hm (fun b hb => by rw [hS b hb]; decide) (fun b hb => by rw [hS b hb]; decide), h.ki.mono hm.size⟩
theorem REndM.ext (h : REndM w base p m f es) (hm : Ext w w') : REndM w' base p m f es := h.mod hm (fun b hb => by cases hb)
theorem REndM.bw (h : REndM w base p m f es) : base ≤ w.heap.size := by have := h.ki.old p (by rw [h.ki.kp]; decide); omega
/-- What of 'f' holds on when a row has moved and bodies are new. -/
structure UpR (base B B' : Nat) (f f' : Nat → Nat) (L X : List Nat) (k : Nat) : Prop where
  keep : ∀ b j, f b = j → j ≠ 0 → f' b = j
  inL : ∀ b ∈ L, f' b = k
  inX : ∀ b ∈ X, f' b = 6
  old : ∀ b, f' b ≠ 0 → base ≤ b ∧ b < B'
  nz : ∀ b, f' b ≠ 0 → f b ≠ 0 ∨ B ≤ b
theorem KindsR.up {B B' : Nat} (h : KindsR base B p m f) (hB : B ≤ B') {L X : List Nat} {k : Nat} (hk : k ≠ 0) (hL : ∀ b ∈ L, f b = k ∨ B ≤ b) (hX : ∀ b ∈ X, B ≤ b) (hXL : ∀ b ∈ X, b ∉ L) (hl : ∀ b ∈ L, base ≤ b ∧ b < B') (hx : ∀ b ∈ X, base ≤ b ∧ b < B') :
    ∃ f', UpR base B B' f f' L X k := by
  have hf0 : ∀ b, B ≤ b → f b = 0 := fun b q => by
    by_cases z : f b = 0
    · exact z
    · have := (h.old b z).2; omega
  refine ⟨updF (updF f L k) X 6, fun b j q z => ?_, fun b q => by rw [updF_out (fun y => hXL b y q), updF_in q], fun b q => updF_in q, fun b q => ?_, fun b q => ?_⟩
  · by_cases y : b ∈ X
    · have := hf0 b (hX b y); omega
    · rw [updF_out y]
      by_cases y2 : b ∈ L
      · rw [updF_in y2]
        rcases hL b y2 with e | e
        · omega
        · have := hf0 b e; omega
      · rw [updF_out y2, q]
  · by_cases y : b ∈ X
    · exact hx b y
    · rw [updF_out y] at q
      by_cases y2 : b ∈ L
      · exact hl b y2
      · rw [updF_out y2] at q
        exact ⟨(h.old b q).1, Nat.lt_of_lt_of_le (h.old b q).2 hB⟩
  · by_cases y : b ∈ X
    · exact .inr (hX b y)
    · rw [updF_out y] at q
      exact updF_nz hk hL q
theorem UpR.turn {f f' : Nat → Nat} {L X : List Nat} {k : Nat} {S : List Nat} (u : UpR base w.heap.size w'.heap.size f f' L X k) (hm : Eng.Mod S w w') (hS : ∀ b ∈ S, f b ≠ 0) : Turns f f' w w' := ⟨⟨S, hm, hS⟩, u.nz, hm.size⟩
/-- Only numbers turn. -/
theorem REndM.nums (h : REndM w base p m f es) {es' : ES} (hm : Eng.Mod [p] w w') (hb : Blk w' p 123 (rendV m es')) (h1 : es'.new = es.new) (h2 : es'.fly = es.fly) (h3 : es'.held = es.held) (h4 : es'.come = es.come) :
    REndM w' base p m f es' ∧ Turns f f w w' := by
  have k := h.ki
  have hS : ∀ j, j ≠ 1 → ∀ b ∈ [p], f b ≠ j := fun j a b q => by rw [List.mem_singleton.1 q, k.kp]; exact fun e => a e.symm
  exact ⟨⟨hb, h1 ▸ h.pu_mod hm (hS 3 (by decide)) (hS 6 (by decide)), h2 ▸ h.pf_mod hm (hS 4 (by decide)) (hS 6 (by decide)), h3 ▸ h.ph_mod hm (hS 2 (by decide)) (hS 6 (by decide)), h4 ▸ h.pc_mod hm (hS 5 (by decide)) (hS 6 (by decide)), k.mono hm.size⟩, ⟨⟨_, hm, hS 0 (by decide)⟩, fun b q => .inl q, hm.size⟩⟩
/-- What flies turns, in place. -/
theorem REndM.flies (h : REndM w base p m f es) {fm' : List FE} {fly' : List Msg} (hm : Eng.Mod (blkL m.fl.1) w w') (hr : FlR w' base m.fl fm' fly') (hs : fm'.map (·.sv) = m.fm.map (·.sv)) :
    REndM w' base p { m with fm := fm' } f { es with fly := fly' } ∧ Turns f f w w' := by
  have k := h.ki
  have hS : ∀ j, j ≠ 4 → ∀ b ∈ blkL m.fl.1, f b ≠ j := fun j a b q => by rw [k.kfl b q]; exact fun e => a e.symm
  have hbl : blkF fm' = blkF m.fm := by unfold blkF; rw [hs]
  have hbo : RM.bods { m with fm := fm' } = m.bods := by unfold RM.bods; rw [hbl]
  refine ⟨⟨h.blk.mod hm (fun q => hS 1 (by decide) p q k.kp), h.pu_mod hm (hS 3 (by decide)) (hS 6 (by decide)), hr, h.ph_mod hm (hS 2 (by decide)) (hS 6 (by decide)), h.pc_mod hm (hS 5 (by decide)) (hS 6 (by decide)), ?_⟩, ⟨⟨_, hm, hS 0 (by decide)⟩, fun b q => .inl q, hm.size⟩⟩
  have k' := k.mono hm.size
  exact { kp := k'.kp, kke := k'.kke, kun := k'.kun, kfl := k'.kfl, kco := k'.kco, kbo := by rw [hbo]; exact k'.kbo, old := k'.old }
/-- Something is sent. -/
theorem REndM.send (h : REndM w base p m f es) {un' x : SV} {l : Bs} (hm : Eng.Mod (p :: blkL m.un.1) w w') (hb : Blk w' p 123 (rendV { m with un := un' } es))
    (hr : RowP w' base un' (m.ul ++ [x]) (es.new ++ [l])) (hu : ∀ b ∈ blkL un'.1, b ∈ blkL m.un.1 ∨ w.heap.size ≤ b) (hx : ∀ b ∈ blkL x.1, w.heap.size ≤ b) (hux : ∀ b ∈ blkL x.1, b ∉ blkL un'.1) :
    ∃ m' f', REndM w' base p m' f' { es with new := es.new ++ [l] } ∧ Turns f f' w w' := by
  have k := h.ki
  have hS0 : ∀ b ∈ p :: blkL m.un.1, f b = 1 ∨ f b = 3 := fun b q => by
    rcases List.mem_cons.1 q with rfl | q
    · exact .inl k.kp
    · exact .inr (k.kun b q)
  have hS : ∀ j, j ≠ 1 → j ≠ 3 → ∀ b ∈ p :: blkL m.un.1, f b ≠ j := fun j a1 a2 b q => by rcases hS0 b q with h | h <;> omega
  obtain ⟨f', u⟩ := k.up (k := 3) (L := blkL un'.1) (X := blkL x.1) hm.size (by decide) (fun b q => (hu b q).imp (k.kun b) id) hx hux (fun b q => ⟨Hi.blk hr.1.hi b q, Lo.blk hr.1.lo b q⟩) (fun b q => hr.2.lt b (by rw [blkS_append, blkS_cons]; exact List.mem_append_right _ (List.mem_append_left _ q)))
  refine ⟨{ m with un := un', ul := m.ul ++ [x] }, f', ⟨hb, hr, h.pf_mod hm (hS 4 (by decide) (by decide)) (hS 6 (by decide) (by decide)), h.ph_mod hm (hS 2 (by decide) (by decide)) (hS 6 (by decide) (by decide)), h.pc_mod hm (hS 5 (by decide) (by decide)) (hS 6 (by decide) (by decide)), ?_⟩, u.turn hm (hS 0 (by decide) (by decide))⟩
  refine { kp := u.keep _ _ k.kp (by decide), kke := fun b q => u.keep _ _ (k.kke b q) (by decide), kun := u.inL, kfl := fun b q => u.keep _ _ (k.kfl b q) (by decide), kco := fun b q => u.keep _ _ (k.kco b q) (by decide), kbo := fun b q => ?_, old := u.old }
  unfold RM.bods at q
  simp only [blkS_append, blkS_cons, blkS_nil, List.append_nil, List.mem_append] at q
  rcases q with (q | q) | q
  · exact u.keep _ _ (k.un6 b q) (by decide)
  · exact u.inX b q
  · exact u.keep _ _ (k.kbo b (by unfold RM.bods; simp only [List.mem_append]; exact .inr q)) (by decide)
/-- A message gets its number and flies. -/
theorem REndM.fill (h : REndM w base p m f es) {x : SV} {t : List SV} {b0 : Bs} {bt : List Bs} (hul : m.ul = x :: t) (hnew : es.new = b0 :: bt) {fl' : SV} (hm : Eng.Mod (p :: blkL m.fl.1) w w')
    (hb : Blk w' p 123 (rendV { m with fl := fl', un := (cutA m.un.1 m.un.2.2 1 1, m.un.2.1 - 1, m.un.2.2 - 1) } { es with next := es.next + 1 }))
    (hr : Own w' base 125 4 fl'.1 fl'.2.1 fl'.2.2 (fv (m.fm ++ [⟨es.next, x, 0, true⟩]))) (hu : ∀ b ∈ blkL fl'.1, b ∈ blkL m.fl.1 ∨ w.heap.size ≤ b) :
    ∃ m' f', REndM w' base p m' f' { es with fly := es.fly ++ [⟨es.next, b0, 0, true⟩], new := bt, next := es.next + 1 } ∧ Turns f f' w w' := by
  have k := h.ki
  have hS0 : ∀ b ∈ p :: blkL m.fl.1, f b = 1 ∨ f b = 4 := fun b q => by
    rcases List.mem_cons.1 q with rfl | q
    · exact .inl k.kp
    · exact .inr (k.kfl b q)
  have hS : ∀ j, j ≠ 1 → j ≠ 4 → ∀ b ∈ p :: blkL m.fl.1, f b ≠ j := fun j a1 a2 b q => by rcases hS0 b q with h | h <;> omega
  obtain ⟨f', u⟩ := k.up (k := 4) (L := blkL fl'.1) (X := []) hm.size (by decide) (fun b q => (hu b q).imp (k.kfl b) id) (fun b q => by cases q) (fun b q => by cases q) (fun b q => ⟨Hi.blk hr.hi b q, Lo.blk hr.lo b q⟩) (fun b q => by cases q)
  have pu := h.pu_mod hm (hS 3 (by decide) (by decide)) (hS 6 (by decide) (by decide))
  have pf := h.pf.2.mod hm (nin_of k.fl6 (hS 6 (by decide) (by decide)))
  rw [hul, hnew] at pu
  have hlen : m.un.2.1 = t.length + 1 := by have := pu.1.len; simpa using this.symm
  have hcut := pu.1.cut (l := 1) (by omega)
  refine ⟨{ m with un := (cutA m.un.1 m.un.2.2 1 1, m.un.2.1 - 1, m.un.2.2 - 1), ul := t, fl := fl', fm := m.fm ++ [⟨es.next, x, 0, true⟩] }, f', ⟨hb, ⟨by simpa [slVs] using hcut, pu.2.2⟩, ⟨hr, pf.append ⟨⟨rfl, rfl, rfl, pu.2.1⟩, trivial⟩⟩, h.ph_mod hm (hS 2 (by decide) (by decide)) (hS 6 (by decide) (by decide)), h.pc_mod hm (hS 5 (by decide) (by decide)) (hS 6 (by decide) (by decide)), ?_⟩, u.turn hm (hS 0 (by decide) (by decide))⟩
  refine { kp := u.keep _ _ k.kp (by decide), kke := fun b q => u.keep _ _ (k.kke b q) (by decide), kun := fun b q => u.keep _ _ (k.kun b (blkL_cut b q)) (by decide), kfl := u.inL, kco := fun b q => u.keep _ _ (k.kco b q) (by decide), kbo := fun b q => ?_, old := u.old }
  refine u.keep _ _ (k.kbo b ?_) (by decide)
  unfold RM.bods at q ⊢
  simp only [blkF_append, List.mem_append] at q ⊢
  rw [hul, blkS_cons]
  rw [show blkF [(⟨es.next, x, 0, true⟩ : FE)] = blkL x.1 by simp [blkF, blkS]] at q
  rw [List.mem_append]
  rcases q with q | (q | q) | q
  · exact .inl (.inr q)
  · exact .inr (.inl q)
  · exact .inl (.inl q)
  · exact .inr (.inr q)
/-- The first that came is told. -/
theorem REndM.next (h : REndM w base p m f es) {x : SV} {t : List SV} {b0 : Bs} {bt : List Bs} (hcl : m.cl = x :: t) (hcome : es.come = b0 :: bt) (hm : Eng.Mod [p] w w')
    (hb : Blk w' p 123 (rendV { m with co := (cutA m.co.1 m.co.2.2 1 1, m.co.2.1 - 1, m.co.2.2 - 1) } es)) :
    ∃ m', REndM w' base p m' f { es with come := bt } ∧ Turns f f w w' ∧ Body w' base x b0 := by
  have k := h.ki
  have hS : ∀ j, j ≠ 1 → ∀ b ∈ [p], f b ≠ j := fun j a b q => by rw [List.mem_singleton.1 q, k.kp]; exact fun e => a e.symm
  have pc := h.pc_mod hm (hS 5 (by decide)) (hS 6 (by decide))
  rw [hcl, hcome] at pc
  have hlen : m.co.2.1 = t.length + 1 := by have := pc.1.len; simpa using this.symm
  have hcut := pc.1.cut (l := 1) (by omega)
  have k' := k.mono hm.size
  refine ⟨{ m with co := (cutA m.co.1 m.co.2.2 1 1, m.co.2.1 - 1, m.co.2.2 - 1), cl := t }, ⟨hb, h.pu_mod hm (hS 3 (by decide)) (hS 6 (by decide)), h.pf_mod hm (hS 4 (by decide)) (hS 6 (by decide)), h.ph_mod hm (hS 2 (by decide)) (hS 6 (by decide)), ⟨by simpa [slVs] using hcut, pc.2.2⟩, ?_⟩, ⟨⟨_, hm, hS 0 (by decide)⟩, fun b q => .inl q, hm.size⟩, pc.2.1⟩
  refine { kp := k'.kp, kke := k'.kke, kun := k'.kun, kfl := k'.kfl, kco := fun b q => k'.kco b (blkL_cut b q), kbo := fun b q => k'.kbo b ?_, old := k'.old }
  unfold RM.bods at q ⊢
  simp only [List.mem_append] at q ⊢
  rw [hcl, blkS_cons, List.mem_append]
  rcases q with q | q | q | q
  · exact .inl q
  · exact .inr (.inl q)
  · exact .inr (.inr (.inl q))
  · exact .inr (.inr (.inr (.inr q)))
/-- A message is held. -/
theorem REndM.hold (h : REndM w base p m f es) {x : SV} {l : Bs} {sq : Nat} (hn : mget es.held sq = none) {ke' : SV} (hm : Eng.Mod (p :: blkL m.ke.1) w w')
    (hb : Blk w' p 123 (rendV { m with ke := ke' } es)) (hr : Own w' base 125 4 ke'.1 ke'.2.1 ke'.2.2 (fv (m.km ++ [⟨sq, x, 0, false⟩]))) (hu : ∀ b ∈ blkL ke'.1, b ∈ blkL m.ke.1 ∨ w.heap.size ≤ b)
    (hx : Body w' base x l) (hx0 : ∀ b ∈ blkL x.1, w.heap.size ≤ b) (hux : ∀ b ∈ blkL x.1, b ∉ blkL ke'.1) :
    ∃ m' f', REndM w' base p m' f' { es with held := mput es.held sq l } ∧ Turns f f' w w' := by
  have k := h.ki
  have hS0 : ∀ b ∈ p :: blkL m.ke.1, f b = 1 ∨ f b = 2 := fun b q => by
    rcases List.mem_cons.1 q with rfl | q
    · exact .inl k.kp
    · exact .inr (k.kke b q)
  have hS : ∀ j, j ≠ 1 → j ≠ 2 → ∀ b ∈ p :: blkL m.ke.1, f b ≠ j := fun j a1 a2 b q => by rcases hS0 b q with h | h <;> omega
  obtain ⟨f', u⟩ := k.up (k := 2) (L := blkL ke'.1) (X := blkL x.1) hm.size (by decide) (fun b q => (hu b q).imp (k.kke b) id) hx0 hux (fun b q => ⟨Hi.blk hr.hi b q, Lo.blk hr.lo b q⟩) (fun b q => hx.lt b q)
  have ph := h.ph.2.mod hm (nin_of k.ke6 (hS 6 (by decide) (by decide)))
  refine ⟨{ m with ke := ke', km := m.km ++ [⟨sq, x, 0, false⟩] }, f', ⟨hb, h.pu_mod hm (hS 3 (by decide) (by decide)) (hS 6 (by decide) (by decide)), h.pf_mod hm (hS 4 (by decide) (by decide)) (hS 6 (by decide) (by decide)), ?_, h.pc_mod hm (hS 5 (by decide) (by decide)) (hS 6 (by decide) (by decide)), ?_⟩, u.turn hm (hS 0 (by decide) (by decide))⟩
  · show FlR w' base ke' (m.km ++ [⟨sq, x, 0, false⟩]) (heldM (mput es.held sq l))
    rw [mput_new _ _ _ hn]
    refine ⟨hr, ?_⟩
    unfold heldM
    rw [List.map_append]
    exact ph.append ⟨⟨rfl, rfl, rfl, hx⟩, trivial⟩
  · refine { kp := u.keep _ _ k.kp (by decide), kke := u.inL, kun := fun b q => u.keep _ _ (k.kun b q) (by decide), kfl := fun b q => u.keep _ _ (k.kfl b q) (by decide), kco := fun b q => u.keep _ _ (k.kco b q) (by decide), kbo := fun b q => ?_, old := u.old }
    unfold RM.bods at q
    simp only [blkF_append, List.mem_append] at q
    rw [show blkF [(⟨sq, x, 0, false⟩ : FE)] = blkL x.1 by simp [blkF, blkS]] at q
    rcases q with q | q | (q | q) | q
    · exact u.keep _ _ (k.un6 b q) (by decide)
    · exact u.keep _ _ (k.fl6 b q) (by decide)
    · exact u.keep _ _ (k.ke6 b q) (by decide)
    · exact u.inX b q
    · exact u.keep _ _ (k.co6 b q) (by decide)
/-- One that is held comes. -/
theorem REndM.comes (h : REndM w base p m f es) {i : Nat} (hi : i < m.km.length) {co' : SV} (hm : Eng.Mod (p :: blkL m.co.1) w w')
    (hb : Blk w' p 123 (rendV { m with co := co' } es)) (hr : Seg w' base 23 1 co'.1 co'.2.1 co'.2.2 (slVs (m.cl ++ [(m.km.getD i fe0).sv]))) (hu : ∀ b ∈ blkL co'.1, b ∈ blkL m.co.1 ∨ w.heap.size ≤ b) :
    ∃ f', REndM w' base p { m with co := co', cl := m.cl ++ [(m.km.getD i fe0).sv] } f' { es with come := es.come ++ [((heldM es.held).getD i m0).body] } ∧ Turns f f' w w' := by
  have k := h.ki
  have hS0 : ∀ b ∈ p :: blkL m.co.1, f b = 1 ∨ f b = 5 := fun b q => by
    rcases List.mem_cons.1 q with rfl | q
    · exact .inl k.kp
    · exact .inr (k.kco b q)
  have hS : ∀ j, j ≠ 1 → j ≠ 5 → ∀ b ∈ p :: blkL m.co.1, f b ≠ j := fun j a1 a2 b q => by rcases hS0 b q with h | h <;> omega
  obtain ⟨f', u⟩ := k.up (k := 5) (L := blkL co'.1) (X := []) hm.size (by decide) (fun b q => (hu b q).imp (k.kco b) id) (fun b q => by cases q) (fun b q => by cases q) (fun b q => ⟨Hi.blk hr.hi b q, Lo.blk hr.lo b q⟩) (fun b q => by cases q)
  have pc := h.pc.2.mod hm (nin_of k.co6 (hS 6 (by decide) (by decide)))
  have ph := h.ph_mod hm (hS 2 (by decide) (by decide)) (hS 6 (by decide) (by decide))
  have hg := (ph.2.get i hi).2.2.2
  refine ⟨f', ⟨hb, h.pu_mod hm (hS 3 (by decide) (by decide)) (hS 6 (by decide) (by decide)), h.pf_mod hm (hS 4 (by decide) (by decide)) (hS 6 (by decide) (by decide)), ph, ⟨hr, pc.snoc hg⟩, ?_⟩, u.turn hm (hS 0 (by decide) (by decide))⟩
  refine { kp := u.keep _ _ k.kp (by decide), kke := fun b q => u.keep _ _ (k.kke b q) (by decide), kun := fun b q => u.keep _ _ (k.kun b q) (by decide), kfl := fun b q => u.keep _ _ (k.kfl b q) (by decide), kco := u.inL, kbo := fun b q => u.keep _ _ (k.kbo b ?_) (by decide), old := u.old }
  unfold RM.bods at q ⊢
  simp only [blkS_append, blkS_cons, blkS_nil, List.append_nil, List.mem_append] at q ⊢
  rcases q with q | q | q | q | q
  · exact .inl q
  · exact .inr (.inl q)
  · exact .inr (.inr (.inl q))
  · exact .inr (.inr (.inr q))
  · refine .inr (.inr (.inl ?_))
    unfold blkF blkS
    rw [List.mem_flatMap]
    exact ⟨_, List.mem_map.2 ⟨m.km.getD i fe0, by rw [List.getD_eq_getElem?_getD, List.getElem?_eq_getElem hi]; exact List.getElem_mem _, rfl⟩, q⟩
/-- One that was held is gone; the number goes on. -/
theorem REndM.gone (h : REndM w base p m f es) {km' : List FE} {held' : List (Nat × Bs)} (hs : ∀ x ∈ km', x ∈ m.km) (hfb : ∀ w2, FB w2 base m.km (heldM es.held) → FB w2 base km' (heldM held')) {ke' : SV} (hm : Eng.Mod [p] w w')
    (hb : Blk w' p 123 (rendV { m with ke := ke' } { es with exp := es.exp + 1 })) (hr : Own w' base 125 4 ke'.1 ke'.2.1 ke'.2.2 (fv km')) (hu : ∀ b ∈ blkL ke'.1, w.heap.size ≤ b) :
    ∃ m' f', REndM w' base p m' f' { es with held := held', exp := es.exp + 1 } ∧ Turns f f' w w' := by
  have k := h.ki
  have hS : ∀ j, j ≠ 1 → ∀ b ∈ [p], f b ≠ j := fun j a b q => by rw [List.mem_singleton.1 q, k.kp]; exact fun e => a e.symm
  obtain ⟨f', u⟩ := k.up (k := 2) (L := blkL ke'.1) (X := []) hm.size (by decide) (fun b q => .inr (hu b q)) (fun b q => by cases q) (fun b q => by cases q) (fun b q => ⟨Hi.blk hr.hi b q, Lo.blk hr.lo b q⟩) (fun b q => by cases q)
  have ph := h.ph.2.mod hm (nin_of k.ke6 (hS 6 (by decide)))
  refine ⟨{ m with ke := ke', km := km' }, f', ⟨hb, h.pu_mod hm (hS 3 (by decide)) (hS 6 (by decide)), h.pf_mod hm (hS 4 (by decide)) (hS 6 (by decide)), ⟨hr, hfb _ ph⟩, h.pc_mod hm (hS 5 (by decide)) (hS 6 (by decide)), ?_⟩, u.turn hm (hS 0 (by decide))⟩
  refine { kp := u.keep _ _ k.kp (by decide), kke := u.inL, kun := fun b q => u.keep _ _ (k.kun b q) (by decide), kfl := fun b q => u.keep _ _ (k.kfl b q) (by decide), kco := fun b q => u.keep _ _ (k.kco b q) (by decide), kbo := fun b q => u.keep _ _ (k.kbo b ?_) (by decide), old := u.old }
  unfold RM.bods at q ⊢
  simp only [List.mem_append] at q ⊢
  rcases q with q | q | q | q
  · exact .inl q
  · exact .inr (.inl q)
  · refine .inr (.inr (.inl ?_))
    unfold blkF blkS at q ⊢
    rw [List.mem_flatMap] at q ⊢
    obtain ⟨y, hy, hyb⟩ := q
    obtain ⟨x, hx, rfl⟩ := List.mem_map.1 hy
    exact ⟨_, List.mem_map.2 ⟨x, hs x hx, rfl⟩, hyb⟩
  · exact .inr (.inr (.inr q))
end
end Go.Proofs.Ytjjgojgahibpgaa

namespace Go.Proofs.Ytjjgojgahibpgaa
open Go.RowKit Go.Proofs.Eng Go.Proofs.Codec Go.Proofs.Link
set_option linter.unusedSimpArgs false
set_option linter.unusedVariables false set_option maxRecDepth 10000
attribute [local irreducible] T TL LV TH TA
section
variable {base p : Nat} {m : RM} {f : Nat → Nat} {es : ES}
theorem REndM.p_fl {w : World} (h : REndM w base p m f es) : p ∉ blkL m.fl.1 := fun q => by have := h.ki.kfl p q; rw [h.ki.kp] at this; cases this
theorem REndM.f_fl {w : World} (h : REndM w base p m f es) {fm : List FE} (hs : fm.map (·.sv) = m.fm.map (·.sv)) : ∀ b ∈ blkF fm, b ∉ blkL m.fl.1 := fun b hb q => by
  have h1 : b ∈ blkF m.fm := by unfold blkF at hb ⊢; rwa [hs] at hb
  have h2 := h.ki.fl6 b h1
  rw [h.ki.kfl b q] at h2
  cases h2
end
end Go.Proofs.Ytjjgojgahibpgaa

namespace Go.Proofs.Ytjjgojgahibpgaa
open Go.RowKit Go.Proofs.Eng Go.Proofs.Codec Go.Proofs.Link
set_option linter.unusedSimpArgs false
set_option linter.unusedVariables false set_option maxRecDepth 10000
attribute [local irreducible] T TL LV TH TA
section
variable {base p : Nat} {m : RM} {f : Nat → Nat} {es : ES}
def owE (e : ES) (i : Nat) : Bool := e.owed && decide ((dueB e.exp (e.fly.take i)).length = 0)
set_option maxHeartbeats 1600000
end
end Go.Proofs.Ytjjgojgahibpgaa

namespace Go.Proofs.Ytjjgojgahibpgaa
open Go.RowKit Go.Proofs.Eng Go.Proofs.Codec
set_option linter.unusedSimpArgs false
set_option linter.unusedVariables false set_option maxRecDepth 10000
attribute [local irreducible] T TL LV TH TA
set_option maxHeartbeats 1000000



















def numV : Except Int (Nat × Nat) → Value
  | .ok (r, k) => .tuple #[.int .u64 (r : Int), .int .i64 (k : Int), .int .i64 0]
  | .error e => .tuple #[.int .u64 0, .int .i64 0, .int .i64 e]
end Go.Proofs.Ytjjgojgahibpgaa
