import Derived.Test.YtjjgojgahibpgaaNn4
/- Parts: NW1 NW2 NW3 NW4 Eng26 Eng32 Eng37 NW5 NW6 NW7 NW8 NW9 NW10 NR1 NR2 NR3 NR4 NR5. -/
namespace Go.Proofs.Ytjjgojgahibpgaa
open Go.RowKit Go.Proofs.Eng Go.Proofs.Codec Go.Proofs.Link
set_option linter.unusedSimpArgs false
set_option linter.unusedVariables false set_option maxRecDepth 10000
attribute [local irreducible] T TL LV TH TA
set_option maxHeartbeats 3200000
section
variable {base p : Nat} {M : NM} {F : Nat → Nat → Nat → Nat} {h : Nat → Nat} {ns : NS} {k : Nat} {L : LL} {U : Nat → Nat → Nat}
theorem NetG.kP {R : Nat} {w : World} (g : NetG LayP R w base p M F h ns) : Blk w p 132 [.int .i64 (ns.pat : Int), slV M.s1, slV M.s2, slV M.s3] := g.blk
theorem two_c (a c : Int) (w : World) (g : NetG LayP ns.N w base p M F h ns) : Ret Try.prog 74 [ptr p, .int .i64 a, .int .i64 c] w (fun v w' => v = .bool (twoN ns a c) ∧ w' = w) := by
  have hk := g.kP
  have hl := g.l1
  unfold twoN
  refine ret_T (n := 40) Try.func74 rfl rfl ?_
  by_cases h1 : 0 ≤ a
  · by_cases h2 : 0 ≤ c
    · by_cases h3 : a < (ns.N : Int)
      · have h3' : a < ((M.s1.2.1 : Nat) : Int) := by omega
        by_cases h4 : c < (ns.N : Int)
        · have h4' : c < ((M.s1.2.1 : Nat) : Int) := by omega
          by_cases h5 : a = c
          · repeat (first | refine T_seq ?_ | refine T_region ?_ | refine TL_lt_t (hk := ?_) | refine TL_ge_t (hk := ?_) | refine TL_ne_f (hk := ?_) | refine TL_pnn_t TE (hk := ?_) | refine TL_nil ?_ | refine TL_move (hk := ?_) | refine TL_assign (hk := ?_) | refine TL_load TE (hk := ?_) | refine TL_fieldAddr TE (hk := ?_) | refine TL_len TE (hk := ?_) | refine TL_yes (hk := ?_) | refine TL_pick_t (hk := ?_) | refine TL_nilCheck (hk := ?_))
            exact T_ret1 rfl rfl ⟨by simp [h5], rfl⟩
          · repeat (first | refine T_seq ?_ | refine T_region ?_ | refine TL_lt_t (hk := ?_) | refine TL_ge_t (hk := ?_) | refine TL_ne_t (hk := ?_) | refine TL_pnn_t TE (hk := ?_) | refine TL_nil ?_ | refine TL_move (hk := ?_) | refine TL_assign (hk := ?_) | refine TL_load TE (hk := ?_) | refine TL_fieldAddr TE (hk := ?_) | refine TL_len TE (hk := ?_) | refine TL_yes (hk := ?_) | refine TL_pick_t (hk := ?_) | refine TL_nilCheck (hk := ?_))
            exact T_ret1 rfl rfl ⟨by simp [h1, h2, h3, h4, h5], rfl⟩
        · have h4' : ¬ c < ((M.s1.2.1 : Nat) : Int) := by omega
          repeat (first | refine T_seq ?_ | refine T_region ?_ | refine TL_lt_t (hk := ?_) | refine TL_lt_f (hk := ?_) | refine TL_ge_t (hk := ?_) | refine TL_pnn_t TE (hk := ?_) | refine TL_nil ?_ | refine TL_move (hk := ?_) | refine TL_assign (hk := ?_) | refine TL_load TE (hk := ?_) | refine TL_fieldAddr TE (hk := ?_) | refine TL_len TE (hk := ?_) | refine TL_yes (hk := ?_) | refine TL_no (hk := ?_) | refine TL_pick_t (hk := ?_) | refine TL_pick_f (hk := ?_) | refine TL_nilCheck (hk := ?_))
          exact T_ret1 rfl rfl ⟨by simp [h4], rfl⟩
      · have h3' : ¬ a < ((M.s1.2.1 : Nat) : Int) := by omega
        repeat (first | refine T_seq ?_ | refine T_region ?_ | refine TL_lt_f (hk := ?_) | refine TL_ge_t (hk := ?_) | refine TL_pnn_t TE (hk := ?_) | refine TL_nil ?_ | refine TL_move (hk := ?_) | refine TL_assign (hk := ?_) | refine TL_load TE (hk := ?_) | refine TL_fieldAddr TE (hk := ?_) | refine TL_len TE (hk := ?_) | refine TL_yes (hk := ?_) | refine TL_no (hk := ?_) | refine TL_pick_t (hk := ?_) | refine TL_pick_f (hk := ?_) | refine TL_nilCheck (hk := ?_))
        exact T_ret1 rfl rfl ⟨by simp [h3], rfl⟩
    · repeat (first | refine T_seq ?_ | refine T_region ?_ | refine TL_ge_t (hk := ?_) | refine TL_ge_f (hk := ?_) | refine TL_pnn_t TE (hk := ?_) | refine TL_nil ?_ | refine TL_move (hk := ?_) | refine TL_assign (hk := ?_) | refine TL_yes (hk := ?_) | refine TL_no (hk := ?_) | refine TL_pick_t (hk := ?_) | refine TL_pick_f (hk := ?_))
      exact T_ret1 rfl rfl ⟨by simp [h2], rfl⟩
  · repeat (first | refine T_seq ?_ | refine T_region ?_ | refine TL_ge_f (hk := ?_) | refine TL_pnn_t TE (hk := ?_) | refine TL_nil ?_ | refine TL_move (hk := ?_) | refine TL_assign (hk := ?_) | refine TL_yes (hk := ?_) | refine TL_no (hk := ?_) | refine TL_pick_t (hk := ?_) | refine TL_pick_f (hk := ?_))
    exact T_ret1 rfl rfl ⟨by simp [h1], rfl⟩
theorem there_c (i : Int) (w : World) (g : NetG LayP ns.N w base p M F h ns) : Ret Try.prog 75 [ptr p, .int .i64 i] w (fun v w' => v = .bool (inN ns.way.length i) ∧ w' = w) := by
  have hk := g.kP
  obtain ⟨hl, hl2⟩ := g.l3
  unfold inN
  refine ret_T (n := 20) Try.func75 rfl rfl ?_
  by_cases h1 : 0 ≤ i
  · by_cases h3 : i < (ns.way.length : Int)
    · have h3' : i < ((M.s3.2.1 : Nat) : Int) := by omega
      repeat (first | refine T_seq ?_ | refine T_region ?_ | refine TL_lt_t (hk := ?_) | refine TL_ge_t (hk := ?_) | refine TL_pnn_t TE (hk := ?_) | refine TL_nil ?_ | refine TL_move (hk := ?_) | refine TL_assign (hk := ?_) | refine TL_load TE (hk := ?_) | refine TL_fieldAddr TE (hk := ?_) | refine TL_len TE (hk := ?_) | refine TL_yes (hk := ?_) | refine TL_pick_t (hk := ?_) | refine TL_nilCheck (hk := ?_))
      exact T_ret1 rfl rfl ⟨by simp [h1, h3], rfl⟩
    · have h3' : ¬ i < ((M.s3.2.1 : Nat) : Int) := by omega
      repeat (first | refine T_seq ?_ | refine T_region ?_ | refine TL_lt_f (hk := ?_) | refine TL_ge_t (hk := ?_) | refine TL_pnn_t TE (hk := ?_) | refine TL_nil ?_ | refine TL_move (hk := ?_) | refine TL_assign (hk := ?_) | refine TL_load TE (hk := ?_) | refine TL_fieldAddr TE (hk := ?_) | refine TL_len TE (hk := ?_) | refine TL_yes (hk := ?_) | refine TL_pick_t (hk := ?_) | refine TL_nilCheck (hk := ?_))
      exact T_ret1 rfl rfl ⟨by simp [h1, h3], rfl⟩
  · repeat (first | refine T_seq ?_ | refine T_region ?_ | refine TL_ge_f (hk := ?_) | refine TL_pnn_t TE (hk := ?_) | refine TL_nil ?_ | refine TL_move (hk := ?_) | refine TL_assign (hk := ?_) | refine TL_yes (hk := ?_) | refine TL_no (hk := ?_) | refine TL_pick_t (hk := ?_) | refine TL_pick_f (hk := ?_))
    exact T_ret1 rfl rfl ⟨by simp [h1], rfl⟩
theorem QP.get {w : World} {a c : Nat} {v : Value} {f : Nat → Nat} {es : ES} (q : QP w base a c v f es) (hac : a ≠ c) : ∃ bs p m, base ≤ bs ∧ v = ptr p ∧ EndM w bs p m f es := by
  unfold QP at q
  rwa [if_neg hac] at q
theorem QP.mk {w : World} {a c bs p : Nat} {m : EM} {f : Nat → Nat} {es : ES} (hac : a ≠ c) (hb : base ≤ bs) (h : EndM w bs p m f es) : QP w base a c (ptr p) f es := by
  unfold QP
  rw [if_neg hac]
  exact ⟨bs, p, m, hb, rfl, h⟩
theorem NSend_c (a c : Int) (B : Option Addr) (n cc : Nat) (l : Bs) (w : World) (g : NetG LayP ns.N w base p M F h ns) (hI : NI k ns L U) (hr : Rd w B n 1 (bv l)) (hn : n ≤ 70368744177664) :
    Ret Try.prog 46 [ptr p, .int .i64 a, .int .i64 c, .slice B n cc] w (fun v w' => (twoN ns a c = false ∧ v = .int .i64 2 ∧ w' = w) ∨ ∃ x y : Nat, a = x ∧ c = y ∧ x < ns.N ∧ y < ns.N ∧ x ≠ y ∧ v = .int .i64 ((sendN ns x y l).2 : Int) ∧ ∃ F' h', NetG LayP ns.N w' base p M F' h' (sendN ns x y l).1 ∧ Tn h h' w w') := by
  have hk := g.kP
  have hl := g.l1
  have hcn := g.nn
  refine ret_T (n := 28) Try.func46 rfl rfl ?_
  repeat (first | refine T_seq ?_ | refine T_region ?_ | refine T_cond_false rfl ?_ | refine T_skip ?_ | refine TL_pnil_f TE (hk := ?_) | refine TL_nil ?_ | refine TL_move (hk := ?_) | refine TL_assign (hk := ?_))
  refine TL_call TE (hc := two_c a c _ g) (hk := ?_)
  rintro _ _ ⟨rfl, rfl⟩
  by_cases h1 : twoN ns a c = true
  · have h2 : 0 ≤ a ∧ 0 ≤ c ∧ a < ns.N ∧ c < ns.N ∧ a ≠ c := by unfold twoN at h1; simpa using h1
    obtain ⟨x, rfl⟩ : ∃ x : Nat, a = x := ⟨a.toNat, by omega⟩
    obtain ⟨y, rfl⟩ : ∃ y : Nat, c = y := ⟨c.toNat, by omega⟩
    have hx : x < ns.N := by omega
    have hy : y < ns.N := by omega
    have hxy : x ≠ y := by omega
    obtain ⟨bs, q, m, hbs, hv, hE⟩ := (g.en x y hx hy).get hxy
    have r1 := g.o1.rd
    have hv1 := rowF_get (fun a => slV (M.r1 a)) hx
    have r2 := g.q1 x hx
    have hv2 := rowF_get (M.ev x) hy
    rw [hv] at hv2
    have hlx := (g.lr hx).1
    have ok := hI.ok hx hy
    have hs1 := ok.tot
    rw [h1]
    repeat (first | refine T_seq ?_ | refine T_region ?_ | refine T_cond_false rfl ?_ | refine T_skip ?_ | refine TL_nil ?_ | refine TL_move (hk := ?_) | refine TL_load TE (hk := ?_) | refine TL_load_rd TE (hk := ?_) | refine TL_fieldAddr TE (hk := ?_) | refine TL_indexAddr1n TE (hk := ?_) | refine TL_nilCheck (hk := ?_) | refine TL_not (hk := ?_))
    refine TL_call TE (hc := Send_c B n cc l _ hE hE.bw (by omega) hr hn) (hk := ?_)
    rintro _ w1 ⟨rfl, m1, f1, h1, t1⟩
    obtain ⟨h', g', t', -, -⟩ := g.end_ (f' := f1) (es' := (sendE (ns.E x y) l).1) hx hy (by rw [hv]; exact QP.mk hxy hbs h1) t1
    repeat (first | refine TL_nil ?_ | refine TL_assign (hk := ?_))
    exact T_ret1 rfl rfl (.inr ⟨x, y, rfl, rfl, hx, hy, hxy, rfl, _, h', g', t'⟩)
  · have h1 : twoN ns a c = false := by simpa using h1
    rw [h1]
    repeat (first | refine T_seq ?_ | refine T_region ?_ | refine T_cond_true rfl ?_ | refine TL_nil ?_ | refine TL_assign (hk := ?_) | refine TL_not (hk := ?_))
    exact T_ret1 rfl rfl (.inl ⟨rfl, rfl, rfl⟩)
end
end Go.Proofs.Ytjjgojgahibpgaa

namespace Go.Proofs.Ytjjgojgahibpgaa
open Go.RowKit Go.Proofs.Eng Go.Proofs.Codec Go.Proofs.Link
set_option linter.unusedSimpArgs false
set_option linter.unusedVariables false set_option maxRecDepth 10000
attribute [local irreducible] T TL LV TH TA
set_option maxHeartbeats 3200000
section
variable {base p : Nat} {M : NM} {F : Nat → Nat → Nat → Nat} {h : Nat → Nat} {ns : NS} {k : Nat} {L : LL} {U : Nat → Nat → Nat}
theorem restR_le (hI : NI k ns L U) {a : Nat} (ha : a < ns.N) : ∀ c, c ≤ ns.N → restR ns a c ≤ c * 100000
  | 0, _ => by simp [restR]
  | c + 1, hc => by
    have h1 := restR_le hI ha c (by omega)
    have h2 := (hI.ok ha (by omega : c < ns.N)).tot
    unfold restR
    rw [Nat.succ_mul]
    omega
theorem restA_le (hI : NI k ns L U) : ∀ a, a ≤ ns.N → restA ns a ≤ a * 800000
  | 0, _ => by simp [restA]
  | a + 1, ha => by
    have h1 := restA_le hI a (by omega)
    have h2 := restR_le hI (by omega : a < ns.N) ns.N (Nat.le_refl _)
    have h3 := hI.n2
    have h4 := Nat.mul_le_mul_right 100000 h3.2
    unfold restA
    rw [Nat.succ_mul]
    omega
theorem QP.nil {w : World} {a : Nat} {v : Value} {f : Nat → Nat} {es : ES} (q : QP w base a a v f es) : v = .pointer none ∧ (∀ b, f b = 0) ∧ ∃ W P, es = nE W P := by
  unfold QP at q
  rwa [if_pos rfl] at q
theorem NRest_c (w : World) (g : NetG LayP ns.N w base p M F h ns) (hI : NI k ns L U) : Ret Try.prog 54 [ptr p] w (fun v w' => v = .int .i64 (restN ns : Int) ∧ w' = w) := by
  have hk := g.kP
  have hl := g.l1
  have hcn := g.nn
  have r1 := g.o1.rd
  refine ret_T (n := 35) Try.func54 rfl rfl ?_
  repeat (first | refine T_seq ?_ | refine T_region ?_ | refine T_cond_false rfl ?_ | refine T_block ?_ | refine T_skip ?_ | refine TL_pnil_f TE (hk := ?_) | refine TL_nil ?_ | refine TL_move (hk := ?_) | refine TL_assign (hk := ?_) | refine TL_load TE (hk := ?_) | refine TL_fieldAddr TE (hk := ?_) | refine TL_len TE (hk := ?_) | refine TL_nilCheck (hk := ?_))
  refine T_loop (ι := Nat) (fun i => [(15, .int .i64 (i : Int)), (3, .int .i64 (restA ns i : Int)), (14, .int .i64 ((M.s1.2.1 : Nat) : Int)), (13, slV M.s1)]) (fun i w' => w' = w ∧ i ≤ ns.N) (fun i => ns.N - i) 0 (.c rfl (.c rfl (.c rfl (.c rfl (.n))))) ⟨rfl, Nat.zero_le _⟩ ?_
  rintro i w1 ⟨rfl, hi⟩ ih
  have hb1 := restA_le hI i hi
  by_cases hlt : i < ns.N
  · have hv1 := rowF_get (fun a => slV (M.r1 a)) hlt
    have r2 := g.q1 i hlt
    have hlx := (g.lr hlt).1
    have hA : M.s1.1 ≠ none := by obtain ⟨_, _, hq, _⟩ := r1.2 (by omega); rw [hq]; simp
    have hb4 := restR_le hI hlt ns.N (Nat.le_refl _)
    have hb5 := Nat.mul_le_mul_right 100000 hcn
    repeat (first | refine T_seq ?_ | refine T_region ?_ | refine T_cond_true rfl ?_ | refine T_block ?_ | refine T_skip ?_ | refine TL_lt_t (hk := ?_) | refine TL_nil ?_ | refine TL_move (hk := ?_) | refine TL_assign (hk := ?_) | refine TL_load_rd TE (hk := ?_) | refine TL_indexAddr1n TE (hk := ?_) | refine TL_len TE (hk := ?_))
    refine T_loop (ι := Nat) (fun j => [(21, .int .i64 (j : Int)), (3, .int .i64 ((restA ns i + restR ns i j : Nat) : Int)), (20, .int .i64 (((M.r1 i).2.1 : Nat) : Int)), (19, slV (M.r1 i)), (15, .int .i64 (i : Int)), (14, .int .i64 ((M.s1.2.1 : Nat) : Int)), (13, slV M.s1)]) (fun j w' => w' = w1 ∧ j ≤ ns.N) (fun j => ns.N - j) 0 (.c rfl (.c rfl (.c rfl (.c rfl (.c rfl (.c rfl (.c rfl (.n)))))))) ⟨rfl, Nat.zero_le _⟩ ?_
    rintro j _ ⟨rfl, hj⟩ ih2
    have hb2 := restR_le hI hlt j hj
    by_cases hjt : j < ns.N
    · have hv2 := rowF_get (M.ev i) hjt
      have hA2 : (M.r1 i).1 ≠ none := by obtain ⟨_, _, hq, _⟩ := r2.2 (by omega); rw [hq]; simp
      have q := g.en i j hlt hjt
      have hb3 := restR_le hI hlt (j + 1) (by omega)
      have hb6 : restR ns i (j + 1) = restR ns i j + ((ns.E i j).new.length + (ns.E i j).fly.length) := rfl
      have hb7 := Nat.mul_le_mul_right 100000 (show j + 1 ≤ 8 by omega)
      have hc : ((restA ns i + restR ns i j : Nat) : Int) + (((ns.E i j).new.length : Int) + ((ns.E i j).fly.length : Int)) = ((restA ns i + restR ns i (j + 1) : Nat) : Int) := by omega
      by_cases hij : i = j
      · subst hij
        obtain ⟨hv, -, W, P, he⟩ := QP.nil q
        rw [he] at hc hb6
        simp only [nE, List.length_nil] at hc hb6
        have hc2 : ((restA ns i + restR ns i i : Nat) : Int) + (0 + 0) = ((restA ns i + restR ns i (i + 1) : Nat) : Int) := by omega
        rw [hv] at hv2
        repeat (first | refine T_seq ?_ | refine T_region ?_ | refine T_cond_true rfl ?_ | refine T_block ?_ | refine T_skip ?_ | refine TL_lt_t (hk := ?_) | refine TL_nil ?_ | refine TL_move (hk := ?_) | refine TL_assign (hk := ?_) | refine TL_load_rd TE (hk := ?_) | refine TL_indexAddr1n TE (hk := ?_))
        refine TL_call TE (hc := EUnsent_n (.bool true) _) (hk := ?_)
        rintro _ _ ⟨rfl, rfl⟩
        repeat (refine TL_move (hk := ?_))
        refine TL_call TE (hc := EFlying_n (.bool true) _) (hk := ?_)
        rintro _ _ ⟨rfl, rfl⟩
        repeat (first | refine T_region ?_ | refine T_inBlock ?_ | refine TL_add (hk := ?_) | refine TL_nil ?_ | refine TL_move (hk := ?_) | refine TL_assign (hk := ?_))
        rw [hc2]
        --
        exact ih2 (i + 1) _ _ (by omega) ⟨rfl, by omega⟩ (.c rfl (.c rfl (.c rfl (.c rfl (.c rfl (.c rfl (.c rfl (.n))))))))
      · obtain ⟨bs, q', m, hbs, hv, hE⟩ := QP.get q hij
        rw [hv] at hv2
        repeat (first | refine T_seq ?_ | refine T_region ?_ | refine T_cond_true rfl ?_ | refine T_block ?_ | refine T_skip ?_ | refine TL_lt_t (hk := ?_) | refine TL_nil ?_ | refine TL_move (hk := ?_) | refine TL_assign (hk := ?_) | refine TL_load_rd TE (hk := ?_) | refine TL_indexAddr1n TE (hk := ?_))
        refine TL_call TE (hc := Unsent_c _ hE) (hk := ?_)
        rintro _ _ ⟨rfl, rfl⟩
        repeat (refine TL_move (hk := ?_))
        refine TL_call TE (hc := Flying_c _ hE) (hk := ?_)
        rintro _ _ ⟨rfl, rfl⟩
        repeat (first | refine T_region ?_ | refine T_inBlock ?_ | refine TL_add (hk := ?_) | refine TL_nil ?_ | refine TL_move (hk := ?_) | refine TL_assign (hk := ?_))
        rw [hc]
        --
        exact ih2 (j + 1) _ _ (by omega) ⟨rfl, by omega⟩ (.c rfl (.c rfl (.c rfl (.c rfl (.c rfl (.c rfl (.c rfl (.n))))))))
    · have hje : ns.N = j := by omega
      have hc : restA ns i + restR ns i j = restA ns (i + 1) := by rw [← hje]; rfl
      rw [hc]
      clear ih2
      repeat (first | refine T_seq ?_ | refine T_region ?_ | refine T_cond_false rfl ?_ | refine T_inBlock ?_ | refine T_exit rfl ?_ | refine TL_add (hk := ?_) | refine TL_lt_f (hk := ?_) | refine TL_nil ?_ | refine TL_move (hk := ?_))
      exact ih (i + 1) _ _ (by omega) ⟨rfl, by omega⟩ (.c rfl (.c rfl (.c rfl (.c rfl (.n)))))
  · have hie : ns.N = i := by omega
    have hc : restA ns i = restN ns := by rw [← hie]; rfl
    rw [hc]
    clear ih
    repeat (first | refine T_seq ?_ | refine T_region ?_ | refine T_cond_false rfl ?_ | refine T_exit rfl ?_ | refine TL_lt_f (hk := ?_) | refine TL_nil ?_ | refine TL_move (hk := ?_) | refine TL_assign (hk := ?_))
    exact T_ret1 rfl rfl ⟨rfl, rfl⟩
end
end Go.Proofs.Ytjjgojgahibpgaa

namespace Go.Proofs.Ytjjgojgahibpgaa
open Go.RowKit Go.Proofs.Eng Go.Proofs.Codec Go.Proofs.Link
set_option linter.unusedSimpArgs false
set_option linter.unusedVariables false set_option maxRecDepth 10000
attribute [local irreducible] T TL LV TH TA
set_option maxHeartbeats 3200000
section
variable {base p : Nat} {M : NM} {F : Nat → Nat → Nat → Nat} {h : Nat → Nat} {ns : NS} {k : Nat} {L : LL} {U : Nat → Nat → Nat}
theorem letC_le (hI : NI k ns L U) {a : Nat} (ha : a < ns.N) : ∀ c, c ≤ ns.N → letC a c ns ≤ c * 100001
  | 0, _ => by simp [letC]
  | c + 1, hc => by
    have h1 := letC_le hI ha c (by omega)
    have hN := (letK_N a c ns).1
    have h2 := ((hI.letK ha c (by omega)).ok (a := a) (c := c) (by rw [hN]; exact ha) (by rw [hN]; omega)).tot
    have h3 := out_len ((letK a c ns).E a c)
    unfold rE at h3
    unfold letC
    rw [Nat.succ_mul]
    omega
theorem cap_len (l : List PK) : ∀ way : List PK, way.length ≤ 4096 → (l.foldl capA way).length ≤ 4096 := fun way hw => by
  obtain ⟨_, _, h, _⟩ := cap_fold l way
  exact h hw
theorem fold_take (g : Bs → PK) (l : List Bs) (way : List PK) (j : Nat) (hj : j < l.length) : ((l.take (j + 1)).map g).foldl capA way = capA (((l.take j).map g).foldl capA way) (g (l.getD j [])) := by
  rw [List.take_succ_eq_append_getElem hj, List.map_append, List.foldl_append, List.getD_eq_getElem?_getD, List.getElem?_eq_getElem hj]
  rfl
/-- What is left of what was let out. -/
structure OutL (w0 w : World) (O : SV) (xs : List SV) (bs : List Bs) (h : Nat → Nat) (j : Nat) : Prop where
  rd : Rd w O.1 O.2.1 1 (slVs xs)
  oz : ∀ b ∈ blkL O.1, h b = 0 ∧ b < w.heap.size
  lo : O.2.1 = bs.length
  lx : xs.length = bs.length
  od : ∀ b ∈ blkS xs, b ∉ blkL O.1
  nd : (blkS xs).Nodup
  bd : ∀ i, j ≤ i → i < xs.length → Rd w (xs.getD i (none, 0, 0)).1 (xs.getD i (none, 0, 0)).2.1 1 (bv (bs.getD i [])) ∧ (xs.getD i (none, 0, 0)).2.1 ≤ (xs.getD i (none, 0, 0)).2.2 ∧ ∀ b ∈ blkL (xs.getD i (none, 0, 0)).1, h b = 0 ∧ b < w.heap.size ∧ w0.heap.size ≤ b
theorem OutL.tn {w0 w w' : World} {O : SV} {xs : List SV} {bs : List Bs} {h h' : Nat → Nat} {j : Nat} (l : OutL w0 w O xs bs h j) (t : Tn h h' w w') : OutL w0 w' O xs bs h' j := by
  obtain ⟨⟨S, m, s⟩, n, z⟩ := id t
  exact { l with
    rd := l.rd.mod m (off_of fun b hb q => s b q (l.oz b hb).1)
    oz := fun b hb => ⟨t.old (l.oz b hb).1 (l.oz b hb).2, by have := (l.oz b hb).2; omega⟩
    bd := fun i h1 h2 => by
      obtain ⟨g1, g2, g3⟩ := l.bd i h1 h2
      exact ⟨g1.mod m (off_of fun b hb q => s b q (g3 b hb).1), g2, fun b hb => ⟨t.old (g3 b hb).1 (g3 b hb).2.1, by have := (g3 b hb).2.1; omega, (g3 b hb).2.2⟩⟩ }
/-- One of them has come under way. -/
theorem OutL.push {w0 w w' : World} {O : SV} {xs : List SV} {bs : List Bs} {h h' : Nat → Nat} {j : Nat} (l : OutL w0 w O xs bs h j) (hj : j < xs.length) {S : List Nat} (m : Eng.Mod S w w') (hS : ∀ b ∈ S, h b ≠ 0)
    (hz : ∀ b, h b = 0 → b < w.heap.size → b ∉ blkL (xs.getD j (none, 0, 0)).1 → h' b = 0) : OutL w0 w' O xs bs h' (j + 1) := by
  have z := m.size
  exact { l with
    rd := l.rd.mod m (off_of fun b hb q => hS b q (l.oz b hb).1)
    oz := fun b hb => ⟨hz b (l.oz b hb).1 (l.oz b hb).2 (fun q => l.od b (blkS_get hj q) hb), by have := (l.oz b hb).2; omega⟩
    bd := fun i h1 h2 => by
      obtain ⟨g1, g2, g3⟩ := l.bd i (by omega) h2
      exact ⟨g1.mod m (off_of fun b hb q => hS b q (g3 b hb).1), g2, fun b hb => ⟨hz b (g3 b hb).1 (g3 b hb).2.1 (blkS_disj l.nd h2 hj (by omega) b hb), by have := (g3 b hb).2.1; omega, (g3 b hb).2.2⟩⟩ }
theorem OutL.of {w0 w : World} {O : SV} {xs : List SV} {bs : List Bs} {h : Nat → Nat} {B : Nat} (o : OutP w B O xs bs) (hB : w0.heap.size ≤ B) (h1 : ∀ b ∈ blkL O.1, h b = 0) (h2 : ∀ b ∈ blkS xs, h b = 0) : OutL w0 w O xs bs h 0 :=
  { rd := o.own.rd, oz := fun b hb => ⟨h1 b hb, Lo.blk o.own.lo b hb⟩, lo := by have := o.own.len; have h3 := o.bod.len; rw [slVs_length] at this; omega, lx := o.bod.len, od := o.off, nd := o.nd
    bd := fun i _ hi => by
      have g := o.bod.get i hi
      exact ⟨g.rd, (Own.cap g).1, fun b hb => ⟨h2 b (blkS_get hi hb), (g.lt b hb).2, by have := (g.lt b hb).1; omega⟩⟩ }
theorem OutL.skip {w0 w : World} {O : SV} {xs : List SV} {bs : List Bs} {h : Nat → Nat} {j : Nat} (l : OutL w0 w O xs bs h j) : OutL w0 w O xs bs h (j + 1) := { l with bd := fun i h1 h2 => l.bd i (by omega) h2 }
end
end Go.Proofs.Ytjjgojgahibpgaa

namespace Go.Proofs.Ytjjgojgahibpgaa
open Go.RowKit Go.Proofs.Eng Go.Proofs.Codec Go.Proofs.Link
set_option linter.unusedSimpArgs false
set_option linter.unusedVariables false set_option maxRecDepth 10000
attribute [local irreducible] T TL LV TH TA
set_option maxHeartbeats 3200000
section
variable {base p : Nat} {M : NM} {F : Nat → Nat → Nat → Nat} {h : Nat → Nat} {ns : NS} {k : Nat} {L : LL} {U : Nat → Nat → Nat}
theorem NLet_c (a : Int) (w : World) (g : NetG LayP ns.N w base p M F h ns) (hI : NI k ns L U) :
    Ret Try.prog 47 [ptr p, .int .i64 a] w (fun v w' => v = .int .i64 ((letX ns a).2 : Int) ∧ ∃ M' F' h', NetG LayP ns.N w' base p M' F' h' (letX ns a).1 ∧ Tn h h' w w') := by
  have hk := g.kP
  have hl := g.l1
  have hcn := g.nn
  unfold letX
  refine ret_T (n := 82) Try.func47 rfl rfl ?_
  by_cases h1 : inN ns.N a = true
  · obtain ⟨x, rfl, hx⟩ := inN_nat h1
    rw [if_pos h1]
    simp only [Int.toNat_natCast]
    clear h1
    have h0 : (0 : Int) ≤ (x : Int) := by omega
    have hx' : (x : Int) < ((M.s1.2.1 : Nat) : Int) := by omega
    have r1 := g.o1.rd
    have hv1 := rowF_get (fun a => slV (M.r1 a)) hx
    have hlx := (g.lr hx).1
    have hb0 : ∀ b, h b ≠ 0 → b < w.heap.size := fun b hb => (g.old b hb).2
    have hbw := g.bw
    repeat (first | refine T_seq ?_ | refine T_region ?_ | refine T_cond_false rfl ?_ | refine T_block ?_ | refine T_skip ?_ | refine TL_lt_f (hk := ?_) | refine TL_ge_f (hk := ?_) | refine TL_pnil_f TE (hk := ?_) | refine TL_nil ?_ | refine TL_move (hk := ?_) | refine TL_assign (hk := ?_) | refine TL_load TE (hk := ?_) | refine TL_load_rd TE (hk := ?_) | refine TL_fieldAddr TE (hk := ?_) | refine TL_indexAddr1n TE (hk := ?_) | refine TL_len TE (hk := ?_) | refine TL_yes (hk := ?_) | refine TL_pick_f (hk := ?_) | refine TL_nilCheck (hk := ?_))
    refine T_loop (ι := Nat) (fun i => [(33, .int .i64 (i : Int)), (32, .int .i64 (((M.r1 x).2.1 : Nat) : Int)), (31, slV (M.r1 x)), (5, .int .i64 ((letC x i ns : Nat) : Int)), (0, ptr p), (1, .int .i64 (x : Int))])
      (fun i w' => i ≤ ns.N ∧ ∃ s3 y F' h', NetG LayP ns.N w' base p { M with s3 := s3, y := y } F' h' (letK x i ns) ∧ Tn h h' w w') (fun i => ns.N - i) 0 (.c rfl (.c rfl (.c rfl (.c rfl (.c rfl (.c rfl (.n))))))) ⟨Nat.zero_le _, M.s3, M.y, F, h, g, Tn.refl _ _⟩ ?_
    clear hk
    rintro i w1 ⟨hi, s3, y, F1, h1, g1, t1⟩ ih
    have hN1 := letK_N x i ns
    have hI1 := hI.letK hx i hi
    have hcl := letC_le hI hx i hi
    by_cases hlt : i < ns.N
    · have hcl2 := letC_le hI hx (i + 1) (by omega)
      have hcm := Nat.mul_le_mul_right 100001 (show i + 1 ≤ 8 by omega)
      have r1 := g1.o1.rd
      have r2 := g1.q1 x hx
      simp only at r1 r2
      rw [hN1.1] at r2
      have hv2 := rowF_get (M.ev x) hlt
      have hA2 : (M.r1 x).1 ≠ none := by obtain ⟨_, _, hq, _⟩ := r2.2 (by omega); rw [hq]; simp
      have q := g1.en x i hx (by rw [hN1.1]; exact hlt)
      by_cases hxi : x = i
      · subst hxi
        obtain ⟨hv, -, -⟩ := QP.nil q
        simp only at hv
        rw [hv] at hv2
        obtain ⟨hd1, hd2⟩ := let1_diag hI1 (a := x) (by rw [hN1.1]; exact hlt)
        have hcs : letC x (x + 1) ns = letC x x ns := by
          show letC x x ns + _ = _
          rw [hd2]; rfl
        have hks : letK x (x + 1) ns = letK x x ns := hd1
        repeat (first | refine T_seq ?_ | refine T_region ?_ | refine T_cond_true rfl ?_ | refine T_block ?_ | refine T_skip ?_ | refine TL_lt_t (hk := ?_) | refine TL_nil ?_ | refine TL_move (hk := ?_) | refine TL_assign (hk := ?_) | refine TL_load_rd TE (hk := ?_) | refine TL_indexAddr1n TE (hk := ?_))
        refine TL_call TE (hc := EOut_n (.bool true) _) (hk := ?_)
        rintro _ w1 ⟨rfl, rfl⟩
        repeat (first | refine T_block ?_ | refine TL_nil ?_ | refine TL_move (hk := ?_) | refine TL_len TE (hk := ?_))
        refine T_loop (ι := Nat) (fun j => [(41, .int .i64 (j : Int)), (40, .int .i64 0), (33, .int .i64 (x : Int)), (32, .int .i64 (((M.r1 x).2.1 : Nat) : Int)), (31, slV (M.r1 x)), (5, .int .i64 ((letC x x ns : Nat) : Int)), (0, ptr p), (1, .int .i64 (x : Int))]) (fun j w' => j = 0 ∧ w' = w1) (fun j => 0) 0 (.c rfl (.c rfl (.c rfl (.c rfl (.c rfl (.c rfl (.c rfl (.c rfl (.n))))))))) ⟨rfl, rfl⟩ ?_
        rintro j _ ⟨rfl, rfl⟩ -
        repeat (first | refine T_seq ?_ | refine T_region ?_ | refine T_cond_false rfl ?_ | refine T_inBlock ?_ | refine T_exit rfl ?_ | refine TL_add (hk := ?_) | refine TL_lt_f (hk := ?_) | refine TL_nil ?_ | refine TL_move (hk := ?_))
        exact ih (x + 1) _ _ (by omega) ⟨by omega, s3, y, F1, h1, by rw [hks]; exact g1, t1⟩ (by rw [hcs]; exact (.c rfl (.c rfl (.c rfl (.c rfl (.c rfl (.c rfl (.n))))))))
      · obtain ⟨bs, q', m, hbs, hv, hE⟩ := QP.get q hxi
        simp only at hv
        rw [hv] at hv2
        have ok := hI1.ok (a := x) (c := i) (by rw [hN1.1]; exact hx) (by rw [hN1.1]; exact hlt)
        repeat (first | refine T_seq ?_ | refine T_region ?_ | refine T_cond_true rfl ?_ | refine T_block ?_ | refine T_skip ?_ | refine TL_lt_t (hk := ?_) | refine TL_nil ?_ | refine TL_move (hk := ?_) | refine TL_assign (hk := ?_) | refine TL_load_rd TE (hk := ?_) | refine TL_indexAddr1n TE (hk := ?_))
        refine TL_call TE (hc := Out_c _ hE hE.bw ok) (hk := ?_)
        rintro _ w2 ⟨O, xs, m2, f2, rfl, E2, t2, o2, fo2, fx2⟩
        obtain ⟨es, hes⟩ : ∃ es, (letK x i ns).E x i = es := ⟨_, rfl⟩
        have hC : letC x (i + 1) ns = letC x i ns + (outE es).2.length := by rw [← hes]; rfl
        rw [hes] at E2 o2
        obtain ⟨h2, g2, t12, hz2, -⟩ := g1.end_ (f' := f2) (es' := (outE es).1) hx (by rw [hN1.1]; exact hlt) (by simp only; rw [hv]; exact QP.mk hxi hbs E2) t2
        have hnew : ∀ b, w1.heap.size ≤ b → h1 b = 0 := fun b hb => by
          by_cases z : h1 b = 0
          · exact z
          · have := (g1.old b z).2; omega
        have hOl := OutL.of (w0 := w) o2 t1.size (h := h2) (fun b hb => hz2 b (hnew b (Hi.blk o2.own.hi b hb)) (.inr (fo2 b hb))) (fun b hb => hz2 b (hnew b (o2.bod.lt b hb).1) (.inr (fx2 b hb)))
        replace t12 := t1.trans t12
        have hwl := hI1.wl
        have hlo := hOl.lo
        have hon : (outE es).2.length ≤ 100001 := by
          have h3 := out_len es
          have h4 := ok.tot
          rw [hes] at h4
          unfold rE at h3
          omega
        obtain ⟨Pv, hPv⟩ : ∃ Pv, ns.P x i = Pv := ⟨_, rfl⟩
        obtain ⟨wy, hwy⟩ : ∃ wy : Nat → List PK, wy = fun j => if Pv then (letK x i ns).way else (((outE es).2.take j).map (PK.mk x i)).foldl capA (letK x i ns).way := ⟨_, rfl⟩
        have hw0 : wy 0 = (letK x i ns).way := by rw [hwy]; simp
        have hwe : letK x (i + 1) ns = { letK x i ns with E := upd2 (letK x i ns).E x i (outE es).1, way := wy (outE es).2.length } := by
          show let1 (letK x i ns) x i = _
          unfold let1
          rw [hes, hN1.2.2.2, hPv, hwy]
          simp only [List.take_length, hN1.2.2.2]
        have hwl2 : ∀ j, (wy j).length ≤ 4096 := fun j => by
          rw [hwy]
          simp only
          split
          · exact hwl
          · exact cap_len _ _ hwl
        have hcnt : letC x i ns + (outE es).2.length ≤ 2000000 := by omega
        clear r1 r2 q hE E2 t2 o2 fo2 fx2 hz2 hnew g1 t1 hcl hcl2 hcm hon ok
        repeat (first | refine T_block ?_ | refine TL_nil ?_ | refine TL_move (hk := ?_) | refine TL_len TE (hk := ?_))
        refine T_loop (ι := Nat) (fun j => [(41, .int .i64 (j : Int)), (40, .int .i64 ((O.2.1 : Nat) : Int)), (39, slV O), (6, .int .i64 (i : Int)), (33, .int .i64 (i : Int)), (32, .int .i64 (((M.r1 x).2.1 : Nat) : Int)), (31, slV (M.r1 x)), (5, .int .i64 ((letC x i ns + j : Nat) : Int)), (0, ptr p), (1, .int .i64 (x : Int))])
          (fun j w' => j ≤ (outE es).2.length ∧ ∃ s3 y h', NetG LayP ns.N w' base p { M with s3 := s3, y := y } (upd2 F1 x i f2) h' { letK x i ns with E := upd2 (letK x i ns).E x i (outE es).1, way := wy j } ∧ Tn h h' w w' ∧ OutL w w' O xs (outE es).2 h' j) (fun j => (outE es).2.length - j) 0 (.c rfl (.c rfl (.c rfl (.c rfl (.c rfl (.c rfl (.c rfl (.c rfl (.c rfl (.c rfl (.n)))))))))))
          ⟨Nat.zero_le _, s3, y, h2, by rw [hw0]; exact g2, t12, hOl⟩ ?_
        clear g2 t12 hOl s3 y h2 h1
        rintro j w3 ⟨hj, s3, y, h3, g3, t3, l3⟩ ih2
        have hC2 : ((letC x i ns + j : Nat) : Int) + 1 = ((letC x i ns + (j + 1) : Nat) : Int) := by omega
        by_cases hjt : j < (outE es).2.length
        · have rO := l3.rd
          have hjx : j < xs.length := by have := l3.lx; omega
          have hOn : O.1 ≠ none := by obtain ⟨_, _, hq, _⟩ := rO.2 (by omega); rw [hq]; simp
          have hvx := slVs_get xs j hjx
          have hbd := l3.bd j (Nat.le_refl _) hjx
          have hk3 := g3.kP
          have hl2 := g3.l2
          have rp1 := g3.o2.rd
          have hvp1 := rowF_get (fun a => slV (M.r2 a)) hx
          have rp2 := (g3.q2 x hx).rd
          have hvp2 := rowF_get (fun c => LayP.pv ((letK x i ns).P x c)) (N := (letK x i ns).N) (by rw [hN1.1]; exact hlt)
          rw [hN1.2.2.2, hPv] at hvp2
          have hlx2 := (g3.lr hx).2
          simp only at hk3 hl2 rp1 rp2 hlx2
          rw [hN1.2.2.2] at rp2
          have hbw3 := g3.bw
          have hh0 : ∀ b, h3 b ≠ 0 → b < w3.heap.size := fun b hb => (g3.old b hb).2
          obtain ⟨hy1, hy2⟩ := g3.l3
          simp only at hy1 hy2
          have hwj := hwl2 j
          rw [hN1.1] at hlx2
          obtain ⟨pi, hpi⟩ : ∃ z : Int, z = (if Pv then 1 else 0) := ⟨_, rfl⟩
          rw [show LayP.pv Pv = (.int .i64 (if Pv then 1 else 0) : Value) from rfl, ← hpi] at hvp2
          generalize hz : xs.getD j (none, 0, 0) = z at hvx hbd
          repeat (first | refine T_seq ?_ | refine T_region ?_ | refine T_cond_true rfl ?_ | refine T_block ?_ | refine T_skip ?_ | refine TL_add (hk := ?_) | refine TL_lt_t (hk := ?_) | refine TL_nil ?_ | refine TL_move (hk := ?_) | refine TL_assign (hk := ?_) | refine TL_load TE (hk := ?_) | refine TL_load_rd TE (hk := ?_) | refine TL_fieldAddr TE (hk := ?_) | refine TL_indexAddr1n TE (hk := ?_) | refine TL_nilCheck (hk := ?_))
          by_cases hPt : Pv = true
          · subst hPt
            have hws : wy (j + 1) = wy j := by rw [hwy]; rfl
            have hpz : ¬ pi = 0 := by rw [hpi]; decide
            repeat (first | refine T_region ?_ | refine T_cond_false rfl ?_ | refine T_inBlock ?_ | refine T_skip ?_ | refine TL_add (hk := ?_) | refine TL_eq_f (hk := ?_) | refine TL_nil ?_ | refine TL_move (hk := ?_) | refine TL_no (hk := ?_) | refine TL_pick_f (hk := ?_))
            exact ih2 (j + 1) _ _ (by omega) ⟨by omega, s3, y, h3, by rw [hws]; exact g3, t3, l3.skip⟩ (by rw [← hC2]; exact (.c rfl (.c rfl (.c rfl (.c rfl (.c rfl (.c rfl (.c rfl (.c rfl (.c rfl (.c rfl (.n))))))))))))
          · have hPt : Pv = false := by simpa using hPt
            subst hPt
            have hpz : pi = 0 := by rw [hpi]; rfl
            have hws : wy (j + 1) = capA (wy j) ⟨x, i, (outE es).2.getD j []⟩ := by
              rw [hwy]
              simp only [Bool.false_eq_true, if_false]
              exact fold_take (PK.mk x i) _ _ j hjt
            by_cases hfull : (wy j).length < 4096
            · have hs3l : ((s3.2.1 : Nat) : Int) < 4096 := by omega
              unfold capA at hws
              rw [if_pos hfull] at hws
              repeat (first | refine T_region ?_ | refine T_cond_true rfl ?_ | refine TL_lt_t (hk := ?_) | refine TL_eq_t (hk := ?_) | refine TL_nil ?_ | refine TL_move (hk := ?_) | refine TL_load TE (hk := ?_) | refine TL_fieldAddr TE (hk := ?_) | refine TL_len TE (hk := ?_) | refine TL_yes (hk := ?_) | refine TL_pick_t (hk := ?_) | refine TL_nilCheck (hk := ?_) | refine TL_build TE (hk := ?_))
              refine TL_buildSliceA TE (hk := ?_); intro b4 w4 e4 h4 h4' k4
              replace k4 : Blk w4 b4 103 (rowV pkV [((⟨x, i, (outE es).2.getD j []⟩, z) : PK × SV)]) := k4
              have r4 : Rd w4 (some ⟨b4, 0, none⟩) 1 3 (rowV pkV [((⟨x, i, (outE es).2.getD j []⟩, z) : PK × SV)]) := Rd.blk k4 rfl
              have o3 := g3.o3.be e4
              simp only at o3
              have z4 := e4.size
              have hp3 := g3.p3
              simp only at hp3
              have hk4 := hk3.be e4
              --
              refine TL_append TE (ho := o3) (hr := r4) (h1 := rowV_one pkV_one _) (hk := ?_); intro A5 c5 w5 o5 m5 n5
              rw [← rowV_append] at o5
              have hk5 := hk4.mod m5 (fun q => hp3 p q (by simp))
              repeat (first | refine TL_fieldAddr TE (hk := ?_) | refine TL_nilCheck (hk := ?_))
              refine TL_store TE (hb := hk5) (hk := ?_); intro w6 m6 z6 k6
              obtain ⟨h6, g6, t6, hz6⟩ := g3.push (s3 := (A5, s3.2.1 + 1, c5)) (x := (⟨x, i, (outE es).2.getD j []⟩, z)) e4 m5 o5 n5 m6 k6 t3 hb0 (.inr ⟨hbd.1, hbd.2.1, fun b hb => ⟨(hbd.2.2 b hb).1, by have := (hbd.2.2 b hb).2.2; have := hbw; omega, (hbd.2.2 b hb).2.1, (hbd.2.2 b hb).2.2⟩⟩)
              have hMod : Eng.Mod (p :: blkL s3.1) w3 w6 := ((e4.mono (S' := p :: blkL s3.1) (by simp)).step m5 (fun b hb => .inl (List.mem_cons_of_mem _ hb))).step m6 (fun b hb => .inl (by rw [List.mem_singleton.1 hb]; exact List.mem_cons_self))
              have l6 := l3.push (h' := h6) hjx hMod (fun b hb => by
                rcases List.mem_cons.1 hb with rfl | hb
                · rw [g3.hp]; decide
                · rw [g3.h12 b hb]; decide) (by rw [hz]; exact hz6)
              repeat (first | refine T_region ?_ | refine T_inBlock ?_ | refine TL_add (hk := ?_) | refine TL_nil ?_ | refine TL_move (hk := ?_))
              exact ih2 (j + 1) _ _ (by omega) ⟨by omega, _, _, h6, by rw [hws]; exact g6, t6, l6⟩ (by rw [← hC2]; exact (.c rfl (.c rfl (.c rfl (.c rfl (.c rfl (.c rfl (.c rfl (.c rfl (.c rfl (.c rfl (.n))))))))))))
            · have hs3l : ¬ ((s3.2.1 : Nat) : Int) < 4096 := by omega
              clear hx' h0
              unfold capA at hws
              rw [if_neg hfull] at hws
              repeat (first | refine T_region ?_ | refine T_cond_false rfl ?_ | refine T_inBlock ?_ | refine T_skip ?_ | refine TL_add (hk := ?_) | refine TL_lt_f (hk := ?_) | refine TL_eq_t (hk := ?_) | refine TL_nil ?_ | refine TL_move (hk := ?_) | refine TL_load TE (hk := ?_) | refine TL_fieldAddr TE (hk := ?_) | refine TL_len TE (hk := ?_) | refine TL_yes (hk := ?_) | refine TL_pick_t (hk := ?_) | refine TL_nilCheck (hk := ?_))
              exact ih2 (j + 1) _ _ (by omega) ⟨by omega, s3, y, h3, by rw [hws]; exact g3, t3, l3.skip⟩ (by rw [← hC2]; exact (.c rfl (.c rfl (.c rfl (.c rfl (.c rfl (.c rfl (.c rfl (.c rfl (.c rfl (.c rfl (.n))))))))))))
        · have hje : (outE es).2.length = j := by omega
          clear ih2
          rw [← hje]
          rw [hje] at hwe
          repeat (first | refine T_seq ?_ | refine T_region ?_ | refine T_cond_false rfl ?_ | refine T_inBlock ?_ | refine T_exit rfl ?_ | refine TL_add (hk := ?_) | refine TL_lt_f (hk := ?_) | refine TL_nil ?_ | refine TL_move (hk := ?_))
          exact ih (i + 1) _ _ (by omega) ⟨by omega, s3, y, _, h3, by rw [hwe]; exact g3, t3⟩ (by rw [hC]; exact (.c rfl (.c rfl (.c rfl (.c rfl (.c rfl (.c rfl (.n))))))))
    · have hie : ns.N = i := by omega
      clear ih
      rw [← hie] at g1
      repeat (first | refine T_seq ?_ | refine T_region ?_ | refine T_cond_false rfl ?_ | refine T_exit rfl ?_ | refine TL_lt_f (hk := ?_) | refine TL_nil ?_ | refine TL_move (hk := ?_) | refine TL_assign (hk := ?_))
      rw [← hie]
      exact T_ret1 rfl rfl ⟨rfl, _, F1, h1, g1, t1⟩
  · rw [if_neg h1]
    have h1' : ¬ (0 ≤ a ∧ a < ns.N) := by unfold inN at h1; simpa using h1
    by_cases h2 : 0 ≤ a
    · have h3 : ((M.s1.2.1 : Nat) : Int) ≤ a := by omega
      repeat (first | refine T_seq ?_ | refine T_region ?_ | refine T_cond_true rfl ?_ | refine TL_lt_f (hk := ?_) | refine TL_ge_t (hk := ?_) | refine TL_pnil_f TE (hk := ?_) | refine TL_nil ?_ | refine TL_move (hk := ?_) | refine TL_assign (hk := ?_) | refine TL_load TE (hk := ?_) | refine TL_fieldAddr TE (hk := ?_) | refine TL_len TE (hk := ?_) | refine TL_yes (hk := ?_) | refine TL_pick_f (hk := ?_) | refine TL_nilCheck (hk := ?_))
      exact T_ret1 rfl rfl ⟨rfl, M, F, h, g, Tn.refl _ _⟩
    · repeat (first | refine T_seq ?_ | refine T_region ?_ | refine T_cond_true rfl ?_ | refine TL_lt_t (hk := ?_) | refine TL_pnil_f TE (hk := ?_) | refine TL_nil ?_ | refine TL_move (hk := ?_) | refine TL_assign (hk := ?_) | refine TL_yes (hk := ?_) | refine TL_no (hk := ?_) | refine TL_pick_t (hk := ?_) | refine TL_pick_f (hk := ?_))
      exact T_ret1 rfl rfl ⟨rfl, M, F, h, g, Tn.refl _ _⟩
end
end Go.Proofs.Ytjjgojgahibpgaa

/- s[i:j:k]; an append that stays within its own row. -/
namespace Go.Proofs.Eng
open Go.RowKit
set_option linter.unusedSimpArgs false
set_option linter.unusedVariables false
set_option linter.unusedSectionVars false
section
variable {q : Qm} {P : Program} {fn : Func} {R : Ending → World → Prop} {M : Md} {n : Nat} {st : Slots} {k : List Item} {w : World} {ops rest : List Oper}
  {d : Nat} {ty : TypeId} {ps : String} {af : Array Edge} {X Y V Z : Operand} {t e : TypeId} {by_ s base m c m2 c2 i : Nat} {z : Value} {A A2 : Option Addr} {xs ys : List Value} {L L2 L3 : IntKind}
theorem TL_slice3 {j j2 j3 : Int} (E : Env P) (hx : ev st X = some (.slice A m c) := by exact rfl) (hy : ev st Y = some (.int L j) := by exact rfl) (hV : ev st V = some (.int L2 j2) := by exact rfl) (hZ : ev st Z = some (.int L3 j3) := by exact rfl) (ht : E.und t = some (.slice e) := by exact rfl) (he : E.inf e = some (s, by_, z) := by exact rfl) (hd : Nat.blt d n = true := by exact rfl) (h0 : 0 ≤ j := by first | assumption | omega) (h1 : j ≤ j2 := by first | assumption | omega) (h2 : j2 ≤ j3 := by first | assumption | omega) (h3 : j3 ≤ (c : Int) := by first | assumption | omega)
    (hk : TL q P fn R M n ((d, .slice (if j3.toNat = j.toNat then A else A.map (·.add (j.toNat * s))) (j2.toNat - j.toNat) (j3.toNat - j.toNat)) :: st) ops rest k w) : TL q P fn R M n st ops (⟨some d, .slice t X (some Y) (some V) (some Z), ty, ps, af, none⟩ :: rest) k w :=
  TL_val_w hd (fun w ρ h => by
    have a1 : 0 ≤ j2 := by omega
    have a2 : 0 ≤ j3 := by omega
    have a3 : j ≤ (j2.toNat : Int) := by omega
    have a4 : j2 ≤ (j3.toNat : Int) := by omega
    have a5 : j2 ≤ max j3 0 := by omega
    have a6 : j ≤ max j2 0 := by omega
    simp [execOp, Instr.sliceAt, Instr.slice, Instr.sliceBounds, Instr.sliceBound, asIntOf, run_underlying (E.und_ok _ _ ht), h _ _ hx, h _ _ hy, h _ _ hV, h _ _ hZ, h0, h1, h2, h3, a1, a2, a3, a4, a5, a6, run_sizeOf' (E.inf_ok _ _ _ _ he)]) hk
theorem run_append_within (ht : P.underlying t = some (.slice e)) (hi : ∃ i, P.info? e = some i ∧ i.size = s ∧ i.bytes = by_ ∧ i.zero = some z) (hsz : 0 < s)
    (ho : Own w base e s A m c xs) (hr : Rd w A2 m2 s ys) (h1 : ∀ u ∈ ys, u.oneCell' = true) (hroom : i + m2 ≤ m) (tt : TypeId) :
    ∃ w', (Builtin.append_ #[t, t] tt #[.slice A i c, .slice A2 m2 c2]).run P w = .ok (.slice A (i + m2) c) w' ∧ Mod (blkL A) w w' ∧ w'.heap.size = w.heap.size ∧ Own w' base e s A m c (xs.take (i * s) ++ ys ++ xs.drop ((i + m2) * s)) := by
  obtain ⟨it, i1, i2, i3, i4⟩ := id hi
  rcases Nat.eq_zero_or_pos m2 with h0 | h0
  · subst h0
    have hy : ys = [] := List.eq_nil_of_length_eq_zero (by simpa using hr.1)
    subst hy
    have hl : ∀ (x : Addr), (loadCells x 0).run P w = .ok #[] w := fun x => by simpa using run_loadCells_list (P := P) w x [] (by simp)
    have hc : i ≤ c := by have := ho.cap.1; omega
    refine ⟨w, ?_, Mod.refl _ _, rfl, by simpa using ho⟩
    cases A <;> cases A2 <;> simp [Builtin.append_, run_underlying ht, sizeOf, typeInfo, i1, Builtin.lenOf, Builtin.firstCells, hc, storeCells, hl]
  · obtain ⟨hxl, ⟨_, hz⟩ | ⟨g, cap, cur, hv, hg, hh, hnc, hcm, hcs, htk⟩⟩ := id ho
    · omega
    · cases hv
      obtain ⟨b2, o2, rfl, hb2', hc2⟩ := hr.2 (by omega)
      have hsrc : ∀ j u, ys[j]? = some u → w.cell? ((⟨b2, o2, none⟩ : Addr).add j) = some u := fun j u hu => by
        rw [← hc2 j u hu]
        congr 1
        unfold Addr.add
        by_cases h : j = 0 <;> simp [h]
      have hk : Blk w g e cur.toList := by unfold Blk; simpa using hh
      have hcl : cur.toList.length = cur.size := Array.length_toList
      have h8 : (i + m2) * s = i * s + m2 * s := Nat.add_mul _ _ _
      have h9 : (i + m2) * s ≤ m * s := Nat.mul_le_mul_right _ hroom
      have h10 : m * s ≤ c * s := Nat.mul_le_mul_right _ hnc
      have hys := hr.1
      have hfit : 0 + i * s + 0 + ys.length ≤ cur.toList.length := by omega
      obtain ⟨w', g1, g2, g3, g4⟩ := run_storeAll (P := P) (b := g) (o := 0 + i * s) ys cur.toList 0 w hk hfit h1
      rw [Nat.add_zero, Nat.zero_add] at g4
      have hfc := run_firstCells_some (P := P) w it.size m2 ⟨b2, o2, none⟩ m2 c2 ys (by rw [i2]; exact hr.1) hsrc
      have hroom' : i + m2 ≤ c := by omega
      refine ⟨w', ?_, g2, g3, ?_, .inr ⟨g, c, (setAll cur.toList (i * s) ys).toArray, rfl, hg, g4, hnc, hcm, by simp [setAll_length]; exact hcs, ?_⟩⟩
      · rw [i2] at hfc
        rw [Nat.zero_add] at g1
        simp [Builtin.append_, run_underlying ht, sizeOf, typeInfo, i1, i2, Builtin.lenOf, hroom', hfc, Addr.add_lit, g1]
      · simp only [List.length_append, List.length_take, List.length_drop, hxl, hys]
        omega
      · simp only [List.toList_toArray]
        rw [setAll_eq _ _ _ (by omega), ← htk, h8]
        apply List.ext_getElem?
        intro j
        simp only [List.getElem?_take, List.getElem?_append, List.getElem?_drop, List.length_append, List.length_take, List.length_drop, hys]
        grind
theorem TL_append_within (E : Env P) (ho : Own w base e s A m c xs) (hr : Rd w A2 m2 s ys) (h1 : ∀ u ∈ ys, u.oneCell' = true) (hroom : i + m2 ≤ m) (hx : ev st X = some (.slice A i c) := by exact rfl) (hy : ev st Y = some (.slice A2 m2 c2) := by exact rfl) (ht : E.und t = some (.slice e) := by exact rfl) (he : E.inf e = some (s, by_, z) := by exact rfl) (hsz : Nat.blt 0 s = true := by exact rfl) (hd : Nat.blt d n = true := by exact rfl)
    (hf : Fl q (rest.length + 1) := by first | exact trivial | exact rfl) (hq : ∀ w', Mod (blkL A) w w' → Kp q w' := by exact fun _ _ => trivial)
    (hk : ∀ w', Own w' base e s A m c (xs.take (i * s) ++ ys ++ xs.drop ((i + m2) * s)) → Mod (blkL A) w w' → w'.heap.size = w.heap.size → TL q P fn R M n ((d, .slice A (i + m2) c) :: st) ops rest k w') :
    TL q P fn R M n st ops (⟨some d, .call { callee := .builtin .append, args := #[X, Y], argTypes := #[t, t] }, ty, ps, af, none⟩ :: rest) k w := by
  obtain ⟨w', g1, g2, g3, g4⟩ := run_append_within (E.und_ok _ _ ht) (E.inf_ok _ _ _ _ he) (by simpa [Nat.blt_eq] using hsz) ho hr h1 hroom (c2 := c2) ty
  refine TL_new (w' := w') hd (fun ρ h => ?_) hf (hq _ g2) (hk w' g4 g2 g3)
  simp only [execOp, resolve, invoke, builtin, Sem.run_bind, Sem.run_pure, Result.andThen_ok, List.map_toArray, List.map_cons, List.map_nil, h _ _ hx, h _ _ hy, g1]
variable {S S2 : List UInt8} {t2 : TypeId}
end
end Go.Proofs.Eng

/- A load in a region walked move by move, when nothing else may come up: out of the world as it is then. -/
namespace Go.Proofs.Eng
open Go.RowKit
set_option linter.unusedSimpArgs false
set_option linter.unusedVariables false
set_option linter.unusedSectionVars false
section
variable {q : Qm} {P : Program} {fn : Func} {R : Ending → World → Prop} {M : Md} {n : Nat} {st : Slots} {k : List Item} {w : World} {ops rest : List Oper}
  {d : Nat} {ty : TypeId} {ps : String} {af : Array Edge} {X : Operand} {t : TypeId} {dsc : TypeDesc} {v : Value}
end
end Go.Proofs.Eng

/- A load of a struct out of a row in a region walked move by move, when nothing else may come up. -/
namespace Go.Proofs.Eng
open Go.RowKit
set_option linter.unusedSimpArgs false
set_option linter.unusedVariables false
set_option linter.unusedSectionVars false
section
variable {q : Qm} {P : Program} {fn : Func} {R : Ending → World → Prop} {M : Md} {n : Nat} {st : Slots} {k : List Item} {w : World} {ops rest : List Oper}
  {d : Nat} {ty : TypeId} {ps : String} {af : Array Edge} {X : Operand} {t : TypeId} {m s j by_ : Nat} {z : Value} {A : Option Addr}
theorem TLN_loada {xs cs : List Value} {fl : List (Nat × TypeId)} (E : Env P) (hx : ev st X = some (.pointer (some (adr A j))) := by exact rfl) (ht : E.fld t = some fl := by exact rfl) (hr : Rd w A m s xs) (hc : (xs.drop j).take cs.length = cs) (hi : E.inf t = some (cs.length, by_, z) := by exact rfl) (h0 : 0 < cs.length := by exact Nat.succ_pos _) (hd : Nat.blt d n = true := by exact rfl)
    (hf : Fl q (rest.length + 1) := by first | exact trivial | exact rfl) (hq : Kp q w) (hk : TL q P fn R M n ((d, .agg cs.toArray) :: st) ops rest k w) : TL q P fn R M n st ops (⟨some d, .load t X, ty, ps, af, none⟩ :: rest) k w :=
  TL_new (w' := w) hd (fun ρ h => by
    have h1 := load_cells (P := P) hr hc h0
    simp [execOp, Instr.loadAt, h _ _ hx, Instr.sureAddr, loadVar, run_isAgg_fld E ht, run_sizeOf' (E.inf_ok _ _ _ _ hi), h1]) hf hq hk
end
end Go.Proofs.Eng

namespace Go.Proofs.Ytjjgojgahibpgaa
open Go.RowKit Go.Proofs.Eng Go.Proofs.Codec Go.Proofs.Link
set_option linter.unusedSimpArgs false
set_option linter.unusedVariables false set_option maxRecDepth 10000
attribute [local irreducible] T TL LV TH TA
set_option maxHeartbeats 3200000
theorem PDelete_c (A : Option Addr) (n c base i : Nat) (q : List (PK × SV)) (w : World) (h : Own w base 103 3 A n c (rowV pkV q)) (hi : i < n) (hn : n ≤ 1000000) (hbw : base ≤ w.heap.size) :
    Ret Try.prog 76 [.slice A n c, .int .i64 (i : Int), .int .i64 ((i + 1 : Nat) : Int)] w (fun v w' => v = .slice A (n - 1) c ∧ Eng.Mod (blkL A) w w' ∧ Own w' base 103 3 A (n - 1) c (rowV pkV (q.eraseIdx i))) := by
  have hl : q.length = n := by have := h.len; rw [rowV_len pkV_len] at this; omega
  have hcap := h.cap
  have hne : ¬ (i : Int) = ((i + 1 : Nat) : Int) := by omega
  rw [List.eraseIdx_eq_take_drop_succ]
  refine ret_T (n := 33) Try.func76 rfl rfl ?_
  repeat (first | refine T_seq ?_ | refine T_region ?_ | refine TL_nil ?_ | refine TL_move (hk := ?_) | refine TL_assign (hk := ?_) | refine TL_len TE (hk := ?_))
  refine TL_slice3 TE (hk := ?_)
  repeat (first | refine T_seq ?_ | refine T_region ?_ | refine T_cond_false rfl ?_ | refine T_skip ?_ | refine TL_eq_f (hk := ?_) | refine TL_nil ?_ | refine TL_move (hk := ?_) | refine TL_assign (hk := ?_) | refine TL_len TE (hk := ?_))
  refine T_region_any TE.mixed (blkL A) ?_; intro w1 e1 z1
  have h1 := h.be e1
  have r1 : Rd w1 (cutA A c (i + 1) 3) (n - (i + 1)) 3 (rowV pkV (q.drop (i + 1))) := by
    have := Rd.cut (l := i + 1) (h := n) (c := c) h1.rd (by omega) (Nat.le_refl _) hcap.1
    rwa [rowV_drop pkV_len, List.take_of_length_le (by rw [rowV_len pkV_len, List.length_drop]; omega)] at this
  (refine TA_take 0 rfl (by kernel_rfl) (by kernel_rfl) (by kernel_rfl) ?_; (repeat (first | refine TL_move (hk := ?_) | refine TL_slice_hi TE (hk := ?_) | refine TL_slice_lo TE (hk := ?_))); refine TL_nil_p ?_); (refine TA_take 1 rfl (by kernel_rfl) (by kernel_rfl) (by kernel_rfl) ?_; (repeat (first | refine TL_move (hk := ?_) | refine TL_slice_hi TE (hk := ?_) | refine TL_slice_lo TE (hk := ?_))); refine TL_nil_p ?_); (refine TA_take 2 rfl (by kernel_rfl) (by kernel_rfl) (by kernel_rfl) ?_; (repeat (first | refine TL_move (hk := ?_) | refine TL_slice_hi TE (hk := ?_) | refine TL_slice_lo TE (hk := ?_))); refine TL_nil_p ?_); (refine TA_take 3 rfl (by kernel_rfl) (by kernel_rfl) (by kernel_rfl) ?_; (repeat (first | refine TL_move (hk := ?_) | refine TL_slice_hi TE (hk := ?_) | refine TL_slice_lo TE (hk := ?_))); refine TL_nil_p ?_); (refine TA_take 4 rfl (by kernel_rfl) (by kernel_rfl) (by kernel_rfl) ?_; (repeat (first | refine TL_move (hk := ?_) | refine TL_slice_hi TE (hk := ?_) | refine TL_slice_lo TE (hk := ?_))); refine TL_nil_p ?_); (refine TA_take 5 rfl (by kernel_rfl) (by kernel_rfl) (by kernel_rfl) ?_; (repeat (first | refine TL_move (hk := ?_) | refine TL_slice_hi TE (hk := ?_) | refine TL_slice_lo TE (hk := ?_))); refine TL_nil_p ?_)
  refine TA_one 6 rfl (by kernel_rfl) (by kernel_rfl) ?_
  refine TL_append_within TE h1 r1 (rowV_one pkV_one _) (i := i) (by omega) (hf := rfl) (hq := fun w' m => m) (hk := ?_); intro w2 o2 m2 z2
  rw [rowV_take pkV_len, ← rowV_append, rowV_drop pkV_len, ← rowV_append] at o2
  refine TL_nil_p ?_
  (refine TA_one 7 rfl (by kernel_rfl) (by kernel_rfl) ?_; (repeat (refine TL_assign (hk := ?_))); refine TL_nil_p ?_)
  refine TA_done (by kernel_rfl) ?_
  repeat (first | refine T_seq ?_ | refine T_region ?_ | refine TL_move (hk := ?_) | refine TL_len TE (hk := ?_) | refine TL_slice_lh TE (hk := ?_))
  refine TL_clear TE o2 (hk := ?_); intro w3 m3 z3 o3
  have hlen : ((i + (n - (i + 1)) : Nat) : Int).toNat = n - 1 := by omega
  have hlen2 : i + (n - (i + 1)) = n - 1 := by omega
  rw [hlen] at o3
  rw [rowV_take pkV_len, List.take_append_of_le_length (by simp; omega), List.take_of_length_le (by simp; omega)] at o3
  repeat (first | refine T_seq ?_ | refine T_region ?_ | refine TL_nil ?_ | refine TL_move (hk := ?_) | refine TL_assign (hk := ?_))
  exact T_ret1 rfl rfl ⟨by rw [hlen2], ((e1.mono (by simp)).trans m2).trans m3, o3⟩
section
variable {base p : Nat} {M : NM} {F : Nat → Nat → Nat → Nat} {h : Nat → Nat} {ns : NS} {k : Nat} {L : LL} {U : Nat → Nat → Nat}
theorem NDrop_c (i : Int) (w : World) (g : NetG LayP ns.N w base p M F h ns) (hI : NI k ns L U) :
    Ret Try.prog 49 [ptr p, .int .i64 i] w (fun v w' => v = .bool (dropX ns i).2 ∧ ∃ M' F' h', NetG LayP ns.N w' base p M' F' h' (dropX ns i).1 ∧ Tn h h' w w') := by
  have hk := g.kP
  have hb0 : ∀ b, h b ≠ 0 → b < w.heap.size := fun b hb => (g.old b hb).2
  have hbw := g.bw
  have hwl := hI.wl
  obtain ⟨hl1, hl2⟩ := g.l3
  unfold dropX
  refine ret_T (n := 20) Try.func49 rfl rfl ?_
  repeat (first | refine T_seq ?_ | refine T_region ?_ | refine TL_nil ?_ | refine TL_move (hk := ?_) | refine TL_assign (hk := ?_))
  refine TL_call TE (hc := there_c i _ g) (hk := ?_)
  rintro _ _ ⟨rfl, rfl⟩
  by_cases h1 : inN ns.way.length i = true
  · obtain ⟨x, rfl, hx⟩ := inN_nat h1
    have hc : (x : Int) + 1 = ((x + 1 : Nat) : Int) := by omega
    rw [h1, if_pos rfl]
    simp only [Int.toNat_natCast]
    repeat (first | refine T_seq ?_ | refine T_region ?_ | refine T_cond_false rfl ?_ | refine T_skip ?_ | refine TL_add (hk := ?_) | refine TL_nil ?_ | refine TL_move (hk := ?_) | refine TL_load TE (hk := ?_) | refine TL_fieldAddr TE (hk := ?_) | refine TL_nilCheck (hk := ?_) | refine TL_not (hk := ?_))
    rw [hc]
    refine TL_call TE (hc := PDelete_c M.s3.1 M.s3.2.1 M.s3.2.2 base x M.y _ g.o3 (by omega) (by omega) (by omega)) (hk := ?_)
    rintro _ w1 ⟨rfl, m1, o1⟩
    have hk1 := hk.mod m1 (fun q => g.p3 p q (by simp))
    repeat (first | refine TL_fieldAddr TE (hk := ?_) | refine TL_nilCheck (hk := ?_))
    refine TL_store TE (hb := hk1) (hk := ?_); intro w2 m2 z2 k2
    have hpn := g.p3
    have hM : Eng.Mod (p :: blkL M.s3.1) _ w2 := (m1.mono (S' := p :: blkL M.s3.1) (fun b hb => .inl (List.mem_cons_of_mem _ hb))).step m2 (fun b hb => .inl (by rw [List.mem_singleton.1 hb]; exact List.mem_cons_self))
    obtain ⟨h', g', t', -⟩ := g.pull (s3 := (M.s3.1, M.s3.2.1 - 1, M.s3.2.2)) x hM (fun b hb => by
      rcases List.mem_cons.1 hb with rfl | hb
      · exact .inl g.hp
      · exact .inr (g.h12 b hb)) k2 (o1.modL m2 hpn) (fun b hb => .inl hb) (Tn.refl _ _) hb0
    repeat (first | refine T_seq ?_ | refine T_region ?_ | refine TL_nil ?_ | refine TL_assign (hk := ?_))
    exact T_ret1 rfl rfl ⟨rfl, _, F, h', g', t'⟩
  · have h1 : inN ns.way.length i = false := by simpa using h1
    rw [h1, if_neg (by decide)]
    repeat (first | refine T_seq ?_ | refine T_region ?_ | refine T_cond_true rfl ?_ | refine TL_nil ?_ | refine TL_assign (hk := ?_) | refine TL_not (hk := ?_))
    exact T_ret1 rfl rfl ⟨rfl, M, F, h, g, Tn.refl _ _⟩
theorem NDouble_c (i : Int) (w : World) (g : NetG LayP ns.N w base p M F h ns) (hI : NI k ns L U) :
    Ret Try.prog 50 [ptr p, .int .i64 i] w (fun v w' => v = .bool (dblX ns i).2 ∧ ∃ M' F' h', NetG LayP ns.N w' base p M' F' h' (dblX ns i).1 ∧ Tn h h' w w') := by
  have hk := g.kP
  have hb0 : ∀ b, h b ≠ 0 → b < w.heap.size := fun b hb => (g.old b hb).2
  have hbw := g.bw
  have hwl := hI.wl
  obtain ⟨hl1, hl2⟩ := g.l3
  unfold dblX
  refine ret_T (n := 33) Try.func50 rfl rfl ?_
  repeat (first | refine T_seq ?_ | refine T_region ?_ | refine TL_nil ?_ | refine TL_move (hk := ?_) | refine TL_assign (hk := ?_))
  refine TL_call TE (hc := there_c i _ g) (hk := ?_)
  rintro _ _ ⟨rfl, rfl⟩
  by_cases h1 : inN ns.way.length i = true
  · obtain ⟨x, rfl, hx⟩ := inN_nat h1
    rw [h1]
    by_cases hfull : ns.way.length < 4096
    · rw [if_pos ⟨rfl, hfull⟩]
      simp only [Int.toNat_natCast]
      have hnf : ¬ (4096 : Int) ≤ ((M.s3.2.1 : Nat) : Int) := by omega
      have hxs : ((x : Nat) : Int) < ((M.s3.2.1 : Nat) : Int) := by omega
      have hpD : p ∉ blkL M.s3.1 := fun q => g.p3 p q (by simp)
      repeat (first | refine T_seq ?_ | refine T_cond_false rfl ?_ | refine T_skip ?_ | refine TL_ge_f (hk := ?_) | refine TL_nil ?_ | refine TL_move (hk := ?_) | refine TL_load TE (hk := ?_) | refine TL_fieldAddr TE (hk := ?_) | refine TL_len TE (hk := ?_) | refine TL_yes (hk := ?_) | refine TL_pick_f (hk := ?_) | refine TL_nilCheck (hk := ?_) | refine TL_not (hk := ?_))
      refine T_region_anyz TE.mixed (blkL M.s3.1) (some 16) ?_; intro w1 e1 z1
      have g1 := g.ext e1
      have hk1 := hk.be e1
      have r1 := g1.o3.rd
      have hel := rowV_elem pkV_len M.y x pk0 (by omega)
      (refine TA_take 0 rfl (by kernel_rfl) (by kernel_rfl) (by kernel_rfl) ?_; (repeat (first | refine TL_move (hk := ?_) | refine TLP_load TE (hk := ?_) | refine TL_fieldAddr TE (hk := ?_) | refine TL_indexAddrn TE (hk := ?_) | refine TL_nilCheck (hk := ?_))); refine TL_nil_p ?_); (refine TA_take 1 rfl (by kernel_rfl) (by kernel_rfl) (by kernel_rfl) ?_; (repeat (first | refine TL_move (hk := ?_) | refine TLP_load TE (hk := ?_) | refine TL_fieldAddr TE (hk := ?_) | refine TL_indexAddrn TE (hk := ?_) | refine TL_nilCheck (hk := ?_))); refine TL_nil_p ?_); (refine TA_take 2 rfl (by kernel_rfl) (by kernel_rfl) (by kernel_rfl) ?_; (repeat (first | refine TL_move (hk := ?_) | refine TLP_load TE (hk := ?_) | refine TL_fieldAddr TE (hk := ?_) | refine TL_indexAddrn TE (hk := ?_) | refine TL_nilCheck (hk := ?_))); refine TL_nil_p ?_); (refine TA_take 3 rfl (by kernel_rfl) (by kernel_rfl) (by kernel_rfl) ?_; (repeat (first | refine TL_move (hk := ?_) | refine TLP_load TE (hk := ?_) | refine TL_fieldAddr TE (hk := ?_) | refine TL_indexAddrn TE (hk := ?_) | refine TL_nilCheck (hk := ?_))); refine TL_nil_p ?_); (refine TA_take 4 rfl (by kernel_rfl) (by kernel_rfl) (by kernel_rfl) ?_; (repeat (first | refine TL_move (hk := ?_) | refine TLP_load TE (hk := ?_) | refine TL_fieldAddr TE (hk := ?_) | refine TL_indexAddrn TE (hk := ?_) | refine TL_nilCheck (hk := ?_))); refine TL_nil_p ?_); (refine TA_take 5 rfl (by kernel_rfl) (by kernel_rfl) (by kernel_rfl) ?_; (repeat (first | refine TL_move (hk := ?_) | refine TLP_load TE (hk := ?_) | refine TL_fieldAddr TE (hk := ?_) | refine TL_indexAddrn TE (hk := ?_) | refine TL_nilCheck (hk := ?_))); refine TL_nil_p ?_); (refine TA_take 6 rfl (by kernel_rfl) (by kernel_rfl) (by kernel_rfl) ?_; (repeat (first | refine TL_move (hk := ?_) | refine TLP_load TE (hk := ?_) | refine TL_fieldAddr TE (hk := ?_) | refine TL_indexAddrn TE (hk := ?_) | refine TL_nilCheck (hk := ?_))); refine TL_nil_p ?_); (refine TA_take 7 rfl (by kernel_rfl) (by kernel_rfl) (by kernel_rfl) ?_; (repeat (first | refine TL_move (hk := ?_) | refine TLP_load TE (hk := ?_) | refine TL_fieldAddr TE (hk := ?_) | refine TL_indexAddrn TE (hk := ?_) | refine TL_nilCheck (hk := ?_))); refine TL_nil_p ?_); (refine TA_take 8 rfl (by kernel_rfl) (by kernel_rfl) (by kernel_rfl) ?_; (repeat (first | refine TL_move (hk := ?_) | refine TLP_load TE (hk := ?_) | refine TL_fieldAddr TE (hk := ?_) | refine TL_indexAddrn TE (hk := ?_) | refine TL_nilCheck (hk := ?_))); refine TL_nil_p ?_); (refine TA_take 9 rfl (by kernel_rfl) (by kernel_rfl) (by kernel_rfl) ?_; (repeat (first | refine TL_move (hk := ?_) | refine TLP_load TE (hk := ?_) | refine TL_fieldAddr TE (hk := ?_) | refine TL_indexAddrn TE (hk := ?_) | refine TL_nilCheck (hk := ?_))); refine TL_nil_p ?_); (refine TA_take 10 rfl (by kernel_rfl) (by kernel_rfl) (by kernel_rfl) ?_; (repeat (first | refine TL_move (hk := ?_) | refine TLP_load TE (hk := ?_) | refine TL_fieldAddr TE (hk := ?_) | refine TL_indexAddrn TE (hk := ?_) | refine TL_nilCheck (hk := ?_))); refine TL_nil_p ?_)
      refine TA_one 11 rfl (by kernel_rfl) (by kernel_rfl) ?_
      refine TLN_loada TE (cs := pkV (M.y.getD x pk0)) (hr := r1) (hc := hel) (hq := (Mod.refl _ _)) (hk := ?_)
      refine TL_nil_p ?_
      refine TA_one 12 rfl (by kernel_rfl) (by kernel_rfl) ?_
      refine TL_buildSliceA TE (hf := rfl) (hq := fun w' h => (Ext.un h)) (hk := ?_); intro b8 w8 e8 h8 h8' k8
      replace k8 : Blk w8 b8 103 (rowV pkV [M.y.getD x pk0]) := k8
      have r8 : Rd w8 (some ⟨b8, 0, none⟩) 1 3 (rowV pkV [M.y.getD x pk0]) := Rd.blk k8 rfl
      have g8 := g1.ext e8
      have hk8 := hk1.be e8
      have z8 := g8.bw
      refine TL_nil_p ?_
      refine TA_one 13 rfl (by kernel_rfl) (by kernel_rfl) ?_
      refine TL_append TE (ho := g8.o3) (hr := r8) (h1 := rowV_one pkV_one _) (hf := rfl) (hq := fun w' m => (Ext.un e8).trans m) (hk := ?_); intro A9 c9 w9 o9 m9 n9
      rw [← rowV_append] at o9
      have hk9 := hk8.mod m9 hpD
      refine TL_nil_p ?_
      (refine TA_one 14 rfl (by kernel_rfl) (by kernel_rfl) ?_; (repeat (first | refine TL_fieldAddr TE (hk := ?_) | refine TL_nilCheck (hk := ?_))); refine TL_nil_p ?_); (refine TA_one 15 rfl (by kernel_rfl) (by kernel_rfl) ?_; (repeat (first | refine TL_fieldAddr TE (hk := ?_) | refine TL_nilCheck (hk := ?_))); refine TL_nil_p ?_)
      refine TA_one 16 rfl (by kernel_rfl) (by kernel_rfl) ?_
      refine TL_store TE (hb := hk9) (hf := rfl) (hq := fun _ _ _ => trivial) (hk := ?_); intro w10 m10 z10 k10
      refine TL_nil_z (by kernel_rfl) ?_
      have hmem : M.y.getD x pk0 ∈ M.y := getMem (by omega)
      have hw : ns.way[x]? = some (M.y.getD x pk0).1 := by
        rw [g.wy, List.getElem?_map, List.getD_eq_getElem?_getD, List.getElem?_eq_getElem (by omega)]
        rfl
      obtain ⟨h', g', t', -⟩ := g8.push (s3 := (A9, M.s3.2.1 + 1, c9)) (x := M.y.getD x pk0) (Mod.refl _ _) m9 o9 n9 m10 k10 (Tn.ext (e1.ext e8)) hb0 (.inl hmem)
      repeat (first | refine T_seq ?_ | refine T_region ?_ | refine TL_nil ?_ | refine TL_assign (hk := ?_))
      refine T_ret1 rfl rfl ⟨rfl, { M with s3 := (A9, M.s3.2.1 + 1, c9), y := M.y ++ [M.y.getD x pk0] }, F, h', ?_, t'⟩
      unfold dblN
      rw [hw]
      exact g'
    · have hnf : (4096 : Int) ≤ ((M.s3.2.1 : Nat) : Int) := by omega
      rw [if_neg (fun q => hfull q.2)]
      repeat (first | refine T_seq ?_ | refine T_region ?_ | refine T_cond_true rfl ?_ | refine TL_ge_t (hk := ?_) | refine TL_nil ?_ | refine TL_move (hk := ?_) | refine TL_assign (hk := ?_) | refine TL_load TE (hk := ?_) | refine TL_fieldAddr TE (hk := ?_) | refine TL_len TE (hk := ?_) | refine TL_yes (hk := ?_) | refine TL_pick_f (hk := ?_) | refine TL_nilCheck (hk := ?_) | refine TL_not (hk := ?_))
      exact T_ret1 rfl rfl ⟨rfl, M, F, h, g, Tn.refl _ _⟩
  · have h1 : inN ns.way.length i = false := by simpa using h1
    rw [h1, if_neg (fun q => by cases q.1)]
    repeat (first | refine T_seq ?_ | refine T_region ?_ | refine T_cond_true rfl ?_ | refine TL_nil ?_ | refine TL_move (hk := ?_) | refine TL_assign (hk := ?_) | refine TL_no (hk := ?_) | refine TL_pick_t (hk := ?_) | refine TL_not (hk := ?_))
    exact T_ret1 rfl rfl ⟨rfl, M, F, h, g, Tn.refl _ _⟩
end
end Go.Proofs.Ytjjgojgahibpgaa

namespace Go.Proofs.Ytjjgojgahibpgaa
open Go.RowKit Go.Proofs.Eng Go.Proofs.Codec Go.Proofs.Link
set_option linter.unusedSimpArgs false
set_option linter.unusedVariables false set_option maxRecDepth 10000
attribute [local irreducible] T TL LV TH TA
set_option maxHeartbeats 3200000
section
variable {base p : Nat} {M : NM} {F : Nat → Nat → Nat → Nat} {h : Nat → Nat} {ns : NS} {k : Nat} {L : LL} {U : Nat → Nat → Nat}
theorem NI.short (hI : NI k ns L U) {x : PK} (hx : x ∈ ns.way) : x.b.length ≤ 70000 := by
  obtain ⟨h1, h2, h3⟩ := hI.wk x hx
  have m := hI.mt x.fr x.to h1 h2 h3
  obtain ⟨lo, d⟩ := m.d
  obtain ⟨lu, e⟩ := m.e
  have a1 := d.nl
  have a2 := m.hL
  have a3 := e.ex
  have a4 := e.nl
  have a5 := m.hM
  exact (m.f x.b (fra_mem.2 ⟨x, hx, rfl, rfl, rfl⟩)).short d.len (by omega) (by omega)
/-- What an end's own memory is apart from. -/
theorem NetG.offE {Y : Lay} {R : Nat} {w w1 : World} (g : NetG Y R w base p M F h ns) {a c : Nat} (ha : a < R) (hc : c < ns.N) : p ∉ ownB w1 (F a c) ∧ Off M.s1.1 (ownB w1 (F a c)) ∧ (∀ x, x < R → Off (M.r1 x).1 (ownB w1 (F a c))) ∧ (∀ x ∈ M.y, Off x.2.1 (ownB w1 (F a c))) ∧ ∀ b, h b = 0 → b ∉ ownB w1 (F a c) := by
  have key : ∀ b ∈ ownB w1 (F a c), h b = 15 + (a * 8 + c) := fun b hb => g.he a c ha hc b (ownB_mem hb)
  have hrn := g.rn
  exact ⟨fun q => by have := key p q; rw [g.hp] at this; omega, off_of fun b hb q => by have := key b q; have := g.h11 b hb; omega, fun x hx => off_of fun b hb q => by have := key b q; have := g.h2 x hx b hb; omega, fun x hx => off_of fun b hb q => by have := key b q; have := g.h13 x hx b hb; omega, fun b hb q => by have := key b q; omega⟩
theorem NDeliver_c (i : Int) (w : World) (g : NetG LayP ns.N w base p M F h ns) (hI : NI k ns L U) :
    Ret Try.prog 48 [ptr p, .int .i64 i] w (fun v w' => v = .int .i64 ((delX ns i).2 : Int) ∧ ∃ M' F' h', NetG LayP ns.N w' base p M' F' h' (delX ns i).1 ∧ Tn h h' w w') := by
  have hk := g.kP
  have hb0 : ∀ b, h b ≠ 0 → b < w.heap.size := fun b hb => (g.old b hb).2
  have hbw := g.bw
  have hwl := hI.wl
  obtain ⟨hl1, hl2⟩ := g.l3
  unfold delX
  refine ret_T (n := 45) Try.func48 rfl rfl ?_
  repeat (first | refine T_seq ?_ | refine T_region ?_ | refine T_cond_false rfl ?_ | refine T_skip ?_ | refine TL_pnil_f TE (hk := ?_) | refine TL_nil ?_ | refine TL_move (hk := ?_) | refine TL_assign (hk := ?_))
  refine TL_call TE (hc := there_c i _ g) (hk := ?_)
  rintro _ w ⟨rfl, rfl⟩
  by_cases h1 : inN ns.way.length i = true
  · obtain ⟨x, rfl, hx⟩ := inN_nat h1
    have hc : (x : Int) + 1 = ((x + 1 : Nat) : Int) := by omega
    have hxs : ((x : Nat) : Int) < ((M.s3.2.1 : Nat) : Int) := by omega
    have hel := rowV_elem pkV_len M.y x pk0 (by omega)
    have hmem : M.y.getD x pk0 ∈ M.y := getMem (by omega)
    obtain ⟨z, hz⟩ : ∃ z, M.y.getD x pk0 = z := ⟨_, rfl⟩
    rw [hz] at hel hmem
    have hw : ns.way[x]? = some z.1 := by
      rw [g.wy, List.getElem?_map, ← hz, List.getD_eq_getElem?_getD, List.getElem?_eq_getElem (by omega)]
      rfl
    have hzw : z.1 ∈ ns.way := List.mem_of_getElem? hw
    obtain ⟨hz1, hz2, hz3⟩ := hI.wk z.1 hzw
    have hzs := hI.short hzw
    have hfr := g.fr z hmem
    have r3 := g.o3.rd
    rw [h1, if_pos rfl]
    simp only [Int.toNat_natCast]
    repeat (first | refine T_seq ?_ | refine T_region ?_ | refine T_cond_false rfl ?_ | refine T_skip ?_ | refine TL_nil ?_ | refine TL_move (hk := ?_) | refine TL_load TE (hk := ?_) | refine TL_fieldAddr TE (hk := ?_) | refine TL_indexAddrn TE (hk := ?_) | refine TL_nilCheck (hk := ?_) | refine TL_not (hk := ?_))
    refine TL_loada TE (cs := pkV z) (hx := rfl) (ht := rfl) (hi := rfl) (hr := r3) (hc := hel) (h0 := Nat.succ_pos _) (hk := ?_)
    --
    refine TL_alloc TE (hk := ?_); intro b5 w1 e1 h1 h1' k1
    --
    refine TL_storea TE (hk := ?_); intro w2 m2 z2 k2
    replace k2 : Blk w2 b5 103 (pkV z) := k2
    unfold pkV at k2
    have e02 : Ext w w2 := Mod.step e1 m2 (by simp; omega)
    have g2 := g.ext e02
    have hk2 := hk.be e02
    have hn2 := g2.bw
    clear k1 r3
    repeat (first | refine T_seq ?_ | refine T_region ?_ | refine TL_add (hk := ?_) | refine TL_nil ?_ | refine TL_move (hk := ?_) | refine TL_load TE (hk := ?_) | refine TL_fieldAddr TE (hk := ?_) | refine TL_nilCheck (hk := ?_))
    rw [hc]
    refine TL_call TE (hc := PDelete_c M.s3.1 M.s3.2.1 M.s3.2.2 base x M.y _ g2.o3 (by omega) (by omega) (by omega)) (hk := ?_)
    rintro _ w3 ⟨rfl, m3, o3⟩
    have hk3 := hk2.mod m3 (fun q => g2.p3 p q (by simp))
    have k3 := k2.mod m3 (fun q => by have := g.h12 b5 q; have := hb0 b5 (by omega); omega)
    repeat (first | refine TL_fieldAddr TE (hk := ?_) | refine TL_nilCheck (hk := ?_))
    refine TL_store TE (hb := hk3) (hk := ?_); intro w4 m4 z4 k4
    have hpn := g.p3
    have hM : Eng.Mod (p :: blkL M.s3.1) w2 w4 := (m3.mono (S' := p :: blkL M.s3.1) (fun b hb => .inl (List.mem_cons_of_mem _ hb))).step m4 (fun b hb => .inl (by rw [List.mem_singleton.1 hb]; exact List.mem_cons_self))
    have hS4 : ∀ b ∈ p :: blkL M.s3.1, h b = 1 ∨ h b = 12 := fun b hb => by
      rcases List.mem_cons.1 hb with rfl | hb
      · exact .inl g.hp
      · exact .inr (g.h12 b hb)
    have b5z : h b5 = 0 := by
      by_cases q : h b5 = 0
      · exact q
      · have := hb0 b5 q; omega
    have k4' := k3.mod m4 (fun q => by rw [List.mem_singleton.1 q, g.hp] at b5z; cases b5z)
    obtain ⟨h', g', t', hz'⟩ := g2.pull (w0 := w) (s3 := (M.s3.1, M.s3.2.1 - 1, M.s3.2.2)) x hM hS4 k4 (o3.modL m4 hpn) (fun b hb => .inl hb) (Tn.ext e02) hb0
    have hfr4 : Rd w4 z.2.1 z.2.2.1 1 (bv z.1.b) := (hfr.1.be e02).mod hM (off_of fun b hb q => by have := g.h13 z hmem b hb; rcases hS4 b q with h | h <;> omega)
    have hb5' : h' b5 = 0 := hz' b5 b5z (by have := m2.size; omega)
    have hlen := hfr.1.1
    have hcap := hfr.2
    rw [bv_length] at hlen
    have hfz : ∀ b ∈ blkL z.2.1, F z.1.to z.1.fr b = 0 := fun b hb => by
      by_cases q : F z.1.to z.1.fr b = 0
      · exact q
      · have := g.he z.1.to z.1.fr hz2 hz1 b q; have := g.h13 z hmem b hb; omega
    clear hk hk2 hk3 k2 k3 hfr m4 m3 m2 hM o3 g2
    have hk4 := g'.kP
    have r1 := g'.o1.rd
    have hl := g'.l1
    have hv1 := rowF_get (fun a => slV (M.r1 a)) hz2
    have r2 := g'.q1 z.1.to hz2
    have hv2 := rowF_get (M.ev z.1.to) hz1
    have hlx := (g'.lr hz2).1
    have q := g'.en z.1.to z.1.fr hz2 hz1
    obtain ⟨bs, q', m, hbs, hv, hE⟩ := QP.get q (Ne.symm hz3)
    simp only at hk4 r1 r2 hl hlx hv hE
    rw [hv] at hv2
    have ok := hI.ok hz2 hz1
    repeat (first | refine T_seq ?_ | refine TL_nil ?_)
    refine T_region_any TE.mixed (ownB w4 (F z.1.to z.1.fr)) ?_; intro w5 e5 z5
    obtain ⟨d1, d2, d3, -, d5⟩ := g'.offE (w1 := w4) hz2 hz1
    have d3 := d3 z.1.to hz2
    have d5 := d5 b5 hb5'
    simp only at d2 d3
    have g5 := g'.ext e5
    have r1 := r1.be e5
    have r2 := r2.be e5
    have hk5 := hk4.be e5
    have k5 := k4'.be e5
    have hE5 := hE.ext e5
    have hfr5 := hfr4.be e5
    (refine TA_take 0 rfl (by kernel_rfl) (by kernel_rfl) (by kernel_rfl) ?_; (repeat (first | refine TL_move (hk := ?_) | refine TLP_load TE (hk := ?_) | refine TLP_load_rd TE (hk := ?_) | refine TL_fieldAddr TE (hk := ?_) | refine TL_indexAddr1n TE (hk := ?_) | refine TL_nilCheck (hk := ?_))); refine TL_nil_p ?_); (refine TA_take 1 rfl (by kernel_rfl) (by kernel_rfl) (by kernel_rfl) ?_; (repeat (first | refine TL_move (hk := ?_) | refine TLP_load TE (hk := ?_) | refine TLP_load_rd TE (hk := ?_) | refine TL_fieldAddr TE (hk := ?_) | refine TL_indexAddr1n TE (hk := ?_) | refine TL_nilCheck (hk := ?_))); refine TL_nil_p ?_); (refine TA_take 2 rfl (by kernel_rfl) (by kernel_rfl) (by kernel_rfl) ?_; (repeat (first | refine TL_move (hk := ?_) | refine TLP_load TE (hk := ?_) | refine TLP_load_rd TE (hk := ?_) | refine TL_fieldAddr TE (hk := ?_) | refine TL_indexAddr1n TE (hk := ?_) | refine TL_nilCheck (hk := ?_))); refine TL_nil_p ?_); (refine TA_take 3 rfl (by kernel_rfl) (by kernel_rfl) (by kernel_rfl) ?_; (repeat (first | refine TL_move (hk := ?_) | refine TLP_load TE (hk := ?_) | refine TLP_load_rd TE (hk := ?_) | refine TL_fieldAddr TE (hk := ?_) | refine TL_indexAddr1n TE (hk := ?_) | refine TL_nilCheck (hk := ?_))); refine TL_nil_p ?_); (refine TA_take 4 rfl (by kernel_rfl) (by kernel_rfl) (by kernel_rfl) ?_; (repeat (first | refine TL_move (hk := ?_) | refine TLP_load TE (hk := ?_) | refine TLP_load_rd TE (hk := ?_) | refine TL_fieldAddr TE (hk := ?_) | refine TL_indexAddr1n TE (hk := ?_) | refine TL_nilCheck (hk := ?_))); refine TL_nil_p ?_); (refine TA_take 5 rfl (by kernel_rfl) (by kernel_rfl) (by kernel_rfl) ?_; (repeat (first | refine TL_move (hk := ?_) | refine TLP_load TE (hk := ?_) | refine TLP_load_rd TE (hk := ?_) | refine TL_fieldAddr TE (hk := ?_) | refine TL_indexAddr1n TE (hk := ?_) | refine TL_nilCheck (hk := ?_))); refine TL_nil_p ?_); (refine TA_take 6 rfl (by kernel_rfl) (by kernel_rfl) (by kernel_rfl) ?_; (repeat (first | refine TL_move (hk := ?_) | refine TLP_load TE (hk := ?_) | refine TLP_load_rd TE (hk := ?_) | refine TL_fieldAddr TE (hk := ?_) | refine TL_indexAddr1n TE (hk := ?_) | refine TL_nilCheck (hk := ?_))); refine TL_nil_p ?_); (refine TA_take 7 rfl (by kernel_rfl) (by kernel_rfl) (by kernel_rfl) ?_; (repeat (first | refine TL_move (hk := ?_) | refine TLP_load TE (hk := ?_) | refine TLP_load_rd TE (hk := ?_) | refine TL_fieldAddr TE (hk := ?_) | refine TL_indexAddr1n TE (hk := ?_) | refine TL_nilCheck (hk := ?_))); refine TL_nil_p ?_); (refine TA_take 8 rfl (by kernel_rfl) (by kernel_rfl) (by kernel_rfl) ?_; (repeat (first | refine TL_move (hk := ?_) | refine TLP_load TE (hk := ?_) | refine TLP_load_rd TE (hk := ?_) | refine TL_fieldAddr TE (hk := ?_) | refine TL_indexAddr1n TE (hk := ?_) | refine TL_nilCheck (hk := ?_))); refine TL_nil_p ?_); (refine TA_take 9 rfl (by kernel_rfl) (by kernel_rfl) (by kernel_rfl) ?_; (repeat (first | refine TL_move (hk := ?_) | refine TLP_load TE (hk := ?_) | refine TLP_load_rd TE (hk := ?_) | refine TL_fieldAddr TE (hk := ?_) | refine TL_indexAddr1n TE (hk := ?_) | refine TL_nilCheck (hk := ?_))); refine TL_nil_p ?_); (refine TA_take 10 rfl (by kernel_rfl) (by kernel_rfl) (by kernel_rfl) ?_; (repeat (first | refine TL_move (hk := ?_) | refine TLP_load TE (hk := ?_) | refine TLP_load_rd TE (hk := ?_) | refine TL_fieldAddr TE (hk := ?_) | refine TL_indexAddr1n TE (hk := ?_) | refine TL_nilCheck (hk := ?_))); refine TL_nil_p ?_); (refine TA_take 11 rfl (by kernel_rfl) (by kernel_rfl) (by kernel_rfl) ?_; (repeat (first | refine TL_move (hk := ?_) | refine TLP_load TE (hk := ?_) | refine TLP_load_rd TE (hk := ?_) | refine TL_fieldAddr TE (hk := ?_) | refine TL_indexAddr1n TE (hk := ?_) | refine TL_nilCheck (hk := ?_))); refine TL_nil_p ?_); (refine TA_take 12 rfl (by kernel_rfl) (by kernel_rfl) (by kernel_rfl) ?_; (repeat (first | refine TL_move (hk := ?_) | refine TLP_load TE (hk := ?_) | refine TLP_load_rd TE (hk := ?_) | refine TL_fieldAddr TE (hk := ?_) | refine TL_indexAddr1n TE (hk := ?_) | refine TL_nilCheck (hk := ?_))); refine TL_nil_p ?_); (refine TA_take 13 rfl (by kernel_rfl) (by kernel_rfl) (by kernel_rfl) ?_; (repeat (first | refine TL_move (hk := ?_) | refine TLP_load TE (hk := ?_) | refine TLP_load_rd TE (hk := ?_) | refine TL_fieldAddr TE (hk := ?_) | refine TL_indexAddr1n TE (hk := ?_) | refine TL_nilCheck (hk := ?_))); refine TL_nil_p ?_)
    refine TA_one 14 rfl (by kernel_rfl) (by kernel_rfl) ?_; (try refine TL_yes (hk := ?_)); refine TL_call TE (hc := (Receive_c z.2.1 z.2.2.1 z.2.2.2 z.1.b _ hE5 hE5.bw ok hfr5 (by omega) hcap)) (hq := (by rintro _ w7 ⟨rfl, m', f', h', t'⟩; exact Tn.inD (o' := f') t' (Mod.refl _ _) (ownB_in z5))) (hk := ?_)
    rintro _ w6 ⟨rfl, m6, f6, E6, t6⟩
    obtain ⟨h6, g6, t6', -, -⟩ := g5.end_ (f' := f6) (es' := (recvE (ns.E z.1.to z.1.fr) z.1.b).1) hz2 hz1 (by simp only; rw [hv]; exact QP.mk (Ne.symm hz3) hbs E6) t6
    refine TL_nil_p ?_
    (refine TA_one 15 rfl (by kernel_rfl) (by kernel_rfl) ?_; (repeat (refine TL_assign (hk := ?_))); refine TL_nil_p ?_)
    refine TA_done (by kernel_rfl) ?_
    --
    refine T_ret1 rfl rfl ⟨?_, { M with s3 := (M.s3.1, M.s3.2.1 - 1, M.s3.2.2), y := M.y.eraseIdx x }, upd2 F z.1.to z.1.fr f6, h6, ?_, (t'.trans (Tn.ext e5)).trans t6'⟩
    · unfold delN; rw [hw]
    · unfold delN; rw [hw]; exact g6
  · have h1 : inN ns.way.length i = false := by simpa using h1
    rw [h1, if_neg (by decide)]
    repeat (first | refine T_seq ?_ | refine T_region ?_ | refine T_cond_true rfl ?_ | refine TL_nil ?_ | refine TL_assign (hk := ?_) | refine TL_not (hk := ?_))
    exact T_ret1 rfl rfl ⟨rfl, M, F, h, g, Tn.refl _ _⟩
end
end Go.Proofs.Ytjjgojgahibpgaa

namespace Go.Proofs.Ytjjgojgahibpgaa
open Go.RowKit Go.Proofs.Eng Go.Proofs.Codec Go.Proofs.Link
set_option linter.unusedSimpArgs false
set_option linter.unusedVariables false set_option maxRecDepth 10000
attribute [local irreducible] T TL LV TH TA
set_option maxHeartbeats 3200000
theorem first_no {ns : NS} {a : Nat} : ∀ k, (∀ j, j < k → (ns.E a j).come = []) → firstN ns a k = none
  | 0, _ => rfl
  | k + 1, h => by
    unfold firstN
    rw [first_no k (fun j hj => h j (by omega))]
    simp only
    rw [if_pos (h k (by omega))]
theorem first_at {ns : NS} {a i : Nat} (h : ∀ j, j < i → (ns.E a j).come = []) (hi : (ns.E a i).come ≠ []) : ∀ k, i < k → firstN ns a k = some i
  | 0, hk => by omega
  | k + 1, hk => by
    unfold firstN
    by_cases e : i = k
    · subst e
      rw [first_no i h]
      simp only
      rw [if_neg hi]
    · rw [first_at h hi k (by omega)]
section
variable {base p : Nat} {M : NM} {F : Nat → Nat → Nat → Nat} {h : Nat → Nat} {ns : NS} {k : Nat} {L : LL} {U : Nat → Nat → Nat}
theorem rowF_upd {N j : Nat} {P : Nat → Bool} {v : Bool} {pv : Bool → Value} {P' : Nat → Bool} (h : ∀ c, P' c = if c = j then v else P c) : (rowF N fun c => pv (P c)).set j (pv v) = rowF N fun c => pv (P' c) := by
  rw [rowF_set]
  refine rowF_cong fun i _ => ?_
  rw [h i]
  unfold upd
  split <;> rfl
theorem set_c (a c : Int) (v : Bool) (t : Int) (ht : t = if v then 1 else 0) (w : World) (g : NetG LayP ns.N w base p M F h ns) :
    Ret Try.prog 77 [ptr p, .int .i64 a, .int .i64 c, .int .i64 t] w (fun u w' => u = .bool (partX ns a c v).2 ∧ NetG LayP ns.N w' base p M F h (partX ns a c v).1 ∧ Tn h h w w') := by
  have hk := g.kP
  have hl2 := g.l2
  unfold partX
  refine ret_T (n := 48) Try.func77 rfl rfl ?_
  repeat (first | refine T_seq ?_ | refine T_region ?_ | refine TL_nil ?_ | refine TL_move (hk := ?_) | refine TL_assign (hk := ?_))
  refine TL_call TE (hc := two_c a c _ g) (hk := ?_)
  rintro _ _ ⟨rfl, rfl⟩
  by_cases h1 : twoN ns a c = true
  · obtain ⟨x, y, rfl, rfl, hx, hy, hxy⟩ := twoN_nat h1
    have r1 := g.o2.rd
    have hv1 := rowF_get (fun a => slV (M.r2 a)) hx
    have hv1' := rowF_get (fun a => slV (M.r2 a)) hy
    have r2 := (g.q2 x hx).rd
    have hv2 := rowF_get (fun c => LayP.pv (ns.P x c)) hy
    have hlx := (g.lr hx).2
    have hly := (g.lr hy).2
    obtain ⟨pi, hpi⟩ : ∃ z : Int, z = (if ns.P x y then 1 else 0) := ⟨_, rfl⟩
    rw [show LayP.pv (ns.P x y) = (.int .i64 (if ns.P x y then 1 else 0) : Value) from rfl, ← hpi] at hv2
    rw [h1]
    simp only [Int.toNat_natCast]
    by_cases h2 : ns.P x y = v
    · have he : pi = t := by rw [hpi, ht, h2]
      rw [if_neg (fun q => q.2 h2)]
      repeat (first | refine T_seq ?_ | refine T_region ?_ | refine T_cond_true rfl ?_ | refine TL_eq_t (hk := ?_) | refine TL_nil ?_ | refine TL_move (hk := ?_) | refine TL_assign (hk := ?_) | refine TL_load TE (hk := ?_) | refine TL_load_rd TE (hk := ?_) | refine TL_fieldAddr TE (hk := ?_) | refine TL_indexAddr1n TE (hk := ?_) | refine TL_yes (hk := ?_) | refine TL_pick_f (hk := ?_) | refine TL_nilCheck (hk := ?_) | refine TL_not (hk := ?_))
      exact T_ret1 rfl rfl ⟨rfl, g, Tn.refl _ _⟩
    · have he : ¬ pi = t := by
        rw [hpi, ht]
        cases v <;> cases hq : ns.P x y <;> simp_all
      rw [if_pos ⟨trivial, h2⟩]
      have hrn := g.nn
      have hne : ∀ z, z < ns.N → ∀ u, u < ns.N → z ≠ u → ∀ b ∈ blkL (M.r2 z).1, b ∉ blkL (M.r2 u).1 := fun z hz u hu e b hb q => by have := g.h3 z hz b hb; have := g.h3 u hu b q; omega
      have hD : ∀ b ∈ blkL (M.r2 x).1 ++ blkL (M.r2 y).1, h b = 3 + x ∨ h b = 3 + y := fun b hb => by
        rcases List.mem_append.1 hb with q | q
        · exact .inl (g.h3 x hx b q)
        · exact .inr (g.h3 y hy b q)
      have hpD : p ∉ blkL (M.r2 x).1 ++ blkL (M.r2 y).1 := fun q => by have := g.hp; rcases hD p q with h | h <;> omega
      have hsD : Off M.s2.1 (blkL (M.r2 x).1 ++ blkL (M.r2 y).1) := off_of fun b hb q => by have := g.h14 b hb; rcases hD b q with h | h <;> omega
      repeat (first | refine T_seq ?_ | refine T_cond_false rfl ?_ | refine T_skip ?_ | refine TL_eq_f (hk := ?_) | refine TL_nil ?_ | refine TL_move (hk := ?_) | refine TL_load TE (hk := ?_) | refine TL_load_rd TE (hk := ?_) | refine TL_fieldAddr TE (hk := ?_) | refine TL_indexAddr1n TE (hk := ?_) | refine TL_yes (hk := ?_) | refine TL_pick_f (hk := ?_) | refine TL_nilCheck (hk := ?_) | refine TL_not (hk := ?_))
      refine T_region_any TE.mixed (blkL (M.r2 x).1 ++ blkL (M.r2 y).1) ?_; intro w1 e1 z1
      have g1 := g.ext e1
      have hk1 := hk.be e1
      have r11 := r1.be e1
      (refine TA_take 0 rfl (by kernel_rfl) (by kernel_rfl) (by kernel_rfl) ?_; (repeat (first | refine TL_move (hk := ?_) | refine TLP_load TE (hk := ?_) | refine TLP_load_rd TE (hk := ?_) | refine TL_fieldAddr TE (hk := ?_) | refine TL_indexAddr1n TE (hk := ?_) | refine TL_nilCheck (hk := ?_))); refine TL_nil_p ?_); (refine TA_take 1 rfl (by kernel_rfl) (by kernel_rfl) (by kernel_rfl) ?_; (repeat (first | refine TL_move (hk := ?_) | refine TLP_load TE (hk := ?_) | refine TLP_load_rd TE (hk := ?_) | refine TL_fieldAddr TE (hk := ?_) | refine TL_indexAddr1n TE (hk := ?_) | refine TL_nilCheck (hk := ?_))); refine TL_nil_p ?_); (refine TA_take 2 rfl (by kernel_rfl) (by kernel_rfl) (by kernel_rfl) ?_; (repeat (first | refine TL_move (hk := ?_) | refine TLP_load TE (hk := ?_) | refine TLP_load_rd TE (hk := ?_) | refine TL_fieldAddr TE (hk := ?_) | refine TL_indexAddr1n TE (hk := ?_) | refine TL_nilCheck (hk := ?_))); refine TL_nil_p ?_); (refine TA_take 3 rfl (by kernel_rfl) (by kernel_rfl) (by kernel_rfl) ?_; (repeat (first | refine TL_move (hk := ?_) | refine TLP_load TE (hk := ?_) | refine TLP_load_rd TE (hk := ?_) | refine TL_fieldAddr TE (hk := ?_) | refine TL_indexAddr1n TE (hk := ?_) | refine TL_nilCheck (hk := ?_))); refine TL_nil_p ?_); (refine TA_take 4 rfl (by kernel_rfl) (by kernel_rfl) (by kernel_rfl) ?_; (repeat (first | refine TL_move (hk := ?_) | refine TLP_load TE (hk := ?_) | refine TLP_load_rd TE (hk := ?_) | refine TL_fieldAddr TE (hk := ?_) | refine TL_indexAddr1n TE (hk := ?_) | refine TL_nilCheck (hk := ?_))); refine TL_nil_p ?_); (refine TA_take 5 rfl (by kernel_rfl) (by kernel_rfl) (by kernel_rfl) ?_; (repeat (first | refine TL_move (hk := ?_) | refine TLP_load TE (hk := ?_) | refine TLP_load_rd TE (hk := ?_) | refine TL_fieldAddr TE (hk := ?_) | refine TL_indexAddr1n TE (hk := ?_) | refine TL_nilCheck (hk := ?_))); refine TL_nil_p ?_); (refine TA_take 6 rfl (by kernel_rfl) (by kernel_rfl) (by kernel_rfl) ?_; (repeat (first | refine TL_move (hk := ?_) | refine TLP_load TE (hk := ?_) | refine TLP_load_rd TE (hk := ?_) | refine TL_fieldAddr TE (hk := ?_) | refine TL_indexAddr1n TE (hk := ?_) | refine TL_nilCheck (hk := ?_))); refine TL_nil_p ?_); (refine TA_take 7 rfl (by kernel_rfl) (by kernel_rfl) (by kernel_rfl) ?_; (repeat (first | refine TL_move (hk := ?_) | refine TLP_load TE (hk := ?_) | refine TLP_load_rd TE (hk := ?_) | refine TL_fieldAddr TE (hk := ?_) | refine TL_indexAddr1n TE (hk := ?_) | refine TL_nilCheck (hk := ?_))); refine TL_nil_p ?_); (refine TA_take 8 rfl (by kernel_rfl) (by kernel_rfl) (by kernel_rfl) ?_; (repeat (first | refine TL_move (hk := ?_) | refine TLP_load TE (hk := ?_) | refine TLP_load_rd TE (hk := ?_) | refine TL_fieldAddr TE (hk := ?_) | refine TL_indexAddr1n TE (hk := ?_) | refine TL_nilCheck (hk := ?_))); refine TL_nil_p ?_); (refine TA_take 9 rfl (by kernel_rfl) (by kernel_rfl) (by kernel_rfl) ?_; (repeat (first | refine TL_move (hk := ?_) | refine TLP_load TE (hk := ?_) | refine TLP_load_rd TE (hk := ?_) | refine TL_fieldAddr TE (hk := ?_) | refine TL_indexAddr1n TE (hk := ?_) | refine TL_nilCheck (hk := ?_))); refine TL_nil_p ?_); (refine TA_take 10 rfl (by kernel_rfl) (by kernel_rfl) (by kernel_rfl) ?_; (repeat (first | refine TL_move (hk := ?_) | refine TLP_load TE (hk := ?_) | refine TLP_load_rd TE (hk := ?_) | refine TL_fieldAddr TE (hk := ?_) | refine TL_indexAddr1n TE (hk := ?_) | refine TL_nilCheck (hk := ?_))); refine TL_nil_p ?_); (refine TA_take 11 rfl (by kernel_rfl) (by kernel_rfl) (by kernel_rfl) ?_; (repeat (first | refine TL_move (hk := ?_) | refine TLP_load TE (hk := ?_) | refine TLP_load_rd TE (hk := ?_) | refine TL_fieldAddr TE (hk := ?_) | refine TL_indexAddr1n TE (hk := ?_) | refine TL_nilCheck (hk := ?_))); refine TL_nil_p ?_); (refine TA_take 12 rfl (by kernel_rfl) (by kernel_rfl) (by kernel_rfl) ?_; (repeat (first | refine TL_move (hk := ?_) | refine TLP_load TE (hk := ?_) | refine TLP_load_rd TE (hk := ?_) | refine TL_fieldAddr TE (hk := ?_) | refine TL_indexAddr1n TE (hk := ?_) | refine TL_nilCheck (hk := ?_))); refine TL_nil_p ?_); (refine TA_take 13 rfl (by kernel_rfl) (by kernel_rfl) (by kernel_rfl) ?_; (repeat (first | refine TL_move (hk := ?_) | refine TLP_load TE (hk := ?_) | refine TLP_load_rd TE (hk := ?_) | refine TL_fieldAddr TE (hk := ?_) | refine TL_indexAddr1n TE (hk := ?_) | refine TL_nilCheck (hk := ?_))); refine TL_nil_p ?_); (refine TA_take 14 rfl (by kernel_rfl) (by kernel_rfl) (by kernel_rfl) ?_; (repeat (first | refine TL_move (hk := ?_) | refine TLP_load TE (hk := ?_) | refine TLP_load_rd TE (hk := ?_) | refine TL_fieldAddr TE (hk := ?_) | refine TL_indexAddr1n TE (hk := ?_) | refine TL_nilCheck (hk := ?_))); refine TL_nil_p ?_); (refine TA_take 15 rfl (by kernel_rfl) (by kernel_rfl) (by kernel_rfl) ?_; (repeat (first | refine TL_move (hk := ?_) | refine TLP_load TE (hk := ?_) | refine TLP_load_rd TE (hk := ?_) | refine TL_fieldAddr TE (hk := ?_) | refine TL_indexAddr1n TE (hk := ?_) | refine TL_nilCheck (hk := ?_))); refine TL_nil_p ?_); (refine TA_take 16 rfl (by kernel_rfl) (by kernel_rfl) (by kernel_rfl) ?_; (repeat (first | refine TL_move (hk := ?_) | refine TLP_load TE (hk := ?_) | refine TLP_load_rd TE (hk := ?_) | refine TL_fieldAddr TE (hk := ?_) | refine TL_indexAddr1n TE (hk := ?_) | refine TL_nilCheck (hk := ?_))); refine TL_nil_p ?_); (refine TA_take 17 rfl (by kernel_rfl) (by kernel_rfl) (by kernel_rfl) ?_; (repeat (first | refine TL_move (hk := ?_) | refine TLP_load TE (hk := ?_) | refine TLP_load_rd TE (hk := ?_) | refine TL_fieldAddr TE (hk := ?_) | refine TL_indexAddr1n TE (hk := ?_) | refine TL_nilCheck (hk := ?_))); refine TL_nil_p ?_); (refine TA_take 18 rfl (by kernel_rfl) (by kernel_rfl) (by kernel_rfl) ?_; (repeat (first | refine TL_move (hk := ?_) | refine TLP_load TE (hk := ?_) | refine TLP_load_rd TE (hk := ?_) | refine TL_fieldAddr TE (hk := ?_) | refine TL_indexAddr1n TE (hk := ?_) | refine TL_nilCheck (hk := ?_))); refine TL_nil_p ?_)
      refine TA_one 19 rfl (by kernel_rfl) (by kernel_rfl) ?_
      refine TL_store_own TE (ho := g1.q2 x hx) (hj := by rw [rowF_len]; exact hy) (hf := rfl) (hq := fun w' m z => m.mono (fun b hb => .inl (List.mem_append_left _ hb))) (hk := ?_); intro w2 m2 z2 o2
      rw [ht, show (Value.int .i64 (if v then 1 else 0)) = LayP.pv v from rfl, rowF_upd (P' := fun c => upd2 ns.P x y v x c) (fun c => by
        by_cases e : c = y
        · subst e; rw [upd2_at, if_pos rfl]
        · rw [upd2_ne _ _ (fun q => e q.2), if_neg e])] at o2
      obtain ⟨g2, t2⟩ := g1.cell hx (P' := upd2 ns.P x y v) (fun x' c e => upd2_ne _ _ (fun q => e q.1)) m2 o2
      have o2y := g2.q2 y hy
      simp only at o2y
      refine TL_nil_p ?_
      (refine TA_one 20 rfl (by kernel_rfl) (by kernel_rfl) ?_; (repeat (refine TL_indexAddr1n TE (hk := ?_))); refine TL_nil_p ?_)
      refine TA_one 21 rfl (by kernel_rfl) (by kernel_rfl) ?_
      refine TL_store_own TE (ho := o2y) (hj := by rw [rowF_len]; exact hx) (hf := rfl) (hq := fun w' m z => (m2.mono (fun b hb => .inl (List.mem_append_left _ hb))).trans (m.mono (fun b hb => .inl (List.mem_append_right _ hb)))) (hk := ?_); intro w3 m3 z3 o3
      rw [ht, show (Value.int .i64 (if v then 1 else 0)) = LayP.pv v from rfl, rowF_upd (P' := fun c => upd2 (upd2 ns.P x y v) y x v y c) (fun c => by
        by_cases e : c = x
        · subst e; rw [upd2_at, if_pos rfl]
        · rw [upd2_ne _ _ (fun q => e q.2), if_neg e])] at o3
      obtain ⟨g3, t3⟩ := g2.cell hy (P' := upd2 (upd2 ns.P x y v) y x v) (fun x' c e => upd2_ne _ _ (fun q => e q.1)) m3 o3
      refine TL_nil_p ?_
      refine TA_done (by kernel_rfl) ?_
      repeat (first | refine T_seq ?_ | refine T_region ?_ | refine TL_nil ?_ | refine TL_assign (hk := ?_))
      exact T_ret1 rfl rfl ⟨rfl, g3, ((Tn.ext e1).trans t2).trans t3⟩
  · have h1 : twoN ns a c = false := by simpa using h1
    rw [h1, if_neg (fun q => by cases q.1)]
    repeat (first | refine T_seq ?_ | refine T_region ?_ | refine T_cond_true rfl ?_ | refine TL_nil ?_ | refine TL_move (hk := ?_) | refine TL_assign (hk := ?_) | refine TL_no (hk := ?_) | refine TL_pick_t (hk := ?_) | refine TL_not (hk := ?_))
    exact T_ret1 rfl rfl ⟨rfl, g, Tn.refl _ _⟩
theorem NPart_c (a c : Int) (w : World) (g : NetG LayP ns.N w base p M F h ns) :
    Ret Try.prog 51 [ptr p, .int .i64 a, .int .i64 c] w (fun u w' => u = .bool (partX ns a c true).2 ∧ NetG LayP ns.N w' base p M F h (partX ns a c true).1 ∧ Tn h h w w') := by
  refine ret_T (n := 11) Try.func51 rfl rfl ?_
  repeat (first | refine T_seq ?_ | refine T_region ?_ | refine TL_nil ?_ | refine TL_move (hk := ?_) | refine TL_assign (hk := ?_))
  refine TL_call TE (hc := set_c a c true 1 rfl _ g) (hk := ?_)
  rintro _ w1 ⟨rfl, g1, t1⟩
  repeat (first | refine TL_nil ?_ | refine TL_assign (hk := ?_))
  exact T_ret1 rfl rfl ⟨rfl, g1, t1⟩
theorem NJoin_c (a c : Int) (w : World) (g : NetG LayP ns.N w base p M F h ns) :
    Ret Try.prog 52 [ptr p, .int .i64 a, .int .i64 c] w (fun u w' => u = .bool (partX ns a c false).2 ∧ NetG LayP ns.N w' base p M F h (partX ns a c false).1 ∧ Tn h h w w') := by
  refine ret_T (n := 11) Try.func52 rfl rfl ?_
  repeat (first | refine T_seq ?_ | refine T_region ?_ | refine TL_nil ?_ | refine TL_move (hk := ?_) | refine TL_assign (hk := ?_))
  refine TL_call TE (hc := set_c a c false 0 rfl _ g) (hk := ?_)
  rintro _ w1 ⟨rfl, g1, t1⟩
  repeat (first | refine TL_nil ?_ | refine TL_assign (hk := ?_))
  exact T_ret1 rfl rfl ⟨rfl, g1, t1⟩
/-- As far as it has ticked. -/
def tickP (ns : NS) (i j : Nat) : NS := { ns with E := fun x y => if x < i ∨ (x = i ∧ y < j) then tickE (ns.E x y) else ns.E x y }
theorem NTick_c (w : World) (g : NetG LayP ns.N w base p M F h ns) (hI : NI k ns L U) :
    Ret Try.prog 44 [ptr p] w (fun u w' => ∃ F' h', NetG LayP ns.N w' base p M F' h' (tickN ns) ∧ Tn h h' w w') := by
  have hk := g.kP
  have hl := g.l1
  have hcn := g.nn
  refine ret_T (n := 27) Try.func44 rfl rfl ?_
  repeat (first | refine T_seq ?_ | refine T_region ?_ | refine T_cond_false rfl ?_ | refine T_block ?_ | refine T_skip ?_ | refine TL_pnil_f TE (hk := ?_) | refine TL_nil ?_ | refine TL_move (hk := ?_) | refine TL_load TE (hk := ?_) | refine TL_fieldAddr TE (hk := ?_) | refine TL_len TE (hk := ?_) | refine TL_nilCheck (hk := ?_))
  refine T_loop (ι := Nat) (fun i => [(13, .int .i64 (i : Int)), (12, .int .i64 ((M.s1.2.1 : Nat) : Int)), (11, slV M.s1)]) (fun i w' => i ≤ ns.N ∧ ∃ F' h', NetG LayP ns.N w' base p M F' h' (tickP ns i 0) ∧ Tn h h' w w') (fun i => ns.N - i) 0 (.c rfl (.c rfl (.c rfl (.n)))) ⟨Nat.zero_le _, F, h, g.cong (fun a c ha hc => if_neg (fun q => by omega)), Tn.refl _ _⟩ ?_
  rintro i w1 ⟨hi, F1, h1, g1, t1⟩ ih
  by_cases hlt : i < ns.N
  · have hv1 := rowF_get (fun a => slV (M.r1 a)) hlt
    have r1 := g1.o1.rd
    have hlx := (g1.lr hlt).1
    have hA : M.s1.1 ≠ none := by obtain ⟨_, _, hq, _⟩ := r1.2 (by omega); rw [hq]; simp
    replace hlx : (M.r1 i).2.1 = ns.N := hlx
    repeat (first | refine T_seq ?_ | refine T_region ?_ | refine T_cond_true rfl ?_ | refine T_block ?_ | refine T_skip ?_ | refine TL_lt_t (hk := ?_) | refine TL_nil ?_ | refine TL_move (hk := ?_) | refine TL_assign (hk := ?_) | refine TL_load_rd TE (hk := ?_) | refine TL_indexAddr1n TE (hk := ?_) | refine TL_len TE (hk := ?_))
    refine T_loop (ι := Nat) (fun j => [(19, .int .i64 (j : Int)), (18, .int .i64 (((M.r1 i).2.1 : Nat) : Int)), (17, slV (M.r1 i)), (13, .int .i64 (i : Int)), (12, .int .i64 ((M.s1.2.1 : Nat) : Int)), (11, slV M.s1)])
      (fun j w' => j ≤ ns.N ∧ ∃ F' h', NetG LayP ns.N w' base p M F' h' (tickP ns i j) ∧ Tn h h' w w') (fun j => ns.N - j) 0 (.c rfl (.c rfl (.c rfl (.c rfl (.c rfl (.c rfl (.n))))))) ⟨Nat.zero_le _, F1, h1, g1, t1⟩ ?_
    clear r1 g1 t1 h1 F1
    rintro j w2 ⟨hj, F1, h1, g1, t1⟩ ih2
    by_cases hjt : j < ns.N
    · have r2 := g1.q1 i hlt
      replace r2 : Rd w2 (M.r1 i).1 (M.r1 i).2.1 1 (rowF ns.N (M.ev i)) := r2
      have hv2 := rowF_get (M.ev i) hjt
      have hA2 : (M.r1 i).1 ≠ none := by obtain ⟨_, _, hq, _⟩ := r2.2 (by omega); rw [hq]; simp
      have q := g1.en i j hlt hjt
      have hEij : (tickP ns i j).E i j = ns.E i j := if_neg (fun q => by omega)
      rw [hEij] at q
      have hnext : ∀ x y, x < ns.N → y < ns.N → (tickP ns i (j + 1)).E x y = upd2 (tickP ns i j).E i j (tickE (ns.E i j)) x y := fun x y hx hy => by
        by_cases e : x = i ∧ y = j
        · obtain ⟨rfl, rfl⟩ := e
          rw [upd2_at]
          exact if_pos (.inr ⟨rfl, Nat.lt_succ_self _⟩)
        · rw [upd2_ne _ _ e]
          show (if _ then _ else _) = (if _ then _ else _)
          by_cases e2 : x < i ∨ (x = i ∧ y < j)
          · rw [if_pos e2, if_pos (e2.imp id (fun q => ⟨q.1, by omega⟩))]
          · rw [if_neg e2, if_neg (fun q => q.elim (fun z => e2 (.inl z)) (fun z => by
              by_cases y' : y = j
              · exact e ⟨z.1, y'⟩
              · exact e2 (.inr ⟨z.1, by omega⟩)))]
      by_cases hij : i = j
      · subst hij
        obtain ⟨hv, -⟩ := QP.nil q
        rw [hv] at hv2
        repeat (first | refine T_seq ?_ | refine T_region ?_ | refine T_cond_true rfl ?_ | refine T_block ?_ | refine T_skip ?_ | refine TL_lt_t (hk := ?_) | refine TL_nil ?_ | refine TL_move (hk := ?_) | refine TL_assign (hk := ?_) | refine TL_load_rd TE (hk := ?_) | refine TL_indexAddr1n TE (hk := ?_))
        refine TL_call TE (hc := ETick_n _) (hk := ?_)
        rintro _ _ rfl
        repeat (first | refine T_region ?_ | refine T_inBlock ?_ | refine TL_add (hk := ?_) | refine TL_nil ?_ | refine TL_move (hk := ?_))
        refine ih2 (i + 1) _ _ (by omega) ⟨by omega, F1, h1, g1.cong (E' := (tickP ns i (i + 1)).E) (fun x y hx hy => ?_), t1⟩ (.c rfl (.c rfl (.c rfl (.c rfl (.c rfl (.c rfl (.n)))))))
        rw [hnext x y hx hy, hI.dg i hlt, nE_tick, ← hI.dg i hlt, ← hEij, upd2_same]
      · obtain ⟨bs, q', m, hbs, hv, hE⟩ := QP.get q hij
        rw [hv] at hv2
        have ok := hI.win hlt hjt
        have hfw := ok.fw
        have hw2 := hI.wi
        repeat (first | refine T_seq ?_ | refine T_region ?_ | refine T_cond_true rfl ?_ | refine T_block ?_ | refine T_skip ?_ | refine TL_lt_t (hk := ?_) | refine TL_nil ?_ | refine TL_move (hk := ?_) | refine TL_assign (hk := ?_) | refine TL_load_rd TE (hk := ?_) | refine TL_indexAddr1n TE (hk := ?_))
        refine TL_call TE (hc := Tick_c _ hE (by omega) (fun q hq => by have := (ok.fb q hq).2.2; have := hI.pa; omega)) (hk := ?_)
        rintro _ w3 ⟨m3, E3, t3⟩
        obtain ⟨h3, g3, t3', -, -⟩ := g1.end_ (f' := F1 i j) (es' := tickE (ns.E i j)) hlt hjt (by rw [hv]; exact QP.mk hij hbs E3) t3
        repeat (first | refine T_region ?_ | refine T_inBlock ?_ | refine TL_add (hk := ?_) | refine TL_nil ?_ | refine TL_move (hk := ?_))
        exact ih2 (j + 1) _ _ (by omega) ⟨by omega, _, h3, g3.cong (E' := (tickP ns i (j + 1)).E) hnext, t1.trans t3'⟩ (.c rfl (.c rfl (.c rfl (.c rfl (.c rfl (.c rfl (.n)))))))
    · have hje : ns.N = j := by omega
      clear ih2
      repeat (first | refine T_seq ?_ | refine T_region ?_ | refine T_cond_false rfl ?_ | refine T_inBlock ?_ | refine T_exit rfl ?_ | refine TL_add (hk := ?_) | refine TL_lt_f (hk := ?_) | refine TL_nil ?_ | refine TL_move (hk := ?_))
      refine ih (i + 1) _ _ (by omega) ⟨by omega, F1, h1, g1.cong (E' := (tickP ns (i + 1) 0).E) (fun x y hx hy => ?_), t1⟩ (.c rfl (.c rfl (.c rfl (.n))))
      show (if _ then _ else _) = (if _ then _ else _)
      replace hy : y < ns.N := hy
      by_cases e : x < i + 1
      · rw [if_pos (.inl e), if_pos (by omega)]
      · rw [if_neg (fun q => by omega), if_neg (fun q => by omega)]
  · clear ih
    repeat (first | refine T_seq ?_ | refine T_region ?_ | refine T_cond_false rfl ?_ | refine T_exit rfl ?_ | refine TL_lt_f (hk := ?_) | refine TL_nil ?_)
    refine T_end0 rfl ⟨F1, h1, g1.cong (E' := (tickN ns).E) (fun x y hx hy => ?_), t1⟩
    exact (if_pos (.inl (by omega))).symm
theorem NNext_c (a : Int) (w : World) (g : NetG LayP ns.N w base p M F h ns) (hI : NI k ns L U) :
    Ret Try.prog 45 [ptr p, .int .i64 a] w (fun v w' => match nextX ns a with
      | (_, none) => v = .tuple #[.int .i64 0, .slice none 0 0, .bool false] ∧ w' = w
      | (ns', some (c, b)) => ∃ x F' h', v = .tuple #[.int .i64 (c : Int), slV x, .bool true] ∧ NetG LayP ns.N w' base p M F' h' ns' ∧ Tn h h' w w' ∧ Body w' base x b ∧ ∀ u ∈ blkL x.1, h' u = 0 ∧ h u ≠ 0) := by
  have hk := g.kP
  have hl := g.l1
  have hcn := g.nn
  unfold nextX
  refine ret_T (n := 48) Try.func45 rfl rfl ?_
  by_cases h1 : inN ns.N a = true
  · obtain ⟨x, rfl, hx⟩ := inN_nat h1
    rw [if_pos h1]
    simp only [Int.toNat_natCast]
    clear h1
    have h0 : (0 : Int) ≤ (x : Int) := by omega
    have hx' : (x : Int) < ((M.s1.2.1 : Nat) : Int) := by omega
    have r1 := g.o1.rd
    have hv1 := rowF_get (fun a => slV (M.r1 a)) hx
    have hlx := (g.lr hx).1
    have r2 := g.q1 x hx
    repeat (first | refine T_seq ?_ | refine T_region ?_ | refine T_cond_false rfl ?_ | refine T_block ?_ | refine T_skip ?_ | refine TL_lt_f (hk := ?_) | refine TL_ge_f (hk := ?_) | refine TL_pnil_f TE (hk := ?_) | refine TL_nil ?_ | refine TL_move (hk := ?_) | refine TL_assign (hk := ?_) | refine TL_load TE (hk := ?_) | refine TL_load_rd TE (hk := ?_) | refine TL_fieldAddr TE (hk := ?_) | refine TL_indexAddr1n TE (hk := ?_) | refine TL_len TE (hk := ?_) | refine TL_yes (hk := ?_) | refine TL_pick_f (hk := ?_) | refine TL_nilCheck (hk := ?_))
    clear hx' h0
    refine T_loop (ι := Nat) (fun i => [(34, .int .i64 (i : Int)), (33, .int .i64 (((M.r1 x).2.1 : Nat) : Int)), (32, slV (M.r1 x)), (4, .int .i64 0), (5, .slice none 0 0), (6, .bool false)])
      (fun i w' => i ≤ ns.N ∧ (∀ j, j < i → (ns.E x j).come = []) ∧ w' = w) (fun i => ns.N - i) 0 (.c rfl (.c rfl (.c rfl (.c rfl (.c rfl (.c rfl (.n))))))) ⟨Nat.zero_le _, fun j hj => by omega, rfl⟩ ?_
    rintro i w1 ⟨hi, hno, rfl⟩ ih
    by_cases hlt : i < ns.N
    · have hv2 := rowF_get (M.ev x) hlt
      have hA2 : (M.r1 x).1 ≠ none := by obtain ⟨_, _, hq, _⟩ := r2.2 (by omega); rw [hq]; simp
      have q := g.en x i hx hlt
      have hno2 : (ns.E x i).come = [] → ∀ j, j < i + 1 → (ns.E x j).come = [] := fun e j hj => by
        by_cases z : j = i
        · rw [z]; exact e
        · exact hno j (by omega)
      by_cases hij : x = i
      · subst hij
        obtain ⟨hv, -⟩ := QP.nil q
        rw [hv] at hv2
        have hce : (ns.E x x).come = [] := by rw [hI.dg x hx]; rfl
        repeat (first | refine T_seq ?_ | refine T_region ?_ | refine T_cond_true rfl ?_ | refine T_block ?_ | refine T_skip ?_ | refine TL_lt_t (hk := ?_) | refine TL_nil ?_ | refine TL_move (hk := ?_) | refine TL_assign (hk := ?_) | refine TL_load_rd TE (hk := ?_) | refine TL_indexAddr1n TE (hk := ?_))
        refine TL_call TE (hc := ENext_n _) (hk := ?_)
        rintro _ w1 ⟨rfl, rfl⟩
        repeat (first | refine T_seq ?_ | refine T_region ?_ | refine T_cond_false rfl ?_ | refine T_inBlock ?_ | refine T_skip ?_ | refine TL_add (hk := ?_) | refine TL_nil ?_ | refine TL_move (hk := ?_) | refine TL_assign (hk := ?_) | refine TL_extract (hk := ?_))
        exact ih (x + 1) _ _ (by omega) ⟨by omega, hno2 hce, rfl⟩ (.c rfl (.c rfl (.c rfl (.c rfl (.c rfl (.c rfl (.n)))))))
      · obtain ⟨bs, q', m, hbs, hv, hE⟩ := QP.get q hij
        rw [hv] at hv2
        have hn := Next_c _ hE
        unfold nextE at hn
        cases hc : (ns.E x i).come with
        | nil =>
          rw [hc] at hn
          simp only at hn
          repeat (first | refine T_seq ?_ | refine T_region ?_ | refine T_cond_true rfl ?_ | refine T_block ?_ | refine T_skip ?_ | refine TL_lt_t (hk := ?_) | refine TL_nil ?_ | refine TL_move (hk := ?_) | refine TL_assign (hk := ?_) | refine TL_load_rd TE (hk := ?_) | refine TL_indexAddr1n TE (hk := ?_))
          refine TL_call TE (hc := hn) (hk := ?_)
          rintro _ w1 ⟨rfl, rfl⟩
          repeat (first | refine T_seq ?_ | refine T_region ?_ | refine T_cond_false rfl ?_ | refine T_inBlock ?_ | refine T_skip ?_ | refine TL_add (hk := ?_) | refine TL_nil ?_ | refine TL_move (hk := ?_) | refine TL_assign (hk := ?_) | refine TL_extract (hk := ?_))
          exact ih (i + 1) _ _ (by omega) ⟨by omega, hno2 hc, rfl⟩ (.c rfl (.c rfl (.c rfl (.c rfl (.c rfl (.c rfl (.n)))))))
        | cons b t =>
          rw [hc] at hn
          simp only at hn
          have hf := first_at hno (by rw [hc]; simp) ns.N hlt
          rw [hf]
          simp only
          clear ih
          repeat (first | refine T_seq ?_ | refine T_region ?_ | refine T_cond_true rfl ?_ | refine T_block ?_ | refine T_skip ?_ | refine TL_lt_t (hk := ?_) | refine TL_nil ?_ | refine TL_move (hk := ?_) | refine TL_assign (hk := ?_) | refine TL_load_rd TE (hk := ?_) | refine TL_indexAddr1n TE (hk := ?_))
          refine TL_call TE (hc := hn) (hk := ?_)
          rintro _ w2 ⟨y, m2, f2, rfl, E2, t2, hy, fy, fy6⟩
          obtain ⟨h2, g2, t2', hz2, hz3⟩ := g.end_ (f' := f2) (es' := { ns.E x i with come := t }) hx hlt (by rw [hv]; exact QP.mk hij hbs E2) t2
          repeat (first | refine T_seq ?_ | refine T_region ?_ | refine T_cond_true rfl ?_ | refine TL_nil ?_ | refine TL_move (hk := ?_) | refine TL_assign (hk := ?_) | refine TL_extract (hk := ?_))
          refine T_ret3 rfl rfl rfl rfl ⟨y, upd2 F x i f2, h2, rfl, ?_, t2', ?_, fun u hu => ⟨hz3 u (by rw [fy6 u hu]; decide) (fy u hu), ?_⟩⟩
          · have : nextN ns x i = { ns with E := upd2 ns.E x i { ns.E x i with come := t } } := by
              unfold nextN nextE
              rw [hc]
            rw [this]
            exact g2
          · rw [hc]; exact Own.weaken hy hbs
          · rw [g.he x i hx hlt u (by rw [fy6 u hu]; decide)]; omega
    · have hie : ns.N = i := by omega
      rw [first_no ns.N (by rw [hie]; exact hno)]
      simp only
      clear ih
      repeat (first | refine T_seq ?_ | refine T_region ?_ | refine T_cond_false rfl ?_ | refine T_exit rfl ?_ | refine TL_lt_f (hk := ?_) | refine TL_nil ?_ | refine TL_assign (hk := ?_))
      exact T_ret3 rfl rfl rfl rfl ⟨rfl, rfl⟩
  · rw [if_neg h1]
    have h1' : ¬ (0 ≤ a ∧ a < ns.N) := by unfold inN at h1; simpa using h1
    by_cases h2 : 0 ≤ a
    · have h3 : ((M.s1.2.1 : Nat) : Int) ≤ a := by omega
      repeat (first | refine T_seq ?_ | refine T_region ?_ | refine T_cond_true rfl ?_ | refine TL_lt_f (hk := ?_) | refine TL_ge_t (hk := ?_) | refine TL_pnil_f TE (hk := ?_) | refine TL_nil ?_ | refine TL_move (hk := ?_) | refine TL_assign (hk := ?_) | refine TL_load TE (hk := ?_) | refine TL_fieldAddr TE (hk := ?_) | refine TL_len TE (hk := ?_) | refine TL_yes (hk := ?_) | refine TL_pick_f (hk := ?_) | refine TL_nilCheck (hk := ?_))
      exact T_ret3 rfl rfl rfl rfl ⟨rfl, rfl⟩
    · repeat (first | refine T_seq ?_ | refine T_region ?_ | refine T_cond_true rfl ?_ | refine TL_lt_t (hk := ?_) | refine TL_pnil_f TE (hk := ?_) | refine TL_nil ?_ | refine TL_move (hk := ?_) | refine TL_assign (hk := ?_) | refine TL_yes (hk := ?_) | refine TL_no (hk := ?_) | refine TL_pick_t (hk := ?_) | refine TL_pick_f (hk := ?_))
      exact T_ret3 rfl rfl rfl rfl ⟨rfl, rfl⟩
end
end Go.Proofs.Ytjjgojgahibpgaa

namespace Go.Proofs.Ytjjgojgahibpgaa
open Go.RowKit Go.Proofs.Eng Go.Proofs.Codec Go.Proofs.Link
set_option linter.unusedSimpArgs false
set_option linter.unusedVariables false set_option maxRecDepth 10000
attribute [local irreducible] T TL LV TH TA
set_option maxHeartbeats 3200000
section
variable {base p : Nat} {M : NM} {F : Nat → Nat → Nat → Nat} {h : Nat → Nat} {ns : NS} {k : Nat} {L : LL} {U : Nat → Nat → Nat}
/-- A net has turned into this one. -/
def DnP (Y : Lay) (N : Nat) (h : Nat → Nat) (w w' : World) (base p : Nat) (ns : NS) : Prop := ns.N = N ∧ ∃ M' F' h', NetG Y ns.N w' base p M' F' h' ns ∧ Tn h h' w w'
theorem DnP.of {Y : Lay} {N : Nat} {w w' w2 : World} {h h' : Nat → Nat} {M' : NM} {F' : Nat → Nat → Nat → Nat} {ns' : NS} (t : Tn h h' w w') {h2 : Nat → Nat} (g : NetG Y N w2 base p M' F' h2 ns') (hN : ns'.N = N) (t2 : Tn h' h2 w' w2) : DnP Y N h w w2 base p ns' :=
  ⟨hN, M', F', h2, by rw [hN]; exact g, t.trans t2⟩
theorem delR_succ (ns : NS) {x : PK} {t : List PK} (h : ns.way = x :: t) : delR ns.way.length ns = delR (delN ns 0).1.way.length (delN ns 0).1 := by
  have e : (delN ns 0).1.way = t := by unfold delN; rw [h]; rfl
  rw [e, h]
  rfl
theorem NDrain_c (r : Int) (w : World) (hr : r ≤ 1000000) (g : NetG LayP ns.N w base p M F h ns) (hI : NI k ns L U) :
    Ret Try.prog 55 [ptr p, .int .i64 r] w (fun v w' => v = .int .i64 ((drainX ns r).2 : Int) ∧ ∃ M' F' h', NetG LayP ns.N w' base p M' F' h' (drainX ns r).1 ∧ Tn h h' w w') := by
  unfold drainX
  obtain ⟨R, hR⟩ : ∃ R, r.toNat = R := ⟨_, rfl⟩
  rw [hR]
  refine ret_T (n := 47) Try.func55 rfl rfl ?_
  repeat (first | refine T_seq ?_ | refine T_region ?_ | refine T_block ?_ | refine TL_nil ?_ | refine TL_assign (hk := ?_))
  refine T_loop (ι := Nat) (fun d => [(5, .int .i64 (d : Int)), (0, ptr p), (1, .int .i64 r)])
    (fun d w' => d ≤ R ∧ ∃ ns', DnP LayP ns.N h w w' base p ns' ∧ NI k ns' L U ∧ drainN R ns = ((drainN (R - d) ns').1, (drainN (R - d) ns').2 + d)) (fun d => R - d) 0 (.c rfl (.c rfl (.c rfl (.n)))) ⟨Nat.zero_le _, ns, ⟨rfl, M, F, h, g, Tn.refl _ _⟩, hI, rfl⟩ ?_
  rintro d w1 ⟨hd, n1, ⟨hN, M1, F1, h1, g1, t1⟩, hI1, hE⟩ ih
  have hpa := hI1.pa
  have hn2 := hI1.n2
  by_cases hlt : (d : Int) < r
  · repeat (first | refine T_seq ?_ | refine T_region ?_ | refine TL_lt_t (hk := ?_) | refine TL_move (hk := ?_) | refine TL_yes (hk := ?_))
    refine TL_call TE (hc := NRest_c _ g1 hI1) (hk := ?_)
    rintro _ w1 ⟨rfl, rfl⟩
    obtain ⟨f, hf⟩ : ∃ f, R - d = f + 1 := ⟨R - d - 1, by omega⟩
    rw [hf] at hE
    by_cases hz : restN n1 = 0
    · have hz' : ((restN n1 : Nat) : Int) = 0 := by omega
      rw [drain_zero _ hz] at hE
      clear ih
      repeat (first | refine T_seq ?_ | refine T_region ?_ | refine T_cond_false rfl ?_ | refine T_exit rfl ?_ | refine TL_ne_f (hk := ?_) | refine TL_nil ?_ | refine TL_move (hk := ?_) | refine TL_assign (hk := ?_) | refine TL_yes (hk := ?_) | refine TL_pick_t (hk := ?_))
      rw [hE]
      exact T_ret1 rfl rfl ⟨by simp, M1, F1, h1, by rw [← hN]; exact g1, t1⟩
    · have hz' : ¬ ((restN n1 : Nat) : Int) = 0 := by omega
      have hE2 : drainN (f + 1) n1 = ((drainN f (roundN n1)).1, (drainN f (roundN n1)).2 + 1) := by
        conv => lhs; unfold drainN
        rw [if_neg hz]
      rw [hE2] at hE
      have hk1 := g1.kP
      clear hlt
      repeat (first | refine T_seq ?_ | refine T_region ?_ | refine T_cond_true rfl ?_ | refine T_block ?_ | refine T_skip ?_ | refine TL_ne_t (hk := ?_) | refine TL_nil ?_ | refine TL_move (hk := ?_) | refine TL_load TE (hk := ?_) | refine TL_fieldAddr TE (hk := ?_) | refine TL_yes (hk := ?_) | refine TL_pick_t (hk := ?_) | refine TL_nilCheck (hk := ?_))
      refine T_loop (ι := Nat) (fun i => [(19, .int .i64 (i : Int)), (18, .int .i64 (n1.pat : Int)), (5, .int .i64 (d : Int)), (0, ptr p), (1, .int .i64 r)])
        (fun i w' => i ≤ n1.pat ∧ DnP LayP ns.N h w w' base p (tickR i n1)) (fun i => n1.pat - i) 0 (.c rfl (.c rfl (.c rfl (.c rfl (.c rfl (.n)))))) ⟨Nat.zero_le _, hN, M1, F1, h1, g1, t1⟩ ?_
      clear g1 t1 hk1 M1 F1 h1
      rintro i w2 ⟨hi, hN2, M2, F2, h2, g2, t2⟩ ih2
      have hI2 := hI1.tickR i
      by_cases hit : i < n1.pat
      · repeat (first | refine T_seq ?_ | refine T_region ?_ | refine T_cond_true rfl ?_ | refine T_block ?_ | refine T_skip ?_ | refine TL_lt_t (hk := ?_) | refine TL_nil ?_ | refine TL_move (hk := ?_))
        refine TL_call TE (hc := NTick_c _ g2 hI2) (hk := ?_)
        rintro _ w3 ⟨F3, h3, g3, t3⟩
        repeat (first | refine T_region ?_ | refine T_inBlock ?_ | refine TL_add (hk := ?_) | refine TL_nil ?_ | refine TL_move (hk := ?_))
        exact ih2 (i + 1) _ _ (by omega) ⟨by omega, DnP.of t2 (by rw [← hN2]; exact g3) hN2 t3⟩ (.c rfl (.c rfl (.c rfl (.c rfl (.c rfl (.n))))))
      clear ih2
      obtain rfl : n1.pat = i := by omega
      have hk2 := g2.kP
      have hl2 := g2.l1
      repeat (first | refine T_seq ?_ | refine T_region ?_ | refine T_cond_false rfl ?_ | refine T_block ?_ | refine T_exit rfl ?_ | refine TL_lt_f (hk := ?_) | refine TL_nil ?_ | refine TL_move (hk := ?_) | refine TL_load TE (hk := ?_) | refine TL_fieldAddr TE (hk := ?_) | refine TL_len TE (hk := ?_) | refine TL_nilCheck (hk := ?_))
      refine T_loop (ι := Nat) (fun i => [(29, .int .i64 (i : Int)), (28, .int .i64 ((M2.s1.2.1 : Nat) : Int)), (5, .int .i64 (d : Int)), (0, ptr p), (1, .int .i64 r)])
        (fun i w' => i ≤ ns.N ∧ DnP LayP ns.N h w w' base p (letR i (tickR n1.pat n1))) (fun i => ns.N - i) 0 (.c rfl (.c rfl (.c rfl (.c rfl (.c rfl (.n)))))) ⟨Nat.zero_le _, hN2, M2, F2, h2, g2, t2⟩ ?_
      rw [hN2] at hl2
      clear g2 t2 hk2 F2 h2
      rintro i w2 ⟨hi, hN3, M3, F3, h3, g3, t3⟩ ih3
      have hI3 := hI2.letR i (by omega)
      by_cases hit : i < ns.N
      · repeat (first | refine T_seq ?_ | refine T_region ?_ | refine T_cond_true rfl ?_ | refine T_block ?_ | refine T_skip ?_ | refine TL_lt_t (hk := ?_) | refine TL_nil ?_ | refine TL_move (hk := ?_) | refine TL_assign (hk := ?_))
        refine TL_call TE (hc := NLet_c (i : Int) _ g3 hI3) (hk := ?_)
        rintro _ w4 ⟨rfl, M4, F4, h4, g4, t4⟩
        have hx : (letX (letR i (tickR n1.pat n1)) (i : Int)).1 = letR (i + 1) (tickR n1.pat n1) := by
          unfold letX
          rw [if_pos (inN_t (by omega))]
          simp only [Int.toNat_natCast]
          show letK i (letR i (tickR n1.pat n1)).N _ = letK i (tickR n1.pat n1).N _
          rw [hN3, hN2]
        rw [hx] at g4
        repeat (first | refine T_region ?_ | refine T_inBlock ?_ | refine TL_add (hk := ?_) | refine TL_nil ?_ | refine TL_move (hk := ?_))
        refine ih3 (i + 1) _ _ (by omega) ⟨by omega, DnP.of t3 (by rw [← hN3]; exact g4) ?_ t4⟩ (.c rfl (.c rfl (.c rfl (.c rfl (.c rfl (.n))))))
        rw [(letR_N _ _).1, hN2]
      clear ih3
      obtain rfl : ns.N = i := by omega
      have hS : sentN n1 = letR ns.N (tickR n1.pat n1) := by unfold sentN; rw [hN]
      have hR1 : roundN n1 = delR (sentN n1).way.length (sentN n1) := rfl
      rw [← hS] at g3 hI3 hN3

      repeat (first | refine T_seq ?_ | refine T_region ?_ | refine T_cond_false rfl ?_ | refine T_block ?_ | refine T_exit rfl ?_ | refine TL_lt_f (hk := ?_) | refine TL_nil ?_)
      refine T_loop (ι := Nat) (fun i => [(5, .int .i64 (d : Int)), (0, ptr p), (1, .int .i64 r)])
        (fun i w' => ∃ n4, DnP LayP ns.N h w w' base p n4 ∧ NI k n4 L U ∧ roundN n1 = delR n4.way.length n4 ∧ n4.way.length = i) (fun i => i) (sentN n1).way.length (.c rfl (.c rfl (.c rfl (.n)))) ⟨sentN n1, ⟨hN3, M3, F3, h3, g3, t3⟩, hI3, hR1, rfl⟩ ?_
      clear g3 t3 hI3 hR1 M3 F3 h3 hN3 hS hI2 hN2
      rintro i w3 ⟨n4, ⟨hN4, M4, F4, h4, g4, t4⟩, hI4, hR4, hi4⟩ ih4
      have hk4 := g4.kP
      obtain ⟨hl4, hl5⟩ := g4.l3
      by_cases hpos : 0 < i
      · obtain ⟨x, t, hw⟩ : ∃ x t, n4.way = x :: t := by
          cases hw : n4.way with
          | nil => rw [hw] at hi4; simp at hi4; omega
          | cons x t => exact ⟨x, t, rfl⟩
        repeat (first | refine T_seq ?_ | refine T_region ?_ | refine T_cond_true rfl ?_ | refine T_block ?_ | refine T_skip ?_ | refine TL_gt_t (hk := ?_) | refine TL_nil ?_ | refine TL_move (hk := ?_) | refine TL_load TE (hk := ?_) | refine TL_fieldAddr TE (hk := ?_) | refine TL_len TE (hk := ?_) | refine TL_nilCheck (hk := ?_))
        refine TL_call TE (hc := NDeliver_c 0 _ g4 hI4) (hk := ?_)
        rintro _ w4 ⟨rfl, M5, F5, h5, g5, t5⟩
        have hdx : delX n4 0 = delN n4 0 := by
          unfold delX
          rw [if_pos (by unfold inN; rw [decide_eq_true_eq]; omega)]
          rfl
        have hI5 := (hI4.delX 0).1
        have hN5 := (delX_N (ns := n4) 0).1
        rw [hdx] at g5 hI5 hN5
        have hle : (delN n4 0).1.way.length = i - 1 := by
          have : (delN n4 0).1.way = t := by unfold delN; rw [hw]; rfl
          rw [this]
          rw [hw] at hi4
          simp at hi4
          omega
        repeat (first | refine T_inBlock ?_ | refine TL_nil ?_)
        exact ih4 (i - 1) _ _ (by omega) ⟨_, DnP.of t4 (by rw [← hN4]; exact g5) (by omega) t5, hI5, by rw [hR4]; exact delR_succ n4 hw, hle⟩ (.c rfl (.c rfl (.c rfl (.n))))
      clear ih4
      have hd0 : n4 = roundN n1 := by
        rw [hR4, hi4]
        obtain rfl : i = 0 := by omega
        rfl
      subst hd0
      repeat (first | refine T_seq ?_ | refine T_region ?_ | refine T_cond_false rfl ?_ | refine T_inBlock ?_ | refine T_exit rfl ?_ | refine TL_add (hk := ?_) | refine TL_gt_f (hk := ?_) | refine TL_nil ?_ | refine TL_move (hk := ?_) | refine TL_assign (hk := ?_) | refine TL_load TE (hk := ?_) | refine TL_fieldAddr TE (hk := ?_) | refine TL_len TE (hk := ?_) | refine TL_nilCheck (hk := ?_))
      refine ih (d + 1) _ _ (by omega) ⟨by omega, _, ⟨hN4, M4, F4, h4, g4, t4⟩, hI4, ?_⟩ (.c rfl (.c rfl (.c rfl (.n))))
      rw [hE, show R - (d + 1) = f by omega]
      simp only [Prod.mk.injEq, true_and]
      omega
  · have h0 : R - d = 0 := by omega
    rw [h0] at hE
    clear ih
    repeat (first | refine T_seq ?_ | refine T_region ?_ | refine T_cond_false rfl ?_ | refine T_exit rfl ?_ | refine TL_lt_f (hk := ?_) | refine TL_nil ?_ | refine TL_move (hk := ?_) | refine TL_assign (hk := ?_) | refine TL_no (hk := ?_) | refine TL_pick_f (hk := ?_))
    rw [hE]
    exact T_ret1 rfl rfl ⟨by simp [drainN], M1, F1, h1, by rw [← hN]; exact g1, t1⟩
end
end Go.Proofs.Ytjjgojgahibpgaa

namespace Go.Proofs.Ytjjgojgahibpgaa
open Go.RowKit Go.Proofs.Eng Go.Proofs.Codec Go.Proofs.Link
set_option linter.unusedSimpArgs false
set_option linter.unusedVariables false set_option maxRecDepth 10000
attribute [local irreducible] T TL LV TH TA
set_option maxHeartbeats 3200000
/-- Packets that are told: each frame a copy. -/
structure PkO (w : World) (B : Nat) (O : SV) (ys : List (PK × SV)) (way : List PK) : Prop where
  own : Own w B 103 3 O.1 O.2.1 O.2.2 (rowV pkV ys)
  eq : ys.map (·.1) = way
  bod : Bods w B (ys.map (·.2)) (way.map (·.b))
  off : ∀ b ∈ blkS (ys.map (·.2)), b ∉ blkL O.1
  nd : (blkS (ys.map (·.2))).Nodup
theorem PkO.be {w w' : World} {B : Nat} {O : SV} {ys : List (PK × SV)} {way : List PK} (h : PkO w B O ys way) (e : Ext w w') : PkO w' B O ys way := { h with own := h.own.be e, bod := h.bod.mod e (fun b _ q => by cases q) }
theorem PkO.nil (w : World) (B : Nat) : PkO w B (none, 0, 0) [] [] := { own := Own.nil _ _ _ _, eq := rfl, bod := trivial, off := fun b hb => by simp at hb, nd := by simp }
theorem PkO.add {w w1 w2 w3 : World} {B : Nat} {O : SV} {ys : List (PK × SV)} {way : List PK} (h : PkO w B O ys way) (hB : B ≤ w.heap.size) {x : PK} {sv : SV} {A : Option Addr} {n c : Nat} (e1 : Ext w w1) (hx : Body w1 w.heap.size sv x.b) (e2 : Ext w1 w2)
    (m3 : Eng.Mod (blkL O.1) w2 w3) (o3 : Own w3 B 103 3 A n c (rowV pkV (ys ++ [(x, sv)]))) (near : Near O.1 A w2) : PkO w3 B (A, n, c) (ys ++ [(x, sv)]) (way ++ [x]) := by
  have z1 := e1.size
  have z2 := e2.size
  have hO : ∀ b ∈ blkL O.1, b < w.heap.size := fun b hb => (Lo.blk h.own.lo b hb)
  have hX : ∀ b ∈ blkL sv.1, w.heap.size ≤ b ∧ b < w1.heap.size := fun b hb => hx.lt b hb
  have hY : ∀ b ∈ blkS (ys.map (·.2)), b < w.heap.size := fun b hb => (h.bod.lt b hb).2
  have hA : ∀ b ∈ blkL A, b ∈ blkL O.1 ∨ w2.heap.size ≤ b := fun b hb => Near.blk near b hb
  have hs : blkS ((ys ++ [(x, sv)]).map (·.2)) = blkS (ys.map (·.2)) ++ blkL sv.1 := by simp [blkS]
  refine { own := o3, eq := by rw [List.map_append, h.eq]; rfl, bod := ?_, off := fun b hb q => ?_, nd := ?_ }
  · rw [List.map_append, List.map_append]
    refine Bods.snoc ((h.bod.mod (e1.ext e2) (fun b _ q => by cases q)).mod m3 h.off) ?_
    exact ((hx.mod e2 (fun b _ q => by cases q)).mod m3 (fun b hb q => by have := hX b hb; have := hO b q; omega)).weaken hB
  · rw [hs, List.mem_append] at hb
    rcases hb with hb | hb
    · rcases hA b q with h1 | h1
      · exact h.off b hb h1
      · have := hY b hb; omega
    · have := hX b hb
      rcases hA b q with h1 | h1
      · have := hO b h1; omega
      · omega
  · rw [hs, List.nodup_append]
    exact ⟨h.nd, blkL_nodup _, fun a ha b hb e => by have := hY a ha; have := hX b hb; omega⟩
section
variable {base p : Nat} {M : NM} {F : Nat → Nat → Nat → Nat} {h : Nat → Nat} {ns : NS} {k : Nat} {L : LL} {U : Nat → Nat → Nat}
theorem NPackets_c (w : World) (g : NetG LayP ns.N w base p M F h ns) (hI : NI k ns L U) :
    Ret Try.prog 53 [ptr p] w (fun v w' => ∃ O ys, v = slV O ∧ Ext w w' ∧ PkO w' w.heap.size O ys ns.way) := by
  have hk := g.kP
  obtain ⟨hl1, hl2⟩ := g.l3
  have hwl := hI.wl
  have r0 := g.o3.rd
  refine ret_T (n := 27) Try.func53 rfl rfl ?_
  repeat (first | refine T_seq ?_ | refine T_region ?_ | refine T_cond_false rfl ?_ | refine T_block ?_ | refine T_skip ?_ | refine TL_pnil_f TE (hk := ?_) | refine TL_nil ?_ | refine TL_move (hk := ?_) | refine TL_assign (hk := ?_) | refine TL_load TE (hk := ?_) | refine TL_fieldAddr TE (hk := ?_) | refine TL_len TE (hk := ?_) | refine TL_nilCheck (hk := ?_))
  refine T_loop (ι := Nat × SV) (fun i => [(13, .int .i64 (i.1 : Int)), (12, .int .i64 ((M.s3.2.1 : Nat) : Int)), (11, slV M.s3), (3, slV i.2)])
    (fun i w' => i.1 ≤ M.y.length ∧ Ext w w' ∧ ∃ ys, PkO w' w.heap.size i.2 ys (ns.way.take i.1)) (fun i => M.y.length - i.1) (0, (none, 0, 0)) (.c rfl (.c rfl (.c rfl (.c rfl (.n))))) ⟨Nat.zero_le _, Mod.refl _ _, [], PkO.nil _ _⟩ ?_
  rintro ⟨i, O⟩ w1 ⟨hi, e1, ys, hP⟩ ih
  simp only at hi e1 hP ih
  have z1 := e1.size
  have hyl : ys.length = i := by have := congrArg List.length hP.eq; rw [List.length_map, List.length_take] at this; omega
  have hol : O.2.1 = i := by have := hP.own.len; rw [rowV_len pkV_len] at this; omega
  by_cases hlt : i < M.y.length
  · have r1 := r0.be e1
    have hel := rowV_elem pkV_len M.y i pk0 hlt
    have hmem : M.y.getD i pk0 ∈ M.y := getMem hlt
    obtain ⟨z, hz⟩ : ∃ z, M.y.getD i pk0 = z := ⟨_, rfl⟩
    rw [hz] at hel hmem
    have hw : ns.way[i]? = some z.1 := by
      rw [g.wy, List.getElem?_map, ← hz, List.getD_eq_getElem?_getD, List.getElem?_eq_getElem (by omega)]
      rfl
    have htk : ns.way.take (i + 1) = ns.way.take i ++ [z.1] := by
      rw [List.take_succ_eq_append_getElem (by omega)]
      rw [List.getElem?_eq_getElem (by omega)] at hw
      rw [Option.some.inj hw]
    have hzs := hI.short (List.mem_of_getElem? hw)
    have hfr := (g.fr z hmem).1.be e1
    have hln := hfr.1
    rw [bv_length] at hln
    have hA : M.s3.1 ≠ none := by obtain ⟨_, _, hq, _⟩ := r1.2 (by omega); rw [hq]; simp
    repeat (first | refine T_seq ?_ | refine T_region ?_ | refine T_cond_true rfl ?_ | refine T_block ?_ | refine T_skip ?_ | refine TL_lt_t (hk := ?_) | refine TL_nil ?_ | refine TL_indexAddrn TE (hk := ?_))
    refine TL_loada TE (cs := pkV z) (hx := rfl) (ht := rfl) (hi := rfl) (hr := r1) (hc := hel) (h0 := Nat.succ_pos _) (hk := ?_)
    --
    refine TL_alloc TE (hk := ?_); intro b5 w2 e2 h2 h2' k2
    --
    refine TL_storea TE (hk := ?_); intro w3 m3 z3 k3
    replace k3 : Blk w3 b5 103 [.int .i64 (z.1.fr : Int), .int .i64 (z.1.to : Int), slV z.2] := k3
    have e13 : Ext w1 w3 := Mod.step e2 m3 (by simp; omega)
    have hfr3 := hfr.be e13
    have z13 := e13.size
    clear k2 r1
    repeat (first | refine T_seq ?_ | refine T_region ?_ | refine TL_nil ?_ | refine TL_load TE (hk := ?_) | refine TL_fieldAddr TE (hk := ?_))
    refine TL_call TE (hc := Clone_c z.2.1 z.2.2.1 z.2.2.2 z.1.b _ hfr3 (by omega)) (hk := ?_)
    rintro _ w4 ⟨A4, c4, rfl, e4, o4⟩
    have k4 := k3.be e4
    have z4 := e4.size
    have o4' : Body w4 w1.heap.size (A4, z.2.2.1, c4) z.1.b := Own.weaken o4 z13
    have e14 := e13.ext e4
    repeat (refine TL_fieldAddr TE (hk := ?_))
    refine TL_store TE (hb := k4) (hk := ?_); intro w5 m5 z5 k5
    have e45 : Ext w1 w5 := Mod.step e14 m5 (by simp; omega)
    have o5 : Body w5 w1.heap.size (A4, z.2.2.1, c4) z.1.b := o4'.mod m5 (fun b hb q => by have := Hi.blk o4.hi b hb; rw [List.mem_singleton] at q; omega)
    replace k5 : Blk w5 b5 103 [.int .i64 (z.1.fr : Int), .int .i64 (z.1.to : Int), slV (A4, z.2.2.1, c4)] := k5
    clear k4 k3 m3 m5 hfr3 o4 o4'
    repeat (first | refine T_region ?_ | refine TL_nil ?_ | refine TL_move (hk := ?_))
    refine TL_loadb TE (cs := [.int .i64 (z.1.fr : Int), .int .i64 (z.1.to : Int), slV (A4, z.2.2.1, c4)]) (o := 0) rfl rfl k5 rfl rfl (Nat.succ_pos _) (hk := ?_)
    --
    refine TL_buildSliceA TE (hk := ?_); intro b6 w6 e6 h6 h6' k6
    replace k6 : Blk w6 b6 103 (rowV pkV [((z.1, (A4, z.2.2.1, c4)) : PK × SV)]) := k6
    have r6 : Rd w6 (some ⟨b6, 0, none⟩) 1 3 (rowV pkV [((z.1, (A4, z.2.2.1, c4)) : PK × SV)]) := Rd.blk k6 rfl
    have oO := (hP.own.be e45).be e6
    have z5' := e45.size
    have z6 := e6.size
    --
    refine TL_append TE (ho := oO) (hr := r6) (h1 := rowV_one pkV_one _) (hk := ?_); intro A7 c7 w7 o7 m7 n7
    rw [← rowV_append] at o7
    have hP7 := hP.add z1 (x := z.1) e45 o5 e6 m7 o7 n7
    rw [← htk] at hP7
    have hMO : Ext w w7 := Mod.step ((e1.ext e45).ext e6) m7 (fun b hb => .inr (Hi.blk hP.own.hi b hb))
    repeat (first | refine T_region ?_ | refine T_inBlock ?_ | refine TL_add (hk := ?_) | refine TL_nil ?_ | refine TL_move (hk := ?_) | refine TL_assign (hk := ?_))
    exact ih (i + 1, (A7, O.2.1 + 1, c7)) _ _ (by simp only; omega) ⟨by simp only; omega, hMO, _, hP7⟩ (.c rfl (.c rfl (.c rfl (.c rfl (.n)))))
  · have hie : i = ns.way.length := by omega
    rw [hie, List.take_length] at hP
    clear ih
    repeat (first | refine T_seq ?_ | refine T_region ?_ | refine T_cond_false rfl ?_ | refine T_exit rfl ?_ | refine TL_lt_f (hk := ?_) | refine TL_nil ?_ | refine TL_move (hk := ?_) | refine TL_assign (hk := ?_))
    exact T_ret1 rfl rfl ⟨O, ys, rfl, e1, hP⟩
end
end Go.Proofs.Ytjjgojgahibpgaa

namespace Go.Proofs.Ytjjgojgahibpgaa
open Go.RowKit Go.Proofs.Eng Go.Proofs.Codec Go.Proofs.Link
set_option linter.unusedSimpArgs false
set_option linter.unusedVariables false set_option maxRecDepth 10000
attribute [local irreducible] T TL LV TH TA
set_option maxHeartbeats 3200000
section
variable {Y : Lay} {R : Nat} {w w5 : World} {base p : Nat} {M : NM} {F : Nat → Nat → Nat → Nat} {h : Nat → Nat} {ns : NS} {S : List Nat}
/-- A row more. -/
theorem NetG.row (g : NetG Y R w base p M F h ns) (hy : M.y = []) (hR : R < 8) (hm : Eng.Mod S w w5) (hS : ∀ b ∈ S, h b = 1 ∨ h b = 11 ∨ h b = 14) {s1 s2 r1 r2 : SV} {ev : Nat → Value} {f : Nat → Nat → Nat} {G : Nat → Nat}
    (hb : Blk w5 p Y.nt (Y.nv s1 s2 M.s3 ns.pat)) (o1 : Own w5 base Y.t1 1 s1.1 s1.2.1 s1.2.2 ((rowF R fun a => slV (M.r1 a)) ++ [slV r1])) (q1 : Rd w5 r1.1 r1.2.1 1 (rowF ns.N ev))
    (o2 : Own w5 base Y.t2 1 s2.1 s2.2.1 s2.2.2 ((rowF R fun a => slV (M.r2 a)) ++ [slV r2])) (q2 : Own w5 base Y.pt 1 r2.1 r2.2.1 r2.2.2 (rowF ns.N fun c => Y.pv (ns.P R c)))
    (en : ∀ c, c < ns.N → Y.Q w5 base R c (ev c) (f c) (ns.E R c)) (hG : ∀ b, G b ≠ 0 → base ≤ b ∧ b < w5.heap.size)
    (k1 : ∀ b ∈ blkL s1.1, b ∈ blkL M.s1.1 ∨ (w.heap.size ≤ b ∧ G b = 11)) (k2 : ∀ b ∈ blkL s2.1, b ∈ blkL M.s2.1 ∨ (w.heap.size ≤ b ∧ G b = 14)) (k3 : ∀ b ∈ blkL r1.1, w.heap.size ≤ b ∧ G b = 2) (k4 : ∀ b ∈ blkL r2.1, w.heap.size ≤ b ∧ G b = 3 + R)
    (k5 : ∀ c, c < ns.N → ∀ b, f c b ≠ 0 → w.heap.size ≤ b ∧ G b = 15 + (R * 8 + c)) :
    ∃ h', NetG Y (R + 1) w5 base p { M with s1 := s1, s2 := s2, r1 := upd M.r1 R r1, r2 := upd M.r2 R r2, ev := fun a c => if a = R then ev c else M.ev a c } (fun a c => if a = R then f c else F a c) h' ns := by
  have z := hm.size
  have h0 : ∀ b, w.heap.size ≤ b → h b = 0 := fun b hb => by
    by_cases q : h b = 0
    · exact q
    · have := (g.old b q).2; omega
  obtain ⟨h', hh⟩ : ∃ h' : Nat → Nat, h' = fun b => if h b = 0 then G b else h b := ⟨_, rfl⟩
  have kp : ∀ {b k}, h b = k + 1 → h' b = k + 1 := fun {b k} e => by rw [hh]; simp only; rw [if_neg (by omega), e]
  have kn : ∀ {b k}, w.heap.size ≤ b → G b = k → h' b = k := fun {b k} e1 e2 => by rw [hh]; simp only; rw [if_pos (h0 b e1), e2]
  have nin : ∀ b k, h b = k → k ≠ 1 → k ≠ 11 → k ≠ 14 → b ∉ S := fun b k e a1 a2 a3 q => by rcases hS b q with h | h | h <;> omega
  have nn := g.nn
  refine ⟨h', {
    blk := hb
    o1 := ?_
    q1 := fun a ha => ?_
    o2 := ?_
    q2 := fun a ha => ?_
    o3 := g.o3.modL hm (fun b hb => nin b _ (g.h12 b hb) (by decide) (by decide) (by decide))
    wy := g.wy
    fr := fun x hx => by rw [show M.y = [] from hy] at hx; cases hx
    en := fun a c ha hc => ?_
    hp := kp g.hp
    h2 := fun a ha b hb => ?_
    h3 := fun a ha b hb => ?_
    h11 := fun b hb => ?_
    h12 := fun b hb => kp (g.h12 b hb)
    h13 := fun x hx => by rw [show M.y = [] from hy] at hx; cases hx
    h14 := fun b hb => ?_
    he := fun a c ha hc b hb => ?_
    old := fun b hb => ?_
    rn := by omega
    nn := g.nn }⟩
  · have e : (rowF (R + 1) fun a => slV (upd M.r1 R r1 a)) = (rowF R fun a => slV (M.r1 a)) ++ [slV r1] := by
      rw [rowF_succ, upd_at, rowF_cong (g' := fun a => slV (M.r1 a)) (fun i hi => by rw [upd_ne _ _ (by omega)])]
    show Own w5 base Y.t1 1 s1.1 s1.2.1 s1.2.2 (rowF (R + 1) fun a => slV (upd M.r1 R r1 a))
    rw [e]
    exact o1
  · simp only
    by_cases e : a = R
    · subst e
      rw [upd_at, rowF_cong (g' := ev) (fun i hi => if_pos rfl)]
      exact q1
    · rw [upd_ne _ _ e, rowF_cong (g' := M.ev a) (fun i hi => if_neg e)]
      exact (g.q1 a (by omega)).mod hm (off_of fun b hb => nin b _ (g.h2 a (by omega) b hb) (by decide) (by decide) (by decide))
  · have e : (rowF (R + 1) fun a => slV (upd M.r2 R r2 a)) = (rowF R fun a => slV (M.r2 a)) ++ [slV r2] := by
      rw [rowF_succ, upd_at, rowF_cong (g' := fun a => slV (M.r2 a)) (fun i hi => by rw [upd_ne _ _ (by omega)])]
    show Own w5 base Y.t2 1 s2.1 s2.2.1 s2.2.2 (rowF (R + 1) fun a => slV (upd M.r2 R r2 a))
    rw [e]
    exact o2
  · simp only
    by_cases e : a = R
    · subst e
      rw [upd_at]
      exact q2
    · rw [upd_ne _ _ e]
      exact (g.q2 a (by omega)).modL hm (fun b hb => nin b _ (g.h3 a (by omega) b hb) (by omega) (by omega) (by omega))
  · simp only
    by_cases e : a = R
    · subst e
      rw [if_pos rfl, if_pos rfl]
      exact en c hc
    · rw [if_neg e, if_neg e]
      exact g.e_mod hm (fun b hb => by rcases hS b hb with h | h | h <;> omega) (by omega) hc
  · (try simp only at hb)
    by_cases e : a = R
    · subst e
      rw [upd_at] at hb
      exact kn (k3 b hb).1 (k3 b hb).2
    · rw [upd_ne _ _ e] at hb
      exact kp (g.h2 a (by omega) b hb)
  · (try simp only at hb)
    by_cases e : a = R
    · subst e
      rw [upd_at] at hb
      exact kn (k4 b hb).1 (k4 b hb).2
    · rw [upd_ne _ _ e] at hb
      have := kp (k := 2 + a) (by rw [g.h3 a (by omega) b hb]; omega : h b = 2 + a + 1)
      omega
  · rcases k1 b hb with q | q
    · exact kp (g.h11 b q)
    · exact kn q.1 q.2
  · rcases k2 b hb with q | q
    · exact kp (g.h14 b q)
    · exact kn q.1 q.2
  · (try simp only at hb)
    by_cases e : a = R
    · subst e
      rw [if_pos rfl] at hb
      exact kn (k5 c hc b hb).1 (k5 c hc b hb).2
    · rw [if_neg e] at hb
      have h1 := g.he a c (by omega) hc b hb
      have := kp (k := 14 + (a * 8 + c)) (by omega : h b = 14 + (a * 8 + c) + 1)
      omega
  · rw [hh] at hb
    simp only at hb
    by_cases q : h b = 0
    · rw [if_pos q] at hb; exact hG b hb
    · have := g.old b q; omega
end
def newX (N W P : Int) : Bool := decide (2 ≤ N ∧ N ≤ 8) && goodE W P
def nsN (N W P : Nat) : NS := ⟨N, W, P, fun _ _ => nE W P, fun _ _ => false, []⟩
def NM0 : NM := ⟨(none, 0, 0), fun _ => (none, 0, 0), fun _ _ => .pointer none, (none, 0, 0), fun _ => (none, 0, 0), (none, 0, 0), []⟩
theorem rowF_rep (N : Nat) (v : Value) : List.replicate N v = rowF N fun _ => v := by
  apply List.ext_getElem
  · simp
  · intro i h1 h2
    simp [rowF]
theorem NNewNet_c (N W P : Int) (w : World) (hN : -9223372036854775808 ≤ N ∧ N ≤ 9223372036854775807) (hW : -9223372036854775808 ≤ W ∧ W ≤ 9223372036854775807) (hP : -9223372036854775808 ≤ P ∧ P ≤ 9223372036854775807) :
    Ret Try.prog 58 [.int .i64 N, .int .i64 W, .int .i64 P] w (fun v w' => Ext w w' ∧ ((newX N W P = false ∧ v = .tuple #[.pointer none, .int .i64 2]) ∨
      ∃ n W' P' : Nat, N = n ∧ W = W' ∧ P = P' ∧ 2 ≤ n ∧ n ≤ 8 ∧ (1 ≤ W' ∧ W' ≤ 256) ∧ (1 ≤ P' ∧ P' ≤ 1000) ∧ newX N W P = true ∧ ∃ p M F h, v = .tuple #[ptr p, .int .i64 0] ∧ NetG LayP n w' w.heap.size p M F h (nsN n W' P'))) := by
  unfold newX
  refine ret_T (n := 74) Try.func58 rfl rfl ?_
  by_cases h1 : 2 ≤ N
  · by_cases h2 : N ≤ 8
    · obtain ⟨n, rfl⟩ := Int.eq_ofNat_of_zero_le (show 0 ≤ N by omega)
      have hn : 2 ≤ n ∧ n ≤ 8 := by omega
      rw [show (decide (2 ≤ (n : Int) ∧ (n : Int) ≤ 8)) = true from decide_eq_true ⟨h1, h2⟩]
      rw [Bool.true_and]
      repeat (first | refine T_seq ?_ | refine T_region ?_ | refine T_cond_false rfl ?_ | refine T_skip ?_ | refine TL_lt_f (hk := ?_) | refine TL_gt_f (hk := ?_) | refine TL_nil ?_ | refine TL_move (hk := ?_) | refine TL_assign (hk := ?_) | refine TL_yes (hk := ?_) | refine TL_pick_f (hk := ?_) | refine TL_build TE (hk := ?_))
      refine TL_box (hk := ?_); intro p w1 e1 p1 p1' k1
      clear h1 h2
      replace k1 : Blk w1 p 132 [.int .i64 P, slV (none, 0, 0), slV (none, 0, 0), slV (none, 0, 0)] := k1
      have hb1 := e1.size
      repeat (first | refine T_seq ?_ | refine T_region ?_ | refine T_block ?_ | refine TL_nil ?_ | refine TL_move (hk := ?_) | refine TL_assign (hk := ?_))
      refine T_loop (ι := Nat) (fun i => [(24, .int .i64 (i : Int)), (23, .int .i64 (n : Int)), (8, ptr p), (0, .int .i64 (n : Int)), (1, .int .i64 W), (2, .int .i64 P), (6, .pointer none)])
        (fun i w' => i ≤ n ∧ Ext w w' ∧ ((i = 0 ∧ w' = w1) ∨ ∃ W' P' : Nat, W = W' ∧ P = P' ∧ (1 ≤ W' ∧ W' ≤ 256) ∧ (1 ≤ P' ∧ P' ≤ 1000) ∧ ∃ M F h, M.y = [] ∧ M.s3 = (none, 0, 0) ∧ NetG LayP i w' w.heap.size p M F h (nsN n W' P'))) (fun i => n - i) 0 (.c rfl (.c rfl (.c rfl (.c rfl (.c rfl (.c rfl (.c rfl (.n)))))))) ⟨Nat.zero_le _, e1, .inl ⟨rfl, rfl⟩⟩ ?_
      rintro i w2 ⟨hi, e2, hst⟩ ih
      by_cases hlt : i < n
      · have hz2 : w1.heap.size ≤ w2.heap.size ∨ True := .inr trivial
        have hs2 := e2.size
        repeat (first | refine T_seq ?_ | refine T_region ?_ | refine T_cond_true rfl ?_ | refine T_block ?_ | refine T_skip ?_ | refine TL_lt_t (hk := ?_) | refine TL_nil ?_ | refine TL_move (hk := ?_) | refine TL_assign (hk := ?_))
        refine TL_makeSlice TE (m := n) (hk := ?_); intro b3 w3 e3 p3 p3' k3
        rw [rowF_rep] at k3
        have z3 := e3.size
        have o3 : Own w3 w2.heap.size 35 1 (some ⟨b3, 0, none⟩) n n (rowF n fun _ => .pointer none) := Own.of_blk k3 p3 (by simp) (by unfold maxLen; omega)
        repeat (first | refine T_seq ?_ | refine T_region ?_ | refine T_block ?_ | refine TL_nil ?_ | refine TL_move (hk := ?_) | refine TL_assign (hk := ?_) | refine TL_len TE (hk := ?_))
        refine T_loop (ι := Nat) (fun c => [(31, .int .i64 (c : Int)), (30, .int .i64 (n : Int)), (10, .slice (some ⟨b3, 0, none⟩) n n), (9, .int .i64 (i : Int)), (24, .int .i64 (i : Int)), (23, .int .i64 (n : Int)), (8, ptr p), (0, .int .i64 (n : Int)), (1, .int .i64 W), (2, .int .i64 P), (6, .pointer none)])
          (fun c w' => c ≤ n ∧ Ext w2 w' ∧ w3.heap.size ≤ w'.heap.size ∧ (0 < c → goodE W P = true) ∧ ∃ (ev : Nat → Value) (f : Nat → Nat → Nat) (G : Nat → Nat), Own w' w2.heap.size 35 1 (some ⟨b3, 0, none⟩) n n (rowF n fun x => if x < c then ev x else .pointer none) ∧
            (∀ x, x < c → QP w' w2.heap.size i x (ev x) (f x) (nE W.toNat P.toNat) ∧ ∀ b, f x b ≠ 0 → G b = 15 + (i * 8 + x)) ∧ (∀ b, G b ≠ 0 → w3.heap.size ≤ b ∧ b < w'.heap.size)) (fun c => n - c) 0 (.c rfl (.c rfl (.c rfl (.c rfl (.c rfl (.c rfl (.c rfl (.c rfl (.c rfl (.c rfl (.c rfl (.n))))))))))))
          ⟨Nat.zero_le _, e3, Nat.le_refl _, fun q => by omega, fun _ => .pointer none, fun _ _ => 0, fun _ => 0, by simpa using o3, fun x hx => by omega, fun b hb => absurd rfl hb⟩ ?_
        clear o3 k3
        rintro c w4 ⟨hc, e4, z4, hgd, ev, f, G, o4, hq4, hG4⟩ ih2
        by_cases hct : c < n
        · repeat (first | refine T_seq ?_ | refine T_region ?_ | refine T_cond_true rfl ?_ | refine T_block ?_ | refine T_skip ?_ | refine TL_lt_t (hk := ?_) | refine TL_nil ?_ | refine TL_move (hk := ?_) | refine TL_assign (hk := ?_))
          refine TL_call TE (hc := LNew_c W P _ hW hP) (hk := ?_)
          rintro _ w5 ⟨e5, ⟨hg, rfl⟩ | ⟨hg, q, m, f5, rfl, hE⟩⟩
          · clear ih ih2
            repeat (first | refine T_seq ?_ | refine T_region ?_ | refine T_cond_true rfl ?_ | refine TL_ne_t (hk := ?_) | refine TL_nil ?_ | refine TL_move (hk := ?_) | refine TL_assign (hk := ?_) | refine TL_extract (hk := ?_))
            exact T_ret2 rfl rfl rfl ⟨(e2.ext e4).ext e5, .inl ⟨hg, rfl⟩⟩
          have o5 := o4.be e5
          have z5 := e5.size
          replace hE : EndM w5 w4.heap.size q m f5 (nE W.toNat P.toNat) := hE
          have hG5 : ∀ b, G b ≠ 0 → w3.heap.size ≤ b ∧ b < w5.heap.size := fun b hb => by have := hG4 b hb; omega
          have hq5 : ∀ x, x < c → QP w5 w2.heap.size i x (ev x) (f x) (nE W.toNat P.toNat) ∧ ∀ b, f x b ≠ 0 → G b = 15 + (i * 8 + x) := fun x hx => ⟨LayP.qm (hq4 x hx).1 e5 (fun b hb => by cases hb), (hq4 x hx).2⟩
          have h0c : (0 : Int) ≤ (c : Int) := by omega
          by_cases hci : c = i
          · subst hci
            repeat (first | refine T_seq ?_ | refine T_region ?_ | refine T_cond_false rfl ?_ | refine T_inBlock ?_ | refine T_skip ?_ | refine TL_add (hk := ?_) | refine TL_ne_f (hk := ?_) | refine TL_nil ?_ | refine TL_move (hk := ?_) | refine TL_assign (hk := ?_) | refine TL_extract (hk := ?_))
            refine ih2 (c + 1) _ _ (by omega) ⟨by omega, e4.ext e5, by omega, fun _ => hg, upd ev c (.pointer none), upd f c (fun _ => 0), G, ?_, fun x hx => ?_, hG5⟩ (.c rfl (.c rfl (.c rfl (.c rfl (.c rfl (.c rfl (.c rfl (.c rfl (.c rfl (.c rfl (.c rfl (.n))))))))))))
            · rw [rowF_cong (g' := fun x => if x < c then ev x else .pointer none) (fun x hx => ?_)]
              · exact o5
              · unfold upd
                by_cases e : x = c
                · subst e; rw [if_pos (by omega), if_pos rfl, if_neg (by omega)]
                · by_cases e2 : x < c
                  · rw [if_pos (by omega), if_neg e, if_pos e2]
                  · rw [if_neg (by omega), if_neg e2]
            · by_cases e : x = c
              · subst e
                rw [upd_at, upd_at]
                unfold QP
                rw [if_pos rfl]
                exact ⟨⟨rfl, fun b => rfl, _, _, rfl⟩, fun b hb => absurd rfl hb⟩
              · rw [upd_ne _ _ e, upd_ne _ _ e]
                exact hq5 x (by omega)
          · have hci' : ¬ (c : Int) = (i : Int) := by omega
            repeat (first | refine T_seq ?_ | refine T_region ?_ | refine T_cond_true rfl ?_ | refine T_cond_false rfl ?_ | refine T_skip ?_ | refine TL_ne_t (hk := ?_) | refine TL_ne_f (hk := ?_) | refine TL_nil ?_ | refine TL_move (hk := ?_) | refine TL_assign (hk := ?_) | refine TL_indexAddr1n TE (hk := ?_) | refine TL_extract (hk := ?_))
            refine TL_store_own TE (ho := o5) (hj := by rw [rowF_len]; exact hct) (hk := ?_); intro w6 m6 z6 o6
            have hb3 : ∀ b ∈ blkL (some (⟨b3, 0, none⟩ : Addr)), b = b3 := fun b hb => by simpa [blkL] using hb
            have e26 : Ext w2 w6 := Mod.step (e4.ext e5) m6 (fun b hb => by rw [hb3 b hb]; right; omega)
            have hE6 : EndM w6 w4.heap.size q m f5 (nE W.toNat P.toNat) := hE.mod m6 (fun b hb => by
              rw [hb3 b hb]
              by_cases y : f5 b3 = 0
              · exact y
              · have := (hE.ki.old b3 y).1; omega)
            have z4' := e4.size
            repeat (first | refine T_region ?_ | refine T_inBlock ?_ | refine TL_add (hk := ?_) | refine TL_nil ?_ | refine TL_move (hk := ?_))
            refine ih2 (c + 1) _ _ (by omega) ⟨by omega, e26, by omega, fun _ => hg, upd ev c (ptr q), upd f c f5, fun b => if f5 b = 0 then G b else 15 + (i * 8 + c), ?_, fun x hx => ?_, fun b hb => ?_⟩ (.c rfl (.c rfl (.c rfl (.c rfl (.c rfl (.c rfl (.c rfl (.c rfl (.c rfl (.c rfl (.c rfl (.n))))))))))))
            · rw [rowF_set] at o6
              rw [rowF_cong (g' := upd (fun x => if x < c then ev x else .pointer none) c (ptr q)) (fun x hx => ?_)]
              · exact o6
              · show (if x < c + 1 then (if x = c then ptr q else ev x) else .pointer none) = (if x = c then ptr q else if x < c then ev x else .pointer none)
                by_cases e : x = c
                · subst e; rw [if_pos (by omega), if_pos rfl, if_pos rfl]
                · by_cases e2 : x < c
                  · rw [if_pos (by omega), if_neg e, if_neg e, if_pos e2]
                  · rw [if_neg (by omega), if_neg e, if_neg e2]
            · by_cases e : x = c
              · subst e
                rw [upd_at, upd_at]
                exact ⟨QP.mk (Ne.symm hci) (by omega) hE6, fun b hb => by simp only; rw [if_neg hb]⟩
              · rw [upd_ne _ _ e, upd_ne _ _ e]
                obtain ⟨g1, g2⟩ := hq5 x (by omega)
                refine ⟨LayP.qm g1 m6 (fun b hb => ?_), fun b hb => ?_⟩
                · rw [hb3 b hb]
                  by_cases y : f x b3 = 0
                  · exact y
                  · have h3 := g2 b3 y; have := hG4 b3 (by omega); omega
                · have h3 := g2 b hb
                  have h4 := hG4 b (by omega)
                  have : f5 b = 0 := by
                    by_cases y : f5 b = 0
                    · exact y
                    · have := (hE.ki.old b y).1; omega
                  simp only
                  rw [if_pos this]
                  exact h3
            · simp only at hb
              by_cases y : f5 b = 0
              · rw [if_pos y] at hb; have := hG5 b hb; omega
              · have := hE.ki.old b y; omega
        · obtain rfl : c = n := by omega
          have hgd := hgd (by omega)
          obtain ⟨W', P', rfl, rfl, hW', hP'⟩ := goodE_nat hgd
          simp only [Int.toNat_natCast] at hq4
          obtain ⟨M, F, h, hy, hs3, g⟩ : ∃ M F h, M.y = [] ∧ M.s3 = (none, 0, 0) ∧ NetG LayP i w2 w.heap.size p M F h (nsN c W' P') := by
            rcases hst with ⟨rfl, rfl⟩ | ⟨W2, P2, hW2, hP2, -, -, M, F, h, hy, hs, g⟩
            · refine ⟨NM0, fun _ _ _ => 0, fun b => if b = p then 1 else 0, rfl, rfl, { blk := k1, o1 := Own.nil _ _ _ _, q1 := fun a ha => (by omega), o2 := Own.nil _ _ _ _, q2 := fun a ha => (by omega), o3 := Own.nil _ _ _ _, wy := rfl, fr := fun x hx => (by cases hx), en := fun a c ha => (by omega), hp := if_pos rfl, h2 := fun a ha => (by omega), h3 := fun a ha => (by omega), h11 := fun b hb => (by cases hb), h12 := fun b hb => (by cases hb), h13 := fun x hx => (by cases hx), h14 := fun b hb => (by cases hb), he := fun a c ha => (by omega), old := fun b hb => ?_, rn := by omega, nn := hn.2 }⟩
              by_cases e : b = p
              · subst e; exact ⟨p1, p1'⟩
              · rw [if_neg e] at hb; exact absurd rfl hb
            · have : W' = W2 := by omega
              have : P' = P2 := by omega
              subst W2
              subst P2
              exact ⟨M, F, h, hy, hs, g⟩
          clear hst ih2
          have hbw := g.bw
          have rn := g.rn
          have hl1 := g.l1
          have hl2 := g.l2
          have hk4 := g.kP.be e4
          have g4 := g.ext e4
          have hp4 : p ∉ blkL M.s1.1 := fun q => by have := g.h11 p q; rw [g.hp] at this; omega
          have hp4' : p ∉ blkL M.s2.1 := fun q => by have := g.h14 p q; rw [g.hp] at this; omega
          have z24 := e4.size
          repeat (first | refine T_seq ?_ | refine T_region ?_ | refine T_cond_false rfl ?_ | refine T_exit rfl ?_ | refine TL_lt_f (hk := ?_) | refine TL_nil ?_ | refine TL_move (hk := ?_) | refine TL_load TE (hk := ?_) | refine TL_fieldAddr TE (hk := ?_) | refine TL_nilCheck (hk := ?_))
          refine TL_buildSlice TE (hk := ?_); intro b5 w5 e5 p5 p5' k5
          have r5 : Rd w5 (some ⟨b5, 0, none⟩) 1 1 [slV (some ⟨b3, 0, none⟩, c, c)] := Rd.blk k5 rfl
          have o15 := g4.o1.be e5
          have hk5 := hk4.be e5
          have z5 := e5.size
          --
          refine TL_append TE (ho := o15) (hr := r5) (h1 := slVs_one [(some ⟨b3, 0, none⟩, c, c)]) (hk := ?_); intro A6 c6 w6 o6 m6 n6
          have hk6 := hk5.mod m6 hp4
          repeat (first | refine TL_fieldAddr TE (hk := ?_) | refine TL_nilCheck (hk := ?_))
          refine TL_store TE (hb := hk6) (hk := ?_); intro w7 m7 z7 k7
          have z6 := m6.size
          have hA6 : ∀ b ∈ blkL A6, b ∈ blkL M.s1.1 ∨ w5.heap.size ≤ b := fun b hb => Near.blk n6 b hb
          have hpA6 : ∀ b ∈ blkL A6, b ∉ [p] := fun b hb q => by
            rw [List.mem_singleton] at q
            rcases hA6 b hb with h1 | h1
            · exact hp4 (q ▸ h1)
            · omega
          have o7 := o6.modL m7 hpA6
          have M27 : Eng.Mod (p :: blkL M.s1.1) w2 w7 := (((e4.ext e5).mono (S' := p :: blkL M.s1.1) (by simp)).step m6 (fun b hb => .inl (List.mem_cons_of_mem _ hb))).step m7 (fun b hb => .inl (by rw [List.mem_singleton.1 hb]; exact List.mem_cons_self))
          have hdis : ∀ b ∈ blkL M.s2.1, b ∉ p :: blkL M.s1.1 := fun b hb q => by
            have a1 := g.h14 b hb
            rcases List.mem_cons.1 q with rfl | q
            · rw [g.hp] at a1; omega
            · have := g.h11 b q; omega
          have o27 := g.o2.modL M27 hdis
          have M47 : Eng.Mod (p :: blkL M.s1.1) w4 w7 := ((e5.mono (S' := p :: blkL M.s1.1) (by simp)).step m6 (fun b hb => .inl (List.mem_cons_of_mem _ hb))).step m7 (fun b hb => .inl (by rw [List.mem_singleton.1 hb]; exact List.mem_cons_self))
          have hlt2 : ∀ b ∈ p :: blkL M.s1.1, b < w2.heap.size := fun b hb => by
            rcases List.mem_cons.1 hb with rfl | hb
            · exact hbw.2
            · exact (g.o1.bl b hb).2
          have o47 := o4.modL M47 (fun b hb q => by have := hlt2 b q; have := (o4.bl b hb).1; omega)
          have hq7 : ∀ x, x < c → QP w7 w2.heap.size i x (ev x) (f x) (nE W' P') ∧ ∀ b, f x b ≠ 0 → G b = 15 + (i * 8 + x) := fun x hx => ⟨LayP.qm (hq4 x hx).1 M47 (fun b hb => by
            by_cases y : f x b = 0
            · exact y
            · have := (hq4 x hx).2 b y; have := hG4 b (by omega); have := hlt2 b hb; omega), (hq4 x hx).2⟩
          clear hk4 hk5 hk6 o6 o15 m6 m7 hq4 g4
          replace k7 : Blk w7 p 132 [.int .i64 (P' : Int), slV (A6, M.s1.2.1 + 1, c6), slV M.s2, slV M.s3] := k7
          repeat (refine TL_nil ?_)
          refine T_region_anyz TE.mixed (blkL M.s2.1) (some 11) ?_; intro w8 e8 z8
          have k8 := k7.be e8
          have o28 := o27.be e8
          (refine TA_take 0 rfl (by kernel_rfl) (by kernel_rfl) (by kernel_rfl) ?_; (repeat (first | refine TL_move (hk := ?_) | refine TLP_load TE (hk := ?_) | refine TL_fieldAddr TE (hk := ?_) | refine TL_nilCheck (hk := ?_))); refine TL_nil_p ?_); (refine TA_take 1 rfl (by kernel_rfl) (by kernel_rfl) (by kernel_rfl) ?_; (repeat (first | refine TL_move (hk := ?_) | refine TLP_load TE (hk := ?_) | refine TL_fieldAddr TE (hk := ?_) | refine TL_nilCheck (hk := ?_))); refine TL_nil_p ?_); (refine TA_take 2 rfl (by kernel_rfl) (by kernel_rfl) (by kernel_rfl) ?_; (repeat (first | refine TL_move (hk := ?_) | refine TLP_load TE (hk := ?_) | refine TL_fieldAddr TE (hk := ?_) | refine TL_nilCheck (hk := ?_))); refine TL_nil_p ?_); (refine TA_take 3 rfl (by kernel_rfl) (by kernel_rfl) (by kernel_rfl) ?_; (repeat (first | refine TL_move (hk := ?_) | refine TLP_load TE (hk := ?_) | refine TL_fieldAddr TE (hk := ?_) | refine TL_nilCheck (hk := ?_))); refine TL_nil_p ?_); (refine TA_take 4 rfl (by kernel_rfl) (by kernel_rfl) (by kernel_rfl) ?_; (repeat (first | refine TL_move (hk := ?_) | refine TLP_load TE (hk := ?_) | refine TL_fieldAddr TE (hk := ?_) | refine TL_nilCheck (hk := ?_))); refine TL_nil_p ?_); (refine TA_take 5 rfl (by kernel_rfl) (by kernel_rfl) (by kernel_rfl) ?_; (repeat (first | refine TL_move (hk := ?_) | refine TLP_load TE (hk := ?_) | refine TL_fieldAddr TE (hk := ?_) | refine TL_nilCheck (hk := ?_))); refine TL_nil_p ?_)
          refine TA_one 6 rfl (by kernel_rfl) (by kernel_rfl) ?_
          refine TL_makeSlice TE (m := c) (hf := rfl) (hq := fun w' e => Ext.un e) (hk := ?_); intro b9 w9 e9 p9 p9' k9
          rw [rowF_rep] at k9
          refine TL_nil_p ?_
          refine TA_one 7 rfl (by kernel_rfl) (by kernel_rfl) ?_
          refine TL_buildSlice TE (hf := rfl) (hq := fun w' e => Ext.un (e9.ext e)) (hk := ?_); intro b10 w10 e10 p10 p10' k10
          have r10 : Rd w10 (some ⟨b10, 0, none⟩) 1 1 [slV (some ⟨b9, 0, none⟩, c, c)] := Rd.blk k10 rfl
          have z9 := e9.size
          have z10 := e10.size
          have z2x := M27.size
          refine TL_nil_p ?_
          refine TA_one 8 rfl (by kernel_rfl) (by kernel_rfl) ?_
          refine TL_append TE (ho := (o28.be e9).be e10) (hr := r10) (h1 := slVs_one [(some ⟨b9, 0, none⟩, c, c)]) (hf := rfl) (hq := fun w' m => (Ext.un (e9.ext e10)).trans m) (hk := ?_); intro A11 c11 w11 o11 m11 n11
          have k11 := ((k8.be e9).be e10).mod m11 hp4'
          refine TL_nil_p ?_
          (refine TA_one 9 rfl (by kernel_rfl) (by kernel_rfl) ?_; (repeat (first | refine TL_fieldAddr TE (hk := ?_) | refine TL_nilCheck (hk := ?_))); refine TL_nil_p ?_); (refine TA_one 10 rfl (by kernel_rfl) (by kernel_rfl) ?_; (repeat (first | refine TL_fieldAddr TE (hk := ?_) | refine TL_nilCheck (hk := ?_))); refine TL_nil_p ?_)
          refine TA_one 11 rfl (by kernel_rfl) (by kernel_rfl) ?_
          refine TL_store TE (hb := k11) (hf := rfl) (hq := fun _ _ _ => trivial) (hk := ?_); intro w12 m12 z12 k12
          refine TL_nil_z (by kernel_rfl) ?_
          have z11 := m11.size
          have z78 := e8.size
          have hA11 : ∀ b ∈ blkL A11, b ∈ blkL M.s2.1 ∨ w10.heap.size ≤ b := fun b hb => Near.blk n11 b hb
          have hpA11 : ∀ b ∈ blkL A11, b ∉ [p] := fun b hb q => by
            rw [List.mem_singleton] at q
            rcases hA11 b hb with h1 | h1
            · exact hp4' (q ▸ h1)
            · omega
          have o12 := o11.modL m12 hpA11
          have M712 : Eng.Mod (p :: blkL M.s2.1) w7 w12 := ((((e8.ext e9).ext e10).mono (S' := p :: blkL M.s2.1) (by simp)).step m11 (fun b hb => .inl (List.mem_cons_of_mem _ hb))).step m12 (fun b hb => .inl (by rw [List.mem_singleton.1 hb]; exact List.mem_cons_self))
          have M912 : Eng.Mod (p :: blkL M.s2.1) w9 w12 := ((e10.mono (S' := p :: blkL M.s2.1) (by simp)).step m11 (fun b hb => .inl (List.mem_cons_of_mem _ hb))).step m12 (fun b hb => .inl (by rw [List.mem_singleton.1 hb]; exact List.mem_cons_self))
          have hS2 : ∀ b ∈ p :: blkL M.s2.1, h b = 1 ∨ h b = 14 := fun b hb => by
            rcases List.mem_cons.1 hb with rfl | hb
            · exact .inl g.hp
            · exact .inr (g.h14 b hb)
          have hl22 : ∀ b ∈ p :: blkL M.s2.1, b < w2.heap.size := fun b hb => by
            rcases List.mem_cons.1 hb with rfl | hb
            · exact hbw.2
            · exact (g.o2.bl b hb).2
          have o7' := o7.modL M712 (fun b hb q => by
            rcases hA6 b hb with h1 | h1
            · have := g.h11 b h1; rcases hS2 b q with h | h <;> omega
            · have := hl22 b q; omega)
          have o47' := o47.modL M712 (fun b hb q => by have := hl22 b q; have := (o4.bl b hb).1; omega)
          have q9 : Own w12 w.heap.size 3 1 (some ⟨b9, 0, none⟩) c c (rowF c fun _ => .int .i64 0) := Own.of_blk (k9.mod M912 (fun q => by have := hl22 b9 q; omega)) (by omega) (by simp) (by unfold maxLen; omega)
          have hr1 : (rowF c ev) = rowF c fun x => if x < c then ev x else .pointer none := rowF_cong fun x hx => (if_pos hx).symm
          obtain ⟨h', g'⟩ := g.row (s1 := (A6, M.s1.2.1 + 1, c6)) (s2 := (A11, M.s2.2.1 + 1, c11)) (r1 := (some ⟨b3, 0, none⟩, c, c)) (r2 := (some ⟨b9, 0, none⟩, c, c)) (ev := ev) (f := f)
            (G := updF (updF (updF (updF G [b3] 2) (blkL A6) 11) [b9] (3 + i)) (blkL A11) 14) (S := (p :: blkL M.s1.1) ++ (p :: blkL M.s2.1)) hy (by omega)
            ((M27.mono (fun b hb => .inl (List.mem_append_left _ hb))).step M712 (fun b hb => .inl (List.mem_append_right _ hb)))
            (fun b hb => by
              rcases List.mem_append.1 hb with hb | hb
              · rcases List.mem_cons.1 hb with rfl | hb
                · exact .inl g.hp
                · exact .inr (.inl (g.h11 b hb))
              · exact (hS2 b hb).imp id .inr)
            k12 o7' (by rw [show (nsN c W' P').N = c from rfl, hr1]; exact o47'.rd) o12 q9 (fun x hx => by
              have := LayP.qm (hq7 x hx).1 M712 (fun b hb => by
                by_cases y : f x b = 0
                · exact y
                · have := (hq7 x hx).2 b y; have := hG4 b (by omega); have := hl22 b hb; omega)
              unfold LayP QP at this ⊢
              simp only at this ⊢
              split
              · rename_i q; rw [if_pos q] at this; exact this
              · rename_i q; rw [if_neg q] at this
                obtain ⟨bs, q', m, a1, a2, a3⟩ := this
                exact ⟨bs, q', m, by omega, a2, a3⟩)
            (fun b hb => by
              by_cases a1 : b ∈ blkL A11
              · have := (o12.bl b a1); omega
              rw [updF_out a1] at hb
              by_cases a2 : b ∈ [b9]
              · rw [List.mem_singleton.1 a2]; have := M912.size; omega
              rw [updF_out a2] at hb
              by_cases a3 : b ∈ blkL A6
              · have := o7'.bl b a3; omega
              rw [updF_out a3] at hb
              by_cases a4 : b ∈ [b3]
              · rw [List.mem_singleton.1 a4]; have := M912.size; omega
              rw [updF_out a4] at hb
              have := hG4 b hb; have := M912.size; omega)
            (fun b hb => by
              rcases hA6 b hb with q | q
              · exact .inl q
              · right
                refine ⟨by omega, ?_⟩
                have h1 := o7.bl b hb
                rw [updF_out (fun y => by rcases hA11 b y with u | u <;> first | (have := g.o2.bl b u; omega) | omega), updF_out (fun y => by rw [List.mem_singleton.1 y] at h1; omega), updF_in hb])
            (fun b hb => by
              rcases hA11 b hb with q | q
              · exact .inl q
              · exact .inr ⟨by omega, updF_in hb⟩)
            (fun b hb => by
              obtain rfl : b = b3 := by simpa [blkL] using hb
              refine ⟨p3, ?_⟩
              rw [updF_out (fun y => by rcases hA11 b y with u | u <;> first | (have := g.o2.bl b u; omega) | omega), updF_out (fun y => by rw [List.mem_singleton] at y; omega), updF_out (fun y => by rcases hA6 b y with u | u <;> first | (have := g.o1.bl b u; omega) | omega), updF_in (by simp)])
            (fun b hb => by
              obtain rfl : b = b9 := by simpa [blkL] using hb
              refine ⟨by omega, ?_⟩
              rw [updF_out (fun y => by rcases hA11 b y with u | u <;> first | (have := g.o2.bl b u; omega) | omega), updF_in (by simp)])
            (fun x hx b hb => by
              have a0 := (hq7 x hx).2 b hb
              have a1 := hG4 b (by omega)
              refine ⟨by omega, ?_⟩
              rw [updF_out (fun y => by rcases hA11 b y with u | u <;> first | (have := g.o2.bl b u; omega) | omega), updF_out (fun y => by rw [List.mem_singleton] at y; omega), updF_out (fun y => by rcases hA6 b y with u | u <;> first | (have := g.o1.bl b u; omega) | omega), updF_out (fun y => by rw [List.mem_singleton] at y; omega)]
              exact a0)
          have eW : Ext w w12 := Mod.step (e2.step M27 (fun b hb => .inr (by
            rcases List.mem_cons.1 hb with rfl | hb
            · exact p1
            · exact (g.o1.bl b hb).1))) M712 (fun b hb => .inr (by
            rcases List.mem_cons.1 hb with rfl | hb
            · exact p1
            · exact (g.o2.bl b hb).1))
          repeat (first | refine T_region ?_ | refine T_inBlock ?_ | refine TL_add (hk := ?_) | refine TL_nil ?_ | refine TL_move (hk := ?_))
          exact ih (i + 1) _ _ (by omega) ⟨by omega, eW, .inr ⟨W', P', rfl, rfl, hW', hP', { M with s1 := (A6, M.s1.2.1 + 1, c6), s2 := (A11, M.s2.2.1 + 1, c11), r1 := upd M.r1 i (some ⟨b3, 0, none⟩, c, c), r2 := upd M.r2 i (some ⟨b9, 0, none⟩, c, c), ev := fun a c => if a = i then ev c else M.ev a c }, _, h', hy, hs3, g'⟩⟩ (.c rfl (.c rfl (.c rfl (.c rfl (.c rfl (.c rfl (.c rfl (.n))))))))
      · obtain rfl : i = n := by omega
        rcases hst with ⟨h0, -⟩ | ⟨W', P', rfl, rfl, hW', hP', M, F, h, -, -, g⟩
        · omega
        · clear ih
          repeat (first | refine T_seq ?_ | refine T_region ?_ | refine T_cond_false rfl ?_ | refine T_exit rfl ?_ | refine TL_lt_f (hk := ?_) | refine TL_nil ?_ | refine TL_move (hk := ?_) | refine TL_assign (hk := ?_))
          refine T_ret2 rfl rfl rfl ⟨e2, .inr ⟨i, W', P', rfl, rfl, rfl, hn.1, hn.2, hW', hP', ?_, p, M, F, h, rfl, g⟩⟩
          unfold goodE
          rw [decide_eq_true_eq]
          omega
    · rw [show (decide (2 ≤ N ∧ N ≤ 8)) = false from decide_eq_false (fun q => h2 q.2)]
      repeat (first | refine T_seq ?_ | refine T_region ?_ | refine T_cond_true rfl ?_ | refine TL_lt_f (hk := ?_) | refine TL_gt_t (hk := ?_) | refine TL_nil ?_ | refine TL_move (hk := ?_) | refine TL_assign (hk := ?_) | refine TL_yes (hk := ?_) | refine TL_pick_f (hk := ?_))
      exact T_ret2 rfl rfl rfl ⟨Mod.refl _ _, .inl ⟨rfl, rfl⟩⟩
  · rw [show (decide (2 ≤ N ∧ N ≤ 8)) = false from decide_eq_false (fun q => h1 q.1)]
    repeat (first | refine T_seq ?_ | refine T_region ?_ | refine T_cond_true rfl ?_ | refine TL_lt_t (hk := ?_) | refine TL_nil ?_ | refine TL_move (hk := ?_) | refine TL_assign (hk := ?_) | refine TL_no (hk := ?_) | refine TL_pick_t (hk := ?_))
    exact T_ret2 rfl rfl rfl ⟨Mod.refl _ _, .inl ⟨rfl, rfl⟩⟩
end Go.Proofs.Ytjjgojgahibpgaa

namespace Go.Proofs.Ytjjgojgahibpgaa
open Go.RowKit Go.Proofs.Eng Go.Proofs.Codec Go.Proofs.Link
set_option linter.unusedSimpArgs false
set_option linter.unusedVariables false set_option maxRecDepth 10000
attribute [local irreducible] T TL LV TH TA
set_option maxHeartbeats 3200000
theorem cutA_zero (A : Option Addr) (c s : Nat) : cutA A c 0 s = A := by
  unfold cutA
  split
  · rfl
  · cases A with
    | none => rfl
    | some a => simp [Addr.add]
section
variable {base p : Nat} {M : NM} {F : Nat → Nat → Nat → Nat} {h : Nat → Nat} {ns : NS} {k : Nat} {L : LL} {U : Nat → Nat → Nat}
theorem NetG.kR {R : Nat} {w : World} (g : NetG LayR R w base p M F h ns) : Blk w p 101 [slV M.s1, slV M.s2, slV M.s3, .int .i64 (ns.pat : Int)] := g.blk
theorem Rtwo_c (a c : Int) (w : World) (g : NetG LayR ns.N w base p M F h ns) : Ret Try.prog 104 [ptr p, .int .i64 a, .int .i64 c] w (fun v w' => v = .bool (twoN ns a c) ∧ w' = w) := by
  have hk := g.kR
  have hl := g.l1
  unfold twoN
  refine ret_T (n := 36) Try.func104 rfl rfl ?_
  by_cases h1 : 0 ≤ a
  · by_cases h3 : a < (ns.N : Int)
    · have h3' : a < ((M.s1.2.1 : Nat) : Int) := by omega
      by_cases h2 : 0 ≤ c
      · by_cases h4 : c < (ns.N : Int)
        · have h4' : c < ((M.s1.2.1 : Nat) : Int) := by omega
          by_cases h5 : a = c
          · repeat (first | refine T_seq ?_ | refine T_region ?_ | refine TL_lt_t (hk := ?_) | refine TL_ge_t (hk := ?_) | refine TL_ne_f (hk := ?_) | refine TL_nil ?_ | refine TL_move (hk := ?_) | refine TL_assign (hk := ?_) | refine TL_load TE (hk := ?_) | refine TL_fieldAddr TE (hk := ?_) | refine TL_len TE (hk := ?_) | refine TL_yes (hk := ?_) | refine TL_pick_t (hk := ?_) | refine TL_nilCheck (hk := ?_))
            exact T_ret1 rfl rfl ⟨by simp [h5], rfl⟩
          · repeat (first | refine T_seq ?_ | refine T_region ?_ | refine TL_lt_t (hk := ?_) | refine TL_ge_t (hk := ?_) | refine TL_ne_t (hk := ?_) | refine TL_nil ?_ | refine TL_move (hk := ?_) | refine TL_assign (hk := ?_) | refine TL_load TE (hk := ?_) | refine TL_fieldAddr TE (hk := ?_) | refine TL_len TE (hk := ?_) | refine TL_yes (hk := ?_) | refine TL_pick_t (hk := ?_) | refine TL_nilCheck (hk := ?_))
            exact T_ret1 rfl rfl ⟨by simp [h1, h2, h3, h4, h5], rfl⟩
        · have h4' : ¬ c < ((M.s1.2.1 : Nat) : Int) := by omega
          repeat (first | refine T_seq ?_ | refine T_region ?_ | refine TL_lt_t (hk := ?_) | refine TL_lt_f (hk := ?_) | refine TL_ge_t (hk := ?_) | refine TL_nil ?_ | refine TL_move (hk := ?_) | refine TL_assign (hk := ?_) | refine TL_load TE (hk := ?_) | refine TL_fieldAddr TE (hk := ?_) | refine TL_len TE (hk := ?_) | refine TL_yes (hk := ?_) | refine TL_no (hk := ?_) | refine TL_pick_t (hk := ?_) | refine TL_pick_f (hk := ?_) | refine TL_nilCheck (hk := ?_))
          exact T_ret1 rfl rfl ⟨by simp [h4], rfl⟩
      · repeat (first | refine T_seq ?_ | refine T_region ?_ | refine TL_lt_t (hk := ?_) | refine TL_ge_t (hk := ?_) | refine TL_ge_f (hk := ?_) | refine TL_nil ?_ | refine TL_move (hk := ?_) | refine TL_assign (hk := ?_) | refine TL_load TE (hk := ?_) | refine TL_fieldAddr TE (hk := ?_) | refine TL_len TE (hk := ?_) | refine TL_yes (hk := ?_) | refine TL_no (hk := ?_) | refine TL_pick_t (hk := ?_) | refine TL_pick_f (hk := ?_) | refine TL_nilCheck (hk := ?_))
        exact T_ret1 rfl rfl ⟨by simp [h2], rfl⟩
    · have h3' : ¬ a < ((M.s1.2.1 : Nat) : Int) := by omega
      repeat (first | refine T_seq ?_ | refine T_region ?_ | refine TL_lt_f (hk := ?_) | refine TL_ge_t (hk := ?_) | refine TL_nil ?_ | refine TL_move (hk := ?_) | refine TL_assign (hk := ?_) | refine TL_load TE (hk := ?_) | refine TL_fieldAddr TE (hk := ?_) | refine TL_len TE (hk := ?_) | refine TL_yes (hk := ?_) | refine TL_no (hk := ?_) | refine TL_pick_t (hk := ?_) | refine TL_pick_f (hk := ?_) | refine TL_nilCheck (hk := ?_))
      exact T_ret1 rfl rfl ⟨by simp [h3], rfl⟩
  · repeat (first | refine T_seq ?_ | refine T_region ?_ | refine TL_ge_f (hk := ?_) | refine TL_nil ?_ | refine TL_move (hk := ?_) | refine TL_assign (hk := ?_) | refine TL_no (hk := ?_) | refine TL_pick_f (hk := ?_))
    exact T_ret1 rfl rfl ⟨by simp [h1], rfl⟩
theorem RNSend_c (a c : Int) (B : Option Addr) (n cc : Nat) (l : Bs) (w : World) (g : NetG LayR ns.N w base p M F h ns) (hI : NI k ns L U) (hr : Rd w B n 1 (bv l)) (hn : n ≤ 70368744177664) :
    Ret Try.prog 78 [ptr p, .int .i64 a, .int .i64 c, .slice B n cc] w (fun v w' => v = .int .i64 ((sendX ns a c l).2 : Int) ∧ ∃ F' h', NetG LayR ns.N w' base p M F' h' (sendX ns a c l).1 ∧ Tn h h' w w') := by
  have hk := g.kR
  have hl := g.l1
  have hcn := g.nn
  unfold sendX
  refine ret_T (n := 26) Try.func78 rfl rfl ?_
  repeat (first | refine T_seq ?_ | refine T_region ?_ | refine TL_nil ?_ | refine TL_move (hk := ?_) | refine TL_assign (hk := ?_))
  refine TL_call TE (hc := Rtwo_c a c _ g) (hk := ?_)
  rintro _ _ ⟨rfl, rfl⟩
  by_cases h1 : twoN ns a c = true
  · obtain ⟨x, y, rfl, rfl, hx, hy, hxy⟩ := twoN_nat h1
    obtain ⟨bs, q, m, hbs, hv, hE⟩ := g.en x y hx hy
    have r1 := g.o1.rd
    have hv1 := rowF_get (fun a => slV (M.r1 a)) hx
    have r2 := g.q1 x hx
    have hv2 := rowF_get (M.ev x) hy
    rw [hv] at hv2
    have hlx := (g.lr hx).1
    have hs1 := (hI.win hx hy).nl
    rw [h1, if_pos rfl]
    simp only [Int.toNat_natCast]
    repeat (first | refine T_seq ?_ | refine T_region ?_ | refine T_cond_false rfl ?_ | refine T_skip ?_ | refine TL_nil ?_ | refine TL_move (hk := ?_) | refine TL_load TE (hk := ?_) | refine TL_load_rd TE (hk := ?_) | refine TL_fieldAddr TE (hk := ?_) | refine TL_indexAddr1n TE (hk := ?_) | refine TL_nilCheck (hk := ?_) | refine TL_not (hk := ?_))
    refine TL_call TE (hc := RSend_c B n cc l _ hE hs1 hr hn) (hk := ?_)
    rintro _ w1 ⟨rfl, m1, f1, h1, t1⟩
    obtain ⟨h', g', t', -, -⟩ := g.end_ (f' := f1) (es' := (sendE (ns.E x y) l).1) hx hy (by rw [hv]; exact ⟨bs, q, m1, hbs, rfl, h1⟩) t1
    repeat (first | refine TL_nil ?_ | refine TL_assign (hk := ?_))
    exact T_ret1 rfl rfl ⟨rfl, _, h', g', t'⟩
  · have h1 : twoN ns a c = false := by simpa using h1
    rw [h1, if_neg (by decide)]
    repeat (first | refine T_seq ?_ | refine T_region ?_ | refine T_cond_true rfl ?_ | refine TL_nil ?_ | refine TL_assign (hk := ?_) | refine TL_not (hk := ?_))
    exact T_ret1 rfl rfl ⟨rfl, F, h, g, Tn.refl _ _⟩
theorem RNPart_c (a c : Int) (v : Bool) (w : World) (g : NetG LayR ns.N w base p M F h ns) :
    Ret Try.prog 83 [ptr p, .int .i64 a, .int .i64 c, .bool v] w (fun u w' => u = .bool (partX ns a c v).2 ∧ NetG LayR ns.N w' base p M F h (partX ns a c v).1 ∧ Tn h h w w') := by
  have hk := g.kR
  have hl2 := g.l2
  unfold partX
  refine ret_T (n := 48) Try.func83 rfl rfl ?_
  repeat (first | refine T_seq ?_ | refine T_region ?_ | refine TL_nil ?_ | refine TL_move (hk := ?_) | refine TL_assign (hk := ?_))
  refine TL_call TE (hc := Rtwo_c a c _ g) (hk := ?_)
  rintro _ w ⟨rfl, rfl⟩
  by_cases h1 : twoN ns a c = true
  · obtain ⟨x, y, rfl, rfl, hx, hy, hxy⟩ := twoN_nat h1
    have r1 := g.o2.rd
    have hv1 := rowF_get (fun a => slV (M.r2 a)) hx
    have hv1' := rowF_get (fun a => slV (M.r2 a)) hy
    have r2 := (g.q2 x hx).rd
    have hv2 := rowF_get (fun c => LayR.pv (ns.P x c)) hy
    have hlx := (g.lr hx).2
    have hly := (g.lr hy).2
    rw [show LayR.pv (ns.P x y) = (.bool (ns.P x y) : Value) from rfl] at hv2
    rw [h1]
    simp only [Int.toNat_natCast]
    by_cases h2 : ns.P x y = v
    · have hbq : (ns.P x y == v) = true := by simp [h2]
      rw [if_neg (fun q => q.2 h2)]
      repeat (first | refine TL_beq TE (hk := ?_) | refine TL_nil ?_ | refine TL_move (hk := ?_) | refine TL_load TE (hk := ?_) | refine TL_load_rd TE (hk := ?_) | refine TL_fieldAddr TE (hk := ?_) | refine TL_indexAddr1n TE (hk := ?_) | refine TL_yes (hk := ?_) | refine TL_pick_f (hk := ?_) | refine TL_nilCheck (hk := ?_) | refine TL_not (hk := ?_))
      rw [hbq]
      repeat (first | refine T_seq ?_ | refine T_region ?_ | refine T_cond_true rfl ?_ | refine TL_nil ?_ | refine TL_assign (hk := ?_))
      exact T_ret1 rfl rfl ⟨rfl, g, Tn.refl _ _⟩
    · have hbq : (ns.P x y == v) = false := by simpa using h2
      rw [if_pos ⟨trivial, h2⟩]
      have hrn := g.nn
      repeat (first | refine TL_beq TE (hk := ?_) | refine TL_nil ?_ | refine TL_move (hk := ?_) | refine TL_load TE (hk := ?_) | refine TL_load_rd TE (hk := ?_) | refine TL_fieldAddr TE (hk := ?_) | refine TL_indexAddr1n TE (hk := ?_) | refine TL_yes (hk := ?_) | refine TL_pick_f (hk := ?_) | refine TL_nilCheck (hk := ?_) | refine TL_not (hk := ?_))
      rw [hbq]
      repeat (first | refine T_seq ?_ | refine T_region ?_ | refine T_cond_false rfl ?_ | refine T_skip ?_ | refine TL_move (hk := ?_) | refine TL_load TE (hk := ?_) | refine TL_load_rd TE (hk := ?_) | refine TL_fieldAddr TE (hk := ?_) | refine TL_indexAddr1n TE (hk := ?_) | refine TL_nilCheck (hk := ?_))
      refine TL_store_own TE (ho := g.q2 x hx) (hj := by rw [rowF_len]; exact hy) (hk := ?_); intro w2 m2 z2 o2
      rw [show (Value.bool v) = LayR.pv v from rfl, rowF_upd (P' := fun c => upd2 ns.P x y v x c) (fun c => by
        by_cases e : c = y
        · subst e; rw [upd2_at, if_pos rfl]
        · rw [upd2_ne _ _ (fun q => e q.2), if_neg e])] at o2
      obtain ⟨g2, t2⟩ := g.cell hx (P' := upd2 ns.P x y v) (fun x' c e => upd2_ne _ _ (fun q => e q.1)) m2 o2
      have o2y := g2.q2 y hy
      have hk2 := g2.kR
      have r12 := g2.o2.rd
      simp only at o2y hk2 r12
      clear r1 r2 hk
      repeat (first | refine T_seq ?_ | refine T_region ?_ | refine TL_nil ?_ | refine TL_move (hk := ?_) | refine TL_load TE (hk := ?_) | refine TL_load_rd TE (hk := ?_) | refine TL_fieldAddr TE (hk := ?_) | refine TL_indexAddr1n TE (hk := ?_) | refine TL_nilCheck (hk := ?_))
      refine TL_store_own TE (ho := o2y) (hj := by rw [rowF_len]; exact hx) (hk := ?_); intro w3 m3 z3 o3
      rw [show (Value.bool v) = LayR.pv v from rfl, rowF_upd (P' := fun c => upd2 (upd2 ns.P x y v) y x v y c) (fun c => by
        by_cases e : c = x
        · subst e; rw [upd2_at, if_pos rfl]
        · rw [upd2_ne _ _ (fun q => e q.2), if_neg e])] at o3
      obtain ⟨g3, t3⟩ := g2.cell hy (P' := upd2 (upd2 ns.P x y v) y x v) (fun x' c e => upd2_ne _ _ (fun q => e q.1)) m3 o3
      repeat (first | refine T_seq ?_ | refine T_region ?_ | refine TL_nil ?_ | refine TL_assign (hk := ?_))
      exact T_ret1 rfl rfl ⟨rfl, g3, t2.trans t3⟩
  · have h1 : twoN ns a c = false := by simpa using h1
    rw [h1, if_neg (fun q => by cases q.1)]
    repeat (first | refine T_seq ?_ | refine T_region ?_ | refine T_cond_true rfl ?_ | refine TL_nil ?_ | refine TL_move (hk := ?_) | refine TL_assign (hk := ?_) | refine TL_no (hk := ?_) | refine TL_pick_t (hk := ?_) | refine TL_not (hk := ?_))
    exact T_ret1 rfl rfl ⟨rfl, g, Tn.refl _ _⟩
theorem RNDrop_c (i : Int) (w : World) (g : NetG LayR ns.N w base p M F h ns) (hI : NI k ns L U) :
    Ret Try.prog 81 [ptr p, .int .i64 i] w (fun v w' => v = .bool (dropX ns i).2 ∧ ∃ M' F' h', NetG LayR ns.N w' base p M' F' h' (dropX ns i).1 ∧ Tn h h' w w' ∧ (∃ S, Eng.Mod S w w' ∧ ∀ b ∈ S, h b = 1 ∨ h b = 12) ∧ F' = F ∧ ∀ b, h b = 0 → b < w.heap.size → h' b = 0) := by
  have hk := g.kR
  have hb0 : ∀ b, h b ≠ 0 → b < w.heap.size := fun b hb => (g.old b hb).2
  have hbw := g.bw
  have hwl := hI.wl
  obtain ⟨hl1, hl2⟩ := g.l3
  unfold dropX
  refine ret_T (n := 35) Try.func81 rfl rfl ?_
  by_cases h1 : inN ns.way.length i = true
  · obtain ⟨x, rfl, hx⟩ := inN_nat h1
    have hc : (x : Int) + 1 = ((x + 1 : Nat) : Int) := by omega
    have h0 : (0 : Int) ≤ (x : Int) := by omega
    have hxs : ((x : Nat) : Int) < ((M.s3.2.1 : Nat) : Int) := by omega
    have hcap := g.o3.cap
    have hDn : p ∉ ([] : List Nat) := by simp
    rw [if_pos h1]
    simp only [Int.toNat_natCast]
    repeat (first | refine T_seq ?_ | refine T_region ?_ | refine T_cond_false rfl ?_ | refine T_skip ?_ | refine TL_lt_f (hk := ?_) | refine TL_ge_f (hk := ?_) | refine TL_nil ?_ | refine TL_move (hk := ?_) | refine TL_assign (hk := ?_) | refine TL_load TE (hk := ?_) | refine TL_fieldAddr TE (hk := ?_) | refine TL_len TE (hk := ?_) | refine TL_yes (hk := ?_) | refine TL_pick_f (hk := ?_) | refine TL_nilCheck (hk := ?_))
    refine T_region_anyz TE.mixed [] (some 19) ?_; intro w1 e1 z1
    have g1 := g.ext e1
    have hk1 := hk.be e1
    (refine TA_take 0 rfl (by kernel_rfl) (by kernel_rfl) (by kernel_rfl) ?_; (repeat (first | refine TL_add (hk := ?_) | refine TL_move (hk := ?_) | refine TLP_load TE (hk := ?_) | refine TL_fieldAddr TE (hk := ?_) | refine TL_nilCheck (hk := ?_) | refine TL_slice_hi TE (hk := ?_) | refine TL_slice_lo TE (hk := ?_))); refine TL_nil_p ?_); (refine TA_take 2 rfl (by kernel_rfl) (by kernel_rfl) (by kernel_rfl) ?_; (repeat (first | refine TL_add (hk := ?_) | refine TL_move (hk := ?_) | refine TLP_load TE (hk := ?_) | refine TL_fieldAddr TE (hk := ?_) | refine TL_nilCheck (hk := ?_) | refine TL_slice_hi TE (hk := ?_) | refine TL_slice_lo TE (hk := ?_))); refine TL_nil_p ?_); (refine TA_take 3 rfl (by kernel_rfl) (by kernel_rfl) (by kernel_rfl) ?_; (repeat (first | refine TL_add (hk := ?_) | refine TL_move (hk := ?_) | refine TLP_load TE (hk := ?_) | refine TL_fieldAddr TE (hk := ?_) | refine TL_nilCheck (hk := ?_) | refine TL_slice_hi TE (hk := ?_) | refine TL_slice_lo TE (hk := ?_))); refine TL_nil_p ?_); (refine TA_take 4 rfl (by kernel_rfl) (by kernel_rfl) (by kernel_rfl) ?_; (repeat (first | refine TL_add (hk := ?_) | refine TL_move (hk := ?_) | refine TLP_load TE (hk := ?_) | refine TL_fieldAddr TE (hk := ?_) | refine TL_nilCheck (hk := ?_) | refine TL_slice_hi TE (hk := ?_) | refine TL_slice_lo TE (hk := ?_))); refine TL_nil_p ?_); (refine TA_take 5 rfl (by kernel_rfl) (by kernel_rfl) (by kernel_rfl) ?_; (repeat (first | refine TL_add (hk := ?_) | refine TL_move (hk := ?_) | refine TLP_load TE (hk := ?_) | refine TL_fieldAddr TE (hk := ?_) | refine TL_nilCheck (hk := ?_) | refine TL_slice_hi TE (hk := ?_) | refine TL_slice_lo TE (hk := ?_))); refine TL_nil_p ?_); (refine TA_take 6 rfl (by kernel_rfl) (by kernel_rfl) (by kernel_rfl) ?_; (repeat (first | refine TL_add (hk := ?_) | refine TL_move (hk := ?_) | refine TLP_load TE (hk := ?_) | refine TL_fieldAddr TE (hk := ?_) | refine TL_nilCheck (hk := ?_) | refine TL_slice_hi TE (hk := ?_) | refine TL_slice_lo TE (hk := ?_))); refine TL_nil_p ?_); (refine TA_take 7 rfl (by kernel_rfl) (by kernel_rfl) (by kernel_rfl) ?_; (repeat (first | refine TL_add (hk := ?_) | refine TL_move (hk := ?_) | refine TLP_load TE (hk := ?_) | refine TL_fieldAddr TE (hk := ?_) | refine TL_nilCheck (hk := ?_) | refine TL_slice_hi TE (hk := ?_) | refine TL_slice_lo TE (hk := ?_))); refine TL_nil_p ?_); (refine TA_take 9 rfl (by kernel_rfl) (by kernel_rfl) (by kernel_rfl) ?_; (repeat (first | refine TL_add (hk := ?_) | refine TL_move (hk := ?_) | refine TLP_load TE (hk := ?_) | refine TL_fieldAddr TE (hk := ?_) | refine TL_nilCheck (hk := ?_) | refine TL_slice_hi TE (hk := ?_) | refine TL_slice_lo TE (hk := ?_))); refine TL_nil_p ?_); (refine TA_take 10 rfl (by kernel_rfl) (by kernel_rfl) (by kernel_rfl) ?_; (repeat (first | refine TL_add (hk := ?_) | refine TL_move (hk := ?_) | refine TLP_load TE (hk := ?_) | refine TL_fieldAddr TE (hk := ?_) | refine TL_nilCheck (hk := ?_) | refine TL_slice_hi TE (hk := ?_) | refine TL_slice_lo TE (hk := ?_))); refine TL_nil_p ?_); (refine TA_take 11 rfl (by kernel_rfl) (by kernel_rfl) (by kernel_rfl) ?_; (repeat (first | refine TL_add (hk := ?_) | refine TL_move (hk := ?_) | refine TLP_load TE (hk := ?_) | refine TL_fieldAddr TE (hk := ?_) | refine TL_nilCheck (hk := ?_) | refine TL_slice_hi TE (hk := ?_) | refine TL_slice_lo TE (hk := ?_))); refine TL_nil_p ?_); (refine TA_take 12 rfl (by kernel_rfl) (by kernel_rfl) (by kernel_rfl) ?_; (repeat (first | refine TL_add (hk := ?_) | refine TL_move (hk := ?_) | refine TLP_load TE (hk := ?_) | refine TL_fieldAddr TE (hk := ?_) | refine TL_nilCheck (hk := ?_) | refine TL_slice_hi TE (hk := ?_) | refine TL_slice_lo TE (hk := ?_))); refine TL_nil_p ?_); (refine TA_take 13 rfl (by kernel_rfl) (by kernel_rfl) (by kernel_rfl) ?_; (repeat (first | refine TL_add (hk := ?_) | refine TL_move (hk := ?_) | refine TLP_load TE (hk := ?_) | refine TL_fieldAddr TE (hk := ?_) | refine TL_nilCheck (hk := ?_) | refine TL_slice_hi TE (hk := ?_) | refine TL_slice_lo TE (hk := ?_))); refine TL_nil_p ?_); (refine TA_take 14 rfl (by kernel_rfl) (by kernel_rfl) (by kernel_rfl) ?_; (repeat (first | refine TL_add (hk := ?_) | refine TL_move (hk := ?_) | refine TLP_load TE (hk := ?_) | refine TL_fieldAddr TE (hk := ?_) | refine TL_nilCheck (hk := ?_) | refine TL_slice_hi TE (hk := ?_) | refine TL_slice_lo TE (hk := ?_))); refine TL_nil_p ?_); (refine TA_take 15 rfl (by kernel_rfl) (by kernel_rfl) (by kernel_rfl) ?_; (repeat (first | refine TL_add (hk := ?_) | refine TL_move (hk := ?_) | refine TLP_load TE (hk := ?_) | refine TL_fieldAddr TE (hk := ?_) | refine TL_nilCheck (hk := ?_) | refine TL_slice_hi TE (hk := ?_) | refine TL_slice_lo TE (hk := ?_))); refine TL_nil_p ?_)
    refine TA_one 1 rfl (by kernel_rfl) (by kernel_rfl) ?_
    refine TL_buildSlice0 TE (hf := rfl) (hq := fun w' e => e) (hk := ?_); intro b2 w2 e2 p2 p2' k2
    have o2 : Own w2 base 103 3 (some ⟨b2, 0, none⟩) 0 0 (rowV pkV []) := Own.of_blk k2 (by omega) rfl (by decide)
    have r12 : Rd w2 M.s3.1 x 3 (rowV pkV (M.y.take x)) := by
      have := Rd.cut (l := 0) (h := x) (c := M.s3.2.2) (g1.o3.be e2).rd (by omega) (by omega) hcap.1
      simp only [Nat.zero_mul, List.drop_zero, Nat.sub_zero] at this
      rw [rowV_take pkV_len] at this
      simpa [cutA_zero] using this
    refine TL_nil_p ?_
    refine TA_one 8 rfl (by kernel_rfl) (by kernel_rfl) ?_
    refine TL_append TE (ho := o2) (hr := r12) (h1 := rowV_one pkV_one _) (hf := rfl) (hq := fun w' m => e2.step m (fun b hb => .inr (by simp [blkL] at hb; omega))) (hk := ?_); intro A3 c3 w3 o3 m3 n3
    rw [← rowV_append, List.nil_append] at o3
    have e3 : Ext w1 w3 := e2.step m3 (fun b hb => .inr (by simp [blkL] at hb; omega))
    have hA3 : ∀ b ∈ blkL A3, w1.heap.size ≤ b := fun b hb => by
      rcases Near.blk n3 b hb with q | q
      · simp [blkL] at q; omega
      · have := e2.size; omega
    have r13 : Rd w3 (cutA M.s3.1 M.s3.2.2 (x + 1) 3) (M.s3.2.1 - (x + 1)) 3 (rowV pkV (M.y.drop (x + 1))) := by
      have := Rd.cut (l := x + 1) (h := M.s3.2.1) (c := M.s3.2.2) (g1.o3.be e3).rd (by omega) (Nat.le_refl _) hcap.1
      rwa [rowV_drop pkV_len, List.take_of_length_le (by rw [rowV_len pkV_len, List.length_drop]; omega)] at this
    have z3 := e3.size
    refine TL_nil_p ?_
    refine TA_one 16 rfl (by kernel_rfl) (by kernel_rfl) ?_
    refine TL_append TE (ho := o3) (hr := r13) (h1 := rowV_one pkV_one _) (hf := rfl) (hq := fun w' m => e3.step m (fun b hb => .inr (hA3 b hb))) (hk := ?_); intro A4 c4 w4 o4 m4 n4
    rw [← rowV_append, ← List.eraseIdx_eq_take_drop_succ] at o4
    have e4 : Ext w1 w4 := e3.step m4 (fun b hb => .inr (hA3 b hb))
    have k4 := hk1.be e4
    have hA4 : ∀ b ∈ blkL A4, w1.heap.size ≤ b := fun b hb => by
      rcases Near.blk n4 b hb with q | q
      · exact hA3 b q
      · omega
    refine TL_nil_p ?_
    (refine TA_one 17 rfl (by kernel_rfl) (by kernel_rfl) ?_; (repeat (first | refine TL_fieldAddr TE (hk := ?_) | refine TL_nilCheck (hk := ?_))); refine TL_nil_p ?_); (refine TA_one 18 rfl (by kernel_rfl) (by kernel_rfl) ?_; (repeat (first | refine TL_fieldAddr TE (hk := ?_) | refine TL_nilCheck (hk := ?_))); refine TL_nil_p ?_)
    refine TA_one 19 rfl (by kernel_rfl) (by kernel_rfl) ?_
    refine TL_store TE (hb := k4) (hf := rfl) (hq := fun _ _ _ => trivial) (hk := ?_); intro w5 m5 z5 k5
    refine TL_nil_z (by kernel_rfl) ?_
    have z01 := e1.size
    obtain ⟨h', g', t', hz'⟩ := g1.pull (w0 := w) (s3 := (A4, 0 + x + (M.s3.2.1 - (x + 1)), c4)) x (S := [p]) ((e4.mono (S' := [p]) (by simp)).step m5 (fun b hb => .inl hb)) (fun b hb => by rw [List.mem_singleton.1 hb]; exact .inl g.hp) k5 (o4.modL m5 (fun b hb q => by
      rw [List.mem_singleton] at q
      have := hA4 b hb
      have := g1.bw
      omega)) (fun b hb => .inr (hA4 b hb)) (Tn.ext e1) hb0
    repeat (first | refine T_seq ?_ | refine T_region ?_ | refine TL_nil ?_ | refine TL_assign (hk := ?_))
    exact T_ret1 rfl rfl ⟨rfl, _, F, h', g', t', ⟨[p], ((e1.ext e4).mono (S' := [p]) (by simp)).step m5 (fun b hb => .inl hb), fun b hb => by rw [List.mem_singleton.1 hb]; exact .inl g.hp⟩, rfl, fun b hb hl => hz' b hb (by omega)⟩
  · have h1' : ¬ (0 ≤ i ∧ i < (ns.way.length : Int)) := by unfold inN at h1; simpa using h1
    rw [if_neg h1]
    by_cases h2 : 0 ≤ i
    · have h3 : ((M.s3.2.1 : Nat) : Int) ≤ i := by omega
      repeat (first | refine T_seq ?_ | refine T_region ?_ | refine T_cond_true rfl ?_ | refine TL_lt_f (hk := ?_) | refine TL_ge_t (hk := ?_) | refine TL_nil ?_ | refine TL_move (hk := ?_) | refine TL_assign (hk := ?_) | refine TL_load TE (hk := ?_) | refine TL_fieldAddr TE (hk := ?_) | refine TL_len TE (hk := ?_) | refine TL_yes (hk := ?_) | refine TL_pick_f (hk := ?_) | refine TL_nilCheck (hk := ?_))
      exact T_ret1 rfl rfl ⟨rfl, M, F, h, g, Tn.refl _ _, ⟨[], Mod.refl _ _, fun b hb => by cases hb⟩, rfl, fun b hb _ => hb⟩
    · repeat (first | refine T_seq ?_ | refine T_region ?_ | refine T_cond_true rfl ?_ | refine TL_lt_t (hk := ?_) | refine TL_nil ?_ | refine TL_move (hk := ?_) | refine TL_assign (hk := ?_) | refine TL_no (hk := ?_) | refine TL_pick_t (hk := ?_))
      exact T_ret1 rfl rfl ⟨rfl, M, F, h, g, Tn.refl _ _, ⟨[], Mod.refl _ _, fun b hb => by cases hb⟩, rfl, fun b hb _ => hb⟩
end
end Go.Proofs.Ytjjgojgahibpgaa

namespace Go.Proofs.Ytjjgojgahibpgaa
open Go.RowKit Go.Proofs.Eng Go.Proofs.Codec Go.Proofs.Link
set_option linter.unusedSimpArgs false
set_option linter.unusedVariables false set_option maxRecDepth 10000
attribute [local irreducible] T TL LV TH TA
set_option maxHeartbeats 3200000
section
variable {base p : Nat} {M : NM} {F : Nat → Nat → Nat → Nat} {h : Nat → Nat} {ns : NS} {k : Nat} {L : LL} {U : Nat → Nat → Nat}
theorem RNRest_c (w : World) (g : NetG LayR ns.N w base p M F h ns) (hI : NI k ns L U) : Ret Try.prog 61 [ptr p] w (fun v w' => v = .int .i64 (restN ns : Int) ∧ Ext w w') := by
  have hk0 := g.kR
  have hl := g.l1
  have hcn := g.nn
  have r10 := g.o1.rd
  refine ret_T (n := 56) Try.func61 rfl rfl ?_
  repeat (first | refine T_seq ?_ | refine T_region ?_ | refine T_block ?_ | refine TL_nil ?_ | refine TL_assign (hk := ?_))
  refine T_loop (ι := Nat) (fun i => [(4, .int .i64 (i : Int)), (3, .int .i64 (restA ns i : Int)), (0, ptr p)]) (fun i w' => Ext w w' ∧ i ≤ ns.N) (fun i => ns.N - i) 0 (.c rfl (.c rfl (.c rfl (.n)))) ⟨Mod.refl _ _, Nat.zero_le _⟩ ?_
  rintro i w1 ⟨e1, hi⟩ ih
  have hb1 := restA_le hI i hi
  have hk := hk0.be e1
  have r1 := r10.be e1
  by_cases hlt : i < ns.N
  · have hv1 := rowF_get (fun a => slV (M.r1 a)) hlt
    have hlx := (g.lr hlt).1
    have hb4 := restR_le hI hlt ns.N (Nat.le_refl _)
    have hb5 := Nat.mul_le_mul_right 100000 hcn
    repeat (first | refine T_seq ?_ | refine T_region ?_ | refine T_cond_true rfl ?_ | refine T_block ?_ | refine T_skip ?_ | refine TL_lt_t (hk := ?_) | refine TL_nil ?_ | refine TL_move (hk := ?_) | refine TL_assign (hk := ?_) | refine TL_load TE (hk := ?_) | refine TL_fieldAddr TE (hk := ?_) | refine TL_len TE (hk := ?_) | refine TL_nilCheck (hk := ?_))
    refine T_loop (ι := Nat) (fun j => [(5, .int .i64 (j : Int)), (3, .int .i64 ((restA ns i + restR ns i j : Nat) : Int)), (4, .int .i64 (i : Int)), (0, ptr p)]) (fun j w' => Ext w w' ∧ j ≤ ns.N) (fun j => ns.N - j) 0 (.c rfl (.c rfl (.c rfl (.c rfl (.n))))) ⟨e1, Nat.zero_le _⟩ ?_
    clear hk r1 e1
    rintro j w1 ⟨e1, hj⟩ ih2
    have hk := hk0.be e1
    have r1 := r10.be e1
    have r2 := (g.q1 i hlt).be e1
    have hb2 := restR_le hI hlt j hj
    by_cases hjt : j < ns.N
    · have hv2 := rowF_get (M.ev i) hjt
      have hb3 := restR_le hI hlt (j + 1) (by omega)
      have hb6 : restR ns i (j + 1) = restR ns i j + ((ns.E i j).new.length + (ns.E i j).fly.length) := rfl
      have hb7 := Nat.mul_le_mul_right 100000 (show j + 1 ≤ 8 by omega)
      obtain ⟨bs, q', m, hbs, hv, hE⟩ := g.en i j hlt hjt
      rw [hv] at hv2
      have kE := (hE.ext e1).blk
      unfold rendV at kE
      have l1 := hE.pu.1.len
      have l2 := hE.pu.2.len
      have l3 := hE.pf.1.len
      have l4 := hE.pf.2.len
      rw [slVs_length, Nat.mul_one] at l1
      rw [fv_len] at l3
      have hun : m.un.2.1 = (ns.E i j).new.length := by omega
      have hfl : m.fl.2.1 = (ns.E i j).fly.length := by omega
      have hc : ((restA ns i + restR ns i j : Nat) : Int) + ((m.un.2.1 : Nat) : Int) + ((m.fl.2.1 : Nat) : Int) = ((restA ns i + restR ns i (j + 1) : Nat) : Int) := by omega
      have hcm : restA ns i + restR ns i (j + 1) ≤ 10000000 := by omega
      clear hb1 hb2 hb3 hb4 hb5 hb6 hb7 hun l1 l2 l3 l4
      repeat (first | refine T_seq ?_ | refine T_region ?_ | refine T_region_q TE.mixed (by kernel_rfl) ?_ | refine T_cond_true rfl ?_ | refine T_block ?_ | refine T_skip ?_ | refine TL_add (hk := ?_) | refine TL_lt_t (hk := ?_) | refine TL_nil ?_ | refine TL_move (hk := ?_) | refine TL_assign (hk := ?_) | refine TL_load TE (hk := ?_) | refine TL_load_rd TE (hk := ?_) | refine TL_fieldAddr TE (hk := ?_) | refine TL_indexAddr1n TE (hk := ?_) | refine TL_len TE (hk := ?_) | refine TL_nilCheck (hk := ?_))
      refine TL_nil_q ?_; intro w2 e2
      repeat (first | refine T_region ?_ | refine T_inBlock ?_ | refine TL_add (hk := ?_) | refine TL_nil ?_ | refine TL_move (hk := ?_) | refine TL_assign (hk := ?_))
      exact ih2 (j + 1) _ _ (by omega) ⟨e1.ext e2, by omega⟩ (by rw [← hc]; exact (.c rfl (.c rfl (.c rfl (.c rfl (.n))))))
    · have hje : ns.N = j := by omega
      have hc : restA ns i + restR ns i j = restA ns (i + 1) := by rw [← hje]; rfl
      rw [hc]
      clear ih2
      repeat (first | refine T_seq ?_ | refine T_region ?_ | refine T_cond_false rfl ?_ | refine T_inBlock ?_ | refine T_exit rfl ?_ | refine TL_add (hk := ?_) | refine TL_lt_f (hk := ?_) | refine TL_nil ?_ | refine TL_move (hk := ?_) | refine TL_assign (hk := ?_) | refine TL_load TE (hk := ?_) | refine TL_fieldAddr TE (hk := ?_) | refine TL_len TE (hk := ?_) | refine TL_nilCheck (hk := ?_))
      exact ih (i + 1) _ _ (by omega) ⟨e1, by omega⟩ (.c rfl (.c rfl (.c rfl (.n))))
  · have hie : ns.N = i := by omega
    have hc : restA ns i = restN ns := by rw [← hie]; rfl
    rw [hc]
    clear ih
    repeat (first | refine T_seq ?_ | refine T_region ?_ | refine T_cond_false rfl ?_ | refine T_exit rfl ?_ | refine TL_lt_f (hk := ?_) | refine TL_nil ?_ | refine TL_move (hk := ?_) | refine TL_assign (hk := ?_) | refine TL_load TE (hk := ?_) | refine TL_fieldAddr TE (hk := ?_) | refine TL_len TE (hk := ?_) | refine TL_nilCheck (hk := ?_))
    exact T_ret1 rfl rfl ⟨rfl, e1⟩
theorem tickP_next (ns : NS) (i j : Nat) : ∀ x y, (tickP ns i (j + 1)).E x y = upd2 (tickP ns i j).E i j (tickE (ns.E i j)) x y := fun x y => by
  by_cases e : x = i ∧ y = j
  · obtain ⟨rfl, rfl⟩ := e
    rw [upd2_at]
    exact if_pos (.inr ⟨rfl, Nat.lt_succ_self _⟩)
  · rw [upd2_ne _ _ e]
    show (if _ then _ else _) = (if _ then _ else _)
    by_cases e2 : x < i ∨ (x = i ∧ y < j)
    · rw [if_pos e2, if_pos (e2.imp id (fun q => ⟨q.1, by omega⟩))]
    · rw [if_neg e2, if_neg (fun q => q.elim (fun z => e2 (.inl z)) (fun z => by
        by_cases y' : y = j
        · exact e ⟨z.1, y'⟩
        · exact e2 (.inr ⟨z.1, by omega⟩)))]
theorem RNTick_c (w : World) (g : NetG LayR ns.N w base p M F h ns) (hI : NI k ns L U) :
    Ret Try.prog 84 [ptr p] w (fun u w' => ∃ F' h', NetG LayR ns.N w' base p M F' h' (tickN ns) ∧ Tn h h' w w') := by
  have hl := g.l1
  have hcn := g.nn
  refine ret_T (n := 33) Try.func84 rfl rfl ?_
  repeat (first | refine T_seq ?_ | refine T_region ?_ | refine T_block ?_ | refine TL_nil ?_ | refine TL_assign (hk := ?_))
  refine T_loop (ι := Nat) (fun i => [(2, .int .i64 (i : Int)), (0, ptr p)]) (fun i w' => i ≤ ns.N ∧ ∃ F' h', NetG LayR ns.N w' base p M F' h' (tickP ns i 0) ∧ Tn h h' w w') (fun i => ns.N - i) 0 (.c rfl (.c rfl (.n))) ⟨Nat.zero_le _, F, h, g.cong (fun a c ha hc => if_neg (fun q => by omega)), Tn.refl _ _⟩ ?_
  rintro i w1 ⟨hi, F1, h1, g1, t1⟩ ih
  have hk := g1.kR
  by_cases hlt : i < ns.N
  · repeat (first | refine T_seq ?_ | refine T_region ?_ | refine T_cond_true rfl ?_ | refine T_block ?_ | refine T_skip ?_ | refine TL_lt_t (hk := ?_) | refine TL_nil ?_ | refine TL_move (hk := ?_) | refine TL_assign (hk := ?_) | refine TL_load TE (hk := ?_) | refine TL_fieldAddr TE (hk := ?_) | refine TL_len TE (hk := ?_) | refine TL_nilCheck (hk := ?_))
    refine T_loop (ι := Nat) (fun j => [(3, .int .i64 (j : Int)), (2, .int .i64 (i : Int)), (0, ptr p)])
      (fun j w' => j ≤ ns.N ∧ ∃ F' h', NetG LayR ns.N w' base p M F' h' (tickP ns i j) ∧ Tn h h' w w') (fun j => ns.N - j) 0 (.c rfl (.c rfl (.c rfl (.n)))) ⟨Nat.zero_le _, F1, h1, g1, t1⟩ ?_
    clear hk g1 t1 h1 F1
    rintro j w2 ⟨hj, F1, h1, g1, t1⟩ ih2
    have hk := g1.kR
    by_cases hjt : j < ns.N
    · have hv1 := rowF_get (fun a => slV (M.r1 a)) hlt
      have r1 := g1.o1.rd
      have hlx := (g1.lr hlt).1
      replace hlx : (M.r1 i).2.1 = ns.N := hlx
      have r2 := g1.q1 i hlt
      replace r2 : Rd w2 (M.r1 i).1 (M.r1 i).2.1 1 (rowF ns.N (M.ev i)) := r2
      have hv2 := rowF_get (M.ev i) hjt
      have q := g1.en i j hlt hjt
      have hEij : (tickP ns i j).E i j = ns.E i j := if_neg (fun q => by omega)
      rw [hEij] at q
      obtain ⟨bs, q', m, hbs, hv, hE⟩ := q
      rw [hv] at hv2
      have ok := hI.win hlt hjt
      have hfw := ok.fw
      have hw2 := hI.wi
      repeat (first | refine T_seq ?_ | refine T_region ?_ | refine T_cond_true rfl ?_ | refine T_block ?_ | refine T_skip ?_ | refine TL_lt_t (hk := ?_) | refine TL_nil ?_ | refine TL_move (hk := ?_) | refine TL_load TE (hk := ?_) | refine TL_load_rd TE (hk := ?_) | refine TL_fieldAddr TE (hk := ?_) | refine TL_indexAddr1n TE (hk := ?_) | refine TL_len TE (hk := ?_) | refine TL_nilCheck (hk := ?_))
      refine TL_call TE (hc := RTick_c _ hE (by omega) (fun q hq => by have := (ok.fb q hq).2.2; have := hI.pa; omega)) (hk := ?_)
      rintro _ w3 ⟨m3, E3, t3⟩
      obtain ⟨h3, g3, t3', -, -⟩ := g1.end_ (f' := F1 i j) (es' := tickE (ns.E i j)) hlt hjt (by rw [hv]; exact ⟨bs, q', m3, hbs, rfl, E3⟩) t3
      repeat (first | refine T_region ?_ | refine T_inBlock ?_ | refine TL_add (hk := ?_) | refine TL_nil ?_ | refine TL_move (hk := ?_) | refine TL_assign (hk := ?_))
      exact ih2 (j + 1) _ _ (by omega) ⟨by omega, _, h3, g3.cong (E' := (tickP ns i (j + 1)).E) (fun x y _ _ => tickP_next ns i j x y), t1.trans t3'⟩ (.c rfl (.c rfl (.c rfl (.n))))
    · have hje : ns.N = j := by omega
      clear ih2
      repeat (first | refine T_seq ?_ | refine T_region ?_ | refine T_cond_false rfl ?_ | refine T_inBlock ?_ | refine T_exit rfl ?_ | refine TL_add (hk := ?_) | refine TL_lt_f (hk := ?_) | refine TL_nil ?_ | refine TL_move (hk := ?_) | refine TL_assign (hk := ?_) | refine TL_load TE (hk := ?_) | refine TL_fieldAddr TE (hk := ?_) | refine TL_len TE (hk := ?_) | refine TL_nilCheck (hk := ?_))
      refine ih (i + 1) _ _ (by omega) ⟨by omega, F1, h1, g1.cong (E' := (tickP ns (i + 1) 0).E) (fun x y hx hy => ?_), t1⟩ (.c rfl (.c rfl (.n)))
      show (if _ then _ else _) = (if _ then _ else _)
      replace hy : y < ns.N := hy
      by_cases e : x < i + 1
      · rw [if_pos (.inl e), if_pos (by omega)]
      · rw [if_neg (fun q => by omega), if_neg (fun q => by omega)]
  · clear ih
    repeat (first | refine T_seq ?_ | refine T_region ?_ | refine T_cond_false rfl ?_ | refine T_exit rfl ?_ | refine TL_lt_f (hk := ?_) | refine TL_nil ?_ | refine TL_move (hk := ?_) | refine TL_load TE (hk := ?_) | refine TL_fieldAddr TE (hk := ?_) | refine TL_len TE (hk := ?_) | refine TL_nilCheck (hk := ?_))
    refine T_end0 rfl ⟨F1, h1, g1.cong (E' := (tickN ns).E) (fun x y hx hy => ?_), t1⟩
    exact (if_pos (.inl (by omega))).symm
theorem RNNext_c (a : Int) (w : World) (g : NetG LayR ns.N w base p M F h ns) (hI : NI k ns L U) :
    Ret Try.prog 85 [ptr p, .int .i64 a] w (fun v w' => match nextX ns a with
      | (_, none) => v = .tuple #[.int .i64 0, .slice none 0 0, .bool false] ∧ w' = w
      | (ns', some (c, b)) => ∃ x F' h', v = .tuple #[.int .i64 (c : Int), slV x, .bool true] ∧ NetG LayR ns.N w' base p M F' h' ns' ∧ Tn h h' w w' ∧ Body w' base x b) := by
  have hk := g.kR
  have hl := g.l1
  have hcn := g.nn
  unfold nextX
  refine ret_T (n := 47) Try.func85 rfl rfl ?_
  by_cases h1 : inN ns.N a = true
  · obtain ⟨x, rfl, hx⟩ := inN_nat h1
    rw [if_pos h1]
    simp only [Int.toNat_natCast]
    clear h1
    have h0 : (0 : Int) ≤ (x : Int) := by omega
    have hx' : (x : Int) < ((M.s1.2.1 : Nat) : Int) := by omega
    have r1 := g.o1.rd
    have hv1 := rowF_get (fun a => slV (M.r1 a)) hx
    have hlx := (g.lr hx).1
    have r2 := g.q1 x hx
    repeat (first | refine T_seq ?_ | refine T_region ?_ | refine T_cond_false rfl ?_ | refine T_block ?_ | refine T_skip ?_ | refine TL_lt_f (hk := ?_) | refine TL_ge_f (hk := ?_) | refine TL_nil ?_ | refine TL_move (hk := ?_) | refine TL_assign (hk := ?_) | refine TL_load TE (hk := ?_) | refine TL_fieldAddr TE (hk := ?_) | refine TL_len TE (hk := ?_) | refine TL_yes (hk := ?_) | refine TL_pick_f (hk := ?_) | refine TL_nilCheck (hk := ?_))
    clear hx' h0
    refine T_loop (ι := Nat) (fun i => [(7, .int .i64 (i : Int)), (0, ptr p), (1, .int .i64 (x : Int)), (4, .int .i64 0), (5, .slice none 0 0), (6, .bool false)])
      (fun i w' => i ≤ ns.N ∧ (∀ j, j < i → (ns.E x j).come = []) ∧ w' = w) (fun i => ns.N - i) 0 (.c rfl (.c rfl (.c rfl (.c rfl (.c rfl (.c rfl (.n))))))) ⟨Nat.zero_le _, fun j hj => by omega, rfl⟩ ?_
    rintro i w1 ⟨hi, hno, rfl⟩ ih
    by_cases hlt : i < ns.N
    · have hv2 := rowF_get (M.ev x) hlt
      have q := g.en x i hx hlt
      have hno2 : (ns.E x i).come = [] → ∀ j, j < i + 1 → (ns.E x j).come = [] := fun e j hj => by
        by_cases z : j = i
        · rw [z]; exact e
        · exact hno j (by omega)
      obtain ⟨bs, q', m, hbs, hv, hE⟩ := q
      rw [hv] at hv2
      have hn := RNext_c _ hE
      unfold nextE at hn
      cases hc : (ns.E x i).come with
      | nil =>
        rw [hc] at hn
        simp only at hn
        repeat (first | refine T_seq ?_ | refine T_region ?_ | refine T_cond_true rfl ?_ | refine T_block ?_ | refine T_skip ?_ | refine TL_lt_t (hk := ?_) | refine TL_nil ?_ | refine TL_move (hk := ?_) | refine TL_load TE (hk := ?_) | refine TL_load_rd TE (hk := ?_) | refine TL_fieldAddr TE (hk := ?_) | refine TL_indexAddr1n TE (hk := ?_) | refine TL_len TE (hk := ?_) | refine TL_nilCheck (hk := ?_))
        refine TL_call TE (hc := hn) (hk := ?_)
        rintro _ w1 ⟨rfl, rfl⟩
        repeat (first | refine T_seq ?_ | refine T_region ?_ | refine T_cond_false rfl ?_ | refine T_inBlock ?_ | refine T_skip ?_ | refine TL_add (hk := ?_) | refine TL_nil ?_ | refine TL_move (hk := ?_) | refine TL_assign (hk := ?_) | refine TL_extract (hk := ?_))
        exact ih (i + 1) _ _ (by omega) ⟨by omega, hno2 hc, rfl⟩ (.c rfl (.c rfl (.c rfl (.c rfl (.c rfl (.c rfl (.n)))))))
      | cons b t =>
        rw [hc] at hn
        simp only at hn
        have hf := first_at hno (by rw [hc]; simp) ns.N hlt
        rw [hf]
        simp only
        clear ih
        repeat (first | refine T_seq ?_ | refine T_region ?_ | refine T_cond_true rfl ?_ | refine T_block ?_ | refine T_skip ?_ | refine TL_lt_t (hk := ?_) | refine TL_nil ?_ | refine TL_move (hk := ?_) | refine TL_load TE (hk := ?_) | refine TL_load_rd TE (hk := ?_) | refine TL_fieldAddr TE (hk := ?_) | refine TL_indexAddr1n TE (hk := ?_) | refine TL_len TE (hk := ?_) | refine TL_nilCheck (hk := ?_))
        refine TL_call TE (hc := hn) (hk := ?_)
        rintro _ w2 ⟨y, m2, rfl, E2, t2, hy⟩
        obtain ⟨h2, g2, t2', hz2, hz3⟩ := g.end_ (f' := F x i) (es' := { ns.E x i with come := t }) hx hlt (by rw [hv]; exact ⟨bs, q', m2, hbs, rfl, E2⟩) t2
        repeat (first | refine T_seq ?_ | refine T_region ?_ | refine T_cond_true rfl ?_ | refine TL_nil ?_ | refine TL_move (hk := ?_) | refine TL_assign (hk := ?_) | refine TL_extract (hk := ?_))
        refine T_ret3 rfl rfl rfl rfl ⟨y, upd2 F x i (F x i), h2, rfl, ?_, t2', ?_⟩
        · have : nextN ns x i = { ns with E := upd2 ns.E x i { ns.E x i with come := t } } := by
            unfold nextN nextE
            rw [hc]
          rw [this]
          exact g2
        · rw [hc]; exact Own.weaken hy hbs
    · have hie : ns.N = i := by omega
      rw [first_no ns.N (by rw [hie]; exact hno)]
      simp only
      clear ih
      repeat (first | refine T_seq ?_ | refine T_region ?_ | refine T_cond_false rfl ?_ | refine T_exit rfl ?_ | refine TL_lt_f (hk := ?_) | refine TL_nil ?_ | refine TL_move (hk := ?_) | refine TL_assign (hk := ?_) | refine TL_load TE (hk := ?_) | refine TL_fieldAddr TE (hk := ?_) | refine TL_len TE (hk := ?_) | refine TL_nilCheck (hk := ?_))
      exact T_ret3 rfl rfl rfl rfl ⟨rfl, rfl⟩
  · rw [if_neg h1]
    have h1' : ¬ (0 ≤ a ∧ a < ns.N) := by unfold inN at h1; simpa using h1
    by_cases h2 : 0 ≤ a
    · have h3 : ((M.s1.2.1 : Nat) : Int) ≤ a := by omega
      repeat (first | refine T_seq ?_ | refine T_region ?_ | refine T_cond_true rfl ?_ | refine TL_lt_f (hk := ?_) | refine TL_ge_t (hk := ?_) | refine TL_nil ?_ | refine TL_move (hk := ?_) | refine TL_assign (hk := ?_) | refine TL_load TE (hk := ?_) | refine TL_fieldAddr TE (hk := ?_) | refine TL_len TE (hk := ?_) | refine TL_yes (hk := ?_) | refine TL_pick_f (hk := ?_) | refine TL_nilCheck (hk := ?_))
      exact T_ret3 rfl rfl rfl rfl ⟨rfl, rfl⟩
    · repeat (first | refine T_seq ?_ | refine T_region ?_ | refine T_cond_true rfl ?_ | refine TL_lt_t (hk := ?_) | refine TL_nil ?_ | refine TL_move (hk := ?_) | refine TL_assign (hk := ?_) | refine TL_no (hk := ?_) | refine TL_pick_t (hk := ?_))
      exact T_ret3 rfl rfl rfl rfl ⟨rfl, rfl⟩
end
end Go.Proofs.Ytjjgojgahibpgaa

namespace Go.Proofs.Ytjjgojgahibpgaa
open Go.RowKit Go.Proofs.Eng Go.Proofs.Codec Go.Proofs.Link
set_option linter.unusedSimpArgs false
set_option linter.unusedVariables false set_option maxRecDepth 10000
attribute [local irreducible] T TL LV TH TA
set_option maxHeartbeats 3200000
section
variable {base p : Nat} {M : NM} {F : Nat → Nat → Nat → Nat} {h : Nat → Nat} {ns : NS} {k : Nat} {L : LL} {U : Nat → Nat → Nat}
theorem RNDouble_c (i : Int) (w : World) (g : NetG LayR ns.N w base p M F h ns) (hI : NI k ns L U) :
    Ret Try.prog 82 [ptr p, .int .i64 i] w (fun v w' => v = .bool (dblX ns i).2 ∧ ∃ M' F' h', NetG LayR ns.N w' base p M' F' h' (dblX ns i).1 ∧ Tn h h' w w') := by
  have hk := g.kR
  have hb0 : ∀ b, h b ≠ 0 → b < w.heap.size := fun b hb => (g.old b hb).2
  have hbw := g.bw
  have hwl := hI.wl
  obtain ⟨hl1, hl2⟩ := g.l3
  unfold dblX
  refine ret_T (n := 40) Try.func82 rfl rfl ?_
  by_cases h1 : inN ns.way.length i = true
  · obtain ⟨x, rfl, hx⟩ := inN_nat h1
    rw [h1]
    have h0 : (0 : Int) ≤ (x : Int) := by omega
    have hxs : ((x : Nat) : Int) < ((M.s3.2.1 : Nat) : Int) := by omega
    have hcf : ¬ ((M.s3.2.1 : Nat) : Int) ≤ ((x : Nat) : Int) := by omega
    by_cases hfull : ns.way.length < 4096
    · rw [if_pos ⟨rfl, hfull⟩]
      simp only [Int.toNat_natCast]
      have hnf : ¬ (4096 : Int) ≤ ((M.s3.2.1 : Nat) : Int) := by omega
      have hpD : p ∉ blkL M.s3.1 := fun q => g.p3 p q (by simp)
      repeat (first | refine T_seq ?_ | refine T_region ?_ | refine T_cond_false rfl ?_ | refine T_skip ?_ | refine TL_lt_f (hk := ?_) | refine TL_ge_f (hk := ?_) | refine TL_nil ?_ | refine TL_move (hk := ?_) | refine TL_assign (hk := ?_) | refine TL_load TE (hk := ?_) | refine TL_fieldAddr TE (hk := ?_) | refine TL_len TE (hk := ?_) | refine TL_yes (hk := ?_) | refine TL_pick_f (hk := ?_) | refine TL_nilCheck (hk := ?_))
      refine T_region_anyz TE.mixed (blkL M.s3.1) (some 16) ?_; intro w1 e1 z1
      have g1 := g.ext e1
      have hk1 := hk.be e1
      have r1 := g1.o3.rd
      have hel := rowV_elem pkV_len M.y x pk0 (by omega)
      (refine TA_take 0 rfl (by kernel_rfl) (by kernel_rfl) (by kernel_rfl) ?_; (repeat (first | refine TL_move (hk := ?_) | refine TLP_load TE (hk := ?_) | refine TL_fieldAddr TE (hk := ?_) | refine TL_indexAddrn TE (hk := ?_) | refine TL_nilCheck (hk := ?_))); refine TL_nil_p ?_); (refine TA_take 1 rfl (by kernel_rfl) (by kernel_rfl) (by kernel_rfl) ?_; (repeat (first | refine TL_move (hk := ?_) | refine TLP_load TE (hk := ?_) | refine TL_fieldAddr TE (hk := ?_) | refine TL_indexAddrn TE (hk := ?_) | refine TL_nilCheck (hk := ?_))); refine TL_nil_p ?_); (refine TA_take 2 rfl (by kernel_rfl) (by kernel_rfl) (by kernel_rfl) ?_; (repeat (first | refine TL_move (hk := ?_) | refine TLP_load TE (hk := ?_) | refine TL_fieldAddr TE (hk := ?_) | refine TL_indexAddrn TE (hk := ?_) | refine TL_nilCheck (hk := ?_))); refine TL_nil_p ?_); (refine TA_take 3 rfl (by kernel_rfl) (by kernel_rfl) (by kernel_rfl) ?_; (repeat (first | refine TL_move (hk := ?_) | refine TLP_load TE (hk := ?_) | refine TL_fieldAddr TE (hk := ?_) | refine TL_indexAddrn TE (hk := ?_) | refine TL_nilCheck (hk := ?_))); refine TL_nil_p ?_); (refine TA_take 4 rfl (by kernel_rfl) (by kernel_rfl) (by kernel_rfl) ?_; (repeat (first | refine TL_move (hk := ?_) | refine TLP_load TE (hk := ?_) | refine TL_fieldAddr TE (hk := ?_) | refine TL_indexAddrn TE (hk := ?_) | refine TL_nilCheck (hk := ?_))); refine TL_nil_p ?_); (refine TA_take 5 rfl (by kernel_rfl) (by kernel_rfl) (by kernel_rfl) ?_; (repeat (first | refine TL_move (hk := ?_) | refine TLP_load TE (hk := ?_) | refine TL_fieldAddr TE (hk := ?_) | refine TL_indexAddrn TE (hk := ?_) | refine TL_nilCheck (hk := ?_))); refine TL_nil_p ?_); (refine TA_take 6 rfl (by kernel_rfl) (by kernel_rfl) (by kernel_rfl) ?_; (repeat (first | refine TL_move (hk := ?_) | refine TLP_load TE (hk := ?_) | refine TL_fieldAddr TE (hk := ?_) | refine TL_indexAddrn TE (hk := ?_) | refine TL_nilCheck (hk := ?_))); refine TL_nil_p ?_); (refine TA_take 7 rfl (by kernel_rfl) (by kernel_rfl) (by kernel_rfl) ?_; (repeat (first | refine TL_move (hk := ?_) | refine TLP_load TE (hk := ?_) | refine TL_fieldAddr TE (hk := ?_) | refine TL_indexAddrn TE (hk := ?_) | refine TL_nilCheck (hk := ?_))); refine TL_nil_p ?_); (refine TA_take 8 rfl (by kernel_rfl) (by kernel_rfl) (by kernel_rfl) ?_; (repeat (first | refine TL_move (hk := ?_) | refine TLP_load TE (hk := ?_) | refine TL_fieldAddr TE (hk := ?_) | refine TL_indexAddrn TE (hk := ?_) | refine TL_nilCheck (hk := ?_))); refine TL_nil_p ?_); (refine TA_take 9 rfl (by kernel_rfl) (by kernel_rfl) (by kernel_rfl) ?_; (repeat (first | refine TL_move (hk := ?_) | refine TLP_load TE (hk := ?_) | refine TL_fieldAddr TE (hk := ?_) | refine TL_indexAddrn TE (hk := ?_) | refine TL_nilCheck (hk := ?_))); refine TL_nil_p ?_); (refine TA_take 10 rfl (by kernel_rfl) (by kernel_rfl) (by kernel_rfl) ?_; (repeat (first | refine TL_move (hk := ?_) | refine TLP_load TE (hk := ?_) | refine TL_fieldAddr TE (hk := ?_) | refine TL_indexAddrn TE (hk := ?_) | refine TL_nilCheck (hk := ?_))); refine TL_nil_p ?_)
      refine TA_one 11 rfl (by kernel_rfl) (by kernel_rfl) ?_
      refine TLN_loada TE (cs := pkV (M.y.getD x pk0)) (hr := r1) (hc := hel) (hq := (Mod.refl _ _)) (hk := ?_)
      refine TL_nil_p ?_
      refine TA_one 12 rfl (by kernel_rfl) (by kernel_rfl) ?_
      refine TL_buildSliceA TE (hf := rfl) (hq := fun w' h => (Ext.un h)) (hk := ?_); intro b8 w8 e8 h8 h8' k8
      replace k8 : Blk w8 b8 103 (rowV pkV [M.y.getD x pk0]) := k8
      have r8 : Rd w8 (some ⟨b8, 0, none⟩) 1 3 (rowV pkV [M.y.getD x pk0]) := Rd.blk k8 rfl
      have g8 := g1.ext e8
      have hk8 := hk1.be e8
      have z8 := g8.bw
      refine TL_nil_p ?_
      refine TA_one 13 rfl (by kernel_rfl) (by kernel_rfl) ?_
      refine TL_append TE (ho := g8.o3) (hr := r8) (h1 := rowV_one pkV_one _) (hf := rfl) (hq := fun w' m => (Ext.un e8).trans m) (hk := ?_); intro A9 c9 w9 o9 m9 n9
      rw [← rowV_append] at o9
      have hk9 := hk8.mod m9 hpD
      refine TL_nil_p ?_
      (refine TA_one 14 rfl (by kernel_rfl) (by kernel_rfl) ?_; (repeat (first | refine TL_fieldAddr TE (hk := ?_) | refine TL_nilCheck (hk := ?_))); refine TL_nil_p ?_); (refine TA_one 15 rfl (by kernel_rfl) (by kernel_rfl) ?_; (repeat (first | refine TL_fieldAddr TE (hk := ?_) | refine TL_nilCheck (hk := ?_))); refine TL_nil_p ?_)
      refine TA_one 16 rfl (by kernel_rfl) (by kernel_rfl) ?_
      refine TL_store TE (hb := hk9) (hf := rfl) (hq := fun _ _ _ => trivial) (hk := ?_); intro w10 m10 z10 k10
      refine TL_nil_z (by kernel_rfl) ?_
      have hmem : M.y.getD x pk0 ∈ M.y := getMem (by omega)
      have hw : ns.way[x]? = some (M.y.getD x pk0).1 := by
        rw [g.wy, List.getElem?_map, List.getD_eq_getElem?_getD, List.getElem?_eq_getElem (by omega)]
        rfl
      obtain ⟨h', g', t', -⟩ := g8.push (s3 := (A9, M.s3.2.1 + 1, c9)) (x := M.y.getD x pk0) (Mod.refl _ _) m9 o9 n9 m10 k10 (Tn.ext (e1.ext e8)) hb0 (.inl hmem)
      repeat (first | refine T_seq ?_ | refine T_region ?_ | refine TL_nil ?_ | refine TL_assign (hk := ?_))
      refine T_ret1 rfl rfl ⟨rfl, { M with s3 := (A9, M.s3.2.1 + 1, c9), y := M.y ++ [M.y.getD x pk0] }, F, h', ?_, t'⟩
      unfold dblN
      rw [hw]
      exact g'
    · have hnf : (4096 : Int) ≤ ((M.s3.2.1 : Nat) : Int) := by omega
      rw [if_neg (fun q => hfull q.2)]
      repeat (first | refine T_seq ?_ | refine T_region ?_ | refine T_cond_true rfl ?_ | refine TL_lt_f (hk := ?_) | refine TL_ge_t (hk := ?_) | refine TL_ge_f (hk := ?_) | refine TL_nil ?_ | refine TL_move (hk := ?_) | refine TL_assign (hk := ?_) | refine TL_load TE (hk := ?_) | refine TL_fieldAddr TE (hk := ?_) | refine TL_len TE (hk := ?_) | refine TL_yes (hk := ?_) | refine TL_pick_f (hk := ?_) | refine TL_nilCheck (hk := ?_))
      exact T_ret1 rfl rfl ⟨rfl, M, F, h, g, Tn.refl _ _⟩
  · have h1' : ¬ (0 ≤ i ∧ i < (ns.way.length : Int)) := by unfold inN at h1; simpa using h1
    rw [if_neg (fun q => h1 q.1)]
    by_cases h2 : 0 ≤ i
    · have h3 : ((M.s3.2.1 : Nat) : Int) ≤ i := by omega
      repeat (first | refine T_seq ?_ | refine T_region ?_ | refine T_cond_true rfl ?_ | refine TL_lt_f (hk := ?_) | refine TL_ge_t (hk := ?_) | refine TL_nil ?_ | refine TL_move (hk := ?_) | refine TL_assign (hk := ?_) | refine TL_load TE (hk := ?_) | refine TL_fieldAddr TE (hk := ?_) | refine TL_len TE (hk := ?_) | refine TL_yes (hk := ?_) | refine TL_no (hk := ?_) | refine TL_pick_t (hk := ?_) | refine TL_pick_f (hk := ?_) | refine TL_nilCheck (hk := ?_))
      exact T_ret1 rfl rfl ⟨rfl, M, F, h, g, Tn.refl _ _⟩
    · repeat (first | refine T_seq ?_ | refine T_region ?_ | refine T_cond_true rfl ?_ | refine TL_lt_t (hk := ?_) | refine TL_nil ?_ | refine TL_move (hk := ?_) | refine TL_assign (hk := ?_) | refine TL_no (hk := ?_) | refine TL_pick_t (hk := ?_))
      exact T_ret1 rfl rfl ⟨rfl, M, F, h, g, Tn.refl _ _⟩
theorem RNDeliver_c (i : Int) (w : World) (g : NetG LayR ns.N w base p M F h ns) (hI : NI k ns L U) :
    Ret Try.prog 80 [ptr p, .int .i64 i] w (fun v w' => v = .int .i64 ((delX ns i).2 : Int) ∧ ∃ M' F' h', NetG LayR ns.N w' base p M' F' h' (delX ns i).1 ∧ Tn h h' w w') := by
  have hk := g.kR
  have hb0 : ∀ b, h b ≠ 0 → b < w.heap.size := fun b hb => (g.old b hb).2
  have hbw := g.bw
  have hwl := hI.wl
  obtain ⟨hl1, hl2⟩ := g.l3
  unfold delX
  refine ret_T (n := 42) Try.func80 rfl rfl ?_
  by_cases h1 : inN ns.way.length i = true
  · obtain ⟨x, rfl, hx⟩ := inN_nat h1
    have h0 : (0 : Int) ≤ (x : Int) := by omega
    have hxs : ((x : Nat) : Int) < ((M.s3.2.1 : Nat) : Int) := by omega
    have hcf : ¬ ((M.s3.2.1 : Nat) : Int) ≤ ((x : Nat) : Int) := by omega
    have hel := rowV_elem pkV_len M.y x pk0 (by omega)
    have hmem : M.y.getD x pk0 ∈ M.y := getMem (by omega)
    obtain ⟨z, hz⟩ : ∃ z, M.y.getD x pk0 = z := ⟨_, rfl⟩
    rw [hz] at hel hmem
    have hw : ns.way[x]? = some z.1 := by
      rw [g.wy, List.getElem?_map, ← hz, List.getD_eq_getElem?_getD, List.getElem?_eq_getElem (by omega)]
      rfl
    have hzw : z.1 ∈ ns.way := List.mem_of_getElem? hw
    obtain ⟨hz1, hz2, hz3⟩ := hI.wk z.1 hzw
    have hzs := hI.short hzw
    have hfr := g.fr z hmem
    have r3 := g.o3.rd
    have hdX : dropX ns (x : Int) = (dropN ns x, true) := by unfold dropX; rw [if_pos h1]; rfl
    rw [if_pos h1]
    simp only [Int.toNat_natCast]
    repeat (first | refine T_seq ?_ | refine T_region ?_ | refine T_cond_false rfl ?_ | refine T_skip ?_ | refine TL_lt_f (hk := ?_) | refine TL_ge_f (hk := ?_) | refine TL_nil ?_ | refine TL_move (hk := ?_) | refine TL_assign (hk := ?_) | refine TL_load TE (hk := ?_) | refine TL_fieldAddr TE (hk := ?_) | refine TL_indexAddrn TE (hk := ?_) | refine TL_len TE (hk := ?_) | refine TL_yes (hk := ?_) | refine TL_pick_f (hk := ?_) | refine TL_nilCheck (hk := ?_))
    refine TL_loada TE (cs := pkV z) (hx := rfl) (ht := rfl) (hi := rfl) (hr := r3) (hc := hel) (h0 := Nat.succ_pos _) (hk := ?_)
    --
    refine TL_alloc TE (hk := ?_); intro b5 w1 e1 h1 h1' k1
    --
    refine TL_storea TE (hk := ?_); intro w2 m2 z2 k2
    replace k2 : Blk w2 b5 103 (pkV z) := k2
    unfold pkV at k2
    have e02 : Ext w w2 := Mod.step e1 m2 (by simp; omega)
    have g2 := g.ext e02
    clear k1 r3
    repeat (first | refine T_seq ?_ | refine T_region ?_ | refine TL_nil ?_ | refine TL_move (hk := ?_))
    refine TL_call TE (hc := RNDrop_c (x : Int) _ g2 hI) (hk := ?_)
    rintro _ w4 ⟨-, M4, F4, h', g', t24, ⟨S4, m24, hS4⟩, rfl, hz'⟩
    rw [hdX] at g'
    replace g' : NetG LayR ns.N w4 base p M4 F4 h' (dropN ns x) := g'
    have b5z : h b5 = 0 := by
      by_cases q : h b5 = 0
      · exact q
      · have := hb0 b5 q; omega
    have t' : Tn h h' w w4 := (Tn.ext e02).trans t24
    have k4' : Blk w4 b5 103 [.int .i64 (z.1.fr : Int), .int .i64 (z.1.to : Int), slV z.2] := by
      obtain ⟨⟨S, m, s⟩, -, -⟩ := t24
      exact k2.mod m (fun q => s b5 q b5z)
    have hb5' : h' b5 = 0 := hz' b5 b5z (by have := m2.size; omega)
    have hfr4 : Rd w4 z.2.1 z.2.2.1 1 (bv z.1.b) := (hfr.1.be e02).mod m24 (off_of fun b hb q => by have := g.h13 z hmem b hb; rcases hS4 b q with h | h <;> omega)
    have hlen := hfr.1.1
    have hcap := hfr.2
    rw [bv_length] at hlen
    clear hk k2 hfr m2 g2
    have hk4 := g'.kR
    have r1 := g'.o1.rd
    have hl := g'.l1
    have hv1 := rowF_get (fun a => slV (M4.r1 a)) hz2
    have r2 : Rd w4 (M4.r1 z.1.to).1 (M4.r1 z.1.to).2.1 1 (rowF ns.N (M4.ev z.1.to)) := g'.q1 z.1.to hz2
    have hv2 := rowF_get (M4.ev z.1.to) hz1
    have hlx : (M4.r1 z.1.to).2.1 = ns.N := (g'.lr hz2).1
    obtain ⟨bs, q', m, hbs, hv, hE⟩ := g'.en z.1.to z.1.fr hz2 hz1
    rw [hv] at hv2
    have ok := hI.ok hz2 hz1
    repeat (first | refine T_seq ?_ | refine TL_nil ?_)
    refine T_region_any TE.mixed (ownB w4 (F4 z.1.to z.1.fr)) ?_; intro w5 e5 z5
    obtain ⟨d1, d2, d3, -, d5⟩ := g'.offE (w1 := w4) hz2 hz1
    have d3 := d3 z.1.to hz2
    have d5 := d5 b5 hb5'
    have g5 := g'.ext e5
    have r1 := r1.be e5
    have r2 := r2.be e5
    have hk5 := hk4.be e5
    have k5 := k4'.be e5
    have hE5 := hE.ext e5
    have hfr5 := hfr4.be e5
    have hsr := hI.srt hz2 hz1
    (refine TA_take 0 rfl (by kernel_rfl) (by kernel_rfl) (by kernel_rfl) ?_; (repeat (first | refine TL_move (hk := ?_) | refine TLP_load TE (hk := ?_) | refine TLP_load_rd TE (hk := ?_) | refine TL_fieldAddr TE (hk := ?_) | refine TL_indexAddr1n TE (hk := ?_) | refine TL_nilCheck (hk := ?_))); refine TL_nil_p ?_); (refine TA_take 1 rfl (by kernel_rfl) (by kernel_rfl) (by kernel_rfl) ?_; (repeat (first | refine TL_move (hk := ?_) | refine TLP_load TE (hk := ?_) | refine TLP_load_rd TE (hk := ?_) | refine TL_fieldAddr TE (hk := ?_) | refine TL_indexAddr1n TE (hk := ?_) | refine TL_nilCheck (hk := ?_))); refine TL_nil_p ?_); (refine TA_take 2 rfl (by kernel_rfl) (by kernel_rfl) (by kernel_rfl) ?_; (repeat (first | refine TL_move (hk := ?_) | refine TLP_load TE (hk := ?_) | refine TLP_load_rd TE (hk := ?_) | refine TL_fieldAddr TE (hk := ?_) | refine TL_indexAddr1n TE (hk := ?_) | refine TL_nilCheck (hk := ?_))); refine TL_nil_p ?_); (refine TA_take 3 rfl (by kernel_rfl) (by kernel_rfl) (by kernel_rfl) ?_; (repeat (first | refine TL_move (hk := ?_) | refine TLP_load TE (hk := ?_) | refine TLP_load_rd TE (hk := ?_) | refine TL_fieldAddr TE (hk := ?_) | refine TL_indexAddr1n TE (hk := ?_) | refine TL_nilCheck (hk := ?_))); refine TL_nil_p ?_); (refine TA_take 4 rfl (by kernel_rfl) (by kernel_rfl) (by kernel_rfl) ?_; (repeat (first | refine TL_move (hk := ?_) | refine TLP_load TE (hk := ?_) | refine TLP_load_rd TE (hk := ?_) | refine TL_fieldAddr TE (hk := ?_) | refine TL_indexAddr1n TE (hk := ?_) | refine TL_nilCheck (hk := ?_))); refine TL_nil_p ?_); (refine TA_take 5 rfl (by kernel_rfl) (by kernel_rfl) (by kernel_rfl) ?_; (repeat (first | refine TL_move (hk := ?_) | refine TLP_load TE (hk := ?_) | refine TLP_load_rd TE (hk := ?_) | refine TL_fieldAddr TE (hk := ?_) | refine TL_indexAddr1n TE (hk := ?_) | refine TL_nilCheck (hk := ?_))); refine TL_nil_p ?_); (refine TA_take 6 rfl (by kernel_rfl) (by kernel_rfl) (by kernel_rfl) ?_; (repeat (first | refine TL_move (hk := ?_) | refine TLP_load TE (hk := ?_) | refine TLP_load_rd TE (hk := ?_) | refine TL_fieldAddr TE (hk := ?_) | refine TL_indexAddr1n TE (hk := ?_) | refine TL_nilCheck (hk := ?_))); refine TL_nil_p ?_); (refine TA_take 7 rfl (by kernel_rfl) (by kernel_rfl) (by kernel_rfl) ?_; (repeat (first | refine TL_move (hk := ?_) | refine TLP_load TE (hk := ?_) | refine TLP_load_rd TE (hk := ?_) | refine TL_fieldAddr TE (hk := ?_) | refine TL_indexAddr1n TE (hk := ?_) | refine TL_nilCheck (hk := ?_))); refine TL_nil_p ?_); (refine TA_take 8 rfl (by kernel_rfl) (by kernel_rfl) (by kernel_rfl) ?_; (repeat (first | refine TL_move (hk := ?_) | refine TLP_load TE (hk := ?_) | refine TLP_load_rd TE (hk := ?_) | refine TL_fieldAddr TE (hk := ?_) | refine TL_indexAddr1n TE (hk := ?_) | refine TL_nilCheck (hk := ?_))); refine TL_nil_p ?_); (refine TA_take 9 rfl (by kernel_rfl) (by kernel_rfl) (by kernel_rfl) ?_; (repeat (first | refine TL_move (hk := ?_) | refine TLP_load TE (hk := ?_) | refine TLP_load_rd TE (hk := ?_) | refine TL_fieldAddr TE (hk := ?_) | refine TL_indexAddr1n TE (hk := ?_) | refine TL_nilCheck (hk := ?_))); refine TL_nil_p ?_); (refine TA_take 10 rfl (by kernel_rfl) (by kernel_rfl) (by kernel_rfl) ?_; (repeat (first | refine TL_move (hk := ?_) | refine TLP_load TE (hk := ?_) | refine TLP_load_rd TE (hk := ?_) | refine TL_fieldAddr TE (hk := ?_) | refine TL_indexAddr1n TE (hk := ?_) | refine TL_nilCheck (hk := ?_))); refine TL_nil_p ?_); (refine TA_take 11 rfl (by kernel_rfl) (by kernel_rfl) (by kernel_rfl) ?_; (repeat (first | refine TL_move (hk := ?_) | refine TLP_load TE (hk := ?_) | refine TLP_load_rd TE (hk := ?_) | refine TL_fieldAddr TE (hk := ?_) | refine TL_indexAddr1n TE (hk := ?_) | refine TL_nilCheck (hk := ?_))); refine TL_nil_p ?_); (refine TA_take 12 rfl (by kernel_rfl) (by kernel_rfl) (by kernel_rfl) ?_; (repeat (first | refine TL_move (hk := ?_) | refine TLP_load TE (hk := ?_) | refine TLP_load_rd TE (hk := ?_) | refine TL_fieldAddr TE (hk := ?_) | refine TL_indexAddr1n TE (hk := ?_) | refine TL_nilCheck (hk := ?_))); refine TL_nil_p ?_); (refine TA_take 13 rfl (by kernel_rfl) (by kernel_rfl) (by kernel_rfl) ?_; (repeat (first | refine TL_move (hk := ?_) | refine TLP_load TE (hk := ?_) | refine TLP_load_rd TE (hk := ?_) | refine TL_fieldAddr TE (hk := ?_) | refine TL_indexAddr1n TE (hk := ?_) | refine TL_nilCheck (hk := ?_))); refine TL_nil_p ?_)
    refine TA_one 14 rfl (by kernel_rfl) (by kernel_rfl) ?_; (try refine TL_yes (hk := ?_)); refine TL_call TE (hc := (RReceive_c z.2.1 z.2.2.1 z.2.2.2 z.1.b _ hE5 ok hsr.ack hfr5 (by omega) hcap)) (hq := (by rintro _ w7 ⟨rfl, m', f', h', t'⟩; exact Tn.inD (o' := f') t' (Mod.refl _ _) (ownB_in z5))) (hk := ?_)
    rintro _ w6 ⟨rfl, m6, f6, E6, t6⟩
    obtain ⟨h6, g6, t6', -, -⟩ := g5.end_ (f' := f6) (es' := (recvE (ns.E z.1.to z.1.fr) z.1.b).1) hz2 hz1 (by rw [hv]; exact ⟨bs, q', m6, hbs, rfl, E6⟩) t6
    refine TL_nil_p ?_
    (refine TA_one 15 rfl (by kernel_rfl) (by kernel_rfl) ?_; (repeat (refine TL_assign (hk := ?_))); refine TL_nil_p ?_)
    refine TA_done (by kernel_rfl) ?_
    --
    refine T_ret1 rfl rfl ⟨?_, M4, upd2 F4 z.1.to z.1.fr f6, h6, ?_, (t'.trans (Tn.ext e5)).trans t6'⟩
    · unfold delN; rw [hw]; rfl
    · unfold delN; rw [hw]; exact g6
  · have h1' : ¬ (0 ≤ i ∧ i < (ns.way.length : Int)) := by unfold inN at h1; simpa using h1
    rw [if_neg h1]
    by_cases h2 : 0 ≤ i
    · have h3 : ((M.s3.2.1 : Nat) : Int) ≤ i := by omega
      repeat (first | refine T_seq ?_ | refine T_region ?_ | refine T_cond_true rfl ?_ | refine TL_lt_f (hk := ?_) | refine TL_ge_t (hk := ?_) | refine TL_nil ?_ | refine TL_move (hk := ?_) | refine TL_assign (hk := ?_) | refine TL_load TE (hk := ?_) | refine TL_fieldAddr TE (hk := ?_) | refine TL_len TE (hk := ?_) | refine TL_yes (hk := ?_) | refine TL_pick_f (hk := ?_) | refine TL_nilCheck (hk := ?_))
      exact T_ret1 rfl rfl ⟨rfl, M, F, h, g, Tn.refl _ _⟩
    · repeat (first | refine T_seq ?_ | refine T_region ?_ | refine T_cond_true rfl ?_ | refine TL_lt_t (hk := ?_) | refine TL_nil ?_ | refine TL_move (hk := ?_) | refine TL_assign (hk := ?_) | refine TL_no (hk := ?_) | refine TL_pick_t (hk := ?_))
      exact T_ret1 rfl rfl ⟨rfl, M, F, h, g, Tn.refl _ _⟩
end
end Go.Proofs.Ytjjgojgahibpgaa

namespace Go.Proofs.Ytjjgojgahibpgaa
open Go.RowKit Go.Proofs.Eng Go.Proofs.Codec Go.Proofs.Link
set_option linter.unusedSimpArgs false
set_option linter.unusedVariables false set_option maxRecDepth 10000
attribute [local irreducible] T TL LV TH TA
set_option maxHeartbeats 3200000
section
variable {base p : Nat} {M : NM} {F : Nat → Nat → Nat → Nat} {h : Nat → Nat} {ns : NS} {k : Nat} {L : LL} {U : Nat → Nat → Nat}
theorem RNLet_c (a : Int) (w : World) (g : NetG LayR ns.N w base p M F h ns) (hI : NI k ns L U) :
    Ret Try.prog 79 [ptr p, .int .i64 a] w (fun v w' => v = .int .i64 ((letX ns a).2 : Int) ∧ ∃ M' F' h', NetG LayR ns.N w' base p M' F' h' (letX ns a).1 ∧ Tn h h' w w') := by
  have hk := g.kR
  have hl := g.l1
  have hcn := g.nn
  unfold letX
  refine ret_T (n := 89) Try.func79 rfl rfl ?_
  by_cases h1 : inN ns.N a = true
  · obtain ⟨x, rfl, hx⟩ := inN_nat h1
    rw [if_pos h1]
    simp only [Int.toNat_natCast]
    clear h1
    have h0 : (0 : Int) ≤ (x : Int) := by omega
    have hx' : ¬ ((M.s1.2.1 : Nat) : Int) ≤ (x : Int) := by omega
    have hb0 : ∀ b, h b ≠ 0 → b < w.heap.size := fun b hb => (g.old b hb).2
    have hbw := g.bw
    repeat (first | refine T_seq ?_ | refine T_region ?_ | refine T_cond_false rfl ?_ | refine T_block ?_ | refine T_skip ?_ | refine TL_lt_f (hk := ?_) | refine TL_ge_f (hk := ?_) | refine TL_nil ?_ | refine TL_move (hk := ?_) | refine TL_assign (hk := ?_) | refine TL_load TE (hk := ?_) | refine TL_fieldAddr TE (hk := ?_) | refine TL_len TE (hk := ?_) | refine TL_yes (hk := ?_) | refine TL_pick_f (hk := ?_) | refine TL_nilCheck (hk := ?_))
    refine T_loop (ι := Nat) (fun i => [(6, .int .i64 (i : Int)), (5, .int .i64 ((letC x i ns : Nat) : Int)), (0, ptr p), (1, .int .i64 (x : Int))])
      (fun i w' => i ≤ ns.N ∧ ∃ s3 y F' h', NetG LayR ns.N w' base p { M with s3 := s3, y := y } F' h' (letK x i ns) ∧ Tn h h' w w') (fun i => ns.N - i) 0 (.c rfl (.c rfl (.c rfl (.c rfl (.n))))) ⟨Nat.zero_le _, M.s3, M.y, F, h, g, Tn.refl _ _⟩ ?_
    clear hk hx' h0
    rintro i w1 ⟨hi, s3, y, F1, h1, g1, t1⟩ ih
    have hN1 := letK_N x i ns
    have hI1 := hI.letK hx i hi
    have hcl := letC_le hI hx i hi
    have hk1 : Blk w1 p 101 [slV M.s1, slV M.s2, slV s3, .int .i64 ((letK x i ns).pat : Int)] := g1.kR
    by_cases hlt : i < ns.N
    · have hcl2 := letC_le hI hx (i + 1) (by omega)
      have hcm := Nat.mul_le_mul_right 100001 (show i + 1 ≤ 8 by omega)
      have hit : (i : Int) < ((M.s1.2.1 : Nat) : Int) := by omega
      by_cases hxi : x = i
      · subst hxi
        obtain ⟨hd1, hd2⟩ := let1_diag hI1 (a := x) (by rw [hN1.1]; exact hlt)
        have hcs : letC x (x + 1) ns = letC x x ns := by
          show letC x x ns + _ = _
          rw [hd2]; rfl
        have hks : letK x (x + 1) ns = letK x x ns := hd1
        repeat (first | refine T_seq ?_ | refine T_region ?_ | refine T_cond_true rfl ?_ | refine T_block ?_ | refine T_skip ?_ | refine T_exit rfl ?_ | refine TL_add (hk := ?_) | refine TL_lt_t (hk := ?_) | refine TL_eq_t (hk := ?_) | refine TL_nil ?_ | refine TL_move (hk := ?_) | refine TL_assign (hk := ?_) | refine TL_load TE (hk := ?_) | refine TL_fieldAddr TE (hk := ?_) | refine TL_len TE (hk := ?_) | refine TL_nilCheck (hk := ?_))
        exact ih (x + 1) _ _ (by omega) ⟨by omega, s3, y, F1, h1, by rw [hks]; exact g1, t1⟩ (by rw [hcs]; exact (.c rfl (.c rfl (.c rfl (.c rfl (.n))))))
      · have r1 := g1.o1.rd
        have hv1 := rowF_get (fun a => slV (M.r1 a)) hx
        have hlx := (g.lr hx).1
        have r2 := g1.q1 x hx
        simp only at r1 r2
        rw [hN1.1] at r2
        have hv2 := rowF_get (M.ev x) hlt
        obtain ⟨bs, q', m, hbs, hv, hE⟩ := g1.en x i hx (by rw [hN1.1]; exact hlt)
        simp only at hv
        rw [hv] at hv2
        have hxi' : ¬ (i : Int) = (x : Int) := by omega
        have hx2 : (x : Int) < ((M.s1.2.1 : Nat) : Int) := by omega
        have ok := hI1.ok (a := x) (c := i) (by rw [hN1.1]; exact hx) (by rw [hN1.1]; exact hlt)
        repeat (first | refine T_seq ?_ | refine T_region ?_ | refine T_cond_true rfl ?_ | refine T_cond_false rfl ?_ | refine T_block ?_ | refine T_skip ?_ | refine TL_lt_t (hk := ?_) | refine TL_eq_f (hk := ?_) | refine TL_nil ?_ | refine TL_move (hk := ?_) | refine TL_load TE (hk := ?_) | refine TL_load_rd TE (hk := ?_) | refine TL_fieldAddr TE (hk := ?_) | refine TL_indexAddr1n TE (hk := ?_) | refine TL_len TE (hk := ?_) | refine TL_nilCheck (hk := ?_))
        refine TL_call TE (hc := ROut2_c _ hE ok) (hk := ?_)
        rintro _ w2 ⟨O, xs, m2, f2, rfl, E2, t2, o2, fz2⟩
        obtain ⟨es, hes⟩ : ∃ es, (letK x i ns).E x i = es := ⟨_, rfl⟩
        have hC : letC x (i + 1) ns = letC x i ns + (outE es).2.length := by rw [← hes]; rfl
        rw [hes] at E2 o2
        obtain ⟨h2, g2, t12, hz2, -⟩ := g1.end_ (f' := f2) (es' := (outE es).1) hx (by rw [hN1.1]; exact hlt) (by simp only; rw [hv]; exact ⟨bs, q', m2, hbs, rfl, E2⟩) t2
        have hnew : ∀ b, w1.heap.size ≤ b → h1 b = 0 := fun b hb => by
          by_cases z : h1 b = 0
          · exact z
          · have := (g1.old b z).2; omega
        have hOl := OutL.of (w0 := w) o2 t1.size (h := h2) (fun b hb => hz2 b (hnew b (Hi.blk o2.own.hi b hb)) (.inr (fz2 b (.inl hb)))) (fun b hb => hz2 b (hnew b (o2.bod.lt b hb).1) (.inr (fz2 b (.inr hb))))
        replace t12 := t1.trans t12
        have hwl := hI1.wl
        have hlo := hOl.lo
        have hon : (outE es).2.length ≤ 100001 := by
          have h3 := out_len es
          have h4 := ok.tot
          rw [hes] at h4
          unfold rE at h3
          omega
        obtain ⟨Pv, hPv⟩ : ∃ Pv, ns.P x i = Pv := ⟨_, rfl⟩
        obtain ⟨wy, hwy⟩ : ∃ wy : Nat → List PK, wy = fun j => if Pv then (letK x i ns).way else (((outE es).2.take j).map (PK.mk x i)).foldl capA (letK x i ns).way := ⟨_, rfl⟩
        have hw0 : wy 0 = (letK x i ns).way := by rw [hwy]; simp
        have hwe : letK x (i + 1) ns = { letK x i ns with E := upd2 (letK x i ns).E x i (outE es).1, way := wy (outE es).2.length } := by
          show let1 (letK x i ns) x i = _
          unfold let1
          rw [hes, hN1.2.2.2, hPv, hwy]
          simp only [List.take_length, hN1.2.2.2]
        have hwl2 : ∀ j, (wy j).length ≤ 4096 := fun j => by
          rw [hwy]
          simp only
          split
          · exact hwl
          · exact cap_len _ _ hwl
        have hcnt : letC x i ns + (outE es).2.length ≤ 2000000 := by omega
        have hC2 : ((letC x i ns : Nat) : Int) + ((O.2.1 : Nat) : Int) = ((letC x (i + 1) ns : Nat) : Int) := by omega
        clear r1 r2 hE E2 t2 o2 fz2 hz2 hnew g1 t1 hcl hcl2 hcm hon ok hk1 hx2
        repeat (first | refine T_seq ?_ | refine T_region ?_ | refine T_block ?_ | refine TL_add (hk := ?_) | refine TL_nil ?_ | refine TL_move (hk := ?_) | refine TL_assign (hk := ?_) | refine TL_len TE (hk := ?_))
        refine T_loop (ι := Nat) (fun j => [(8, .int .i64 (j : Int)), (7, slV O), (6, .int .i64 (i : Int)), (5, .int .i64 ((letC x (i + 1) ns : Nat) : Int)), (0, ptr p), (1, .int .i64 (x : Int))])
          (fun j w' => j ≤ (outE es).2.length ∧ ∃ s3 y h', NetG LayR ns.N w' base p { M with s3 := s3, y := y } (upd2 F1 x i f2) h' { letK x i ns with E := upd2 (letK x i ns).E x i (outE es).1, way := wy j } ∧ Tn h h' w w' ∧ OutL w w' O xs (outE es).2 h' j) (fun j => (outE es).2.length - j) 0 (by rw [← hC2]; exact (.c rfl (.c rfl (.c rfl (.c rfl (.c rfl (.c rfl (.n))))))))
          ⟨Nat.zero_le _, s3, y, h2, by rw [hw0]; exact g2, t12, hOl⟩ ?_
        clear g2 t12 hOl s3 y h2 h1 hit
        rintro j w3 ⟨hj, s3, y, h3, g3, t3, l3⟩ ih2
        by_cases hjt : j < (outE es).2.length
        · have rO := l3.rd
          have hjx : j < xs.length := by have := l3.lx; omega
          have hOn : O.1 ≠ none := by obtain ⟨_, _, hq, _⟩ := rO.2 (by omega); rw [hq]; simp
          have hvx := slVs_get xs j hjx
          have hbd := l3.bd j (Nat.le_refl _) hjx
          have hk3 := g3.kR
          have hl2 := g3.l2
          have rp1 := g3.o2.rd
          have hvp1 := rowF_get (fun a => slV (M.r2 a)) hx
          have rp2 := (g3.q2 x hx).rd
          have hvp2 := rowF_get (fun c => LayR.pv ((letK x i ns).P x c)) (N := (letK x i ns).N) (by rw [hN1.1]; exact hlt)
          rw [hN1.2.2.2, hPv] at hvp2
          have hlx2 := (g3.lr hx).2
          simp only at hk3 hl2 rp1 rp2 hlx2
          rw [hN1.2.2.2] at rp2
          have hbw3 := g3.bw
          have hh0 : ∀ b, h3 b ≠ 0 → b < w3.heap.size := fun b hb => (g3.old b hb).2
          obtain ⟨hy1, hy2⟩ := g3.l3
          simp only at hy1 hy2
          have hwj := hwl2 j
          rw [hN1.1] at hlx2
          rw [show LayR.pv Pv = (.bool Pv : Value) from rfl] at hvp2
          generalize hz : xs.getD j (none, 0, 0) = z at hvx hbd
          by_cases hPt : Pv = true
          · subst hPt
            have hws : ∀ j, wy j = wy 0 := fun j => by rw [hwy]; rfl
            clear ih2
            repeat (first | refine T_seq ?_ | refine T_region ?_ | refine T_cond_false rfl ?_ | refine T_inBlock ?_ | refine T_exit rfl ?_ | refine TL_add (hk := ?_) | refine TL_lt_t (hk := ?_) | refine TL_nil ?_ | refine TL_move (hk := ?_) | refine TL_assign (hk := ?_) | refine TL_load TE (hk := ?_) | refine TL_load_rd TE (hk := ?_) | refine TL_fieldAddr TE (hk := ?_) | refine TL_indexAddr1n TE (hk := ?_) | refine TL_len TE (hk := ?_) | refine TL_yes (hk := ?_) | refine TL_pick_t (hk := ?_) | refine TL_nilCheck (hk := ?_) | refine TL_not (hk := ?_))
            exact ih (i + 1) _ _ (by omega) ⟨by omega, s3, y, _, h3, by rw [hwe, hws, ← hws j]; exact g3, t3⟩ (.c rfl (.c rfl (.c rfl (.c rfl (.n)))))
          · have hPt : Pv = false := by simpa using hPt
            subst hPt
            repeat (first | refine T_seq ?_ | refine T_region ?_ | refine T_cond_true rfl ?_ | refine T_block ?_ | refine T_skip ?_ | refine TL_lt_t (hk := ?_) | refine TL_nil ?_ | refine TL_move (hk := ?_) | refine TL_load TE (hk := ?_) | refine TL_load_rd TE (hk := ?_) | refine TL_fieldAddr TE (hk := ?_) | refine TL_indexAddr1n TE (hk := ?_) | refine TL_len TE (hk := ?_) | refine TL_yes (hk := ?_) | refine TL_pick_t (hk := ?_) | refine TL_nilCheck (hk := ?_) | refine TL_not (hk := ?_))
            have hws : wy (j + 1) = capA (wy j) ⟨x, i, (outE es).2.getD j []⟩ := by
              rw [hwy]
              simp only [Bool.false_eq_true, if_false]
              exact fold_take (PK.mk x i) _ _ j hjt
            by_cases hfull : (wy j).length < 4096
            · have hs3l : ((s3.2.1 : Nat) : Int) < 4096 := by omega
              unfold capA at hws
              rw [if_pos hfull] at hws
              have hpD : p ∉ blkL s3.1 := fun q => g3.p3 p q (by simp)
              have hOD : Off O.1 (blkL s3.1) := off_of fun b hb q => by have := (l3.oz b hb).1; have := g3.h12 b q; omega
              repeat (first | refine T_cond_true rfl ?_ | refine TL_lt_t (hk := ?_) | refine TL_nil ?_)
              clear hs3l
              refine T_region_anyz TE.mixed (blkL s3.1) (some 16) ?_; intro w4 e4 z4
              have g4 := g3.ext e4
              have hk4 := hk3.be e4
              have rO4 := rO.be e4
              (refine TA_take 0 rfl (by kernel_rfl) (by kernel_rfl) (by kernel_rfl) ?_; (repeat (first | refine TL_move (hk := ?_) | refine TLP_load TE (hk := ?_) | refine TLP_load_rd TE (hk := ?_) | refine TL_fieldAddr TE (hk := ?_) | refine TL_indexAddr1n TE (hk := ?_) | refine TL_nilCheck (hk := ?_) | refine TL_build TE (hk := ?_))); refine TL_nil_p ?_); (refine TA_take 1 rfl (by kernel_rfl) (by kernel_rfl) (by kernel_rfl) ?_; (repeat (first | refine TL_move (hk := ?_) | refine TLP_load TE (hk := ?_) | refine TLP_load_rd TE (hk := ?_) | refine TL_fieldAddr TE (hk := ?_) | refine TL_indexAddr1n TE (hk := ?_) | refine TL_nilCheck (hk := ?_) | refine TL_build TE (hk := ?_))); refine TL_nil_p ?_); (refine TA_take 2 rfl (by kernel_rfl) (by kernel_rfl) (by kernel_rfl) ?_; (repeat (first | refine TL_move (hk := ?_) | refine TLP_load TE (hk := ?_) | refine TLP_load_rd TE (hk := ?_) | refine TL_fieldAddr TE (hk := ?_) | refine TL_indexAddr1n TE (hk := ?_) | refine TL_nilCheck (hk := ?_) | refine TL_build TE (hk := ?_))); refine TL_nil_p ?_); (refine TA_take 3 rfl (by kernel_rfl) (by kernel_rfl) (by kernel_rfl) ?_; (repeat (first | refine TL_move (hk := ?_) | refine TLP_load TE (hk := ?_) | refine TLP_load_rd TE (hk := ?_) | refine TL_fieldAddr TE (hk := ?_) | refine TL_indexAddr1n TE (hk := ?_) | refine TL_nilCheck (hk := ?_) | refine TL_build TE (hk := ?_))); refine TL_nil_p ?_); (refine TA_take 4 rfl (by kernel_rfl) (by kernel_rfl) (by kernel_rfl) ?_; (repeat (first | refine TL_move (hk := ?_) | refine TLP_load TE (hk := ?_) | refine TLP_load_rd TE (hk := ?_) | refine TL_fieldAddr TE (hk := ?_) | refine TL_indexAddr1n TE (hk := ?_) | refine TL_nilCheck (hk := ?_) | refine TL_build TE (hk := ?_))); refine TL_nil_p ?_); (refine TA_take 5 rfl (by kernel_rfl) (by kernel_rfl) (by kernel_rfl) ?_; (repeat (first | refine TL_move (hk := ?_) | refine TLP_load TE (hk := ?_) | refine TLP_load_rd TE (hk := ?_) | refine TL_fieldAddr TE (hk := ?_) | refine TL_indexAddr1n TE (hk := ?_) | refine TL_nilCheck (hk := ?_) | refine TL_build TE (hk := ?_))); refine TL_nil_p ?_); (refine TA_take 6 rfl (by kernel_rfl) (by kernel_rfl) (by kernel_rfl) ?_; (repeat (first | refine TL_move (hk := ?_) | refine TLP_load TE (hk := ?_) | refine TLP_load_rd TE (hk := ?_) | refine TL_fieldAddr TE (hk := ?_) | refine TL_indexAddr1n TE (hk := ?_) | refine TL_nilCheck (hk := ?_) | refine TL_build TE (hk := ?_))); refine TL_nil_p ?_); (refine TA_take 7 rfl (by kernel_rfl) (by kernel_rfl) (by kernel_rfl) ?_; (repeat (first | refine TL_move (hk := ?_) | refine TLP_load TE (hk := ?_) | refine TLP_load_rd TE (hk := ?_) | refine TL_fieldAddr TE (hk := ?_) | refine TL_indexAddr1n TE (hk := ?_) | refine TL_nilCheck (hk := ?_) | refine TL_build TE (hk := ?_))); refine TL_nil_p ?_); (refine TA_take 8 rfl (by kernel_rfl) (by kernel_rfl) (by kernel_rfl) ?_; (repeat (first | refine TL_move (hk := ?_) | refine TLP_load TE (hk := ?_) | refine TLP_load_rd TE (hk := ?_) | refine TL_fieldAddr TE (hk := ?_) | refine TL_indexAddr1n TE (hk := ?_) | refine TL_nilCheck (hk := ?_) | refine TL_build TE (hk := ?_))); refine TL_nil_p ?_); (refine TA_take 9 rfl (by kernel_rfl) (by kernel_rfl) (by kernel_rfl) ?_; (repeat (first | refine TL_move (hk := ?_) | refine TLP_load TE (hk := ?_) | refine TLP_load_rd TE (hk := ?_) | refine TL_fieldAddr TE (hk := ?_) | refine TL_indexAddr1n TE (hk := ?_) | refine TL_nilCheck (hk := ?_) | refine TL_build TE (hk := ?_))); refine TL_nil_p ?_); (refine TA_take 10 rfl (by kernel_rfl) (by kernel_rfl) (by kernel_rfl) ?_; (repeat (first | refine TL_move (hk := ?_) | refine TLP_load TE (hk := ?_) | refine TLP_load_rd TE (hk := ?_) | refine TL_fieldAddr TE (hk := ?_) | refine TL_indexAddr1n TE (hk := ?_) | refine TL_nilCheck (hk := ?_) | refine TL_build TE (hk := ?_))); refine TL_nil_p ?_); (refine TA_take 11 rfl (by kernel_rfl) (by kernel_rfl) (by kernel_rfl) ?_; (repeat (first | refine TL_move (hk := ?_) | refine TLP_load TE (hk := ?_) | refine TLP_load_rd TE (hk := ?_) | refine TL_fieldAddr TE (hk := ?_) | refine TL_indexAddr1n TE (hk := ?_) | refine TL_nilCheck (hk := ?_) | refine TL_build TE (hk := ?_))); refine TL_nil_p ?_)
              refine TA_one 12 rfl (by kernel_rfl) (by kernel_rfl) ?_
              refine TL_buildSliceA TE (hf := rfl) (hq := fun w' h => (Ext.un h)) (hk := ?_); intro b5 w5 e5 h5 h5' k5
              replace k5 : Blk w5 b5 103 (rowV pkV [((⟨x, i, (outE es).2.getD j []⟩, z) : PK × SV)]) := k5
              have r5 : Rd w5 (some ⟨b5, 0, none⟩) 1 3 (rowV pkV [((⟨x, i, (outE es).2.getD j []⟩, z) : PK × SV)]) := Rd.blk k5 rfl
              have o3 := g4.o3.be e5
              simp only at o3
              have z5 := e5.size
              have hk5 := hk4.be e5
              refine TL_nil_p ?_
              refine TA_one 13 rfl (by kernel_rfl) (by kernel_rfl) ?_
              refine TL_append TE (ho := o3) (hr := r5) (h1 := rowV_one pkV_one _) (hf := rfl) (hq := fun w' m => (Ext.un e5).trans m) (hk := ?_); intro A6 c6 w6 o6 m6 n6
              rw [← rowV_append] at o6
              have hk6 := hk5.mod m6 hpD
              refine TL_nil_p ?_
              (refine TA_one 14 rfl (by kernel_rfl) (by kernel_rfl) ?_; (repeat (first | refine TL_fieldAddr TE (hk := ?_) | refine TL_nilCheck (hk := ?_))); refine TL_nil_p ?_); (refine TA_one 15 rfl (by kernel_rfl) (by kernel_rfl) ?_; (repeat (first | refine TL_fieldAddr TE (hk := ?_) | refine TL_nilCheck (hk := ?_))); refine TL_nil_p ?_)
              refine TA_one 16 rfl (by kernel_rfl) (by kernel_rfl) ?_
              refine TL_store TE (hb := hk6) (hf := rfl) (hq := fun _ _ _ => trivial) (hk := ?_); intro w7 m7 z7 k7
              refine TL_nil_z (by kernel_rfl) ?_
              have e35 := e4.ext e5
              obtain ⟨h7, g7, t7, hz7⟩ := g3.push (s3 := (A6, s3.2.1 + 1, c6)) (x := (⟨x, i, (outE es).2.getD j []⟩, z)) e35 m6 o6 n6 m7 k7 t3 hb0 (.inr ⟨hbd.1, hbd.2.1, fun b hb => ⟨(hbd.2.2 b hb).1, by have := (hbd.2.2 b hb).2.2; have := hbw; omega, (hbd.2.2 b hb).2.1, (hbd.2.2 b hb).2.2⟩⟩)
              have hMod : Eng.Mod (p :: blkL s3.1) w3 w7 := ((e35.mono (S' := p :: blkL s3.1) (by simp)).step m6 (fun b hb => .inl (List.mem_cons_of_mem _ hb))).step m7 (fun b hb => .inl (by rw [List.mem_singleton.1 hb]; exact List.mem_cons_self))
              have l7 := l3.push (h' := h7) hjx hMod (fun b hb => by
                rcases List.mem_cons.1 hb with rfl | hb
                · rw [g3.hp]; decide
                · rw [g3.h12 b hb]; decide) (by rw [hz]; exact hz7)
              repeat (first | refine T_region ?_ | refine T_inBlock ?_ | refine TL_add (hk := ?_) | refine TL_nil ?_ | refine TL_move (hk := ?_) | refine TL_assign (hk := ?_))
              exact ih2 (j + 1) _ _ (by omega) ⟨by omega, _, _, h7, by rw [hws]; exact g7, t7, l7⟩ (.c rfl (.c rfl (.c rfl (.c rfl (.c rfl (.c rfl (.n)))))))
            · have hs3l : ¬ ((s3.2.1 : Nat) : Int) < 4096 := by omega
              unfold capA at hws
              rw [if_neg hfull] at hws
              repeat (first | refine T_region ?_ | refine T_cond_false rfl ?_ | refine T_inBlock ?_ | refine T_skip ?_ | refine TL_add (hk := ?_) | refine TL_lt_f (hk := ?_) | refine TL_nil ?_ | refine TL_move (hk := ?_) | refine TL_assign (hk := ?_))
              exact ih2 (j + 1) _ _ (by omega) ⟨by omega, s3, y, h3, by rw [hws]; exact g3, t3, l3.skip⟩ (.c rfl (.c rfl (.c rfl (.c rfl (.c rfl (.c rfl (.n)))))))
        · have hje : (outE es).2.length = j := by omega
          clear ih2
          rw [hje] at hwe
          repeat (first | refine T_seq ?_ | refine T_region ?_ | refine T_cond_false rfl ?_ | refine T_inBlock ?_ | refine T_exit rfl ?_ | refine TL_add (hk := ?_) | refine TL_lt_f (hk := ?_) | refine TL_nil ?_ | refine TL_move (hk := ?_) | refine TL_assign (hk := ?_) | refine TL_len TE (hk := ?_) | refine TL_no (hk := ?_) | refine TL_pick_f (hk := ?_))
          exact ih (i + 1) _ _ (by omega) ⟨by omega, s3, y, _, h3, by rw [hwe]; exact g3, t3⟩ (.c rfl (.c rfl (.c rfl (.c rfl (.n)))))
    · have hie : ns.N = i := by omega
      clear ih
      rw [← hie] at g1
      repeat (first | refine T_seq ?_ | refine T_region ?_ | refine T_cond_false rfl ?_ | refine T_exit rfl ?_ | refine TL_lt_f (hk := ?_) | refine TL_nil ?_ | refine TL_move (hk := ?_) | refine TL_assign (hk := ?_) | refine TL_load TE (hk := ?_) | refine TL_fieldAddr TE (hk := ?_) | refine TL_len TE (hk := ?_) | refine TL_nilCheck (hk := ?_))
      rw [← hie]
      exact T_ret1 rfl rfl ⟨rfl, _, F1, h1, g1, t1⟩
  · rw [if_neg h1]
    have h1' : ¬ (0 ≤ a ∧ a < ns.N) := by unfold inN at h1; simpa using h1
    by_cases h2 : 0 ≤ a
    · have h3 : ((M.s1.2.1 : Nat) : Int) ≤ a := by omega
      repeat (first | refine T_seq ?_ | refine T_region ?_ | refine T_cond_true rfl ?_ | refine TL_lt_f (hk := ?_) | refine TL_ge_t (hk := ?_) | refine TL_nil ?_ | refine TL_move (hk := ?_) | refine TL_assign (hk := ?_) | refine TL_load TE (hk := ?_) | refine TL_fieldAddr TE (hk := ?_) | refine TL_len TE (hk := ?_) | refine TL_yes (hk := ?_) | refine TL_pick_f (hk := ?_) | refine TL_nilCheck (hk := ?_))
      exact T_ret1 rfl rfl ⟨rfl, M, F, h, g, Tn.refl _ _⟩
    · repeat (first | refine T_seq ?_ | refine T_region ?_ | refine T_cond_true rfl ?_ | refine TL_lt_t (hk := ?_) | refine TL_nil ?_ | refine TL_move (hk := ?_) | refine TL_assign (hk := ?_) | refine TL_no (hk := ?_) | refine TL_pick_t (hk := ?_))
      exact T_ret1 rfl rfl ⟨rfl, M, F, h, g, Tn.refl _ _⟩
end
end Go.Proofs.Ytjjgojgahibpgaa

namespace Go.Proofs.Ytjjgojgahibpgaa
open Go.RowKit Go.Proofs.Eng Go.Proofs.Codec Go.Proofs.Link
set_option linter.unusedSimpArgs false
set_option linter.unusedVariables false set_option maxRecDepth 10000
attribute [local irreducible] T TL LV TH TA
set_option maxHeartbeats 3200000
section
variable {base p : Nat} {M : NM} {F : Nat → Nat → Nat → Nat} {h : Nat → Nat} {ns : NS} {k : Nat} {L : LL} {U : Nat → Nat → Nat}
theorem RNDrain_c (r : Int) (w : World) (hr : r ≤ 1000000) (g : NetG LayR ns.N w base p M F h ns) (hI : NI k ns L U) :
    Ret Try.prog 86 [ptr p, .int .i64 r] w (fun v w' => v = .int .i64 ((drainX ns r).2 : Int) ∧ ∃ M' F' h', NetG LayR ns.N w' base p M' F' h' (drainX ns r).1 ∧ Tn h h' w w') := by
  unfold drainX
  obtain ⟨R, hR⟩ : ∃ R, r.toNat = R := ⟨_, rfl⟩
  rw [hR]
  refine ret_T (n := 49) Try.func86 rfl rfl ?_
  repeat (first | refine T_seq ?_ | refine T_region ?_ | refine T_block ?_ | refine TL_nil ?_ | refine TL_assign (hk := ?_))
  refine T_loop (ι := Nat) (fun d => [(5, .int .i64 (d : Int)), (0, ptr p), (1, .int .i64 r)])
    (fun d w' => d ≤ R ∧ ∃ ns', DnP LayR ns.N h w w' base p ns' ∧ NI k ns' L U ∧ drainN R ns = ((drainN (R - d) ns').1, (drainN (R - d) ns').2 + d)) (fun d => R - d) 0 (.c rfl (.c rfl (.c rfl (.n)))) ⟨Nat.zero_le _, ns, ⟨rfl, M, F, h, g, Tn.refl _ _⟩, hI, rfl⟩ ?_
  rintro d w1 ⟨hd, n1, ⟨hN, M1, F1, h1, g1, t1⟩, hI1, hE⟩ ih
  have hpa := hI1.pa
  have hn2 := hI1.n2
  by_cases hlt : (d : Int) < r
  · repeat (first | refine T_seq ?_ | refine T_region ?_ | refine TL_lt_t (hk := ?_) | refine TL_move (hk := ?_) | refine TL_yes (hk := ?_))
    refine TL_call TE (hc := RNRest_c _ g1 hI1) (hk := ?_)
    rintro _ w1 ⟨rfl, e1⟩
    replace g1 := g1.ext e1
    replace t1 := t1.trans (Tn.ext e1)
    obtain ⟨f, hf⟩ : ∃ f, R - d = f + 1 := ⟨R - d - 1, by omega⟩
    rw [hf] at hE
    by_cases hz : restN n1 = 0
    · have hz' : ((restN n1 : Nat) : Int) = 0 := by omega
      rw [drain_zero _ hz] at hE
      clear ih hlt
      repeat (first | refine T_seq ?_ | refine T_region ?_ | refine T_cond_false rfl ?_ | refine T_exit rfl ?_ | refine TL_gt_f (hk := ?_) | refine TL_nil ?_ | refine TL_move (hk := ?_) | refine TL_assign (hk := ?_) | refine TL_yes (hk := ?_) | refine TL_pick_t (hk := ?_))
      rw [hE]
      exact T_ret1 rfl rfl ⟨by simp, M1, F1, h1, by rw [← hN]; exact g1, t1⟩
    · have hz' : ¬ ((restN n1 : Nat) : Int) = 0 := by omega
      have hz2 : 0 < ((restN n1 : Nat) : Int) := by omega
      have hE2 : drainN (f + 1) n1 = ((drainN f (roundN n1)).1, (drainN f (roundN n1)).2 + 1) := by
        conv => lhs; unfold drainN
        rw [if_neg hz]
      rw [hE2] at hE
      clear hlt
      repeat (first | refine T_seq ?_ | refine T_region ?_ | refine T_cond_true rfl ?_ | refine T_block ?_ | refine T_skip ?_ | refine TL_gt_t (hk := ?_) | refine TL_nil ?_ | refine TL_assign (hk := ?_) | refine TL_yes (hk := ?_) | refine TL_pick_t (hk := ?_))
      clear hz2 hz'
      refine T_loop (ι := Nat) (fun i => [(6, .int .i64 (i : Int)), (5, .int .i64 (d : Int)), (0, ptr p), (1, .int .i64 r)])
        (fun i w' => i ≤ n1.pat ∧ DnP LayR ns.N h w w' base p (tickR i n1)) (fun i => n1.pat - i) 0 (.c rfl (.c rfl (.c rfl (.c rfl (.n))))) ⟨Nat.zero_le _, hN, M1, F1, h1, g1, t1⟩ ?_
      clear g1 t1 M1 F1 h1
      rintro i w2 ⟨hi, hN2, M2, F2, h2, g2, t2⟩ ih2
      have hI2 := hI1.tickR i
      have hk2 := g2.kR
      rw [(tickR_N i n1).2.2.1] at hk2
      by_cases hit : i < n1.pat
      · repeat (first | refine T_seq ?_ | refine T_region ?_ | refine T_cond_true rfl ?_ | refine T_block ?_ | refine T_skip ?_ | refine TL_lt_t (hk := ?_) | refine TL_nil ?_ | refine TL_move (hk := ?_) | refine TL_load TE (hk := ?_) | refine TL_fieldAddr TE (hk := ?_) | refine TL_nilCheck (hk := ?_))
        refine TL_call TE (hc := RNTick_c _ g2 hI2) (hk := ?_)
        rintro _ w3 ⟨F3, h3, g3, t3⟩
        repeat (first | refine T_region ?_ | refine T_inBlock ?_ | refine TL_add (hk := ?_) | refine TL_nil ?_ | refine TL_move (hk := ?_) | refine TL_assign (hk := ?_))
        exact ih2 (i + 1) _ _ (by omega) ⟨by omega, DnP.of t2 (by rw [← hN2]; exact g3) hN2 t3⟩ (.c rfl (.c rfl (.c rfl (.c rfl (.n)))))
      clear ih2
      obtain rfl : n1.pat = i := by omega
      repeat (first | refine T_seq ?_ | refine T_region ?_ | refine T_cond_false rfl ?_ | refine T_block ?_ | refine T_exit rfl ?_ | refine TL_lt_f (hk := ?_) | refine TL_nil ?_ | refine TL_move (hk := ?_) | refine TL_assign (hk := ?_) | refine TL_load TE (hk := ?_) | refine TL_fieldAddr TE (hk := ?_) | refine TL_nilCheck (hk := ?_))
      refine T_loop (ι := Nat) (fun i => [(7, .int .i64 (i : Int)), (5, .int .i64 (d : Int)), (0, ptr p), (1, .int .i64 r)])
        (fun i w' => i ≤ ns.N ∧ DnP LayR ns.N h w w' base p (letR i (tickR n1.pat n1))) (fun i => ns.N - i) 0 (.c rfl (.c rfl (.c rfl (.c rfl (.n))))) ⟨Nat.zero_le _, hN2, M2, F2, h2, g2, t2⟩ ?_
      clear g2 t2 hk2 F2 h2
      rintro i w2 ⟨hi, hN3, M3, F3, h3, g3, t3⟩ ih3
      have hI3 := hI2.letR i (by omega)
      have hk3 := g3.kR
      have hl3 := g3.l1
      by_cases hit : i < ns.N
      · repeat (first | refine T_seq ?_ | refine T_region ?_ | refine T_cond_true rfl ?_ | refine T_block ?_ | refine T_skip ?_ | refine TL_lt_t (hk := ?_) | refine TL_nil ?_ | refine TL_move (hk := ?_) | refine TL_load TE (hk := ?_) | refine TL_fieldAddr TE (hk := ?_) | refine TL_len TE (hk := ?_) | refine TL_nilCheck (hk := ?_))
        refine TL_call TE (hc := RNLet_c (i : Int) _ g3 hI3) (hk := ?_)
        rintro _ w4 ⟨rfl, M4, F4, h4, g4, t4⟩
        have hx : (letX (letR i (tickR n1.pat n1)) (i : Int)).1 = letR (i + 1) (tickR n1.pat n1) := by
          unfold letX
          rw [if_pos (inN_t (by omega))]
          simp only [Int.toNat_natCast]
          show letK i (letR i (tickR n1.pat n1)).N _ = letK i (tickR n1.pat n1).N _
          rw [hN3, hN2]
        rw [hx] at g4
        repeat (first | refine T_region ?_ | refine T_inBlock ?_ | refine TL_add (hk := ?_) | refine TL_nil ?_ | refine TL_move (hk := ?_) | refine TL_assign (hk := ?_))
        refine ih3 (i + 1) _ _ (by omega) ⟨by omega, DnP.of t3 (by rw [← hN3]; exact g4) ?_ t4⟩ (.c rfl (.c rfl (.c rfl (.c rfl (.n)))))
        rw [(letR_N _ _).1, hN2]
      clear ih3
      obtain rfl : ns.N = i := by omega
      have hS : sentN n1 = letR ns.N (tickR n1.pat n1) := by unfold sentN; rw [hN]
      have hR1 : roundN n1 = delR (sentN n1).way.length (sentN n1) := rfl
      rw [← hS] at g3 hI3 hN3 hk3 hl3
      repeat (first | refine T_seq ?_ | refine T_region ?_ | refine T_cond_false rfl ?_ | refine T_block ?_ | refine T_exit rfl ?_ | refine TL_lt_f (hk := ?_) | refine TL_nil ?_ | refine TL_move (hk := ?_) | refine TL_load TE (hk := ?_) | refine TL_fieldAddr TE (hk := ?_) | refine TL_len TE (hk := ?_) | refine TL_nilCheck (hk := ?_))
      clear hk3 hl3
      refine T_loop (ι := Nat) (fun i => [(5, .int .i64 (d : Int)), (0, ptr p), (1, .int .i64 r)])
        (fun i w' => ∃ n4, DnP LayR ns.N h w w' base p n4 ∧ NI k n4 L U ∧ roundN n1 = delR n4.way.length n4 ∧ n4.way.length = i) (fun i => i) (sentN n1).way.length (.c rfl (.c rfl (.c rfl (.n)))) ⟨sentN n1, ⟨hN3, M3, F3, h3, g3, t3⟩, hI3, hR1, rfl⟩ ?_
      clear g3 t3 hI3 hR1 M3 F3 h3 hN3 hS hI2 hN2
      rintro i w3 ⟨n4, ⟨hN4, M4, F4, h4, g4, t4⟩, hI4, hR4, hi4⟩ ih4
      have hk4 := g4.kR
      obtain ⟨hl4, hl5⟩ := g4.l3
      by_cases hpos : 0 < i
      · obtain ⟨x, t, hw⟩ : ∃ x t, n4.way = x :: t := by
          cases hw : n4.way with
          | nil => rw [hw] at hi4; simp at hi4; omega
          | cons x t => exact ⟨x, t, rfl⟩
        repeat (first | refine T_seq ?_ | refine T_region ?_ | refine T_cond_true rfl ?_ | refine T_block ?_ | refine T_skip ?_ | refine TL_gt_t (hk := ?_) | refine TL_nil ?_ | refine TL_move (hk := ?_) | refine TL_load TE (hk := ?_) | refine TL_fieldAddr TE (hk := ?_) | refine TL_len TE (hk := ?_) | refine TL_nilCheck (hk := ?_))
        refine TL_call TE (hc := RNDeliver_c 0 _ g4 hI4) (hk := ?_)
        rintro _ w4 ⟨rfl, M5, F5, h5, g5, t5⟩
        have hdx : delX n4 0 = delN n4 0 := by
          unfold delX
          rw [if_pos (by unfold inN; rw [decide_eq_true_eq]; omega)]
          rfl
        have hI5 := (hI4.delX 0).1
        have hN5 := (delX_N (ns := n4) 0).1
        rw [hdx] at g5 hI5 hN5
        have hle : (delN n4 0).1.way.length = i - 1 := by
          have : (delN n4 0).1.way = t := by unfold delN; rw [hw]; rfl
          rw [this]
          rw [hw] at hi4
          simp at hi4
          omega
        repeat (first | refine T_inBlock ?_ | refine TL_nil ?_)
        exact ih4 (i - 1) _ _ (by omega) ⟨_, DnP.of t4 (by rw [← hN4]; exact g5) (by omega) t5, hI5, by rw [hR4]; exact delR_succ n4 hw, hle⟩ (.c rfl (.c rfl (.c rfl (.n))))
      clear ih4
      have hd0 : n4 = roundN n1 := by
        rw [hR4, hi4]
        obtain rfl : i = 0 := by omega
        rfl
      subst hd0
      repeat (first | refine T_seq ?_ | refine T_region ?_ | refine T_cond_false rfl ?_ | refine T_inBlock ?_ | refine T_exit rfl ?_ | refine TL_add (hk := ?_) | refine TL_gt_f (hk := ?_) | refine TL_nil ?_ | refine TL_move (hk := ?_) | refine TL_assign (hk := ?_) | refine TL_load TE (hk := ?_) | refine TL_fieldAddr TE (hk := ?_) | refine TL_len TE (hk := ?_) | refine TL_nilCheck (hk := ?_))
      refine ih (d + 1) _ _ (by omega) ⟨by omega, _, ⟨hN4, M4, F4, h4, g4, t4⟩, hI4, ?_⟩ (.c rfl (.c rfl (.c rfl (.n))))
      rw [hE, show R - (d + 1) = f by omega]
      simp only [Prod.mk.injEq, true_and]
      omega
  · have h0 : R - d = 0 := by omega
    rw [h0] at hE
    clear ih
    repeat (first | refine T_seq ?_ | refine T_region ?_ | refine T_cond_false rfl ?_ | refine T_exit rfl ?_ | refine TL_lt_f (hk := ?_) | refine TL_nil ?_ | refine TL_move (hk := ?_) | refine TL_assign (hk := ?_) | refine TL_no (hk := ?_) | refine TL_pick_f (hk := ?_))
    rw [hE]
    exact T_ret1 rfl rfl ⟨by simp [drainN], M1, F1, h1, by rw [← hN]; exact g1, t1⟩
end
theorem RNNewNet_c (N W P : Int) (w : World) (hN : -9223372036854775808 ≤ N ∧ N ≤ 9223372036854775807) (hW : -9223372036854775808 ≤ W ∧ W ≤ 9223372036854775807) (hP : -9223372036854775808 ≤ P ∧ P ≤ 9223372036854775807) :
    Ret Try.prog 59 [.int .i64 N, .int .i64 W, .int .i64 P] w (fun v w' => Ext w w' ∧ ((newX N W P = false ∧ v = .tuple #[.pointer none, .int .i64 2]) ∨
      ∃ n W' P' : Nat, N = n ∧ W = W' ∧ P = P' ∧ 2 ≤ n ∧ n ≤ 8 ∧ (1 ≤ W' ∧ W' ≤ 256) ∧ (1 ≤ P' ∧ P' ≤ 1000) ∧ newX N W P = true ∧ ∃ p M F h, v = .tuple #[ptr p, .int .i64 0] ∧ NetG LayR n w' w.heap.size p M F h (nsN n W' P'))) := by
  unfold newX
  refine ret_T (n := 77) Try.func59 rfl rfl ?_
  repeat (first | refine T_seq ?_ | refine T_region ?_ | refine TL_nil ?_ | refine TL_move (hk := ?_) | refine TL_assign (hk := ?_))
  refine TL_call TE (hc := RMake_c W P _ hW hP) (hk := ?_)
  rintro _ w0 ⟨e0, hr0⟩
  obtain ⟨v0, ev0, hr0⟩ : ∃ v0 ev0, _ = Value.tuple #[v0, .int .i64 ev0] ∧ ((goodE W P = true ∧ ev0 = 0) ∨ (goodE W P = false ∧ ev0 = 2)) := by
    rcases hr0 with ⟨hg, h⟩ | ⟨hg, p, m, f, h, -⟩
    · exact ⟨_, _, h, .inr ⟨hg, rfl⟩⟩
    · exact ⟨_, _, h, .inl ⟨hg, rfl⟩⟩
  obtain ⟨rfl, hg⟩ := hr0
  have z0 := e0.size
  by_cases h1 : 2 ≤ N
  · by_cases h2 : N ≤ 8
    · rcases hg with ⟨hg, rfl⟩ | ⟨hg, rfl⟩
      · obtain ⟨n, rfl⟩ := Int.eq_ofNat_of_zero_le (show 0 ≤ N by omega)
        have hn : 2 ≤ n ∧ n ≤ 8 := by omega
        rw [show (decide (2 ≤ (n : Int) ∧ (n : Int) ≤ 8)) = true from decide_eq_true ⟨h1, h2⟩]
        rw [Bool.true_and]
        obtain ⟨W', P', rfl, rfl, hW', hP'⟩ := goodE_nat hg
        repeat (first | refine T_seq ?_ | refine T_region ?_ | refine T_cond_false rfl ?_ | refine T_skip ?_ | refine TL_lt_f (hk := ?_) | refine TL_gt_f (hk := ?_) | refine TL_ne_f (hk := ?_) | refine TL_nil ?_ | refine TL_move (hk := ?_) | refine TL_assign (hk := ?_) | refine TL_yes (hk := ?_) | refine TL_pick_f (hk := ?_) | refine TL_extract (hk := ?_) | refine TL_build TE (hk := ?_))
        refine TL_box (hk := ?_); intro p w1 e1 p1 p1' k1
        clear h1 h2
        replace k1 : Blk w1 p 101 [slV (none, 0, 0), slV (none, 0, 0), slV (none, 0, 0), .int .i64 (P' : Int)] := k1
        have hb1 := e1.size
        have g0 : NetG LayR 0 w1 w.heap.size p NM0 (fun _ _ _ => 0) (fun b => if b = p then 1 else 0) (nsN n W' P') := by
          refine { blk := k1, o1 := Own.nil _ _ _ _, q1 := fun a ha => (by omega), o2 := Own.nil _ _ _ _, q2 := fun a ha => (by omega), o3 := Own.nil _ _ _ _, wy := rfl, fr := fun x hx => (by cases hx), en := fun a c ha => (by omega), hp := if_pos rfl, h2 := fun a ha => (by omega), h3 := fun a ha => (by omega), h11 := fun b hb => (by cases hb), h12 := fun b hb => (by cases hb), h13 := fun x hx => (by cases hx), h14 := fun b hb => (by cases hb), he := fun a c ha => (by omega), old := fun b hb => ?_, rn := by omega, nn := hn.2 }
          by_cases e : b = p
          · subst e; exact ⟨by omega, p1'⟩
          · rw [if_neg e] at hb; exact absurd rfl hb
        repeat (first | refine T_seq ?_ | refine T_region ?_ | refine T_block ?_ | refine TL_nil ?_ | refine TL_assign (hk := ?_))
        refine T_loop (ι := Nat) (fun i => [(11, .int .i64 (i : Int)), (10, ptr p), (0, .int .i64 (n : Int)), (1, .int .i64 (W' : Int)), (2, .int .i64 (P' : Int)), (6, .pointer none)])
          (fun i w' => i ≤ n ∧ Ext w w' ∧ ∃ M F h, M.y = [] ∧ M.s3 = (none, 0, 0) ∧ NetG LayR i w' w.heap.size p M F h (nsN n W' P')) (fun i => n - i) 0 (.c rfl (.c rfl (.c rfl (.c rfl (.c rfl (.c rfl (.n))))))) ⟨Nat.zero_le _, e0.ext e1, _, _, _, rfl, rfl, g0⟩ ?_
        clear g0
        rintro i w2 ⟨hi, e2, M, F, h, hy, hs3, g⟩ ih
        by_cases hlt : i < n
        · have hs2 := e2.size
          repeat (first | refine T_seq ?_ | refine T_region ?_ | refine T_cond_true rfl ?_ | refine T_block ?_ | refine T_skip ?_ | refine TL_lt_t (hk := ?_) | refine TL_nil ?_ | refine TL_move (hk := ?_) | refine TL_assign (hk := ?_))
          refine T_loop (ι := Nat × SV) (fun c => [(13, .int .i64 (c.1 : Int)), (12, slV c.2), (11, .int .i64 (i : Int)), (10, ptr p), (0, .int .i64 (n : Int)), (1, .int .i64 (W' : Int)), (2, .int .i64 (P' : Int)), (6, .pointer none)])
            (fun c w' => c.1 ≤ n ∧ Ext w2 w' ∧ ∃ (ev : Nat → Value) (f : Nat → Nat → Nat) (G : Nat → Nat), Own w' w2.heap.size 68 1 c.2.1 c.2.2.1 c.2.2.2 (rowF c.1 ev) ∧
              (∀ x, x < c.1 → QR w' w2.heap.size i x (ev x) (f x) (nE W' P') ∧ ∀ b, f x b ≠ 0 → G b = 15 + (i * 8 + x)) ∧ (∀ b, G b ≠ 0 → w2.heap.size ≤ b ∧ b < w'.heap.size) ∧ ∀ b ∈ blkL c.2.1, G b = 0) (fun c => n - c.1) (0, (none, 0, 0)) (.c rfl (.c rfl (.c rfl (.c rfl (.c rfl (.c rfl (.c rfl (.c rfl (.n)))))))))
            ⟨Nat.zero_le _, Mod.refl _ _, fun _ => .pointer none, fun _ _ => 0, fun _ => 0, Own.nil _ _ _ _, fun x hx => by omega, fun b hb => absurd rfl hb, fun b hb => rfl⟩ ?_
          rintro ⟨c, l⟩ w4 ⟨hc, e4, ev, f, G, o4, hq4, hG4, hl4⟩ ih2
          simp only at hc e4 o4 hq4 hG4 hl4 ih2
          have z4 := e4.size
          have hll : l.2.1 = c := by have := o4.len; rw [rowF_len] at this; omega
          by_cases hct : c < n
          · repeat (first | refine T_seq ?_ | refine T_region ?_ | refine T_cond_true rfl ?_ | refine T_block ?_ | refine T_skip ?_ | refine TL_lt_t (hk := ?_) | refine TL_nil ?_ | refine TL_move (hk := ?_))
            refine TL_call TE (hc := RMake_c (W' : Int) (P' : Int) _ hW hP) (hk := ?_)
            rintro _ w5 ⟨e5, ⟨hg', -⟩ | ⟨-, q, m, f5, rfl, hE⟩⟩
            · rw [hg] at hg'; cases hg'
            simp only [Int.toNat_natCast] at hE
            have o5 := o4.be e5
            have z5 := e5.size
            have hq5 : ∀ x, x < c → QR w5 w2.heap.size i x (ev x) (f x) (nE W' P') ∧ ∀ b, f x b ≠ 0 → G b = 15 + (i * 8 + x) := fun x hx => ⟨LayR.qm (a := i) (c := x) (hq4 x hx).1 e5 (fun b hb => by cases hb), (hq4 x hx).2⟩
            repeat (first | refine T_region ?_ | refine TL_nil ?_ | refine TL_move (hk := ?_) | refine TL_assign (hk := ?_) | refine TL_extract (hk := ?_))
            refine TL_buildSlice TE (hk := ?_); intro b6 w6 e6 p6 p6' k6
            have r6 : Rd w6 (some ⟨b6, 0, none⟩) 1 1 [ptr q] := Rd.blk k6 rfl
            have o6 := o5.be e6
            have z6 := e6.size
            --
            refine TL_append TE (ho := o6) (hr := r6) (h1 := by simp [ptr, Value.oneCell']) (hk := ?_); intro A7 c7 w7 o7 m7 n7
            have z7 := m7.size
            have hA7 : ∀ b ∈ blkL A7, b ∈ blkL l.1 ∨ w6.heap.size ≤ b := fun b hb => Near.blk n7 b hb
            have e27 : Ext w2 w7 := Mod.step ((e4.ext e5).ext e6) m7 (fun b hb => .inr (o4.bl b hb).1)
            have hf5 : ∀ b ∈ blkL l.1, f5 b = 0 := fun b hb => by
              by_cases y : f5 b = 0
              · exact y
              · have := (hE.ki.old b y).1; have := (o4.bl b hb).2; omega
            have hE7 : REndM w7 w4.heap.size q m f5 (nE W' P') := (hE.ext e6).mod m7 hf5
            have hqe : ptr q = upd ev c (ptr q) c := (upd_at _ _ _).symm
            repeat (first | refine T_region ?_ | refine T_inBlock ?_ | refine TL_add (hk := ?_) | refine TL_nil ?_ | refine TL_move (hk := ?_) | refine TL_assign (hk := ?_))
            refine ih2 (c + 1, (A7, l.2.1 + 1, c7)) _ _ (by simp only; omega) ⟨by simp only; omega, e27, upd ev c (ptr q), upd f c f5, fun b => if f5 b = 0 then G b else 15 + (i * 8 + c), ?_, fun x hx => ?_, fun b hb => ?_, fun b hb => ?_⟩ (.c rfl (.c rfl (.c rfl (.c rfl (.c rfl (.c rfl (.c rfl (.c rfl (.n)))))))))
            · simp only
              rw [rowF_succ, upd_at, rowF_cong (g' := ev) (fun x hx => upd_ne _ _ (by omega))]
              exact o7
            · simp only at hx
              by_cases e : x = c
              · subst e
                rw [upd_at, upd_at]
                exact ⟨⟨w4.heap.size, q, m, by omega, rfl, hE7⟩, fun b hb => by simp only; rw [if_neg hb]⟩
              · rw [upd_ne _ _ e, upd_ne _ _ e]
                obtain ⟨g1, g2⟩ := hq5 x (by omega)
                refine ⟨LayR.qm (a := i) (c := x) (LayR.qm (a := i) (c := x) g1 e6 (fun b hb => by cases hb)) m7 (fun b hb => ?_), fun b hb => ?_⟩
                · by_cases y : f x b = 0
                  · exact y
                  · have h3 := g2 b y; have := hl4 b hb; omega
                · have h3 := g2 b hb
                  have h4 := hG4 b (by omega)
                  have : f5 b = 0 := by
                    by_cases y : f5 b = 0
                    · exact y
                    · have := (hE.ki.old b y).1; omega
                  simp only
                  rw [if_pos this]
                  exact h3
            · simp only at hb
              by_cases y : f5 b = 0
              · rw [if_pos y] at hb; have := hG4 b hb; omega
              · have := hE.ki.old b y; omega
            · simp only at hb ⊢
              rcases hA7 b hb with y | y
              · rw [if_pos (hf5 b y)]; exact hl4 b y
              · have : f5 b = 0 := by
                  by_cases y : f5 b = 0
                  · exact y
                  · have := (hE.ki.old b y).2; omega
                rw [if_pos this]
                by_cases y2 : G b = 0
                · exact y2
                · have := (hG4 b y2).2; omega
          · obtain rfl : c = n := by omega
            clear ih2
            have hbw := g.bw
            have rn := g.rn
            have hl1 := g.l1
            have hl2 := g.l2
            have hk4 := g.kR.be e4
            have g4 := g.ext e4
            have hp4 : p ∉ blkL M.s1.1 := fun q => by have := g.h11 p q; rw [g.hp] at this; omega
            have hp4' : p ∉ blkL M.s2.1 := fun q => by have := g.h14 p q; rw [g.hp] at this; omega
            repeat (first | refine T_seq ?_ | refine T_region ?_ | refine T_cond_false rfl ?_ | refine T_exit rfl ?_ | refine TL_lt_f (hk := ?_) | refine TL_nil ?_ | refine TL_move (hk := ?_) | refine TL_load TE (hk := ?_) | refine TL_fieldAddr TE (hk := ?_) | refine TL_nilCheck (hk := ?_))
            refine TL_buildSlice TE (hk := ?_); intro b5 w5 e5 p5 p5' k5
            have r5 : Rd w5 (some ⟨b5, 0, none⟩) 1 1 [slV l] := Rd.blk k5 rfl
            have o15 := g4.o1.be e5
            have hk5 := hk4.be e5
            have z5 := e5.size
            --
            refine TL_append TE (ho := o15) (hr := r5) (h1 := slVs_one [l]) (hk := ?_); intro A6 c6 w6 o6 m6 n6
            have hk6 := hk5.mod m6 hp4
            repeat (first | refine TL_fieldAddr TE (hk := ?_) | refine TL_nilCheck (hk := ?_))
            refine TL_store TE (hb := hk6) (hk := ?_); intro w7 m7 z7 k7
            have z6 := m6.size
            have hA6 : ∀ b ∈ blkL A6, b ∈ blkL M.s1.1 ∨ w5.heap.size ≤ b := fun b hb => Near.blk n6 b hb
            have hpA6 : ∀ b ∈ blkL A6, b ∉ [p] := fun b hb q => by
              rw [List.mem_singleton] at q
              rcases hA6 b hb with h1 | h1
              · exact hp4 (q ▸ h1)
              · omega
            have o7 := o6.modL m7 hpA6
            have M27 : Eng.Mod (p :: blkL M.s1.1) w2 w7 := (((e4.ext e5).mono (S' := p :: blkL M.s1.1) (by simp)).step m6 (fun b hb => .inl (List.mem_cons_of_mem _ hb))).step m7 (fun b hb => .inl (by rw [List.mem_singleton.1 hb]; exact List.mem_cons_self))
            have hdis : ∀ b ∈ blkL M.s2.1, b ∉ p :: blkL M.s1.1 := fun b hb q => by
              have a1 := g.h14 b hb
              rcases List.mem_cons.1 q with rfl | q
              · rw [g.hp] at a1; omega
              · have := g.h11 b q; omega
            have o27 := g.o2.modL M27 hdis
            have M47 : Eng.Mod (p :: blkL M.s1.1) w4 w7 := ((e5.mono (S' := p :: blkL M.s1.1) (by simp)).step m6 (fun b hb => .inl (List.mem_cons_of_mem _ hb))).step m7 (fun b hb => .inl (by rw [List.mem_singleton.1 hb]; exact List.mem_cons_self))
            have hlt2 : ∀ b ∈ p :: blkL M.s1.1, b < w2.heap.size := fun b hb => by
              rcases List.mem_cons.1 hb with rfl | hb
              · exact hbw.2
              · exact (g.o1.bl b hb).2
            have o47 := o4.modL M47 (fun b hb q => by have := hlt2 b q; have := (o4.bl b hb).1; omega)
            have hq7 : ∀ x, x < c → QR w7 w2.heap.size i x (ev x) (f x) (nE W' P') ∧ ∀ b, f x b ≠ 0 → G b = 15 + (i * 8 + x) := fun x hx => ⟨LayR.qm (a := i) (c := x) (hq4 x hx).1 M47 (fun b hb => by
              by_cases y : f x b = 0
              · exact y
              · have := (hq4 x hx).2 b y; have := hG4 b (by omega); have := hlt2 b hb; omega), (hq4 x hx).2⟩
            clear hk4 hk5 hk6 o6 o15 m6 m7 hq4 g4
            replace k7 : Blk w7 p 101 [slV (A6, M.s1.2.1 + 1, c6), slV M.s2, slV M.s3, .int .i64 (P' : Int)] := k7
            repeat (refine TL_nil ?_)
            refine T_region_anyz TE.mixed (blkL M.s2.1) (some 11) ?_; intro w8 e8 z8
            have k8 := k7.be e8
            have o28 := o27.be e8
            (refine TA_take 0 rfl (by kernel_rfl) (by kernel_rfl) (by kernel_rfl) ?_; (repeat (first | refine TL_move (hk := ?_) | refine TLP_load TE (hk := ?_) | refine TL_fieldAddr TE (hk := ?_) | refine TL_nilCheck (hk := ?_))); refine TL_nil_p ?_); (refine TA_take 1 rfl (by kernel_rfl) (by kernel_rfl) (by kernel_rfl) ?_; (repeat (first | refine TL_move (hk := ?_) | refine TLP_load TE (hk := ?_) | refine TL_fieldAddr TE (hk := ?_) | refine TL_nilCheck (hk := ?_))); refine TL_nil_p ?_); (refine TA_take 2 rfl (by kernel_rfl) (by kernel_rfl) (by kernel_rfl) ?_; (repeat (first | refine TL_move (hk := ?_) | refine TLP_load TE (hk := ?_) | refine TL_fieldAddr TE (hk := ?_) | refine TL_nilCheck (hk := ?_))); refine TL_nil_p ?_); (refine TA_take 3 rfl (by kernel_rfl) (by kernel_rfl) (by kernel_rfl) ?_; (repeat (first | refine TL_move (hk := ?_) | refine TLP_load TE (hk := ?_) | refine TL_fieldAddr TE (hk := ?_) | refine TL_nilCheck (hk := ?_))); refine TL_nil_p ?_); (refine TA_take 4 rfl (by kernel_rfl) (by kernel_rfl) (by kernel_rfl) ?_; (repeat (first | refine TL_move (hk := ?_) | refine TLP_load TE (hk := ?_) | refine TL_fieldAddr TE (hk := ?_) | refine TL_nilCheck (hk := ?_))); refine TL_nil_p ?_); (refine TA_take 5 rfl (by kernel_rfl) (by kernel_rfl) (by kernel_rfl) ?_; (repeat (first | refine TL_move (hk := ?_) | refine TLP_load TE (hk := ?_) | refine TL_fieldAddr TE (hk := ?_) | refine TL_nilCheck (hk := ?_))); refine TL_nil_p ?_)
            refine TA_one 6 rfl (by kernel_rfl) (by kernel_rfl) ?_
            refine TL_makeSlice TE (m := c) (hf := rfl) (hq := fun w' e => Ext.un e) (hk := ?_); intro b9 w9 e9 p9 p9' k9
            rw [rowF_rep] at k9
            refine TL_nil_p ?_
            refine TA_one 7 rfl (by kernel_rfl) (by kernel_rfl) ?_
            refine TL_buildSlice TE (hf := rfl) (hq := fun w' e => Ext.un (e9.ext e)) (hk := ?_); intro b10 w10 e10 p10 p10' k10
            have r10 : Rd w10 (some ⟨b10, 0, none⟩) 1 1 [slV (some ⟨b9, 0, none⟩, c, c)] := Rd.blk k10 rfl
            have z9 := e9.size
            have z10 := e10.size
            have z2x := M27.size
            refine TL_nil_p ?_
            refine TA_one 8 rfl (by kernel_rfl) (by kernel_rfl) ?_
            refine TL_append TE (ho := (o28.be e9).be e10) (hr := r10) (h1 := slVs_one [(some ⟨b9, 0, none⟩, c, c)]) (hf := rfl) (hq := fun w' m => (Ext.un (e9.ext e10)).trans m) (hk := ?_); intro A11 c11 w11 o11 m11 n11
            have k11 := ((k8.be e9).be e10).mod m11 hp4'
            refine TL_nil_p ?_
            (refine TA_one 9 rfl (by kernel_rfl) (by kernel_rfl) ?_; (repeat (first | refine TL_fieldAddr TE (hk := ?_) | refine TL_nilCheck (hk := ?_))); refine TL_nil_p ?_); (refine TA_one 10 rfl (by kernel_rfl) (by kernel_rfl) ?_; (repeat (first | refine TL_fieldAddr TE (hk := ?_) | refine TL_nilCheck (hk := ?_))); refine TL_nil_p ?_)
            refine TA_one 11 rfl (by kernel_rfl) (by kernel_rfl) ?_
            refine TL_store TE (hb := k11) (hf := rfl) (hq := fun _ _ _ => trivial) (hk := ?_); intro w12 m12 z12 k12
            refine TL_nil_z (by kernel_rfl) ?_
            have z11 := m11.size
            have z78 := e8.size
            have hA11 : ∀ b ∈ blkL A11, b ∈ blkL M.s2.1 ∨ w10.heap.size ≤ b := fun b hb => Near.blk n11 b hb
            have hpA11 : ∀ b ∈ blkL A11, b ∉ [p] := fun b hb q => by
              rw [List.mem_singleton] at q
              rcases hA11 b hb with h1 | h1
              · exact hp4' (q ▸ h1)
              · omega
            have o12 := o11.modL m12 hpA11
            have M712 : Eng.Mod (p :: blkL M.s2.1) w7 w12 := ((((e8.ext e9).ext e10).mono (S' := p :: blkL M.s2.1) (by simp)).step m11 (fun b hb => .inl (List.mem_cons_of_mem _ hb))).step m12 (fun b hb => .inl (by rw [List.mem_singleton.1 hb]; exact List.mem_cons_self))
            have M912 : Eng.Mod (p :: blkL M.s2.1) w9 w12 := ((e10.mono (S' := p :: blkL M.s2.1) (by simp)).step m11 (fun b hb => .inl (List.mem_cons_of_mem _ hb))).step m12 (fun b hb => .inl (by rw [List.mem_singleton.1 hb]; exact List.mem_cons_self))
            have hS2 : ∀ b ∈ p :: blkL M.s2.1, h b = 1 ∨ h b = 14 := fun b hb => by
              rcases List.mem_cons.1 hb with rfl | hb
              · exact .inl g.hp
              · exact .inr (g.h14 b hb)
            have hl22 : ∀ b ∈ p :: blkL M.s2.1, b < w2.heap.size := fun b hb => by
              rcases List.mem_cons.1 hb with rfl | hb
              · exact hbw.2
              · exact (g.o2.bl b hb).2
            have o7' := o7.modL M712 (fun b hb q => by
              rcases hA6 b hb with h1 | h1
              · have := g.h11 b h1; rcases hS2 b q with h | h <;> omega
              · have := hl22 b q; omega)
            have o47' := o47.modL M712 (fun b hb q => by have := hl22 b q; have := (o4.bl b hb).1; omega)
            have q9 : Own w12 w.heap.size 4 1 (some ⟨b9, 0, none⟩) c c (rowF c fun _ => .bool false) := Own.of_blk (k9.mod M912 (fun q => by have := hl22 b9 q; omega)) (by omega) (by simp) (by unfold maxLen; omega)
            obtain ⟨h', g'⟩ := g.row (s1 := (A6, M.s1.2.1 + 1, c6)) (s2 := (A11, M.s2.2.1 + 1, c11)) (r1 := l) (r2 := (some ⟨b9, 0, none⟩, c, c)) (ev := ev) (f := f)
              (G := updF (updF (updF (updF G (blkL l.1) 2) (blkL A6) 11) [b9] (3 + i)) (blkL A11) 14) (S := (p :: blkL M.s1.1) ++ (p :: blkL M.s2.1)) hy (by omega)
              ((M27.mono (fun b hb => .inl (List.mem_append_left _ hb))).step M712 (fun b hb => .inl (List.mem_append_right _ hb)))
              (fun b hb => by
                rcases List.mem_append.1 hb with hb | hb
                · rcases List.mem_cons.1 hb with rfl | hb
                  · exact .inl g.hp
                  · exact .inr (.inl (g.h11 b hb))
                · exact (hS2 b hb).imp id .inr)
              k12 o7' o47'.rd o12 q9 (fun x hx => by
                obtain ⟨bs, q', m, a1, a2, a3⟩ := LayR.qm (a := i) (c := x) (hq7 x hx).1 M712 (fun b hb => by
                  by_cases y : f x b = 0
                  · exact y
                  · have := (hq7 x hx).2 b y; have := hG4 b (by omega); have := hl22 b hb; omega)
                exact ⟨bs, q', m, by omega, a2, a3⟩)
              (fun b hb => by
                by_cases a1 : b ∈ blkL A11
                · have := (o12.bl b a1); omega
                rw [updF_out a1] at hb
                by_cases a2 : b ∈ [b9]
                · rw [List.mem_singleton.1 a2]; have := M912.size; omega
                rw [updF_out a2] at hb
                by_cases a3 : b ∈ blkL A6
                · have := o7'.bl b a3; omega
                rw [updF_out a3] at hb
                by_cases a4 : b ∈ blkL l.1
                · have := o4.bl b a4; have := M912.size; omega
                rw [updF_out a4] at hb
                have := hG4 b hb; have := M912.size; omega)
              (fun b hb => by
                rcases hA6 b hb with q | q
                · exact .inl q
                · right
                  refine ⟨by omega, ?_⟩
                  have h1 := o7.bl b hb
                  rw [updF_out (fun y => by rcases hA11 b y with u | u <;> first | (have := g.o2.bl b u; omega) | omega), updF_out (fun y => by rw [List.mem_singleton.1 y] at h1; omega), updF_in hb])
              (fun b hb => by
                rcases hA11 b hb with q | q
                · exact .inl q
                · exact .inr ⟨by omega, updF_in hb⟩)
              (fun b hb => by
                have a0 := o4.bl b hb
                refine ⟨a0.1, ?_⟩
                rw [updF_out (fun y => by rcases hA11 b y with u | u <;> first | (have := g.o2.bl b u; omega) | omega), updF_out (fun y => by rw [List.mem_singleton] at y; omega), updF_out (fun y => by rcases hA6 b y with u | u <;> first | (have := g.o1.bl b u; omega) | omega), updF_in hb])
              (fun b hb => by
                obtain rfl : b = b9 := by simpa [blkL] using hb
                refine ⟨by omega, ?_⟩
                rw [updF_out (fun y => by rcases hA11 b y with u | u <;> first | (have := g.o2.bl b u; omega) | omega), updF_in (by simp)])
              (fun x hx b hb => by
                have a0 := (hq7 x hx).2 b hb
                have a1 := hG4 b (by omega)
                refine ⟨by omega, ?_⟩
                rw [updF_out (fun y => by rcases hA11 b y with u | u <;> first | (have := g.o2.bl b u; omega) | omega), updF_out (fun y => by rw [List.mem_singleton] at y; omega), updF_out (fun y => by rcases hA6 b y with u | u <;> first | (have := g.o1.bl b u; omega) | omega), updF_out (fun y => by have := hl4 b y; omega)]
                exact a0)
            have eW : Ext w w12 := Mod.step (e2.step M27 (fun b hb => .inr (by
              rcases List.mem_cons.1 hb with rfl | hb
              · exact hbw.1
              · exact (g.o1.bl b hb).1))) M712 (fun b hb => .inr (by
              rcases List.mem_cons.1 hb with rfl | hb
              · exact hbw.1
              · exact (g.o2.bl b hb).1))
            repeat (first | refine T_region ?_ | refine T_inBlock ?_ | refine TL_add (hk := ?_) | refine TL_nil ?_ | refine TL_move (hk := ?_) | refine TL_assign (hk := ?_))
            exact ih (i + 1) _ _ (by omega) ⟨by omega, eW, { M with s1 := (A6, M.s1.2.1 + 1, c6), s2 := (A11, M.s2.2.1 + 1, c11), r1 := upd M.r1 i l, r2 := upd M.r2 i (some ⟨b9, 0, none⟩, c, c), ev := fun a c => if a = i then ev c else M.ev a c }, _, h', hy, hs3, g'⟩ (.c rfl (.c rfl (.c rfl (.c rfl (.c rfl (.c rfl (.n)))))))
        · obtain rfl : i = n := by omega
          clear ih
          repeat (first | refine T_seq ?_ | refine T_region ?_ | refine T_cond_false rfl ?_ | refine T_exit rfl ?_ | refine TL_lt_f (hk := ?_) | refine TL_nil ?_ | refine TL_move (hk := ?_) | refine TL_assign (hk := ?_))
          exact T_ret2 rfl rfl rfl ⟨e2, .inr ⟨i, W', P', rfl, rfl, rfl, hn.1, hn.2, hW', hP', hg, p, M, F, h, rfl, g⟩⟩
      · rw [hg, Bool.and_false]
        repeat (first | refine T_seq ?_ | refine T_region ?_ | refine T_cond_true rfl ?_ | refine TL_lt_f (hk := ?_) | refine TL_gt_f (hk := ?_) | refine TL_ne_t (hk := ?_) | refine TL_nil ?_ | refine TL_move (hk := ?_) | refine TL_assign (hk := ?_) | refine TL_yes (hk := ?_) | refine TL_pick_f (hk := ?_) | refine TL_extract (hk := ?_))
        exact T_ret2 rfl rfl rfl ⟨e0, .inl ⟨rfl, rfl⟩⟩
    · rw [show (decide (2 ≤ N ∧ N ≤ 8)) = false from decide_eq_false (fun q => h2 q.2)]
      repeat (first | refine T_seq ?_ | refine T_region ?_ | refine T_cond_true rfl ?_ | refine TL_lt_f (hk := ?_) | refine TL_gt_t (hk := ?_) | refine TL_nil ?_ | refine TL_move (hk := ?_) | refine TL_assign (hk := ?_) | refine TL_yes (hk := ?_) | refine TL_no (hk := ?_) | refine TL_pick_t (hk := ?_) | refine TL_pick_f (hk := ?_) | refine TL_extract (hk := ?_))
      exact T_ret2 rfl rfl rfl ⟨e0, .inl ⟨rfl, rfl⟩⟩
  · rw [show (decide (2 ≤ N ∧ N ≤ 8)) = false from decide_eq_false (fun q => h1 q.1)]
    repeat (first | refine T_seq ?_ | refine T_region ?_ | refine T_cond_true rfl ?_ | refine TL_lt_t (hk := ?_) | refine TL_nil ?_ | refine TL_move (hk := ?_) | refine TL_assign (hk := ?_) | refine TL_no (hk := ?_) | refine TL_pick_t (hk := ?_) | refine TL_extract (hk := ?_))
    exact T_ret2 rfl rfl rfl ⟨e0, .inl ⟨rfl, rfl⟩⟩
end Go.Proofs.Ytjjgojgahibpgaa
