import Derived.Test.YtgdbckjkeofoaaaGreatSp3
/- Parts: SW7 FW11 FW12 FW13 SD1 SD2 SW13 DLaw1 KLaw3 SKLaw4 SLaw1 SLaw2 SLaw3 SFLaw DLaw2 DW1 DMem FW14 FW15. -/
namespace Go.Proofs.YtgdbckjkeofoaaaGreat
open Go.RowKit Go.Proofs.Eng Go.Proofs.Foot Go.Proofs.Locks Go.Proofs.Sched
set_option linter.unusedSimpArgs false
set_option linter.unusedVariables false set_option maxRecDepth 10000
attribute [local irreducible] T TL LV TH TA
set_option maxHeartbeats 3200000
theorem TabM.weaken {w : World} {base base' : Nat} {m : LM} {f : Nat → Ow} {Q : Tx → List Akk} {E : List Ent} {nx : Int} (h : TabM w base m f Q E nx) (hb : base' ≤ base) : TabM w base' m f Q E nx :=
  { h with
    qs := fun k x a => ⟨Own.weaken (h.qs k x a).1 hb, (h.qs k x a).2⟩
    sa := fun s x a => by obtain ⟨l, h1, h2, h3⟩ := h.sa s x a; exact ⟨l, h1, Own.weaken h2 hb, h3⟩
    old := fun b q => by have := h.old b q; omega }
theorem num_c15 (z : Int) (w : World) : Ret Tryz.prog 11 [.int .i64 z] w (fun v w' => v = .int .i64 z ∧ Ext w w') := by
  refine ret_T (n := 4) Tryz.func11 rfl rfl ?_
  repeat (first | refine T_seq ?_ | refine T_region ?_ | refine TL_nil ?_ | refine TL_move (hk := ?_) | refine TL_assign (hk := ?_))
  exact T_ret1 rfl rfl ⟨rfl, Mod.refl _ _⟩
theorem ScNew_c {base : Nat} {ms : StM} {g : Nat → Nat} {S : StE} (n : Nat) (w : World) (h : StoreM w base ms g S) (hn : 1 ≤ n ∧ n ≤ 4096) :
    Ret Tryz.prog 30 [.int .i64 (n : Int), pB ms.sb] w (fun v w' => ∃ m hh f, v = .tuple #[pB m.p, .int .i64 0] ∧ m.sm = ms ∧ Ext w w' ∧ SchedM w' base m hh g f (newSS n S) ∧ ∀ b, oA hh g f b ≠ 0 → base ≤ b) := by
  obtain ⟨n1, n2⟩ := hn
  have hbs := (h.old ms.sb (by rw [h.gb]; decide))
  refine ret_T (n := 21) Tryz.func30 rfl rfl ?_
  repeat (first | refine T_seq ?_ | refine T_region ?_ | refine T_cond_false rfl ?_ | refine T_skip ?_ | refine TL_lt_f (hk := ?_) | refine TL_gt_f (hk := ?_) | refine TL_pnil_f TE (hk := ?_) | refine TL_nil ?_ | refine TL_move (hk := ?_) | refine TL_assign (hk := ?_) | refine TL_yes (hk := ?_) | refine TL_pick_f (hk := ?_))
  refine TL_call TE (hc := KNew_c w) (hk := ?_)
  rintro _ w1 ⟨mt, ft, rfl, e1, h1⟩
  have z1 := e1.size
  repeat (refine TL_build TE (hk := ?_))
  refine TL_box (hk := ?_); intro b2 w2 e2 h2 h2' k2
  have z2 := e2.size
  replace k2 : Blk w2 b2 77 [.int .i64 (n : Int), pB ms.sb, pT mt.p, sL (none, 0, 0), .int .i64 ((0 : Nat) : Int)] := k2
  have hft : ∀ b, ow ft b ≠ 0 → w.heap.size ≤ b ∧ b < w1.heap.size := fun b q => h1.old b q
  have M2 : SchedM w2 base ⟨b2, (none, 0, 0), [], ms, mt⟩ (fun x => if x = b2 then 1 else 0) g ft (newSS n S) :=
    { blk := k2
      eo := Own.nil _ _ _ _
      ee := rfl
      ek := fun x hx => by cases hx
      st := h.ext (e1.ext e2)
      tb := (h1.ext e2).weaken (by omega)
      hp := by simp
      he := fun b q => by simp [blkL] at q
      old := fun x q => by
        by_cases e : x = b2
        · omega
        · simp only [e, if_false] at q; exact absurd rfl q
      d1 := fun x => by
        by_cases e : x = b2
        · right
          by_cases y : g x = 0
          · exact y
          · have := (h.old x y).2; omega
        · left; simp [e]
      d2 := fun x => by
        by_cases e : x = b2
        · right
          by_cases y : ow ft x = 0
          · exact y
          · have := (hft x y).2; omega
        · left; simp [e]
      d3 := fun x => by
        by_cases y : g x = 0
        · exact .inl y
        · right
          by_cases z : ow ft x = 0
          · exact z
          · have := (h.old x y).2; have := (hft x z).1; omega }
  repeat (first | refine TL_nil ?_ | refine TL_assign (hk := ?_))
  exact T_ret2 rfl rfl rfl ⟨_, _, _, rfl, rfl, e1.ext e2, M2, fun b q => (M2.oold q).1⟩
theorem newSS_si {n : Nat} {S : StE} (hn : 1 ≤ n ∧ n ≤ 4096) (h1 : 1 ≤ S.C.length ∧ S.C.length ≤ 64) (h2 : S.room ≤ 4096) (h3 : ∀ c ∈ S.C, c.length ≤ 50000) : SI 0 (newSS n S) :=
  { wn := hn, c1 := h1, ro := h2, cl := fun c hc => by have := h3 c hc; simp only [newSS]; omega, nl := Nat.le_refl _, en := Nat.le_refl _, nb := by omega, te := (fun e he => by cases he), ok := OkT.start, fp := fun x hx => by cases hx }
theorem tn_all {o o' : Nat → Nat} {w0 w1 w2 : World} (e : Ext w0 w1) (tn : Tn o o' w1 w2) (h : ∀ b, o b ≠ 0 → w0.heap.size ≤ b) : Ext w0 w2 ∧ ∀ b, o' b ≠ 0 → w0.heap.size ≤ b :=
  ⟨tn.ext0 e h, fun b q => (tn.2.1 b q).elim (h b) (fun a => Nat.le_trans e.size a)⟩
theorem live_c15 (w : World) : Ret Tryz.prog 8 [] w (fun v w' => v = .bool true ∧ Ext w w') := by
  refine ret_T (n := 108) Tryz.func8 rfl rfl ?_
  repeat (first | refine T_seq ?_ | refine T_region ?_ | refine TL_nil ?_ | refine TL_assign (hk := ?_))
  refine TL_call TE (hc := StNew_c 1 5 w (by omega) (by omega)) (hk := ?_)
  rintro _ w1 ⟨ms, g0, rfl, e1, h1⟩
  repeat (first | refine T_seq ?_ | refine T_region ?_ | refine TL_nil ?_ | refine TL_move (hk := ?_) | refine TL_assign (hk := ?_) | refine TL_extract (hk := ?_))
  refine TL_call TE (hc := num_c15 0 w1) (hk := ?_)
  rintro _ w2 ⟨rfl, e2⟩
  have E2 := e1.ext e2
  repeat (first | refine T_seq ?_ | refine T_region ?_ | refine T_cond_false rfl ?_ | refine T_skip ?_ | refine TL_ne_f (hk := ?_) | refine TL_pnil_f TE (hk := ?_) | refine TL_nil ?_ | refine TL_move (hk := ?_) | refine TL_yes (hk := ?_) | refine TL_pick_f (hk := ?_))
  refine TL_call TE (hc := ScNew_c 3 w2 (h1.ext e2) (by omega)) (hk := ?_)
  rintro _ w3 ⟨m3, h3, f3, rfl, hms, e3, M3, o3⟩
  replace M3 : SchedM w3 w.heap.size m3 h3 g0 f3 v0 := M3
  have I3 : SI 0 v0 := newSS_si (by omega) (by simp [newSt]) (by simp [newSt]) (fun c hc => by simp [newSt] at hc; rw [hc]; simp)
  have E3 := E2.ext e3
  obtain ⟨p, hp⟩ : ∃ p, m3.p = p := ⟨_, rfl⟩
  rw [hp]
  repeat (first | refine T_seq ?_ | refine T_region ?_ | refine TL_nil ?_ | refine TL_move (hk := ?_) | refine TL_assign (hk := ?_) | refine TL_extract (hk := ?_))
  refine TL_call TE (hc := num_c15 0 w3) (hk := ?_)
  rintro _ w4 ⟨rfl, e4⟩
  have M4 := M3.ext e4
  have E4 := E3.ext e4
  repeat (first | refine T_seq ?_ | refine T_region ?_ | refine T_cond_false rfl ?_ | refine T_skip ?_ | refine TL_ne_f (hk := ?_) | refine TL_pnil_f TE (hk := ?_) | refine TL_nil ?_ | refine TL_move (hk := ?_) | refine TL_yes (hk := ?_) | refine TL_pick_f (hk := ?_))
  refine TL_buildSlice TE (hk := ?_); intro b5 w5 e5 q5 q5' k5
  replace k5 : Blk w5 b5 9 (sv [[97]]) := k5
  have r5 : Rd w5 (some ⟨b5, 0, none⟩) 1 1 (sv [[97]]) := Rd.blk k5 rfl
  have M5 := M4.ext e5
  have E5 := E4.ext e5
  have cA := Add_c15 0 none (some ⟨b5, 0, none⟩) 0 0 1 1 [] [[97]] w5 M5 I3 (by omega) (Rd.nil _ _ _) r5 (by omega) (by omega) (fun i hi => by simp at hi) (fun i hi => by simp at hi; subst hi; simp)
  rw [hp] at cA
  repeat (refine TL_build TE (hk := ?_))
  refine TL_call TE (hc := cA) (hk := ?_)
  rintro _ w6 ⟨rfl, m6, h6, g6, f6, hp6, M6, I6, t6, _⟩
  rw [show (addE v0 0 [] [[97]]).2 = 0 from v_a]
  replace M6 : SchedM w6 w.heap.size m6 h6 g6 f6 v1 := M6
  replace I6 : SI 1 v1 := I6
  obtain ⟨E6, o6⟩ := tn_all E5 t6 o3
  repeat (first | refine T_seq ?_ | refine T_region ?_ | refine TL_nil ?_ | refine TL_move (hk := ?_) | refine TL_assign (hk := ?_))
  refine TL_buildSlice TE (hk := ?_); intro b7 w7 e7 q7 q7' k7
  replace k7 : Blk w7 b7 9 (sv [[97]]) := k7
  have r7 : Rd w7 (some ⟨b7, 0, none⟩) 1 1 (sv [[97]]) := Rd.blk k7 rfl
  have M7 := M6.ext e7
  have E7 := E6.ext e7
  have cA := Add_c15 1 (some ⟨b7, 0, none⟩) none 1 1 0 0 [[97]] [] w7 M7 I6 (by omega) r7 (Rd.nil _ _ _) (by omega) (by omega) (fun i hi => by simp at hi; subst hi; simp) (fun i hi => by simp at hi)
  rw [hp6] at cA
  repeat (refine TL_build TE (hk := ?_))
  refine TL_call TE (hc := cA) (hk := ?_)
  rintro _ w8 ⟨rfl, m8, h8, g8, f8, hp8, M8, I8, t8, _⟩
  rw [show (addE v1 1 [[97]] []).2 = 0 from v_b]
  replace M8 : SchedM w8 w.heap.size m8 h8 g8 f8 v2 := M8
  replace I8 : SI 2 v2 := I8
  obtain ⟨E8, o8⟩ := tn_all E7 t8 o6
  repeat (first | refine T_seq ?_ | refine T_region ?_ | refine TL_nil ?_ | refine TL_move (hk := ?_) | refine TL_assign (hk := ?_))
  refine TL_buildSlice TE (hk := ?_); intro b9 w9 e9 q9 q9' k9
  replace k9 : Blk w9 b9 9 (sv [[98]]) := k9
  have r9 : Rd w9 (some ⟨b9, 0, none⟩) 1 1 (sv [[98]]) := Rd.blk k9 rfl
  have M9 := M8.ext e9
  have E9 := E8.ext e9
  have cA := Add_c15 2 (some ⟨b9, 0, none⟩) none 1 1 0 0 [[98]] [] w9 M9 I8 (by omega) r9 (Rd.nil _ _ _) (by omega) (by omega) (fun i hi => by simp at hi; subst hi; simp) (fun i hi => by simp at hi)
  rw [hp8] at cA
  repeat (refine TL_build TE (hk := ?_))
  refine TL_call TE (hc := cA) (hk := ?_)
  rintro _ w10 ⟨rfl, m10, h10, g10, f10, hp10, M10, I10, t10, _⟩
  rw [show (addE v2 2 [[98]] []).2 = 0 from v_c]
  replace M10 : SchedM w10 w.heap.size m10 h10 g10 f10 v3 := M10
  replace I10 : SI 3 v3 := I10
  obtain ⟨E10, o10⟩ := tn_all E9 t10 o8
  have cT := Take_c15 w10 M10 I10
  rw [hp10, v_d] at cT
  repeat (first | refine T_seq ?_ | refine T_region ?_ | refine TL_nil ?_ | refine TL_move (hk := ?_) | refine TL_assign (hk := ?_))
  refine TL_call TE (hc := cT) (hk := ?_)
  rintro _ w11 ⟨rfl, m11, hp11, M11, I11, t11, _⟩
  replace M11 : SchedM w11 w.heap.size m11 h10 g10 f10 v4 := M11
  replace I11 : SI 3 v4 := I11
  obtain ⟨E11, o11⟩ := tn_all E10 t11 o10
  have cT := Take_c15 w11 M11 I11
  rw [hp11, v_e] at cT
  repeat (first | refine T_seq ?_ | refine T_region ?_ | refine TL_nil ?_ | refine TL_move (hk := ?_) | refine TL_assign (hk := ?_) | refine TL_extract (hk := ?_))
  refine TL_call TE (hc := cT) (hk := ?_)
  rintro _ w12 ⟨rfl, m12, hp12, M12, I12, t12, _⟩
  replace M12 : SchedM w12 w.heap.size m12 h10 g10 f10 v5 := M12
  replace I12 : SI 3 v5 := I12
  obtain ⟨E12, o12⟩ := tn_all E11 t12 o11
  have hp12' : m12.p = p := hp12
  have cT := Take_c15 w12 M12 I12
  rw [hp12', v_f] at cT
  repeat (first | refine T_seq ?_ | refine T_region ?_ | refine TL_nil ?_ | refine TL_move (hk := ?_) | refine TL_assign (hk := ?_) | refine TL_extract (hk := ?_))
  refine TL_call TE (hc := cT) (hk := ?_)
  rintro _ w13 ⟨rfl, m13, hp13, M13, I13, t13, _⟩
  replace M13 : SchedM w13 w.heap.size m13 h10 g10 f10 v6 := M13
  replace I13 : SI 3 v6 := I13
  obtain ⟨E13, o13⟩ := tn_all E12 t13 o12
  have cD := Done_c15 0 w13 M13 I13
  rw [hp13, v_g] at cD
  repeat (first | refine T_seq ?_ | refine T_region ?_ | refine TL_nil ?_ | refine TL_move (hk := ?_) | refine TL_assign (hk := ?_) | refine TL_extract (hk := ?_))
  refine TL_call TE (hc := cD) (hk := ?_)
  rintro _ w14 ⟨rfl, m14, g14, f14, hp14, M14, I14, t14, _⟩
  replace M14 : SchedM w14 w.heap.size m14 h10 g14 f14 v7 := M14
  replace I14 : SI 3 v7 := I14
  obtain ⟨E14, o14⟩ := tn_all E13 t14 o13
  repeat (first | refine T_seq ?_ | refine T_region ?_ | refine TL_nil ?_ | refine TL_move (hk := ?_) | refine TL_assign (hk := ?_))
  refine TL_call TE (hc := num_c15 0 w14) (hk := ?_)
  rintro _ w15 ⟨rfl, e15⟩
  repeat (first | refine TL_eq_t (hk := ?_) | refine TL_move (hk := ?_) | refine TL_yes (hk := ?_))
  refine TL_call TE (hc := num_c15 0 w15) (hk := ?_)
  rintro _ w16 ⟨rfl, e16⟩
  repeat (first | refine TL_eq_t (hk := ?_) | refine TL_move (hk := ?_) | refine TL_yes (hk := ?_) | refine TL_pick_t (hk := ?_))
  refine TL_call TE (hc := num_c15 0 w16) (hk := ?_)
  rintro _ w17 ⟨rfl, e17⟩
  repeat (first | refine TL_eq_t (hk := ?_) | refine TL_move (hk := ?_) | refine TL_yes (hk := ?_) | refine TL_pick_t (hk := ?_) | refine TL_not (hk := ?_))
  refine TL_call TE (hc := num_c15 0 w17) (hk := ?_)
  rintro _ w18 ⟨rfl, e18⟩
  have E18 := ((e15.ext e16).ext e17).ext e18
  have cS := State_c15 1 w18 (M14.ext E18) I14
  rw [hp14, v_h] at cS
  repeat (first | refine TL_eq_t (hk := ?_) | refine TL_move (hk := ?_) | refine TL_yes (hk := ?_) | refine TL_pick_t (hk := ?_))
  refine TL_call TE (hc := cS) (hk := ?_)
  rintro _ w19 ⟨rfl, e19⟩
  repeat (first | refine TL_eq_t (hk := ?_) | refine TL_nil ?_ | refine TL_assign (hk := ?_) | refine TL_yes (hk := ?_) | refine TL_pick_t (hk := ?_))
  exact T_ret1 rfl rfl ⟨rfl, (E14.ext E18).ext e19⟩
end Go.Proofs.YtgdbckjkeofoaaaGreat

namespace Go.Proofs.YtgdbckjkeofoaaaGreat
open Go.RowKit Go.Proofs.Eng Go.Proofs.Foot
set_option linter.unusedSimpArgs false
set_option linter.unusedVariables false set_option maxRecDepth 10000
attribute [local irreducible] T TL LV TH TA































theorem RSome_c (A B : Option Addr) (n m c d : Nat) (l k : List Tx) (w : World) (h : Rd w A n 1 (sv l)) (g : Rd w B m 1 (sv k)) (hn : n ≤ 100000) (hm : m ≤ 100000) :
    Ret Tryz.prog 75 [.slice A n c, .slice B m d] w (fun v w' => v = .bool (l.any fun x => decide (x ∈ k)) ∧ w' = w) := by
  have hl : l.length = n := by simpa using h.1
  refine ret_T (n := 18) Tryz.func75 rfl rfl ?_
  repeat (first | refine T_seq ?_ | refine T_region ?_ | refine T_block ?_ | refine TL_nil ?_ | refine TL_assign (hk := ?_))
  refine T_loop (ι := Nat) (fun i => [(5, .int .i64 (i : Int)), (0, .slice A n c), (1, .slice B m d)]) (fun i w' => w' = w ∧ i ≤ n ∧ ∀ j, j < i → ¬ l.getD j [] ∈ k) (fun i => n - i) 0 (.c rfl (.c rfl (.c rfl (.n)))) ⟨rfl, Nat.zero_le _, fun j h => absurd h (by omega)⟩ ?_
  rintro i _ ⟨rfl, hi, hu⟩ ih
  by_cases hlt : i < n
  · repeat (first | refine T_seq ?_ | refine T_region ?_ | refine T_cond_true rfl ?_ | refine T_block ?_ | refine T_skip ?_ | refine TL_lt_t (hk := ?_) | refine TL_nil ?_ | refine TL_move (hk := ?_) | refine TL_indexAddr1n TE (hk := ?_) | refine TL_len TE (hk := ?_) | refine TL_load_s TE (hk := ?_))
    refine TL_call TE (hc := Has_c B m d k (l.getD i []) _ g (by omega)) (hk := ?_)
    rintro _ _ ⟨rfl, rfl⟩
    by_cases e : l.getD i [] ∈ k
    · rw [decide_eq_true e]
      repeat (first | refine T_seq ?_ | refine T_region ?_ | refine T_cond_true rfl ?_ | refine TL_nil ?_ | refine TL_assign (hk := ?_))
      refine T_ret1 rfl rfl ⟨?_, rfl⟩
      have : (l.any fun x => decide (x ∈ k)) = true := List.any_eq_true.2 ⟨l.getD i [], getD_mem (by omega), by simpa using e⟩
      rw [this]
    · rw [decide_eq_false e]
      repeat (first | refine T_region ?_ | refine T_cond_false rfl ?_ | refine T_inBlock ?_ | refine T_skip ?_ | refine TL_add (hk := ?_) | refine TL_nil ?_ | refine TL_move (hk := ?_) | refine TL_assign (hk := ?_))
      exact ih (i + 1) _ _ (by omega) ⟨rfl, by omega, fun j hj => by
        by_cases q : j = i
        · rw [q]; exact e
        · exact hu j (by omega)⟩ (.c rfl (.c rfl (.c rfl (.n))))
  · repeat (first | refine T_seq ?_ | refine T_region ?_ | refine T_cond_false rfl ?_ | refine T_exit rfl ?_ | refine TL_lt_f (hk := ?_) | refine TL_nil ?_ | refine TL_move (hk := ?_) | refine TL_assign (hk := ?_) | refine TL_len TE (hk := ?_))
    refine T_ret1 rfl rfl ⟨?_, rfl⟩
    have : (l.any fun x => decide (x ∈ k)) = false := by
      rw [List.any_eq_false]
      intro x hx
      obtain ⟨j, hj, rfl⟩ := mem_getD hx
      simpa using hu j (by omega)
    rw [this]
end Go.Proofs.YtgdbckjkeofoaaaGreat

namespace Go.Proofs.YtgdbckjkeofoaaaGreat
open Go.RowKit Go.Proofs.Eng Go.Proofs.Foot
set_option linter.unusedSimpArgs false
set_option linter.unusedVariables false set_option maxRecDepth 10000
attribute [local irreducible] T TL LV TH TA
/-- Is each of a list in another? -/
def sub (l k : List Tx) : Bool := l.all fun x => decide (x ∈ k)














































end Go.Proofs.YtgdbckjkeofoaaaGreat

namespace Go.Proofs.YtgdbckjkeofoaaaGreat
open Go.RowKit Go.Proofs.Eng Go.Proofs.Foot
set_option linter.unusedSimpArgs false
set_option linter.unusedVariables false set_option maxRecDepth 10000
attribute [local irreducible] T TL LV TH TA
theorem sv_set (l : List Tx) (k : Nat) (x : Tx) : (sv l).set k (.string (ofL x)) = sv (l.set k x) := by simp [sv, List.map_set]
theorem sv_take (l : List Tx) (k : Nat) : (sv l).take k = sv (l.take k) := by simp [sv]
theorem sv_drop (l : List Tx) (k : Nat) : (sv l).drop k = sv (l.drop k) := by simp [sv]
theorem insT_len (x : Tx) : ∀ l : List Tx, (insT x l).length ≤ l.length + 1
  | [] => by simp [insT]
  | y :: t => by
    have := insT_len x t
    simp only [insT]
    split
    · simp; omega
    · split <;> simp
theorem setT_len : ∀ (l : List Tx), (setT l).length ≤ l.length := fun l => by
  have : ∀ (l a : List Tx), (l.foldl (fun a x => insT x a) a).length ≤ a.length + l.length := by
    intro l
    induction l with
    | nil => intro a; simp
    | cons x t ih =>
      intro a
      have h1 := ih (insT x a)
      have h2 := insT_len x a
      simp only [List.foldl_cons, List.length_cons]
      omega
  have := this l []
  simpa [setT] using this
theorem Set_c (A : Option Addr) (n c : Nat) (l : List Tx) (w : World) (h : Rd w A n 1 (sv l)) (hn : n ≤ 100000) :
    Ret Tryz.prog 27 [.slice A n c] w (fun v w' => ∃ A' c', v = .slice A' (setT l).length c' ∧ Ext w w' ∧ Own w' w.heap.size 9 1 A' (setT l).length c' (sv (setT l))) := by
  have hl : l.length = n := by simpa using h.1
  refine ret_T (n := 63) Tryz.func27 rfl rfl ?_
  repeat (first | refine T_seq ?_ | refine T_region ?_ | refine T_block ?_ | refine TL_nil ?_ | refine TL_assign (hk := ?_))
  refine T_loop (ι := Nat × Option Addr × Nat × Nat × List Tx) (fun i => [(4, .int .i64 (i.1 : Int)), (3, .slice i.2.1 i.2.2.2.1 i.2.2.1), (0, .slice A n c)])
    (fun i w' => Ext w w' ∧ i.1 ≤ n ∧ i.2.2.2.2 = setT (l.take i.1) ∧ i.2.2.2.1 = i.2.2.2.2.length ∧ i.2.2.2.1 ≤ i.1 ∧ Own w' w.heap.size 9 1 i.2.1 i.2.2.2.1 i.2.2.1 (sv i.2.2.2.2)) (fun i => n - i.1) (0, none, 0, 0, []) (.c rfl (.c rfl (.c rfl (.n)))) ⟨Mod.refl _ _, Nat.zero_le _, by simp [setT], rfl, Nat.le_refl _, Own.nil _ _ _ _⟩ ?_
  rintro ⟨i, B, cb, m, o⟩ w1 ⟨e1, hi, ho, hm, hmi, own⟩ ih
  simp only at hi ho hm hmi own ⊢
  have h1 := h.be e1
  by_cases hlt : i < n
  · have hst := setT_take l i (by omega)
    rw [← ho] at hst
    obtain ⟨x, hx⟩ : ∃ x, l.getD i [] = x := ⟨_, rfl⟩
    rw [hx] at hst
    repeat (first | refine T_seq ?_ | refine T_region ?_ | refine T_cond_true rfl ?_ | refine T_block ?_ | refine T_skip ?_ | refine TL_lt_t (hk := ?_) | refine TL_nil ?_ | refine TL_move (hk := ?_) | refine TL_assign (hk := ?_) | refine TL_len TE (hk := ?_))
    refine T_loop (ι := Nat) (fun k => [(5, .int .i64 (k : Int)), (4, .int .i64 (i : Int)), (3, .slice B m cb), (0, .slice A n c)])
      (fun k w' => Ext w1 w' ∧ k ≤ m ∧ ∀ j, j < k → o.getD j [] < x) (fun k => m - k) 0 (.c rfl (.c rfl (.c rfl (.c rfl (.n))))) ⟨Mod.refl _ _, Nat.zero_le _, fun j h => absurd h (by omega)⟩ ?_
    rintro k w2 ⟨e2, hk, hu⟩ ih2
    have own2 := own.be e2
    have h2 := h1.be e2
    have hlo : o.length = m := hm.symm
    by_cases hkm : k < m
    · by_cases hs : o.getD k [] < x
      · have hs' : o.getD k [] < l.getD i [] := by rw [hx]; exact hs
        repeat (first | refine T_seq ?_ | refine T_region_q TE.mixed (by kernel_rfl) ?_ | refine TL_lt_t (hk := ?_) | refine TL_slt_t (hk := ?_) | refine TL_move (hk := ?_) | refine TL_indexAddr1n TE (hk := ?_) | refine TL_len TE (hk := ?_) | refine TL_yes (hk := ?_) | refine TL_pick_t (hk := ?_) | refine TL_load_s TE (hk := ?_))
        refine TL_nil_q ?_; intro w3 e3
        repeat (first | refine T_region ?_ | refine T_cond_true rfl ?_ | refine T_block ?_ | refine T_inBlock ?_ | refine T_skip ?_ | refine TL_add (hk := ?_) | refine TL_nil ?_ | refine TL_move (hk := ?_) | refine TL_assign (hk := ?_))
        exact ih2 (k + 1) _ _ (by omega) ⟨e2.ext e3, by omega, fun j hj => by
          by_cases q : j = k
          · rw [q]; exact hs
          · exact hu j (by omega)⟩ (.c rfl (.c rfl (.c rfl (.c rfl (.n)))))
      · have hs' : ¬ o.getD k [] < l.getD i [] := by rw [hx]; exact hs
        have hat := ins_at x o k hu (by omega) (fun _ => hs)
        repeat (first | refine T_seq ?_ | refine T_region_q TE.mixed (by kernel_rfl) ?_ | refine TL_lt_t (hk := ?_) | refine TL_slt_f (hk := ?_) | refine TL_move (hk := ?_) | refine TL_indexAddr1n TE (hk := ?_) | refine TL_len TE (hk := ?_) | refine TL_yes (hk := ?_) | refine TL_pick_t (hk := ?_) | refine TL_load_s TE (hk := ?_))
        refine TL_nil_q ?_; intro w3 e3
        have own3 := own2.be e3
        have h3 := h2.be e3
        clear own2 h2
        by_cases he : o.getD k [] = x
        · have he' : ofL (o.getD k []) = ofL (l.getD i []) := by rw [hx, he]
          rw [if_pos ⟨by omega, he⟩] at hat
          repeat (first | refine T_seq ?_ | refine T_region_q TE.mixed (by kernel_rfl) ?_ | refine T_cond_false rfl ?_ | refine T_exit rfl ?_ | refine TL_lt_t (hk := ?_) | refine TL_seq_t (hk := ?_) | refine TL_move (hk := ?_) | refine TL_indexAddr1n TE (hk := ?_) | refine TL_len TE (hk := ?_) | refine TL_yes (hk := ?_) | refine TL_pick_t (hk := ?_) | refine TL_load_s TE (hk := ?_))
          refine TL_nil_q ?_; intro w4 e4
          repeat (first | refine T_region ?_ | refine T_cond_true rfl ?_ | refine T_exit rfl ?_ | refine TL_add (hk := ?_) | refine TL_nil ?_ | refine TL_move (hk := ?_) | refine TL_assign (hk := ?_))
          exact ih (i + 1, B, cb, m, o) _ _ (by simp only; omega) ⟨((e1.ext e2).ext e3).ext e4, by show i + 1 ≤ n; omega, by rw [hst, hat], hm, by show m ≤ i + 1; omega, own3.be e4⟩ (.c rfl (.c rfl (.c rfl (.n))))
        · have he' : ¬ ofL (o.getD k []) = ofL (l.getD i []) := fun q => he (by rw [← hx]; exact ofL_inj q)
          rw [if_neg (fun q => he q.2)] at hat
          repeat (first | refine T_seq ?_ | refine T_region_q TE.mixed (by kernel_rfl) ?_ | refine T_cond_false rfl ?_ | refine T_exit rfl ?_ | refine TL_lt_t (hk := ?_) | refine TL_seq_f (hk := ?_) | refine TL_move (hk := ?_) | refine TL_indexAddr1n TE (hk := ?_) | refine TL_len TE (hk := ?_) | refine TL_yes (hk := ?_) | refine TL_pick_t (hk := ?_) | refine TL_load_s TE (hk := ?_))
          refine TL_nil_q ?_; intro w4 e4
          have own4 := own3.be e4
          have h4 := h3.be e4
          have e05 : Ext w w4 := ((e1.ext e2).ext e3).ext e4

          repeat (first | refine T_seq ?_ | refine T_region ?_ | refine T_cond_false rfl ?_ | refine T_skip ?_ | refine TL_move (hk := ?_))
          refine TL_buildSlice TE (hk := ?_); intro b5 w5 e5 h5 h5' k5
          have own5 := own4.be e5
          have h5s := h4.be e5
          have e06 := e05.ext e5
          have s05 := e06.size
          have hlo0 : Lo A w.heap.size := h.lo (by omega)
          --
          refine TL_append TE (hk := ?_); intro A6 c6 w6 o6 m6 n6
          have s6 := m6.size
          have hi6 : Hi A6 w.heap.size := o6.hi
          have e46 : Ext w w6 := e06.own m6 own5.hi
          have h6 := h5s.bm m6 (Off.lohi hlo0 own5.hi)
          repeat (first | refine T_seq ?_ | refine TL_nil ?_ | refine TL_assign (hk := ?_))
          refine T_region_held TE.mixed (blkL A6) [(0, true), (1, true), (2, true), (3, true), (4, true), (5, true), (6, true), (7, false)] rfl (by kernel_rfl) rfl (by kernel_rfl) ?_; intro w7 e7 s7
          have o7 := o6.be e7
          have ek : Int.toNat ((k : Int) + 1) = k + 1 := by omega
          have ek0 : Int.toNat (k : Int) = k := by omega
          have hcap := o6.cap
          have hmx : m + 1 ≤ 100001 := by omega
          have hone : ∀ u ∈ sv o ++ [Value.string ⟨#[]⟩], u.oneCell' = true := fun u hu => by
            rcases List.mem_append.1 hu with q | q
            · exact sv_one _ u q
            · simp only [List.mem_singleton] at q; subst q; rfl
          clear k5 own4 own5 h4 h5s own own3 h3
          repeat (first | refine TL_add (hk := ?_) | refine TL_move (hk := ?_) | refine TL_slice_lo TE (hk := ?_))
          refine TL_copy TE (ho := o7) (hr := (o7.rd.cut (l := k) (h := m + 1) (c := c6) (by omega) (Nat.le_refl _) hcap.1)) (h1 := fun u hu => hone u (List.mem_of_mem_drop (List.mem_of_mem_take hu))) (hf := rfl) (hq := fun w' h _ => h) (hk := ?_)
          intro w8 m8 s8 o8
          simp only [ek, ek0] at o8
          have es : sv o ++ [Value.string ⟨#[]⟩] = sv (o ++ [[]]) := by rw [sv_append]; rfl
          rw [es, Nat.mul_one, Nat.mul_one, sv_drop, sv_take, sv_drop, sv_take, sv_take, ← sv_append, ← sv_append] at o8
          have hgap := gap_at o k x (by omega)
          rw [hlo] at hgap
          rw [show min (m + 1 - k) (m + 1 - (k + 1)) = min (m + 1 - k) (m - k) by omega] at o8
          rw [List.take_take, Nat.min_eq_left (show min (m + 1 - k) (m - k) ≤ m + 1 - k by omega)] at o8
          refine TL_nil_h ?_
          have hi8 : Hi A6 w.heap.size := hi6
          have h7 := h6.be e7
          have h8 := h7.bm m8 (Off.lohi hlo0 hi6)
          clear o7 o6 hone h6 h7
          repeat (first | refine T_region ?_ | refine TL_move (hk := ?_) | refine TL_indexAddr1n TE (hk := ?_) | refine TL_load_s TE (hk := ?_))
          refine TL_store_own TE (hk := ?_); intro w9 m9 s9 o9
          repeat (first | refine T_region ?_ | refine T_inBlock ?_ | refine TL_add (hk := ?_) | refine TL_nil ?_ | refine TL_move (hk := ?_) | refine TL_assign (hk := ?_))
          rw [sv_set, hx, hgap] at o9
          refine ih (i + 1, A6, c6, m + 1, insT x o) _ _ (by simp only; omega) ⟨((e46.ext e7).own m8 hi6).own m9 hi6, by show i + 1 ≤ n; omega, hst.symm, ?_, by show m + 1 ≤ i + 1; omega, ?_⟩ (.c rfl (.c rfl (.c rfl (.n))))
          · rw [hat]; simp; omega
          · rw [hat]; exact o9
    · have hkeq : k = m := by omega
      have hat := ins_at x o k hu (by omega) (fun h => absurd h (by omega))
      rw [if_neg (fun q => absurd q.1 (by omega))] at hat
      repeat (first | refine T_seq ?_ | refine T_region_q TE.mixed (by kernel_rfl) ?_ | refine TL_lt_f (hk := ?_) | refine TL_move (hk := ?_) | refine TL_len TE (hk := ?_) | refine TL_no (hk := ?_) | refine TL_pick_f (hk := ?_))
      refine TL_nil_q ?_; intro w3 e3
      have own3 := own2.be e3
      have h3 := h2.be e3
      clear own2 h2
      repeat (first | refine T_seq ?_ | refine T_region_q TE.mixed (by kernel_rfl) ?_ | refine T_cond_false rfl ?_ | refine T_exit rfl ?_ | refine TL_lt_f (hk := ?_) | refine TL_move (hk := ?_) | refine TL_len TE (hk := ?_) | refine TL_no (hk := ?_) | refine TL_pick_f (hk := ?_))
      refine TL_nil_q ?_; intro w4 e4
      have own4 := own3.be e4
      have h4 := h3.be e4
      have e05 : Ext w w4 := ((e1.ext e2).ext e3).ext e4

      repeat (first | refine T_seq ?_ | refine T_region ?_ | refine T_cond_false rfl ?_ | refine T_skip ?_ | refine TL_move (hk := ?_))
      refine TL_buildSlice TE (hk := ?_); intro b5 w5 e5 h5 h5' k5
      have own5 := own4.be e5
      have h5s := h4.be e5
      have e06 := e05.ext e5
      have s05 := e06.size
      have hlo0 : Lo A w.heap.size := h.lo (by omega)
      --
      refine TL_append TE (hk := ?_); intro A6 c6 w6 o6 m6 n6
      have s6 := m6.size
      have hi6 : Hi A6 w.heap.size := o6.hi
      have e46 : Ext w w6 := e06.own m6 own5.hi
      have h6 := h5s.bm m6 (Off.lohi hlo0 own5.hi)
      repeat (first | refine T_seq ?_ | refine TL_nil ?_ | refine TL_assign (hk := ?_))
      refine T_region_held TE.mixed (blkL A6) [(0, true), (1, true), (2, true), (3, true), (4, true), (5, true), (6, true), (7, false)] rfl (by kernel_rfl) rfl (by kernel_rfl) ?_; intro w7 e7 s7
      have o7 := o6.be e7
      have ek : Int.toNat ((k : Int) + 1) = k + 1 := by omega
      have ek0 : Int.toNat (k : Int) = k := by omega
      have hcap := o6.cap
      have hmx : m + 1 ≤ 100001 := by omega
      have hone : ∀ u ∈ sv o ++ [Value.string ⟨#[]⟩], u.oneCell' = true := fun u hu => by
        rcases List.mem_append.1 hu with q | q
        · exact sv_one _ u q
        · simp only [List.mem_singleton] at q; subst q; rfl
      clear k5 own4 own5 h4 h5s own own3 h3
      repeat (first | refine TL_add (hk := ?_) | refine TL_move (hk := ?_) | refine TL_slice_lo TE (hk := ?_))
      refine TL_copy TE (ho := o7) (hr := (o7.rd.cut (l := k) (h := m + 1) (c := c6) (by omega) (Nat.le_refl _) hcap.1)) (h1 := fun u hu => hone u (List.mem_of_mem_drop (List.mem_of_mem_take hu))) (hf := rfl) (hq := fun w' h _ => h) (hk := ?_)
      intro w8 m8 s8 o8
      simp only [ek, ek0] at o8
      have es : sv o ++ [Value.string ⟨#[]⟩] = sv (o ++ [[]]) := by rw [sv_append]; rfl
      rw [es, Nat.mul_one, Nat.mul_one, sv_drop, sv_take, sv_drop, sv_take, sv_take, ← sv_append, ← sv_append] at o8
      have hgap := gap_at o k x (by omega)
      rw [hlo] at hgap
      rw [show min (m + 1 - k) (m + 1 - (k + 1)) = min (m + 1 - k) (m - k) by omega] at o8
      rw [List.take_take, Nat.min_eq_left (show min (m + 1 - k) (m - k) ≤ m + 1 - k by omega)] at o8
      refine TL_nil_h ?_
      have hi8 : Hi A6 w.heap.size := hi6
      have h7 := h6.be e7
      have h8 := h7.bm m8 (Off.lohi hlo0 hi6)
      clear o7 o6 hone h6 h7
      repeat (first | refine T_region ?_ | refine TL_move (hk := ?_) | refine TL_indexAddr1n TE (hk := ?_) | refine TL_load_s TE (hk := ?_))
      refine TL_store_own TE (hk := ?_); intro w9 m9 s9 o9
      repeat (first | refine T_region ?_ | refine T_inBlock ?_ | refine TL_add (hk := ?_) | refine TL_nil ?_ | refine TL_move (hk := ?_) | refine TL_assign (hk := ?_))
      rw [sv_set, hx, hgap] at o9
      refine ih (i + 1, A6, c6, m + 1, insT x o) _ _ (by simp only; omega) ⟨((e46.ext e7).own m8 hi6).own m9 hi6, by show i + 1 ≤ n; omega, hst.symm, ?_, by show m + 1 ≤ i + 1; omega, ?_⟩ (.c rfl (.c rfl (.c rfl (.n))))
      · rw [hat]; simp; omega
      · rw [hat]; exact o9
  · have hin : i = n := by omega
    have hfin : o = setT l := by rw [ho, hin, ← hl, List.take_length]
    repeat (first | refine T_seq ?_ | refine T_region ?_ | refine T_cond_false rfl ?_ | refine T_exit rfl ?_ | refine TL_lt_f (hk := ?_) | refine TL_nil ?_ | refine TL_move (hk := ?_) | refine TL_assign (hk := ?_) | refine TL_len TE (hk := ?_))
    refine T_ret1 rfl rfl ⟨B, cb, by rw [hm, hfin], e1, ?_⟩
    rw [hm, hfin] at own
    exact own
end Go.Proofs.YtgdbckjkeofoaaaGreat

namespace Go.Proofs.YtgdbckjkeofoaaaGreat
open Go.RowKit Go.Proofs.Eng Go.Proofs.Foot Go.Proofs.Locks Go.Proofs.Sched
set_option linter.unusedSimpArgs false
set_option linter.unusedVariables false set_option maxRecDepth 10000
attribute [local irreducible] T TL LV TH TA
set_option maxHeartbeats 3200000
def itV (k : Tx) : List Value := [.string (ofL k), .int .i64 0, .int .i64 0, .string ⟨#[]⟩]
theorem itV_len (k : Tx) : (itV k).length = 4 := rfl
theorem itV_one : ∀ x, ∀ u ∈ itV x, u.oneCell' = true := by
  intro x u hu
  simp [itV] at hu
  rcases hu with rfl | rfl | rfl <;> rfl
theorem RStNew_c (a r : Int) (w : World) : Ret Tryz.prog 17 [.int .i64 a, .int .i64 r] w (fun v w' => Ext w w' ∧ (((1 ≤ a ∧ a ≤ 64) ∧ 1 ≤ r ∧ r ≤ 4096) ∧ (∃ b, v = .tuple #[pB b, .int .i64 0] ∧ w.heap.size ≤ b ∧ Blk w' b 89 [.int .i64 a, .int .i64 r, sL (none, 0, 0)]) ∨ ¬ ((1 ≤ a ∧ a ≤ 64) ∧ 1 ≤ r ∧ r ≤ 4096) ∧ v = .tuple #[.pointer none, .int .i64 2])) := by
  refine ret_T (n := 24) Tryz.func17 rfl rfl ?_
  by_cases q1 : a < 1
  · repeat (first | refine T_seq ?_ | refine T_region ?_ | refine T_cond_true rfl ?_ | refine TL_lt_t (hk := ?_) | refine TL_nil ?_ | refine TL_move (hk := ?_) | refine TL_assign (hk := ?_) | refine TL_no (hk := ?_) | refine TL_pick_t (hk := ?_))
    exact T_ret2 rfl rfl rfl ⟨Mod.refl _ _, .inr ⟨by omega, rfl⟩⟩
  by_cases q2 : 64 < a
  · repeat (first | refine T_seq ?_ | refine T_region ?_ | refine T_cond_true rfl ?_ | refine TL_lt_f (hk := ?_) | refine TL_gt_t (hk := ?_) | refine TL_nil ?_ | refine TL_move (hk := ?_) | refine TL_assign (hk := ?_) | refine TL_yes (hk := ?_) | refine TL_no (hk := ?_) | refine TL_pick_t (hk := ?_) | refine TL_pick_f (hk := ?_))
    exact T_ret2 rfl rfl rfl ⟨Mod.refl _ _, .inr ⟨by omega, rfl⟩⟩
  by_cases q3 : r < 1
  · repeat (first | refine T_seq ?_ | refine T_region ?_ | refine T_cond_true rfl ?_ | refine TL_lt_t (hk := ?_) | refine TL_lt_f (hk := ?_) | refine TL_gt_f (hk := ?_) | refine TL_nil ?_ | refine TL_move (hk := ?_) | refine TL_assign (hk := ?_) | refine TL_yes (hk := ?_) | refine TL_no (hk := ?_) | refine TL_pick_t (hk := ?_) | refine TL_pick_f (hk := ?_))
    exact T_ret2 rfl rfl rfl ⟨Mod.refl _ _, .inr ⟨by omega, rfl⟩⟩
  by_cases q4 : 4096 < r
  · repeat (first | refine T_seq ?_ | refine T_region ?_ | refine T_cond_true rfl ?_ | refine TL_lt_f (hk := ?_) | refine TL_gt_t (hk := ?_) | refine TL_gt_f (hk := ?_) | refine TL_nil ?_ | refine TL_move (hk := ?_) | refine TL_assign (hk := ?_) | refine TL_yes (hk := ?_) | refine TL_pick_f (hk := ?_))
    exact T_ret2 rfl rfl rfl ⟨Mod.refl _ _, .inr ⟨by omega, rfl⟩⟩
  · repeat (first | refine T_seq ?_ | refine T_region ?_ | refine T_cond_false rfl ?_ | refine T_skip ?_ | refine TL_lt_f (hk := ?_) | refine TL_gt_f (hk := ?_) | refine TL_nil ?_ | refine TL_move (hk := ?_) | refine TL_assign (hk := ?_) | refine TL_yes (hk := ?_) | refine TL_pick_f (hk := ?_) | refine TL_build TE (hk := ?_))
    refine TL_box (hk := ?_); intro b1 w1 e1 h1 h1' k1
    repeat (first | refine TL_nil ?_ | refine TL_assign (hk := ?_))
    exact T_ret2 rfl rfl rfl ⟨e1, .inl ⟨by omega, b1, rfl, h1, k1⟩⟩
end Go.Proofs.YtgdbckjkeofoaaaGreat

namespace Go.Proofs.YtgdbckjkeofoaaaGreat
open Go.RowKit Go.Proofs.Eng Go.Proofs.Foot Go.Proofs.Locks Go.Proofs.Sched
set_option linter.unusedSimpArgs false
set_option linter.unusedVariables false set_option maxRecDepth 10000
attribute [local irreducible] T TL LV TH TA
set_option maxHeartbeats 3200000
theorem has0 (P r : Nat) (k : Tx) : hasE (newSt P r).C k = false := by
  unfold hasE ofE newSt
  simp only [List.length_replicate]
  have : (List.replicate P ([] : CL)).getD (partT k P) [] = [] := by
    rw [List.getD_eq_getElem?_getD, List.getElem?_replicate]
    split <;> rfl
  rw [this]
  rfl
end Go.Proofs.YtgdbckjkeofoaaaGreat

namespace Go.Proofs.YtgdbckjkeofoaaaGreat
open Go.RowKit Go.Proofs.Eng Go.Proofs.Foot Go.Proofs.Locks Go.Proofs.Sched
set_option linter.unusedSimpArgs false
set_option linter.unusedVariables false set_option maxRecDepth 10000
attribute [local irreducible] T TL LV TH TA
set_option maxHeartbeats 3200000
def allU (s : StE) (i : Nat) : List Tx := ((s.C.take i).map fun c => c.map (·.1)).flatten
def keysS (s : StE) : List Tx := (allU s s.C.length).mergeSort le2
theorem allU_succ (s : StE) (i : Nat) (h : i < s.C.length) : allU s (i + 1) = allU s i ++ (s.C.getD i []).map (·.1) := by
  unfold allU
  rw [List.take_succ_eq_append_getElem h, List.map_append, List.flatten_append, List.getD_eq_getElem?_getD, List.getElem?_eq_getElem h]
  simp
theorem allU_mono (s : StE) : ∀ (k i : Nat), (allU s i).length ≤ (allU s (i + k)).length
  | 0, i => Nat.le_refl _
  | k + 1, i => by
    refine Nat.le_trans (allU_mono s k i) ?_
    by_cases h : i + k < s.C.length
    · have := congrArg List.length (allU_succ s (i + k) h)
      rw [List.length_append] at this
      show (allU s (i + k)).length ≤ (allU s (i + k + 1)).length
      omega
    · unfold allU
      rw [List.take_of_length_le (by omega), List.take_of_length_le (by omega)]
      exact Nat.le_refl _
section
variable {w w' : World} {base : Nat} {m : StM} {g : Nat → Nat} {s : StE}
theorem Keys_c15 (w : World) (h : StoreM w base m g s) (hC : (allU s s.C.length).length ≤ 10000000000) (h64 : s.C.length ≤ 64) :
    Ret Tryz.prog 42 [pB m.sb] w (fun v w' => ∃ x : SL, v = sL x ∧ Ext w w' ∧ Own w' w.heap.size 9 1 x.1 x.2.1 x.2.2 (sv (keysS s))) := by
  have hb := h.blk
  have hcl := h.cl
  have hmono := fun i (hi : i ≤ s.C.length) => allU_mono s (s.C.length - i) i
  refine ret_T (n := 32) Tryz.func42 rfl rfl ?_
  repeat (first | refine T_seq ?_ | refine T_region ?_ | refine T_cond_false rfl ?_ | refine T_block ?_ | refine T_skip ?_ | refine TL_pnil_f TE (hk := ?_) | refine TL_nil ?_ | refine TL_move (hk := ?_) | refine TL_assign (hk := ?_) | refine TL_load TE (hk := ?_) | refine TL_fieldAddr TE (hk := ?_) | refine TL_len TE (hk := ?_) | refine TL_nilCheck (hk := ?_))
  refine T_loop (ι := Nat × SL × List Tx) (fun i => [(14, .int .i64 (i.1 : Int)), (13, .int .i64 (m.cs.2.1 : Int)), (12, sL m.cs), (3, sL i.2.1)])
    (fun i w' => i.1 ≤ s.C.length ∧ Ext w w' ∧ Own w' w.heap.size 9 1 i.2.1.1 i.2.1.2.1 i.2.1.2.2 (sv i.2.2) ∧ i.2.2.Perm (allU s i.1)) (fun i => s.C.length - i.1) (0, (none, 0, 0), []) (.c rfl (.c rfl (.c rfl (.c rfl (.n))))) ⟨Nat.zero_le _, Mod.refl _ _, Own.nil _ _ _ _, List.Perm.nil⟩ ?_
  rintro ⟨i, y0, acc0⟩ w1 ⟨hi, e1, o1, hpm0⟩ ih
  simp only at hi o1 hpm0 ih ⊢
  have h1 := h.ext e1
  have z1 := e1.size
  by_cases hlt : i < s.C.length
  · have hco := h1.co.rd
    have hA : m.cs.1 ≠ none := by obtain ⟨_, _, hq, _⟩ := hco.2 (by omega); rw [hq]; simp
    have hv := mapsV_get m.bs i (by rw [h1.ln]; exact hlt)
    have mp := h1.ml i hlt
    have hsu := allU_succ s i hlt
    have hm1 := hmono (i + 1) (by omega)
    rw [show i + 1 + (s.C.length - (i + 1)) = s.C.length by omega] at hm1
    have hl1 := congrArg List.length hsu
    rw [List.length_append, List.length_map] at hl1
    generalize s.C.getD i [] = C at mp hsu hl1
    have hmg := mp.lt
    have hmb0 := (h.old (m.bs.getD i 0) (by rw [h.gm i hlt]; omega)).2
    generalize m.bs.getD i 0 = mb at mp hv hmg hmb0
    repeat (first | refine T_seq ?_ | refine T_region ?_ | refine T_cond_true rfl ?_ | refine T_block ?_ | refine T_skip ?_ | refine TL_lt_t (hk := ?_) | refine TL_nil ?_ | refine TL_move (hk := ?_) | refine TL_assign (hk := ?_) | refine TL_load_rd TE (hk := ?_) | refine TL_indexAddr1n TE (hk := ?_))
    refine TL_range TE (.string) (hk := ?_); intro r w2 e2 hr1 hr2 it
    have z2 := e2.size
    have o2 := o1.be e2
    have hry0 : r ∉ blkL y0.1 := fun q => by have := (o1.bl r q).2; omega
    repeat (first | refine T_block ?_ | refine TL_nil ?_)
    refine T_loop (ι := SL × List Tx × CL) (fun j => [(19, .pointer (some ⟨r, 0, none⟩)), (14, .int .i64 (i : Int)), (13, .int .i64 (m.cs.2.1 : Int)), (12, sL m.cs), (3, sL j.1)])
      (fun j w' => Ext w w' ∧ It w' r mb tK iV C j.2.2 ∧ Own w' w.heap.size 9 1 j.1.1 j.1.2.1 j.1.2.2 (sv j.2.1) ∧ r ∉ blkL j.1.1 ∧ (j.2.1 ++ j.2.2.map (·.1)).Perm (allU s (i + 1))) (fun j => j.2.2.length) (y0, acc0, C) (.c rfl (.c rfl (.c rfl (.c rfl (.c rfl (.n)))))) ⟨e1.ext e2, it, o2, hry0, by rw [hsu]; exact hpm0.append_right _⟩ ?_
    clear it mp o1 o2 hry0
    rintro ⟨y, acc, left⟩ w3 ⟨e3, it, ry, hry, hpm⟩ ih2
    simp only at it ry hry hpm ih2 ⊢
    have lr := it.lt
    have hyl : acc.length = y.2.1 := by have := ry.len; simpa using this
    have hpl := hpm.length_eq
    rw [List.length_append, List.length_map] at hpl
    repeat (first | refine T_seq ?_ | refine T_region ?_)
    refine TL_next (h0 := ?_) (h1 := ?_)
    · rintro rfl
      rw [List.map_nil, List.append_nil] at hpm
      clear ih2
      repeat (first | refine T_seq ?_ | refine T_region ?_ | refine T_cond_false rfl ?_ | refine T_inBlock ?_ | refine T_exit rfl ?_ | refine TL_add (hk := ?_) | refine TL_nil ?_ | refine TL_move (hk := ?_) | refine TL_extract (hk := ?_))
      exact ih (i + 1, y, acc) w3 _ (by simp only; omega) ⟨by simp only; omega, e3, ry, hpm⟩ (.c rfl (.c rfl (.c rfl (.c rfl (.n)))))
    · rintro l1 x l2 w4 rfl m4 s4 it4 cur
      have e4 : Ext w w4 := Mod.step e3 m4 (by simp; omega)
      have ry4 := ry.modL m4 (fun b hb q => by rw [List.mem_singleton] at q; exact hry (q ▸ hb))
      have z4 := e4.size
      simp only [List.length_append, List.length_cons] at hpl
      clear it
      repeat (first | refine T_seq ?_ | refine T_region ?_ | refine T_cond_true rfl ?_ | refine T_block ?_ | refine T_skip ?_ | refine TL_nil ?_ | refine TL_move (hk := ?_) | refine TL_assign (hk := ?_) | refine TL_extract (hk := ?_) | refine TL_entry (hk := ?_))
      refine TL_buildSlice TE (hk := ?_); intro b5 w5 e5 h51 h52 k5
      replace k5 : Blk w5 b5 9 (sv [x.1]) := k5
      have r5 : Rd w5 (some ⟨b5, 0, none⟩) 1 1 (sv [x.1]) := Rd.blk k5 rfl
      have ry5 := Own.be e5 ry4
      have z5 := e5.size
      --
      refine TL_append TE (ho := ry5) (hr := r5) (h1 := sv_one _) (hk := ?_); intro A6 c6 w6 o6 m6 n6
      rw [← sv_append] at o6
      have lr4 := it4.lt
      repeat (first | refine T_inBlock ?_ | refine TL_nil ?_ | refine TL_assign (hk := ?_))
      refine ih2 ((A6, y.2.1 + 1, c6), acc ++ [x.1], l1 ++ l2) w6 _ (by simp) ⟨(e4.ext e5).own m6 ry.hi, (it4.be e5).mod m6 hry (fun q => by have := (ry.bl _ q).1; omega), o6, fun q => ?_, ?_⟩ (.c rfl (.c rfl (.c rfl (.c rfl (.c rfl (.n))))))
      · rcases n6.mem r q with q | q
        · exact hry q
        · omega
      · refine List.Perm.trans ?_ hpm
        simp only [List.map_append, List.map_cons, List.append_assoc, List.cons_append, List.nil_append]
        exact List.Perm.append_left acc List.perm_middle.symm
  · clear ih
    have hie : i = s.C.length := by omega
    subst hie
    have hpl := hpm0.length_eq
    have hyl : acc0.length = y0.2.1 := by have := o1.len; simpa using this
    repeat (first | refine T_seq ?_ | refine T_region ?_ | refine T_cond_false rfl ?_ | refine T_exit rfl ?_ | refine TL_lt_f (hk := ?_) | refine TL_nil ?_ | refine TL_move (hk := ?_))
    refine TL_call TE (hc := Sort_c y0.1 y0.2.1 y0.2.2 _ acc0 w1 o1 (by omega)) (hk := ?_)
    rintro _ w3 ⟨rfl, m3, o3⟩
    repeat (first | refine T_seq ?_ | refine T_region ?_ | refine TL_nil ?_ | refine TL_move (hk := ?_) | refine TL_assign (hk := ?_))
    refine T_ret1 rfl rfl ⟨y0, rfl, e1.own m3 o1.hi, ?_⟩
    have : acc0.mergeSort le2 = keysS s := mergeSort_of_perm hpm0
    rw [← this]
    exact o3
end
end Go.Proofs.YtgdbckjkeofoaaaGreat

/- The document's store: its keys in order; the same claims as the program's. -/
namespace Go.Proofs.YtgdbckjkeofoaaaGreat
open Go.RowKit Go.Proofs.Eng Go.Proofs.Foot Go.Proofs.Locks Go.Proofs.Sched
set_option linter.unusedSimpArgs false
set_option linter.unusedVariables false set_option maxRecDepth 10000
attribute [local irreducible] T TL LV TH TA
theorem tx_tri {a b : Tx} (h1 : ¬ a < b) (h2 : a ≠ b) : b < a := by
  by_cases q : b < a
  · exact q
  · exact absurd (List.le_antisymm (List.not_lt.1 q) (List.not_lt.1 h1)) h2
structure DS0 (P : Nat) (C : List CL) (l : List Tx) : Prop where
  cl : C.length = P
  ri : l.Pairwise (· < ·)
  hs : ∀ k, k ∈ l ↔ hasE C k = true
  ct : ∀ i, i < P → (C.getD i []).length = (l.filter fun k => decide (partT k P = i)).length
  on : ∀ i, i < P → ∀ x ∈ C.getD i [], x.2 = 1
  pp : 1 ≤ P
def insK (l : List Tx) (k : Tx) : List Tx := if k ∈ l then l else l.takeWhile (fun x => decide (x < k)) ++ k :: l.dropWhile (fun x => decide (x < k))
theorem mem_insK {l : List Tx} {k x : Tx} : x ∈ insK l k ↔ x = k ∨ x ∈ l := by
  unfold insK
  by_cases h : k ∈ l
  · rw [if_pos h]
    exact ⟨.inr, fun q => q.elim (fun e => e ▸ h) id⟩
  · rw [if_neg h]
    have hj := List.takeWhile_append_dropWhile (p := fun x => decide (x < k)) (l := l)
    rw [List.mem_append, List.mem_cons]
    constructor
    · rintro (q | q | q)
      · right; rw [← hj]; exact List.mem_append_left _ q
      · exact .inl q
      · right; rw [← hj]; exact List.mem_append_right _ q
    · rintro (q | q)
      · exact .inr (.inl q)
      · rw [← hj, List.mem_append] at q
        exact q.elim .inl (fun z => .inr (.inr z))
theorem drop_gt : ∀ {l : List Tx} {k : Tx}, l.Pairwise (· < ·) → k ∉ l → ∀ x ∈ l.dropWhile (fun x => decide (x < k)), k < x
  | [], k, _, _, x, hx => by simp at hx
  | y :: l, k, hp, hk, x, hx => by
    rw [List.pairwise_cons] at hp
    rw [List.mem_cons, not_or] at hk
    by_cases h : y < k
    · rw [List.dropWhile_cons_of_pos (by simpa using h)] at hx
      exact drop_gt hp.2 hk.2 x hx
    · rw [List.dropWhile_cons_of_neg (by simpa using h)] at hx
      have hy : k < y := tx_tri h (Ne.symm hk.1)
      rcases List.mem_cons.1 hx with rfl | hx
      · exact hy
      · exact List.lt_trans hy (hp.1 x hx)
theorem tw_mem {p : Tx → Bool} : ∀ {l : List Tx} {x : Tx}, x ∈ l.takeWhile p → p x = true
  | [], x, h => by simp at h
  | y :: l, x, h => by
    by_cases q : p y = true
    · rw [List.takeWhile_cons_of_pos q] at h
      rcases List.mem_cons.1 h with rfl | h
      · exact q
      · exact tw_mem h
    · rw [List.takeWhile_cons_of_neg q] at h; cases h
theorem insK_rise {l : List Tx} {k : Tx} (h : l.Pairwise (· < ·)) : (insK l k).Pairwise (· < ·) := by
  unfold insK
  by_cases hk : k ∈ l
  · rw [if_pos hk]; exact h
  · rw [if_neg hk]
    have hj := List.takeWhile_append_dropWhile (p := fun x => decide (x < k)) (l := l)
    have h' := h
    rw [← hj, List.pairwise_append] at h'
    have ht : ∀ x ∈ l.takeWhile (fun x => decide (x < k)), x < k := fun x hx => by simpa using tw_mem hx
    rw [List.pairwise_append, List.pairwise_cons]
    refine ⟨h'.1, ⟨drop_gt h hk, h'.2.1⟩, fun a ha b hb => ?_⟩
    rcases List.mem_cons.1 hb with rfl | hb
    · exact ht a ha
    · exact h'.2.2 a ha b hb
theorem insK_cnt (l : List Tx) (k : Tx) (f : Tx → Bool) : ((insK l k).filter f).length = (l.filter f).length + if k ∉ l ∧ f k = true then 1 else 0 := by
  unfold insK
  by_cases h : k ∈ l
  · rw [if_pos h, if_neg (fun q => q.1 h)]; rfl
  · rw [if_neg h]
    have hj := List.takeWhile_append_dropWhile (p := fun x => decide (x < k)) (l := l)
    have h2 : (l.filter f).length = ((l.takeWhile (fun x => decide (x < k))).filter f).length + ((l.dropWhile (fun x => decide (x < k))).filter f).length := by
      rw [← List.length_append, ← List.filter_append, hj]
    rw [List.filter_append, List.filter_cons, List.length_append, h2]
    by_cases hf : f k = true
    · rw [if_pos hf, if_pos ⟨h, hf⟩, List.length_cons]; omega
    · rw [if_neg hf, if_neg (fun q => hf q.2)]; omega
theorem getC_set (C : List CL) (p : Nat) (c : CL) (hp : p < C.length) (i : Nat) : (C.set p c).getD i [] = if i = p then c else C.getD i [] := getD_set _ _ _ _ _ hp
theorem mget_one {c : CL} (h : ∀ x ∈ c, x.2 = 1) (k : Tx) : (mget c k).getD 0 = 1 ∨ mget c k = none := by
  cases hm : mget c k with
  | none => exact .inr rfl
  | some v =>
    left
    have : ∀ (c : CL), (∀ x ∈ c, x.2 = 1) → mget c k = some v → v = 1 := fun c => by
      induction c with
      | nil => intro _ q; cases q
      | cons p c ih =>
        intro h q
        unfold mget at q
        split at q
        · cases q; exact h p List.mem_cons_self
        · exact ih (fun x hx => h x (List.mem_cons_of_mem _ hx)) q
    rw [this c h hm]
    rfl
theorem mput_len (c : CL) (k : Tx) (v : Int) : (mput c k v).length = c.length + if mget c k = none then 1 else 0 := by
  induction c with
  | nil => simp [mput, mget]
  | cons p c ih =>
    unfold mput mget
    by_cases e : p.1 = k
    · rw [if_pos e, if_pos e]; simp
    · rw [if_neg e, if_neg e, List.length_cons, ih, List.length_cons]; omega
theorem mput_on {c : CL} (h : ∀ x ∈ c, x.2 = 1) (k : Tx) : ∀ x ∈ mput c k 1, x.2 = 1 := by
  induction c with
  | nil => intro x hx; simp [mput] at hx; rw [hx]
  | cons p c ih =>
    intro x hx
    unfold mput at hx
    split at hx
    · rcases List.mem_cons.1 hx with rfl | hx
      · rfl
      · exact h x (List.mem_cons_of_mem _ hx)
    · rcases List.mem_cons.1 hx with rfl | hx
      · exact h _ List.mem_cons_self
      · exact ih (fun x hx => h x (List.mem_cons_of_mem _ hx)) x hx
theorem mget_mputC (c : CL) (k t : Tx) (v : Int) : mget (mput c k v) t = if k = t then some v else mget c t := by
  induction c with
  | nil => simp [mput, mget]
  | cons p c ih =>
    by_cases h : p.1 = k
    · simp only [mput, if_pos h, mget]
      by_cases h2 : k = t
      · simp [h2]
      · simp [h2, h]
    · simp only [mput, if_neg h, mget]
      by_cases h2 : p.1 = t
      · have : ¬ k = t := fun q => h (h2.trans q.symm)
        simp [h2, this]
      · simp [h2, ih]
theorem DS0.put {P : Nat} {C : List CL} {l : List Tx} (D : DS0 P C l) (k : Tx) : DS0 P (putE C k) (insK l k) := by
  have hp : partT k P < P := partT_lt k D.pp
  have hcl := D.cl
  obtain ⟨p, hpd⟩ : ∃ p, partT k P = p := ⟨_, rfl⟩
  have hput : putE C k = C.set p (mput (C.getD p []) k 1) := by unfold putE ofE; rw [hcl, hpd]
  rw [hpd] at hp
  have hget := fun c i => getC_set C p c (by omega) i
  have hon := D.on p hp
  have hkn : k ∈ l ↔ (mget (C.getD p []) k).getD 0 = 1 := by
    rw [D.hs]
    unfold hasE ofE
    rw [hcl, hpd, decide_eq_true_eq]
  have hnone : k ∉ l ↔ mget (C.getD p []) k = none := by
    rw [hkn]
    rcases mget_one hon k with q | q
    · rw [q]
      constructor
      · intro h; exact absurd rfl h
      · intro h; rw [h] at q; simp at q
    · rw [q]; simp
  rw [hput]
  refine ⟨by simpa using hcl, insK_rise D.ri, fun t => ?_, fun i hi => ?_, fun i hi => ?_, D.pp⟩
  · rw [mem_insK, D.hs]
    unfold hasE ofE
    rw [decide_eq_true_eq, decide_eq_true_eq, List.length_set, hcl, hget]
    by_cases e : partT t P = p
    · rw [if_pos e, mget_mputC, e]
      by_cases e2 : k = t
      · rw [if_pos e2]; simp [e2]
      · rw [if_neg e2]
        exact ⟨fun q => q.elim (fun z => absurd z.symm e2) id, .inr⟩
    · rw [if_neg e]
      exact ⟨fun q => q.elim (fun z => absurd (by rw [z]; exact hpd) e) id, .inr⟩
  · rw [hget, insK_cnt, ← D.ct i hi]
    by_cases e : i = p
    · rw [if_pos e, mput_len, e]
      congr 1
      by_cases h : k ∈ l
      · rw [if_neg (fun q => (hnone.2 q) h), if_neg (fun q => q.1 h)]
      · rw [if_pos (hnone.1 h), if_pos ⟨h, by rw [hpd]; simp⟩]
    · rw [if_neg e, if_neg (fun q => e (by have := q.2; rw [hpd, decide_eq_true_eq] at this; exact this.symm))]
      rfl
  · rw [hget]
    by_cases e : i = p
    · rw [if_pos e]; exact mput_on hon k
    · rw [if_neg e]; exact D.on i hi
theorem DS0.puts {P : Nat} : ∀ (ks : List Tx) {C : List CL} {l : List Tx}, DS0 P C l → DS0 P (ks.foldl putE C) (ks.foldl insK l)
  | [], _, _, D => D
  | k :: ks, _, _, D => DS0.puts ks (D.put k)
theorem fold_cnt (f : Tx → Bool) : ∀ (ks l : List Tx), ks.Nodup → ((ks.foldl insK l).filter f).length = (l.filter f).length + (ks.filter fun k => decide (k ∉ l) && f k).length
  | [], l, _ => by simp
  | k :: ks, l, h => by
    rw [List.nodup_cons] at h
    rw [List.foldl_cons, fold_cnt f ks _ h.2, insK_cnt, List.filter_cons]
    have e : (ks.filter fun x => decide (x ∉ insK l k) && f x) = ks.filter fun x => decide (x ∉ l) && f x := List.filter_congr fun x hx => by
      congr 1
      have : x ≠ k := fun q => h.1 (q ▸ hx)
      simp [mem_insK, this]
    rw [e]
    by_cases hc : k ∉ l ∧ f k = true
    · rw [if_pos hc, if_pos (by simp [hc.1, hc.2]), List.length_cons]; omega
    · rw [if_neg hc, if_neg (fun q => hc (by simpa using q))]; omega
/-- With the bound on each partition. -/
structure DS (P r : Nat) (S : StE) (l : List Tx) : Prop where
  d0 : DS0 P S.C l
  rm : S.room = r
  le : ∀ i, i < P → (S.C.getD i []).length ≤ r
theorem rise_nodup {ks : List Tx} (h : riseB ks = true) : ks.Nodup := by
  have hp : ks.Pairwise (· < ·) := by
    unfold riseB at h
    rw [List.all_eq_true] at h
    have : ∀ j, j + 1 < ks.length → ks.getD j [] < ks.getD (j + 1) [] := fun j hj => of_decide_eq_true (h j (List.mem_range.2 (by omega)))
    clear h
    induction ks with
    | nil => exact List.Pairwise.nil
    | cons x t ih =>
      have iht := ih (fun j hj => this (j + 1) (by simp only [List.length_cons]; omega))
      rw [List.pairwise_cons]
      refine ⟨?_, iht⟩
      cases t with
      | nil => intro a ha; cases ha
      | cons y t =>
        have hxy : x < y := this 0 (by simp)
        intro a ha
        rcases List.mem_cons.1 ha with rfl | ha
        · exact hxy
        · rw [List.pairwise_cons] at iht
          exact List.lt_trans hxy (iht.1 a ha)
  exact hp.imp (fun {a b} h e => by subst e; exact List.lt_irrefl a h)
theorem DS.full {P r : Nat} {S : StE} {l : List Tx} (D : DS P r S l) (ks : List Tx) {i : Nat} (hi : i < P) : fullB S ks i = decide (r < (l.filter fun k => decide (partT k P = i)).length + moreN S.C ks i) := by
  have h1 := D.le i hi
  have h2 := D.d0.ct i hi
  unfold fullB
  rw [D.rm, h2]
  rw [h2] at h1
  by_cases h : r < (l.filter fun k => decide (partT k P = i)).length + moreN S.C ks i
  · have : 0 < moreN S.C ks i := by omega
    simp [h, this]
  · simp [h]
theorem DS.claim {P r : Nat} {S : StE} {l : List Tx} (D : DS P r S l) (ks : List Tx) : (claimE S ks).2 = 0 → DS P r (claimE S ks).1 (ks.foldl insK l) := by
  unfold claimE
  split
  · intro h; cases h
  · split
    · intro h; cases h
    · rename_i hr
      split
      · intro h; cases h
      · rename_i hf
        intro _
        have hr : riseB ks = true := by simpa using hr
        have hn := rise_nodup hr
        refine ⟨D.d0.puts ks, D.rm, fun i hi => ?_⟩
        have h2 := (D.d0.puts ks).ct i hi
        simp only at h2 ⊢
        rw [h2, fold_cnt _ _ _ hn]
        have hm : (ks.filter fun k => decide (k ∉ l) && decide (partT k P = i)).length = moreN S.C ks i := by
          unfold moreN
          congr 1
          refine List.filter_congr fun k _ => ?_
          unfold moreB
          rw [D.d0.cl]
          congr 1
          have := D.d0.hs k
          cases hh : hasE S.C k <;> simp [this, hh]
        rw [hm]
        have h3 : fullB S ks i = false := by
          by_cases q : fullB S ks i = true
          · exact absurd (List.any_eq_true.2 ⟨i, List.mem_range.2 (by rw [D.d0.cl]; exact hi), q⟩) hf
          · simpa using q
        rw [D.full ks hi, decide_eq_false_iff_not] at h3
        omega
theorem claim_same {S : StE} {ks : List Tx} (h : (claimE S ks).2 ≠ 0) : (claimE S ks).1 = S := by
  unfold claimE at h ⊢
  split
  · rfl
  · split
    · rfl
    · split
      · rfl
      · rename_i h1 h2 h3
        rw [if_neg h1, if_neg h2, if_neg h3] at h
        exact absurd rfl h
theorem DS.start {P r : Nat} (hP : 1 ≤ P) : DS P r (newSt P r) [] := by
  have hg : ∀ i, (newSt P r).C.getD i [] = [] := fun i => by
    unfold newSt
    rw [List.getD_eq_getElem?_getD, List.getElem?_replicate]
    split <;> rfl
  refine ⟨⟨by simp [newSt], List.Pairwise.nil, fun k => ?_, fun i _ => by rw [hg]; rfl, fun i _ => by rw [hg]; simp, hP⟩, rfl, fun i _ => by rw [hg]; simp⟩
  rw [has0]
  simp
end Go.Proofs.YtgdbckjkeofoaaaGreat

/- Of each queue a beginning is granted; who is ready stays so. -/
namespace Go.Proofs.YtgdbckjkeofoaaaGreat
open Go.RowKit Go.Proofs.Eng Go.Proofs.Foot Go.Proofs.Locks
set_option linter.unusedSimpArgs false
set_option linter.unusedVariables false set_option maxRecDepth 10000
attribute [local irreducible] T TL LV TH TA
structure QueueOk (q : List Akk) (g : Nat) : Prop where
  le : g ≤ q.length
  pos : 0 < q.length → 1 ≤ g
  rd : ∀ i, 1 ≤ i → i < g → (q.getD i ak0).2 = false ∧ (q.getD 0 ak0).2 = false
  wr : ∀ i, g ≤ i → i < q.length → (q.getD i ak0).2 = true ∨ ∃ j, j < i ∧ (q.getD j ak0).2 = true
/-- Who is behind changes nothing. -/
theorem ahead_append {E X : List Ent} {s : Int} {l : List Lk} (h : eget E s = some l) : aheadE (E ++ X) s = aheadE E s ∧ eget (E ++ X) s = some l := by
  constructor
  · obtain ⟨E2, h1, h2⟩ := split_at h
    unfold aheadE at h1 h2 ⊢
    generalize E.takeWhile (fun e => !decide (e.1 = s)) = P at h1 h2
    rw [h1, List.append_assoc, List.cons_append]
    have key : ∀ (P : List Ent) (R : List Ent), (∀ e ∈ P, e.1 ≠ s) → (P ++ (s, l) :: R).takeWhile (fun e => !decide (e.1 = s)) = P := by
      intro P
      induction P with
      | nil => intro R _; simp
      | cons e P ih =>
        intro R hP
        have h0 := hP e List.mem_cons_self
        rw [List.cons_append, List.takeWhile_cons]
        simp only [h0, decide_false, Bool.not_false, if_true]
        rw [ih R (fun x hx => hP x (List.mem_cons_of_mem _ hx))]
    exact key P _ h2
  · rw [show eget (E ++ X) s = (eget E s).or (eget X s) from eget_append E X s, h]
    rfl
end Go.Proofs.YtgdbckjkeofoaaaGreat

/- Rows as the statements keep them. -/
namespace Go.Proofs.YtgdbckjkeofoaaaGreat
open Go.RowKit Go.Proofs.Eng Go.Proofs.Foot Go.Proofs.Locks
set_option linter.unusedSimpArgs false
set_option linter.unusedVariables false set_option maxRecDepth 10000
attribute [local irreducible] T TL LV TH TA
def clash2 (a b : List Lk) : Bool := a.any fun x => b.any fun y => decide (x.1 = y.1) && (x.2 || y.2)
theorem asks_iff {l : List Lk} (hn : (l.map (·.1)).Nodup) {k : Tx} {b : Bool} : asks l k = some b ↔ (k, b) ∈ l := by
  constructor
  · intro h
    unfold asks at h
    rw [Option.map_eq_some_iff] at h
    obtain ⟨x, h1, rfl⟩ := h
    have h2 := List.find?_some h1
    have h3 := List.mem_of_find?_eq_some h1
    simp only [decide_eq_true_eq] at h2
    rw [← h2]
    exact h3
  · intro h
    exact asks_mem hn h
theorem clash2_eq {a b : List Lk} (hn : (a.map (·.1)).Nodup) : clash2 a b = clashL a b := by
  have h1 : clash2 a b = true ↔ clashL a b = true := by
    rw [clashL_iff]
    unfold clash2
    simp only [List.any_eq_true, Bool.and_eq_true, decide_eq_true_eq]
    constructor
    · rintro ⟨x, hx, y, hy, e, h⟩
      exact ⟨y, hy, x.2, (asks_iff hn).2 (by rw [← e]; exact hx), h⟩
    · rintro ⟨y, hy, c, hc, h⟩
      exact ⟨(y.1, c), (asks_iff hn).1 hc, y, hy, rfl, h⟩
  cases h2 : clash2 a b <;> cases h3 : clashL a b <;> simp_all
structure RE where
  s : Int
  A : Option Addr
  n : Nat
  c : Nat
  was : Bool
  l : List Lk
def re0 : RE := ⟨0, none, 0, 0, false, []⟩
def rwV (r : RE) : List Value := [.int .i64 r.s, .slice r.A r.n r.c, .bool r.was]
def entR (r : RE) : Ent := (r.s, r.l)
def aloneB (rs : List RE) (k : Nat) : Bool := (rs.take k).all fun r => !clash2 r.l (rs.getD k re0).l
section
variable {t : LS} {N : Nat} {rs : List RE}
end
end Go.Proofs.YtgdbckjkeofoaaaGreat

/- The scheduler: who flies, who is ready, whatever is done. -/
namespace Go.Proofs.YtgdbckjkeofoaaaGreat
open Go.RowKit Go.Proofs.Eng Go.Proofs.Foot Go.Proofs.Locks Go.Proofs.Sched
set_option linter.unusedSimpArgs false
set_option linter.unusedVariables false set_option maxRecDepth 10000
attribute [local irreducible] T TL LV TH TA
def stE (E : List EnE) (i : Nat) : Nat := (E.getD i en0).st
def flyB (z : Nat) : Bool := decide (z = 2 ∨ z = 3 ∨ z = 4)
def entA (E : List EnE) (i : Nat) : Ent := ((i : Int), locksT (E.getD i en0).rd (E.getD i en0).wr)
def flyL (E : List EnE) (n : Nat) : List Ent := ((List.range n).filter fun i => flyB (stE E i)).map (entA E)
def clB (E : List EnE) (i k : Nat) : Bool := clashL (entA E k).2 (entA E i).2
/-- Nobody who flies ahead clashes with it. -/
def rdyI (E : List EnE) (i : Nat) : Prop := ∀ k, k < i → flyB (stE E k) = true → clB E i k = false
section
variable {E E' : List EnE} {n i k z N : Nat} {s : SS}
theorem st_set (hi : i < E.length) : stE (setSt E i z) k = if k = i then z else stE E k := by
  unfold stE setSt
  rw [getD_set _ _ _ _ _ hi]
  split <;> rfl
theorem ent_set (hi : i < E.length) : entA (setSt E i z) k = entA E k := by
  unfold entA setSt
  rw [getD_set _ _ _ _ _ hi]
  by_cases e : k = i
  · rw [if_pos e, e]
  · rw [if_neg e]
theorem fly_succ (E : List EnE) (n : Nat) : flyL E (n + 1) = flyL E n ++ (if flyB (stE E n) = true then [entA E n] else []) := by
  unfold flyL
  rw [List.range_succ, List.filter_append, List.map_append]
  congr 1
  simp only [List.filter_cons, List.filter_nil]
  split <;> simp
theorem fly_congr (h : ∀ k, k < n → flyB (stE E' k) = flyB (stE E k) ∧ entA E' k = entA E k) : flyL E' n = flyL E n := by
  induction n with
  | zero => rfl
  | succ n ih =>
    rw [fly_succ, fly_succ, ih (fun k hk => h k (by omega)), (h n (by omega)).1, (h n (by omega)).2]
theorem mem_fly {e : Ent} : e ∈ flyL E n ↔ ∃ k, k < n ∧ flyB (stE E k) = true ∧ e = entA E k := by
  unfold flyL
  rw [List.mem_map]
  constructor
  · rintro ⟨k, hk, rfl⟩
    obtain ⟨h1, h2⟩ := List.mem_filter.1 hk
    exact ⟨k, List.mem_range.1 h1, h2, rfl⟩
  · rintro ⟨k, h1, h2, rfl⟩
    exact ⟨k, List.mem_filter.2 ⟨List.mem_range.2 h1, h2⟩, rfl⟩
theorem fly_get : ∀ (n : Nat), i < n → flyB (stE E i) = true → eget (flyL E n) (i : Int) = some (entA E i).2 ∧ aheadE (flyL E n) (i : Int) = flyL E i
  | 0, h, _ => by omega
  | n + 1, h, hf => by
    rw [fly_succ]
    by_cases e : i = n
    · subst e
      rw [if_pos hf]
      have hne : ∀ x ∈ flyL E i, x.1 ≠ (i : Int) := fun x hx => by
        obtain ⟨k, h1, _, rfl⟩ := mem_fly.1 hx
        show (k : Int) ≠ _
        omega
      constructor
      · unfold eget
        rw [List.find?_append, List.find?_eq_none.2 (fun x hx => by simpa using hne x hx)]
        simp [entA]
      · unfold aheadE
        rw [List.takeWhile_append_of_pos (fun x hx => by simpa using hne x hx)]
        simp [entA]
    · obtain ⟨h1, h2⟩ := fly_get n (by omega) hf
      obtain ⟨a1, a2⟩ := ahead_append (X := if flyB (stE E n) = true then [entA E n] else []) h1
      exact ⟨a2, a1.trans h2⟩
theorem fly_len (E : List EnE) (n : Nat) : (flyL E n).length ≤ n := by
  unfold flyL
  rw [List.length_map]
  exact Nat.le_trans (List.length_filter_le _ _) (by simp)
structure SJ (s : SS) : Prop where
  nl : s.nxt ≤ s.E.length
  wn : 1 ≤ s.win
  a1 : ∀ i, i < s.E.length → (i < s.nxt ↔ stE s.E i ≠ 1)
  a2 : ∀ i, i < s.E.length → 1 ≤ stE s.E i ∧ stE s.E i ≤ 6
  a3 : s.t.E = flyL s.E s.nxt
  a4 : ∀ i, i < s.E.length → stE s.E i = 3 ∨ stE s.E i = 4 → rdyI s.E i
  a7 : s.t.E.length ≤ s.win
  a8 : ∀ i k, k < i → i < s.E.length → stE s.E i = 5 → stE s.E k ≠ 5 → stE s.E k ≠ 6 → clB s.E i k = false
  a9 : 0 ≤ s.t.nx ∧ s.t.nx ≤ (s.nxt : Int)
  a10 : ∀ i, i < s.E.length → chk none (entA s.E i).2 = 0
structure SR (s : SS) : Prop extends SJ s where
  a5 : ∀ i, i < s.E.length → stE s.E i = 2 → ¬ rdyI s.E i
  a6 : s.nxt < s.E.length → s.win ≤ s.t.E.length
theorem SJ.ready (J : SJ s) {i : Nat} (hi : i < s.nxt) (hf : flyB (stE s.E i) = true) : readyE s.t.E (i : Int) = true ↔ rdyI s.E i := by
  obtain ⟨h1, h2⟩ := fly_get (E := s.E) s.nxt hi hf
  rw [← J.a3] at h1 h2
  rw [ready_iff h1 (chk_nodup (J.a10 i (by have := J.nl; omega))), h2]
  constructor
  · intro h k hk hf
    exact h _ (mem_fly.2 ⟨k, hk, hf, rfl⟩)
  · intro h e he
    obtain ⟨k, h1, h2, rfl⟩ := mem_fly.1 he
    exact h k h1 h2
theorem fly_of {z : Nat} (h : z = 2 ∨ z = 3 ∨ z = 4) : flyB z = true := decide_eq_true h
theorem fly_iff {z : Nat} : flyB z = true ↔ z = 2 ∨ z = 3 ∨ z = 4 := by unfold flyB; rw [decide_eq_true_eq]
theorem rdy_congr (h : ∀ k, k < i → flyB (stE E' k) = true → flyB (stE E k) = true) (he : ∀ k, k ≤ i → entA E' k = entA E k) (hr : rdyI E i) : rdyI E' i := fun k hk hf => by
  have := hr k hk (h k hk hf)
  unfold clB at this ⊢
  rw [he k (by omega), he i (Nat.le_refl _)]
  exact this
theorem SJ.start (n : Nat) (hn : 1 ≤ n) (S : StE) : SR (newSS n S) :=
  { nl := Nat.le_refl _, wn := hn, a1 := (fun i h => by simp [newSS] at h), a2 := (fun i h => by simp [newSS] at h), a3 := rfl, a4 := (fun i h => by simp [newSS] at h), a7 := Nat.zero_le _, a8 := (fun i k _ h => by simp [newSS] at h), a9 := ⟨Int.le_refl _, Int.le_refl _⟩, a10 := (fun i h => by simp [newSS] at h), a5 := (fun i h => by simp [newSS] at h), a6 := (fun h => by simp [newSS] at h) }
/-- One more is looked at. -/
theorem lockS_sj (J : SJ s) (h1 : s.nxt < s.E.length) (h2 : s.t.E.length < s.win) (hnx : (s.nxt : Int) < 9223372036854775807) : SJ (lockS s) ∧ (lockS s).nxt = s.nxt + 1 ∧ (lockS s).E.length = s.E.length := by
  have hst1 : stE s.E s.nxt = 1 := Classical.byContradiction fun q => by
    have := (J.a1 s.nxt h1).2 q
    omega
  have gen : ∀ (z : Nat) (t' : LS) (S' : StE), z = 6 ∨ z = 2 → t'.E = flyL s.E s.nxt ++ (if flyB z = true then [entA s.E s.nxt] else []) → 0 ≤ t'.nx ∧ t'.nx ≤ ((s.nxt + 1 : Nat) : Int) → t'.E.length ≤ s.win → SJ { s with S := S', t := t', E := setSt s.E s.nxt z, nxt := s.nxt + 1 } := fun z t' S' hz ht hn hw => by
    have hs : ∀ k, stE (setSt s.E s.nxt z) k = if k = s.nxt then z else stE s.E k := fun k => st_set h1
    have he : ∀ k, entA (setSt s.E s.nxt z) k = entA s.E k := fun k => ent_set h1
    have hl := setSt_len s.E s.nxt z
    have hlow : ∀ k, k < s.nxt → stE (setSt s.E s.nxt z) k = stE s.E k := fun k hk => by rw [hs, if_neg (by omega)]
    refine ⟨by simp only [hl]; omega, J.wn, fun i hi => ?_, fun i hi => ?_, ?_, fun i hi h => ?_, hw, fun i k hk hi h5 hk5 hk6 => ?_, hn, fun i hi => ?_⟩
    · simp only [hl] at hi ⊢
      rw [hs]
      by_cases e : i = s.nxt
      · rw [if_pos e]; omega
      · rw [if_neg e, ← J.a1 i hi]; omega
    · simp only [hl] at hi ⊢
      rw [hs]
      split
      · omega
      · exact J.a2 i hi
    · simp only
      rw [ht, fly_succ, hs, if_pos rfl, he, fly_congr (E := s.E) (fun k hk => ⟨by rw [hlow k hk], he k⟩)]
    · simp only [hl] at hi h ⊢
      rw [hs] at h
      by_cases e : i = s.nxt
      · rw [if_pos e] at h; omega
      · rw [if_neg e] at h
        have hin := (J.a1 i hi).2 (by omega)
        exact rdy_congr (fun k hk q => by rw [hlow k (by omega)] at q; exact q) (fun k _ => he k) (J.a4 i hi h)
    · simp only [hl] at hi h5 hk5 hk6 ⊢
      rw [hs] at h5 hk5 hk6
      by_cases e : i = s.nxt
      · rw [if_pos e] at h5; omega
      · rw [if_neg e] at h5
        have hin := (J.a1 i hi).2 (by omega)
        rw [if_neg (by omega)] at hk5 hk6
        have := J.a8 i k hk hi h5 hk5 hk6
        unfold clB at this ⊢
        rw [he, he]; exact this
    · simp only [hl] at hi ⊢
      rw [he]; exact J.a10 i hi
  unfold lockS
  simp only
  split
  · refine ⟨gen 6 s.t s.S (.inl rfl) ?_ ⟨J.a9.1, by have := J.a9.2; omega⟩ J.a7, rfl, setSt_len _ _ _⟩
    rw [J.a3]; simp [flyB]
  · have hck := J.a10 s.nxt h1
    have hen : (enqE s.t (s.nxt : Int) (locksT (s.E.getD s.nxt en0).rd (s.E.getD s.nxt en0).wr)).1 = ⟨s.t.E ++ [entA s.E s.nxt], (s.nxt : Int) + 1⟩ := by
      unfold enqE
      have hck2 : chk none (locksT (s.E.getD s.nxt en0).rd (s.E.getD s.nxt en0).wr) = 0 := hck
      rw [if_neg (by have := J.a9; omega), if_neg (fun q => q hck2), bump_lt (by omega) hnx]
      rfl
    rw [hen]
    refine ⟨gen 2 _ _ (.inr rfl) ?_ ⟨by simp only; omega, by simp only; omega⟩ (by simp only [List.length_append, List.length_cons, List.length_nil]; omega), rfl, setSt_len _ _ _⟩
    simp only
    rw [J.a3]; simp [flyB]
theorem lockL_sj : ∀ (f : Nat) (s : SS), SJ s → s.E.length ≤ 1000 → s.E.length - s.nxt ≤ f → SJ (lockL f s) ∧ (lockL f s).E.length = s.E.length ∧ ((lockL f s).nxt < (lockL f s).E.length → (lockL f s).win ≤ (lockL f s).t.E.length)
  | 0, s, J, _, hf => ⟨J, rfl, fun h => by have : (lockL 0 s) = s := rfl; rw [this] at h; omega⟩
  | f + 1, s, J, hl, hf => by
    by_cases h1 : s.nxt < s.E.length
    · by_cases h2 : s.t.E.length < s.win
      · rw [lockL_go h1 h2]
        obtain ⟨J2, n2, l2⟩ := lockS_sj J h1 h2 (by omega)
        obtain ⟨a, b, c⟩ := lockL_sj f (lockS s) J2 (by omega) (by omega)
        exact ⟨a, b.trans l2, c⟩
      · rw [lockL_stop (fun q => h2 q.2)]
        exact ⟨J, rfl, fun _ => by omega⟩
    · rw [lockL_stop (fun q => h1 q.1)]
      exact ⟨J, rfl, fun q => absurd q h1⟩
theorem rdys_st (L : List Int) : ∀ (E : List EnE), (∀ q ∈ L, 0 ≤ q ∧ q < (E.length : Int)) → ∀ k, entA (L.foldl rdyS E) k = entA E k ∧ stE (L.foldl rdyS E) k = if stE E k = 2 ∧ (k : Int) ∈ L then 3 else stE E k := by
  induction L with
  | nil => intro E _ k; simp
  | cons q L ih =>
    intro E h k
    rw [List.foldl_cons]
    have hq := h q (by simp)
    have hqn : q.toNat < E.length := by omega
    have hl : (rdyS E q).length = E.length := by unfold rdyS; split <;> simp [setSt_len]
    obtain ⟨i1, i2⟩ := ih (rdyS E q) (fun z hz => by rw [hl]; exact h z (by simp [hz])) k
    have e1 : entA (rdyS E q) k = entA E k := by unfold rdyS; split <;> simp [ent_set hqn]
    have e2 : stE (rdyS E q) k = if stE E k = 2 ∧ (k : Int) = q then 3 else stE E k := by
      unfold rdyS
      by_cases h2 : (E.getD q.toNat en0).st = 2
      · rw [if_pos h2, st_set hqn]
        by_cases e : k = q.toNat
        · have hk2 : stE E k = 2 := by rw [e]; exact h2
          rw [if_pos e, if_pos ⟨hk2, by omega⟩]
        · rw [if_neg e, if_neg (fun z => e (by omega))]
      · rw [if_neg h2]
        by_cases e : stE E k = 2 ∧ (k : Int) = q
        · exfalso
          apply h2
          have : q.toNat = k := by omega
          rw [this]; exact e.1
        · rw [if_neg e]
    refine ⟨i1.trans e1, ?_⟩
    rw [i2, e2]
    clear i1 i2 e1 e2 ih h hl
    generalize stE E k = z
    by_cases h2 : z = 2 <;> by_cases hkq : (k : Int) = q <;> by_cases hkL : (k : Int) ∈ L <;> simp [h2, hkq, hkL, List.mem_cons]
theorem lockE_sr (J : SJ s) (hl : s.E.length ≤ 1000) : SR (lockE s) ∧ (lockE s).E.length = s.E.length := by
  obtain ⟨J1, l1, h6⟩ := lockL_sj (s.E.length - s.nxt) s J hl (Nat.le_refl _)
  change SJ (lockU s) at J1
  change (lockU s).E.length = _ at l1
  change (lockU s).nxt < (lockU s).E.length → (lockU s).win ≤ (lockU s).t.E.length at h6
  unfold lockE
  generalize lockU s = u at J1 l1 h6
  have hmem : ∀ q : Int, q ∈ readiesE u.t ↔ ∃ k, k < u.nxt ∧ flyB (stE u.E k) = true ∧ q = (k : Int) ∧ rdyI u.E k := fun q => by
    unfold readiesE allE
    rw [List.mem_filter, List.mem_map]
    constructor
    · rintro ⟨⟨e, he, rfl⟩, hr⟩
      rw [J1.a3] at he
      obtain ⟨k, h1, h2, rfl⟩ := mem_fly.1 he
      exact ⟨k, h1, h2, rfl, (J1.ready h1 h2).1 hr⟩
    · rintro ⟨k, h1, h2, rfl, hr⟩
      exact ⟨⟨entA u.E k, by rw [J1.a3]; exact mem_fly.2 ⟨k, h1, h2, rfl⟩, rfl⟩, (J1.ready h1 h2).2 hr⟩
  have hrg : ∀ q ∈ readiesE u.t, 0 ≤ q ∧ q < (u.E.length : Int) := fun q hq => by
    obtain ⟨k, h1, _, rfl, _⟩ := (hmem q).1 hq
    have := J1.nl
    omega
  have hR := rdys_st (readiesE u.t) u.E hrg
  have hL := rdys_len (readiesE u.t) u.E
  generalize (readiesE u.t).foldl rdyS u.E = E' at hR hL
  have hst : ∀ k, stE E' k = if stE u.E k = 2 ∧ (k : Int) ∈ readiesE u.t then 3 else stE u.E k := fun k => (hR k).2
  have hen : ∀ k, entA E' k = entA u.E k := fun k => (hR k).1
  have hfl : ∀ k, flyB (stE E' k) = flyB (stE u.E k) := fun k => by
    rw [hst]
    by_cases e : stE u.E k = 2 ∧ (k : Int) ∈ readiesE u.t
    · rw [if_pos e, e.1]; rfl
    · rw [if_neg e]
  have hrd : ∀ i, rdyI u.E i → rdyI E' i := fun i h => rdy_congr (fun k _ q => by rw [hfl] at q; exact q) (fun k _ => hen k) h
  have hrd' : ∀ i, rdyI E' i → rdyI u.E i := fun i h => rdy_congr (fun k _ q => by rw [hfl]; exact q) (fun k _ => (hen k).symm) h
  have hother : ∀ k z, z ≠ 2 → z ≠ 3 → (stE E' k = z ↔ stE u.E k = z) := fun k z z2 z3 => by
    rw [hst]
    by_cases e : stE u.E k = 2 ∧ (k : Int) ∈ readiesE u.t
    · rw [if_pos e]; omega
    · rw [if_neg e]
  refine ⟨{ nl := by simp only [hL]; exact J1.nl, wn := J1.wn, a1 := fun i hi => ?_, a2 := fun i hi => ?_, a3 := ?_, a4 := fun i hi h => ?_, a7 := J1.a7, a8 := fun i k hk hi h5 k5 k6 => ?_, a9 := J1.a9, a10 := fun i hi => ?_, a5 := fun i hi h => ?_, a6 := fun h => ?_ }, by simp only [hL]; exact l1⟩
  · simp only [hL] at hi ⊢
    rw [J1.a1 i hi]
    exact not_congr (hother i 1 (by omega) (by omega)).symm
  · simp only [hL] at hi ⊢
    have := J1.a2 i hi
    rw [hst]
    split
    · omega
    · exact this
  · simp only
    rw [J1.a3]
    exact (fly_congr (fun k _ => ⟨hfl k, hen k⟩)).symm
  · simp only [hL] at hi h ⊢
    apply hrd
    rw [hst] at h
    by_cases e : stE u.E i = 2 ∧ (i : Int) ∈ readiesE u.t
    · obtain ⟨k, _, _, h3, h4⟩ := (hmem _).1 e.2
      have : i = k := by omega
      rw [this]; exact h4
    · rw [if_neg e] at h
      exact J1.a4 i hi h
  · simp only [hL] at hi h5 k5 k6 ⊢
    have := J1.a8 i k hk hi ((hother i 5 (by omega) (by omega)).1 h5) (fun q => k5 ((hother k 5 (by omega) (by omega)).2 q)) (fun q => k6 ((hother k 6 (by omega) (by omega)).2 q))
    unfold clB at this ⊢
    rw [hen, hen]; exact this
  · simp only [hL] at hi ⊢
    rw [hen]; exact J1.a10 i hi
  · simp only [hL] at hi h ⊢
    intro hr
    have hr := hrd' i hr
    rw [hst] at h
    by_cases e : stE u.E i = 2 ∧ (i : Int) ∈ readiesE u.t
    · rw [if_pos e] at h; omega
    · rw [if_neg e] at h
      refine e ⟨h, (hmem _).2 ⟨i, (J1.a1 i hi).2 (by omega), fly_of (by omega), rfl, hr⟩⟩
  · simp only [hL] at h ⊢
    exact h6 h
/-- The least that is left is ready or taken. -/
theorem SR.first (R : SR s) {i : Nat} (hi : i < s.E.length) (hl : stE s.E i ≠ 5 ∧ stE s.E i ≠ 6) (hb : ∀ k, k < i → stE s.E k = 5 ∨ stE s.E k = 6) : stE s.E i = 3 ∨ stE s.E i = 4 := by
  have h2 := R.a2 i hi
  by_cases e1 : stE s.E i = 1
  · exfalso
    have hn : ¬ i < s.nxt := fun q => (R.a1 i hi).1 q e1
    have hz : s.t.E = [] := by
      rw [R.a3]
      apply List.eq_nil_iff_forall_not_mem.2
      intro e he
      obtain ⟨k, h1, h3, _⟩ := mem_fly.1 he
      have := fly_iff.1 h3
      have := hb k (by omega)
      omega
    have := R.a6 (by omega)
    rw [hz] at this
    have := R.wn
    simp at *
    omega
  · by_cases e2 : stE s.E i = 2
    · exfalso
      refine R.a5 i hi e2 (fun k hk hf => ?_)
      have := fly_iff.1 hf
      have := hb k hk
      omega
    · omega
/-- Of two that clash the one behind is not ready before the one ahead is done. -/
theorem SR.apart (R : SR s) {i k : Nat} (hk : k < i) (hi : i < s.E.length) (ho : stE s.E i = 3 ∨ stE s.E i = 4 ∨ stE s.E i = 5) (hl : stE s.E k ≠ 5 ∧ stE s.E k ≠ 6) : clB s.E i k = false := by
  by_cases h5 : stE s.E i = 5
  · exact R.a8 i k hk hi h5 hl.1 hl.2
  · have hn := (R.a1 i hi).2 (by omega)
    have hk1 := (R.a1 k (by omega)).1 (by omega)
    have hk2 := R.a2 k (by omega)
    exact R.a4 i hi (by omega) k hk (fly_of (by omega))
end
end Go.Proofs.YtgdbckjkeofoaaaGreat

/- What is added, taken, done: the scheduler stays as it must be. -/
namespace Go.Proofs.YtgdbckjkeofoaaaGreat
open Go.RowKit Go.Proofs.Eng Go.Proofs.Foot Go.Proofs.Locks Go.Proofs.Sched
set_option linter.unusedSimpArgs false
set_option linter.unusedVariables false set_option maxRecDepth 10000
attribute [local irreducible] T TL LV TH TA
def ftE (x : EnE) : List Tx × List Tx := (x.rd, x.wr)
section
variable {E E' : List EnE} {n i k z N : Nat} {s : SS}
theorem ft_set (E : List EnE) (i z : Nat) : (setSt E i z).map ftE = E.map ftE := by
  unfold setSt
  apply List.ext_getElem?
  intro j
  rw [List.getElem?_map, List.getElem?_map]
  by_cases hi : i < E.length
  · by_cases e : i = j
    · subst e
      rw [List.getElem?_set_self hi, List.getElem?_eq_getElem hi, List.getD_eq_getElem?_getD, List.getElem?_eq_getElem hi]
      rfl
    · rw [List.getElem?_set_ne e]
  · rw [List.set_eq_of_length_le (by omega)]
theorem ft_rdys (L : List Int) : ∀ (E : List EnE), (L.foldl rdyS E).map ftE = E.map ftE := by
  induction L with
  | nil => intro E; rfl
  | cons q L ih =>
    intro E
    rw [List.foldl_cons, ih]
    unfold rdyS
    split
    · exact ft_set _ _ _
    · rfl
theorem ft_lockS (s : SS) : (lockS s).E.map ftE = s.E.map ftE := by
  unfold lockS
  simp only
  split <;> exact ft_set _ _ _
theorem ft_lockL : ∀ (f : Nat) (s : SS), (lockL f s).E.map ftE = s.E.map ftE
  | 0, s => rfl
  | f + 1, s => by
    unfold lockL
    split
    · rw [ft_lockL f, ft_lockS]
    · rfl
theorem ft_lock (s : SS) : (lockE s).E.map ftE = s.E.map ftE := by
  unfold lockE
  simp only
  rw [ft_rdys]
  exact ft_lockL _ _
theorem chk_of : ∀ (l : List Lk) (p : Option Tx), (l.map (·.1)).Pairwise (· < ·) → (∀ x ∈ l, validT x.1 = true) → (∀ y, p = some y → ∀ x ∈ l, y < x.1) → chk p l = 0
  | [], p, _, _, _ => by unfold chk; rfl
  | x :: l, p, h1, h2, h3 => by
    rw [List.map_cons, List.pairwise_cons] at h1
    unfold chk
    rw [if_neg (by rw [h2 x (by simp)]; simp)]
    have ho : overT p x.1 = false := by
      unfold overT
      cases p with
      | none => rfl
      | some y =>
        have := h3 y rfl x (by simp)
        simp only
        exact decide_eq_false (List.not_le.2 this)
    rw [ho, if_neg (by simp)]
    exact chk_of l (some x.1) h1.2 (fun y hy => h2 y (by simp [hy])) (fun y hy z hz => by
      cases hy
      exact h1.1 z.1 (List.mem_map.2 ⟨z, hz, rfl⟩))
theorem chk_norm {r k : List Tx} (h : (normF r k).2 = 0) : chk none (locksT r k) = 0 := by
  have hv : r.all validT = true ∧ k.all validT = true := by
    unfold normF at h
    split at h
    · rename_i q; simpa using q
    · cases h
  have hn : (locksT r k).map (·.1) = keysM (ofM r k) 3 := by
    unfold locksT
    rw [List.map_map]
    exact List.map_id _
  refine chk_of _ _ (by rw [hn]; exact keys_rises 3 (of_nodup r k)) (fun x hx => ?_) (fun y hy => by cases hy)
  have hx2 : x.1 ∈ keysM (ofM r k) 3 := by rw [← hn]; exact List.mem_map.2 ⟨x, hx, rfl⟩
  rcases keysM_in hx2 with q | q
  · exact List.all_eq_true.1 hv.1 _ q
  · exact List.all_eq_true.1 hv.2 _ q
theorem st_app {x : EnE} (hi : i < E.length) : stE (E ++ [x]) i = stE E i := by unfold stE; rw [getD_al _ _ _ _ hi]
theorem ent_app {x : EnE} (hi : i < E.length) : entA (E ++ [x]) i = entA E i := by unfold entA; rw [getD_al _ _ _ _ hi]
theorem st_new {x : EnE} : stE (E ++ [x]) E.length = x.st := by unfold stE; rw [getD_ar _ _ _ _ (Nat.le_refl _), Nat.sub_self]; rfl
theorem ent_new {x : EnE} : entA (E ++ [x]) E.length = ((E.length : Int), locksT x.rd x.wr) := by unfold entA; rw [getD_ar _ _ _ _ (Nat.le_refl _), Nat.sub_self]; rfl
theorem push_sj (J : SJ s) {r k : List Tx} (hc : chk none (locksT r k) = 0) : SJ { s with E := s.E ++ [⟨r, k, 1⟩] } := by
  have hl : (s.E ++ [(⟨r, k, 1⟩ : EnE)]).length = s.E.length + 1 := by simp
  have hnl := J.nl
  have hc1 : ∀ i, i < s.E.length + 1 → i < s.E.length ∨ i = s.E.length := fun i h => by omega
  refine ⟨by simp only [hl]; omega, J.wn, fun i hi => ?_, fun i hi => ?_, ?_, fun i hi h => ?_, J.a7, fun i k hk hi h5 k5 k6 => ?_, J.a9, fun i hi => ?_⟩
  · simp only [hl] at hi ⊢
    rcases hc1 i hi with h | h
    · rw [st_app h]; exact J.a1 i h
    · subst h
      rw [st_new]
      simp only
      omega
  · simp only [hl] at hi ⊢
    rcases hc1 i hi with h | h
    · rw [st_app h]; exact J.a2 i h
    · subst h; rw [st_new]; simp
  · simp only
    rw [J.a3]
    exact (fly_congr (fun k hk => ⟨by rw [st_app (by omega)], ent_app (by omega)⟩)).symm
  · simp only [hl] at hi h ⊢
    rcases hc1 i hi with h1 | h1
    · rw [st_app h1] at h
      exact rdy_congr (fun k hk q => by rw [st_app (by omega)] at q; exact q) (fun k hk => ent_app (by omega)) (J.a4 i h1 h)
    · subst h1; rw [st_new] at h; simp at h
  · simp only [hl] at hi h5 k5 k6 ⊢
    rcases hc1 i hi with h1 | h1
    · rw [st_app h1] at h5
      rw [st_app (by omega)] at k5 k6
      have := J.a8 i k hk h1 h5 k5 k6
      unfold clB at this ⊢
      rw [ent_app (by omega), ent_app h1]; exact this
    · subst h1; rw [st_new] at h5; simp at h5
  · simp only [hl] at hi ⊢
    rcases hc1 i hi with h1 | h1
    · rw [ent_app h1]; exact J.a10 i h1
    · subst h1; rw [ent_new]; exact hc
theorem add_sr (R : SR s) (hl : s.E.length + 1 ≤ 1000) (q : Int) (r k : List Tx) : SR (addE s q r k).1 ∧ ((addE s q r k).2 = 0 → (addE s q r k).1.E.map ftE = s.E.map ftE ++ [(r, k)]) ∧ ((addE s q r k).2 ≠ 0 → (addE s q r k).1 = s) := by
  unfold addE
  by_cases h1 : q ≠ (s.E.length : Int)
  · rw [if_pos h1]; exact ⟨R, (fun h => by cases h), fun _ => rfl⟩
  rw [if_neg h1]
  by_cases h2 : (normF r k).2 ≠ 0
  · rw [if_pos h2]; exact ⟨R, fun h => absurd h h2, fun _ => rfl⟩
  rw [if_neg h2]
  by_cases h3 : ¬ ((normF r k).1.1 = r ∧ (normF r k).1.2 = k)
  · rw [if_pos h3]; exact ⟨R, (fun h => by cases h), fun _ => rfl⟩
  rw [if_neg h3]
  have h3 := Classical.not_not.1 h3
  rw [h3.1, h3.2]
  have hJ := push_sj R.toSJ (chk_norm (Classical.not_not.1 h2))
  refine ⟨(lockE_sr hJ (by simp; omega)).1, fun _ => ?_, fun h => absurd rfl h⟩
  rw [ft_lock]
  simp [ftE]
theorem take_sr (R : SR s) : SR (takeS s).1 ∧ (takeS s).1.E.map ftE = s.E.map ftE := by
  unfold takeS
  cases hw : withS s.E [3] with
  | nil => exact ⟨R, rfl⟩
  | cons q l =>
    simp only
    refine ⟨?_, ft_set _ _ _⟩
    have hq : q ∈ withS s.E [3] := by rw [hw]; simp
    unfold withS at hq
    obtain ⟨hq1, hq2⟩ := List.mem_filter.1 hq
    have hqi : q < s.E.length := List.mem_range.1 hq1
    have hq3 : stE s.E q = 3 := List.mem_singleton.1 (of_decide_eq_true hq2)
    have hs : ∀ k, stE (setSt s.E q 4) k = if k = q then 4 else stE s.E k := fun k => st_set hqi
    have he : ∀ k, entA (setSt s.E q 4) k = entA s.E k := fun k => ent_set hqi
    have hl := setSt_len s.E q 4
    have hf : ∀ k, flyB (stE (setSt s.E q 4) k) = flyB (stE s.E k) := fun k => by
      rw [hs]
      by_cases e : k = q
      · rw [if_pos e, e, hq3]; rfl
      · rw [if_neg e]
    have hr : ∀ i, rdyI s.E i → rdyI (setSt s.E q 4) i := fun i h => rdy_congr (fun k _ z => by rw [hf] at z; exact z) (fun k _ => he k) h
    have hr' : ∀ i, rdyI (setSt s.E q 4) i → rdyI s.E i := fun i h => rdy_congr (fun k _ z => by rw [hf]; exact z) (fun k _ => (he k).symm) h
    have ho : ∀ k z, z ≠ 3 → z ≠ 4 → (stE (setSt s.E q 4) k = z ↔ stE s.E k = z) := fun k z z3 z4 => by
      rw [hs]
      by_cases e : k = q
      · rw [if_pos e, e, hq3]; omega
      · rw [if_neg e]
    refine { nl := by simp only [hl]; exact R.nl, wn := R.wn, a1 := fun i hi => ?_, a2 := fun i hi => ?_, a3 := ?_, a4 := fun i hi h => ?_, a7 := R.a7, a8 := fun i k hk hi h5 k5 k6 => ?_, a9 := R.a9, a10 := fun i hi => ?_, a5 := fun i hi h => ?_, a6 := fun h => ?_ }
    · simp only [hl] at hi ⊢
      rw [R.a1 i hi]
      exact not_congr (ho i 1 (by omega) (by omega)).symm
    · simp only [hl] at hi ⊢
      have := R.a2 i hi
      rw [hs]
      split
      · omega
      · exact this
    · simp only
      rw [R.a3]
      exact (fly_congr (fun k _ => ⟨hf k, he k⟩)).symm
    · simp only [hl] at hi h ⊢
      apply hr
      rw [hs] at h
      by_cases e : i = q
      · rw [e]; exact R.a4 q hqi (.inl hq3)
      · rw [if_neg e] at h; exact R.a4 i hi h
    · simp only [hl] at hi h5 k5 k6 ⊢
      have := R.a8 i k hk hi ((ho i 5 (by omega) (by omega)).1 h5) (fun z => k5 ((ho k 5 (by omega) (by omega)).2 z)) (fun z => k6 ((ho k 6 (by omega) (by omega)).2 z))
      unfold clB at this ⊢
      rw [he, he]; exact this
    · simp only [hl] at hi ⊢
      rw [he]; exact R.a10 i hi
    · simp only [hl] at hi h ⊢
      exact fun z => R.a5 i hi ((ho i 2 (by omega) (by omega)).1 h) (hr' i z)
    · simp only [hl] at h ⊢
      exact R.a6 h
theorem fly_drop {q : Nat} (hqi : q < E.length) (hf : flyB (stE E q) = true) (n : Nat) : flyL (setSt E q 5) n = (flyL E n).filter (fun e => !decide (e.1 = (q : Int))) := by
  induction n with
  | zero => rfl
  | succ n ih =>
    rw [fly_succ, fly_succ, ih, List.filter_append, st_set hqi, ent_set hqi]
    congr 1
    by_cases e : n = q
    · rw [if_pos e, e, if_pos hf]
      simp [flyB, entA]
    · rw [if_neg e]
      split
      · have : ¬ ((n : Int) = (q : Int)) := by omega
        simp [entA, this]
      · rfl
theorem done_sj (R : SR s) {p : Nat} (hp : p < s.E.length) (hp4 : stE s.E p = 4) : SJ { s with E := setSt s.E p 5, t := (relE s.t (p : Int)).1 } := by
  have hfp : flyB (stE s.E p) = true := by rw [hp4]; rfl
  have hpn : p < s.nxt := (R.a1 p hp).2 (by omega)
  have hrp := R.a4 p hp (.inr hp4)
  have hrel : (relE s.t (p : Int)).1 = ⟨s.t.E.filter fun e => !decide (e.1 = (p : Int)), s.t.nx⟩ := by
    have hready := (R.ready hpn hfp).2 hrp
    unfold relE
    cases hg : eget s.t.E (p : Int) with
    | none => unfold readyE at hready; rw [hg] at hready; cases hready
    | some l => simp only; rw [if_pos hready]
  rw [hrel]
  have hs : ∀ k, stE (setSt s.E p 5) k = if k = p then 5 else stE s.E k := fun k => st_set hp
  have he : ∀ k, entA (setSt s.E p 5) k = entA s.E k := fun k => ent_set hp
  have hl := setSt_len s.E p 5
  refine ⟨by simp only [hl]; exact R.nl, R.wn, fun i hi => ?_, fun i hi => ?_, ?_, fun i hi h => ?_, Nat.le_trans (List.length_filter_le _ _) R.a7, fun i k hk hi h5 k5 k6 => ?_, R.a9, fun i hi => ?_⟩
  · simp only [hl] at hi ⊢
    rw [hs, R.a1 i hi]
    by_cases e : i = p
    · rw [if_pos e, e, hp4]; simp
    · rw [if_neg e]
  · simp only [hl] at hi ⊢
    rw [hs]
    split
    · omega
    · exact R.a2 i hi
  · simp only
    rw [R.a3, fly_drop hp hfp]
  · simp only [hl] at hi h ⊢
    rw [hs] at h
    by_cases e : i = p
    · rw [if_pos e] at h; omega
    · rw [if_neg e] at h
      refine rdy_congr (fun k _ z => ?_) (fun k _ => he k) (R.a4 i hi h)
      rw [hs] at z
      by_cases e2 : k = p
      · rw [if_pos e2] at z; cases z
      · rw [if_neg e2] at z; exact z
  · simp only [hl] at hi h5 k5 k6 ⊢
    rw [hs] at h5 k5 k6
    have hkp : k ≠ p := fun z => by rw [if_pos z] at k5; exact k5 rfl
    rw [if_neg hkp] at k5 k6
    have : clB s.E i k = false := by
      by_cases e : i = p
      · subst e
        have hk2 := R.a2 k (by omega)
        have hk1 := (R.a1 k (by omega)).1 (by omega)
        exact hrp k hk (fly_of (by omega))
      · rw [if_neg e] at h5
        exact R.a8 i k hk hi h5 k5 k6
    unfold clB at this ⊢
    rw [he, he]; exact this
  · simp only [hl] at hi ⊢
    rw [he]; exact R.a10 i hi
theorem done_sr (R : SR s) (hl1 : s.E.length ≤ 1000) (q : Int) : SR (doneE s q).1 ∧ (doneE s q).1.E.map ftE = s.E.map ftE := by
  unfold doneE
  by_cases h4 : stS s q ≠ 4
  · rw [if_pos h4]; exact ⟨R, rfl⟩
  rw [if_neg h4]
  have h4 := Classical.not_not.1 h4
  have hqr : 0 ≤ q ∧ q < (s.E.length : Int) := by
    unfold stS at h4
    split at h4
    · cases h4
    · omega
  obtain ⟨p, rfl⟩ := Int.eq_ofNat_of_zero_le hqr.1
  have hp : p < s.E.length := by omega
  have hp4 : stE s.E p = 4 := by
    unfold stS at h4
    rw [if_neg (by omega)] at h4
    exact h4
  have htn : ((p : Nat) : Int).toNat = p := by omega
  rw [htn]
  refine ⟨(lockE_sr (done_sj R hp hp4) (by simp only [setSt_len]; omega)).1, ?_⟩
  rw [ft_lock]
  exact ft_set _ _ _
end
end Go.Proofs.YtgdbckjkeofoaaaGreat

/- Who is full hangs on the log alone. -/
namespace Go.Proofs.YtgdbckjkeofoaaaGreat
open Go.RowKit Go.Proofs.Eng Go.Proofs.Foot Go.Proofs.Locks Go.Proofs.Sched
set_option linter.unusedSimpArgs false
set_option linter.unusedVariables false set_option maxRecDepth 10000
attribute [local irreducible] T TL LV TH TA
def stepC (S : StE) (ks : List Tx) : StE := if (claimE S ks).2 = 5 then S else (claimE S ks).1
def foldC (S0 : StE) (l : List (List Tx)) : StE := l.foldl stepC S0
def wrs (E : List EnE) : List (List Tx) := E.map fun x => x.wr
def codeC (S0 : StE) (W : List (List Tx)) (i : Nat) : Nat := (claimE (foldC S0 (W.take i)) (W.getD i [])).2
structure SC (S0 : StE) (s : SS) : Prop where
  c1 : s.S = foldC S0 ((wrs s.E).take s.nxt)
  c2 : ∀ i, i < s.nxt → i < s.E.length → (stE s.E i = 6 ↔ codeC S0 (wrs s.E) i = 5)
section
variable {S0 : StE} {s : SS} {E E' : List EnE} {i z : Nat}
theorem wrs_ft (h : E'.map ftE = E.map ftE) : wrs E' = wrs E := by
  unfold wrs
  have := congrArg (List.map Prod.snd) h
  simpa [List.map_map, Function.comp_def, ftE] using this
theorem take_snoc {α : Type} (l : List α) (i : Nat) (d : α) (h : i < l.length) : l.take (i + 1) = l.take i ++ [l.getD i d] := by
  rw [List.take_succ_eq_append_getElem h, List.getD_eq_getElem?_getD, List.getElem?_eq_getElem h]
  rfl
theorem SC.setE (C : SC S0 s) (hl : E'.length = s.E.length) (hf : E'.map ftE = s.E.map ftE) (h6 : ∀ k, k < s.E.length → (stE E' k = 6 ↔ stE s.E k = 6)) : SC S0 { s with E := E' } := by
  refine ⟨by simp only; rw [wrs_ft hf]; exact C.c1, fun i hi hl2 => ?_⟩
  simp only at hi hl2 ⊢
  rw [hl] at hl2
  rw [wrs_ft hf, h6 i hl2]
  exact C.c2 i hi hl2
theorem SC.start (n : Nat) (S0 : StE) : SC S0 (newSS n S0) := ⟨rfl, fun i h => by simp [newSS] at h⟩
end
end Go.Proofs.YtgdbckjkeofoaaaGreat

/- Clash by locks (lines of FLaw3 and FW19, without what the codec wants). -/
namespace Go.Proofs.YtgdbckjkeofoaaaGreat
open Go.Proofs.Eng Go.Proofs.Foot
set_option linter.unusedSimpArgs false
set_option linter.unusedVariables false
theorem bits_mem {r k : List Tx} {p : Tx × Nat} (h : p ∈ ofM r k) : bitsM (ofM r k) p.1 = p.2 := by
  unfold bitsM; rw [mget_mem (of_nodup r k) h]; rfl
theorem bits2 (r k : List Tx) (t : Tx) : (bitsM (ofM r k) t &&& 2 ≠ 0) ↔ t ∈ k := by
  rw [bits_of]; by_cases h : t ∈ r <;> by_cases g : t ∈ k <;> simp [h, g]
theorem bits0 (r k : List Tx) (t : Tx) : (bitsM (ofM r k) t ≠ 0) ↔ (t ∈ r ∨ t ∈ k) := by
  rw [bits_of]; by_cases h : t ∈ r <;> by_cases g : t ∈ k <;> simp [h, g]
theorem clash_iff (y : TM) (t : Tx) (u : Nat) : clash1 y (t, u) = true ↔ (bitsM y t ≠ 0 ∧ (u &&& 2 ≠ 0 ∨ bitsM y t &&& 2 ≠ 0)) := by
  unfold clash1
  have e : (u ||| bitsM y t) &&& 2 = (u &&& 2) ||| (bitsM y t &&& 2) := Nat.and_or_distrib_right ..
  rw [e]
  by_cases h : bitsM y t = 0 <;> by_cases g : u &&& 2 = 0 <;> by_cases i : bitsM y t &&& 2 = 0 <;> simp [h, g, i, Nat.or_eq_zero_iff]
theorem clash_prop (r k r2 k2 : List Tx) : (ofM r k).any (clash1 (ofM r2 k2)) = true ↔ ∃ t, (t ∈ r ∨ t ∈ k) ∧ (t ∈ r2 ∨ t ∈ k2) ∧ (t ∈ k ∨ t ∈ k2) := by
  rw [List.any_eq_true]
  constructor
  · rintro ⟨⟨t, u⟩, hp, hc⟩
    rw [clash_iff, bits0, bits2] at hc
    have hu := bits_mem hp
    simp only at hu
    refine ⟨t, (of_keys_mem r k t).1 (List.mem_map_of_mem hp), hc.1, hc.2.imp (fun h => ?_) id⟩
    rw [← hu, bits2] at h
    exact h
  · rintro ⟨t, h1, h2, h3⟩
    obtain ⟨p, hp, rfl⟩ := List.mem_map.1 ((of_keys_mem r k t).2 h1)
    refine ⟨p, hp, ?_⟩
    have : clash1 (ofM r2 k2) (p.1, p.2) = true := by
      rw [clash_iff, bits0, bits2, ← bits_mem hp, bits2]
      exact ⟨h2, h3⟩
    exact this
theorem clash_eq (r k r2 k2 : List Tx) : (ofM r k).any (clash1 (ofM r2 k2)) = ((k.any fun x => decide (x ∈ r2 ++ k2)) || (k2.any fun x => decide (x ∈ r ++ k))) := by
  rw [Bool.eq_iff_iff, clash_prop]
  simp only [Bool.or_eq_true, List.any_eq_true, decide_eq_true_eq, List.mem_append]
  constructor
  · rintro ⟨t, h1, h2, h3⟩
    rcases h3 with h | h
    · exact .inl ⟨t, h, h2⟩
    · exact .inr ⟨t, h, h1⟩
  · rintro (⟨t, h, h2⟩ | ⟨t, h, h1⟩)
    · exact ⟨t, .inr h, h2, .inl h⟩
    · exact ⟨t, h1, .inr h, .inr h⟩
theorem locks_eq (r k : List Tx) : locksM (ofM r k) = (setT (r ++ k)).map fun t => (t, decide (t ∈ k)) := by
  unfold locksM
  rw [keys3]
  apply List.map_congr_left
  intro t _
  rw [bits_of]
  by_cases h : t ∈ r <;> by_cases g : t ∈ k <;> simp [h, g]
def meetL (la lb : List (Tx × Bool)) : Bool := la.any fun x => lb.any fun y => decide (x.1 = y.1) && (x.2 || y.2)
theorem mem_locks (r k : List Tx) (x : Tx × Bool) : x ∈ locksM (ofM r k) ↔ (x.1 ∈ r ∨ x.1 ∈ k) ∧ x.2 = decide (x.1 ∈ k) := by
  rw [locks_eq, List.mem_map]
  constructor
  · rintro ⟨t, ht, rfl⟩
    rw [set_mem, List.mem_append] at ht
    exact ⟨ht, rfl⟩
  · rintro ⟨h, g⟩
    exact ⟨x.1, by rw [set_mem, List.mem_append]; exact h, by rw [← g]⟩
theorem meet_eq (r k r2 k2 : List Tx) : meetL (locksM (ofM r k)) (locksM (ofM r2 k2)) = (ofM r k).any (clash1 (ofM r2 k2)) := by
  rw [Bool.eq_iff_iff, clash_prop]
  unfold meetL
  simp only [List.any_eq_true, Bool.and_eq_true, decide_eq_true_eq, Bool.or_eq_true]
  constructor
  · rintro ⟨x, hx, y, hy, e, b⟩
    rw [mem_locks] at hx hy
    refine ⟨x.1, hx.1, e ▸ hy.1, ?_⟩
    rw [hx.2, hy.2, decide_eq_true_eq, decide_eq_true_eq, ← e] at b
    exact b
  · rintro ⟨t, a, b, c⟩
    refine ⟨(t, decide (t ∈ k)), (mem_locks _ _ _).2 ⟨a, rfl⟩, (t, decide (t ∈ k2)), (mem_locks _ _ _).2 ⟨b, rfl⟩, rfl, ?_⟩
    simpa using c
end Go.Proofs.YtgdbckjkeofoaaaGreat

/- The document's scheduler is the program's. -/
namespace Go.Proofs.YtgdbckjkeofoaaaGreat
open Go.RowKit Go.Proofs.Eng Go.Proofs.Foot Go.Proofs.Locks Go.Proofs.Sched
set_option linter.unusedSimpArgs false
set_option linter.unusedVariables false set_option maxRecDepth 10000
attribute [local irreducible] T TL LV TH TA
def rdyB (E : List EnE) (i : Nat) : Bool := (List.range i).all fun k => !(flyB (stE E k) && clB E i k)
theorem rdyB_iff {E : List EnE} {i : Nat} : rdyB E i = true ↔ rdyI E i := by
  unfold rdyB rdyI
  rw [List.all_eq_true]
  constructor
  · intro h k hk hf
    have := h k (List.mem_range.2 hk)
    rw [hf] at this
    simpa using this
  · intro h k hk
    cases hf : flyB (stE E k) with
    | false => rfl
    | true => simp [h k (List.mem_range.1 hk) hf]
instance (E : List EnE) (i : Nat) : Decidable (rdyI E i) := decidable_of_iff _ rdyB_iff
def setK (E : List EnE) : Nat → List EnE
  | 0 => E
  | i + 1 => if stE (setK E i) i = 2 ∧ rdyB (setK E i) i = true then setSt (setK E i) i 3 else setK E i
def settleD (E : List EnE) : List EnE := setK E E.length
theorem st_out {E : List EnE} {k : Nat} (h : E.length ≤ k) : stE E k = 0 := by
  unfold stE
  rw [List.getD_eq_getElem?_getD, List.getElem?_eq_none h]
  rfl
theorem setK_spec (E : List EnE) : ∀ i, (setK E i).length = E.length ∧ (setK E i).map ftE = E.map ftE ∧ (∀ k, entA (setK E i) k = entA E k) ∧ ∀ k, stE (setK E i) k = if k < i ∧ stE E k = 2 ∧ rdyI E k then 3 else stE E k
  | 0 => ⟨rfl, rfl, fun _ => rfl, fun k => by rw [if_neg (fun q => by omega)]; rfl⟩
  | i + 1 => by
    obtain ⟨h1, h2, h3, h4⟩ := setK_spec E i
    have hf : ∀ k, flyB (stE (setK E i) k) = flyB (stE E k) := fun k => by
      rw [h4]
      by_cases e : k < i ∧ stE E k = 2 ∧ rdyI E k
      · rw [if_pos e, e.2.1]; rfl
      · rw [if_neg e]
    have hr : rdyB (setK E i) i = true ↔ rdyI E i := by
      rw [rdyB_iff]
      exact ⟨rdy_congr (fun k _ q => by rw [hf]; exact q) (fun k _ => (h3 k).symm), rdy_congr (fun k _ q => by rw [hf] at q; exact q) (fun k _ => h3 k)⟩
    have hi : stE (setK E i) i = stE E i := by rw [h4, if_neg (fun q => by omega)]
    unfold setK
    by_cases e : stE (setK E i) i = 2 ∧ rdyB (setK E i) i = true
    · rw [if_pos e]
      have hlt : i < (setK E i).length := by
        rcases Nat.lt_or_ge i (setK E i).length with q | q
        · exact q
        · have := st_out q; omega
      refine ⟨by rw [setSt_len]; exact h1, by rw [ft_set]; exact h2, fun k => by rw [ent_set hlt]; exact h3 k, fun k => ?_⟩
      rw [st_set hlt, h4]
      by_cases ek : k = i
      · subst ek
        rw [if_pos rfl, if_pos ⟨Nat.lt_succ_self _, by rw [← hi]; exact e.1, hr.1 e.2⟩]
      · rw [if_neg ek]
        by_cases e2 : k < i ∧ stE E k = 2 ∧ rdyI E k
        · rw [if_pos e2, if_pos ⟨by omega, e2.2⟩]
        · rw [if_neg e2, if_neg (fun q => e2 ⟨by omega, q.2⟩)]
    · rw [if_neg e]
      refine ⟨h1, h2, h3, fun k => ?_⟩
      rw [h4]
      by_cases e2 : k < i ∧ stE E k = 2 ∧ rdyI E k
      · rw [if_pos e2, if_pos ⟨by omega, e2.2⟩]
      · rw [if_neg e2, if_neg (fun q => by
          by_cases ek : k = i
          · subst ek; exact e ⟨by rw [hi]; exact q.2.1, hr.2 q.2.2⟩
          · exact e2 ⟨by omega, q.2⟩)]
theorem settle_spec (E : List EnE) : (settleD E).length = E.length ∧ (settleD E).map ftE = E.map ftE ∧ (∀ k, entA (settleD E) k = entA E k) ∧ ∀ k, stE (settleD E) k = if stE E k = 2 ∧ rdyI E k then 3 else stE E k := by
  obtain ⟨h1, h2, h3, h4⟩ := setK_spec E E.length
  refine ⟨h1, h2, h3, fun k => ?_⟩
  unfold settleD
  rw [h4]
  by_cases e : stE E k = 2 ∧ rdyI E k
  · have : k < E.length := by
      rcases Nat.lt_or_ge k E.length with q | q
      · exact q
      · have := st_out q; omega
    rw [if_pos e, if_pos ⟨this, e⟩]
  · rw [if_neg e, if_neg (fun q => e q.2)]
theorem ext_E {D E : List EnE} (hl : D.length = E.length) (hf : D.map ftE = E.map ftE) (hs : ∀ k, k < E.length → stE D k = stE E k) : D = E := by
  apply List.ext_getElem hl
  intro k h1 h2
  have a := congrArg (fun l => l[k]?) hf
  simp only [List.getElem?_map] at a
  rw [List.getElem?_eq_getElem h1, List.getElem?_eq_getElem h2] at a
  have b := hs k h2
  unfold stE at b
  rw [List.getD_eq_getElem?_getD, List.getD_eq_getElem?_getD, List.getElem?_eq_getElem h1, List.getElem?_eq_getElem h2] at b
  simp only [Option.map_some, Option.some.injEq, Option.getD_some, ftE, Prod.mk.injEq] at a b
  cases hx : D[k]
  cases hy : E[k]
  rw [hx, hy] at a b
  simp only at a b
  rw [a.1, a.2, b]
/-- In part settled already. -/
structure PS (D E : List EnE) : Prop where
  ln : D.length = E.length
  ft : D.map ftE = E.map ftE
  st : ∀ k, stE D k = stE E k ∨ (stE E k = 2 ∧ stE D k = 3 ∧ rdyI E k)
section
variable {D E : List EnE} {i z : Nat}
theorem PS.refl (E : List EnE) : PS E E := ⟨rfl, rfl, fun _ => .inl rfl⟩
theorem PS.fly (h : PS D E) (k : Nat) : flyB (stE D k) = flyB (stE E k) := by
  rcases h.st k with q | ⟨q1, q2, -⟩
  · rw [q]
  · rw [q1, q2]; rfl
theorem ent_ft (hl : D.length = E.length) (hf : D.map ftE = E.map ftE) (k : Nat) : entA D k = entA E k := by
  unfold entA
  have key : (D.getD k en0).rd = (E.getD k en0).rd ∧ (D.getD k en0).wr = (E.getD k en0).wr := by
    rw [List.getD_eq_getElem?_getD, List.getD_eq_getElem?_getD]
    rcases Nat.lt_or_ge k E.length with q | q
    · have a := congrArg (fun l => l[k]?) hf
      simp only [List.getElem?_map] at a
      rw [List.getElem?_eq_getElem q, List.getElem?_eq_getElem (by omega : k < D.length)] at a ⊢
      simpa [ftE] using a
    · rw [List.getElem?_eq_none q, List.getElem?_eq_none (by omega)]
      exact ⟨rfl, rfl⟩
  rw [key.1, key.2]
theorem PS.ent (h : PS D E) (k : Nat) : entA D k = entA E k := ent_ft h.ln h.ft k
theorem PS.rdy (h : PS D E) (i : Nat) : rdyI D i ↔ rdyI E i :=
  ⟨rdy_congr (fun k _ q => by rw [h.fly]; exact q) (fun k _ => (h.ent k).symm), rdy_congr (fun k _ q => by rw [h.fly] at q; exact q) (fun k _ => h.ent k)⟩
theorem PS.settle (h : PS D E) : PS (settleD D) E := by
  obtain ⟨h1, h2, h3, h4⟩ := settle_spec D
  refine ⟨h1.trans h.ln, h2.trans h.ft, fun k => ?_⟩
  rw [h4]
  by_cases e : stE D k = 2 ∧ rdyI D k
  · rw [if_pos e]
    rcases h.st k with q | ⟨q1, q2, -⟩
    · exact .inr ⟨by rw [← q]; exact e.1, rfl, (h.rdy k).1 e.2⟩
    · omega
  · rw [if_neg e]; exact h.st k
theorem PS.set (h : PS D E) (hi : i < E.length) (hk : ∀ k, stE E k = 2 → k < i) : PS (setSt D i z) (setSt E i z) := by
  refine ⟨by rw [setSt_len, setSt_len]; exact h.ln, by rw [ft_set, ft_set]; exact h.ft, fun k => ?_⟩
  rw [st_set (by rw [h.ln]; exact hi), st_set hi]
  by_cases e : k = i
  · rw [if_pos e, if_pos e]; exact .inl rfl
  · rw [if_neg e, if_neg e]
    rcases h.st k with q | ⟨q1, q2, q3⟩
    · exact .inl q
    · refine .inr ⟨q1, q2, ?_⟩
      have := hk k q1
      exact rdy_congr (fun j hj q => by rw [st_set hi, if_neg (by omega)] at q; exact q) (fun j _ => ent_set hi) q3
end
section
variable {s : SS}
theorem lockE_st (J : SJ s) (hl : s.E.length ≤ 1000) (k : Nat) : stE (lockE s).E k = if stE (lockU s).E k = 2 ∧ rdyI (lockU s).E k then 3 else stE (lockU s).E k := by
  obtain ⟨J1, l1, -⟩ := lockL_sj (s.E.length - s.nxt) s J hl (Nat.le_refl _)
  change SJ (lockU s) at J1
  unfold lockE
  generalize lockU s = u at J1 l1
  have hmem : ∀ q : Int, q ∈ readiesE u.t ↔ ∃ k, k < u.nxt ∧ flyB (stE u.E k) = true ∧ q = (k : Int) ∧ rdyI u.E k := fun q => by
    unfold readiesE allE
    rw [List.mem_filter, List.mem_map]
    constructor
    · rintro ⟨⟨e, he, rfl⟩, hr⟩
      rw [J1.a3] at he
      obtain ⟨k, h1, h2, rfl⟩ := mem_fly.1 he
      exact ⟨k, h1, h2, rfl, (J1.ready h1 h2).1 hr⟩
    · rintro ⟨k, h1, h2, rfl, hr⟩
      exact ⟨⟨entA u.E k, by rw [J1.a3]; exact mem_fly.2 ⟨k, h1, h2, rfl⟩, rfl⟩, (J1.ready h1 h2).2 hr⟩
  have hrg : ∀ q ∈ readiesE u.t, 0 ≤ q ∧ q < (u.E.length : Int) := fun q hq => by
    obtain ⟨k, h1, _, rfl, _⟩ := (hmem q).1 hq
    have := J1.nl
    omega
  show stE ((readiesE u.t).foldl rdyS u.E) k = _
  rw [(rdys_st (readiesE u.t) u.E hrg k).2]
  by_cases e : stE u.E k = 2
  · have hk : k < u.E.length := by
      rcases Nat.lt_or_ge k u.E.length with q | q
      · exact q
      · have := st_out q; omega
    have hn := (J1.a1 k hk).2 (by omega)
    have hiff : (k : Int) ∈ readiesE u.t ↔ rdyI u.E k := by
      rw [hmem]
      constructor
      · rintro ⟨j, h1, h2, h3, h4⟩
        have : j = k := by omega
        rw [← this]; exact h4
      · intro h
        exact ⟨k, hn, fly_of (by omega), rfl, h⟩
    by_cases e2 : rdyI u.E k
    · rw [if_pos ⟨e, hiff.2 e2⟩, if_pos ⟨e, e2⟩]
    · rw [if_neg (fun q => e2 (hiff.1 q.2)), if_neg (fun q => e2 q.2)]
  · rw [if_neg (fun q => e q.1), if_neg (fun q => e q.1)]
theorem settle_eq (J : SJ s) (hl : s.E.length ≤ 1000) {D : List EnE} (h : PS D (lockU s).E) : settleD D = (lockE s).E := by
  obtain ⟨-, l1, -⟩ := lockL_sj (s.E.length - s.nxt) s J hl (Nat.le_refl _)
  change (lockU s).E.length = _ at l1
  obtain ⟨h1, h2, h3, h4⟩ := settle_spec D
  have hle := (lockE_sr J hl).2
  refine ext_E (by rw [h1, h.ln, l1, hle]) (by rw [h2, h.ft, ft_lock]; exact ft_lockL _ _) (fun k _ => ?_)
  rw [h4, lockE_st J hl]
  by_cases e : stE (lockU s).E k = 2 ∧ rdyI (lockU s).E k
  · rw [if_pos e]
    rcases h.st k with q | ⟨q1, q2, -⟩
    · rw [if_pos ⟨q.trans e.1, (h.rdy k).2 e.2⟩]
    · rw [if_neg (fun q => by omega)]; exact q2
  · rw [if_neg e]
    rcases h.st k with q | ⟨q1, q2, q3⟩
    · rw [if_neg (fun z => e ⟨q ▸ z.1, (h.rdy k).1 z.2⟩)]; exact q
    · exact absurd ⟨q1, q3⟩ e
/-- All that fly are in the table. -/
theorem fly_all (J : SJ s) : flyL s.E s.E.length = s.t.E := by
  rw [J.a3]
  have h1 := J.nl
  have : ∀ d, s.nxt + d ≤ s.E.length → flyL s.E (s.nxt + d) = flyL s.E s.nxt := fun d => by
    induction d with
    | zero => intro _; rfl
    | succ d ih =>
      intro hd
      rw [show s.nxt + (d + 1) = (s.nxt + d) + 1 by omega, fly_succ, ih (by omega)]
      have hst : stE s.E (s.nxt + d) = 1 := Classical.byContradiction fun q => by
        have := (J.a1 (s.nxt + d) (by omega)).2 q
        omega
      rw [hst]
      simp [flyB]
  have := this (s.E.length - s.nxt) (by omega)
  rwa [show s.nxt + (s.E.length - s.nxt) = s.E.length by omega] at this
theorem PS.flyL {D E : List EnE} (h : PS D E) (n : Nat) : Go.Proofs.YtgdbckjkeofoaaaGreat.flyL D n = Go.Proofs.YtgdbckjkeofoaaaGreat.flyL E n := fly_congr fun k _ => ⟨h.fly k, h.ent k⟩
end
/-- Footprints in their normal form. -/
def NF (E : List EnE) : Prop := ∀ k, k < E.length → normF (E.getD k en0).rd (E.getD k en0).wr = (((E.getD k en0).rd, (E.getD k en0).wr), 0)
theorem NF_ft {D E : List EnE} (hl : D.length = E.length) (hf : D.map ftE = E.map ftE) (h : NF E) : NF D := fun k hk => by
  have key : (D.getD k en0).rd = (E.getD k en0).rd ∧ (D.getD k en0).wr = (E.getD k en0).wr := by
    rw [List.getD_eq_getElem?_getD, List.getD_eq_getElem?_getD]
    have a := congrArg (fun l => l[k]?) hf
    simp only [List.getElem?_map] at a
    rw [List.getElem?_eq_getElem hk, List.getElem?_eq_getElem (by omega : k < E.length)] at a ⊢
    simpa [ftE] using a
  rw [key.1, key.2]
  exact h k (by omega)
theorem norm_keys {r k : List Tx} (h : normF r k = ((r, k), 0)) : r.all validT = true ∧ k.all validT = true ∧ keysM (ofM r k) 1 = r ∧ keysM (ofM r k) 2 = k := by
  unfold normF at h
  split at h
  · rename_i q
    split at h
    · simp at h
    · simp only [Prod.mk.injEq, and_true] at h
      simp only [Bool.and_eq_true] at q
      exact ⟨q.1, q.2, h.1, h.2⟩
  · simp at h
theorem claim_05 {S : StE} {r k : List Tx} (h : normF r k = ((r, k), 0)) : (claimE S k).2 = 0 ∨ (claimE S k).2 = 5 := by
  obtain ⟨-, h1, -, h2⟩ := norm_keys h
  have hv : k.any (fun k => !validT k) = false := by
    rw [List.any_eq_false]
    intro x hx
    simp [List.all_eq_true.1 h1 x hx]
  have hr : riseB k = true := by
    refine rise_yes fun j hj => ?_
    have hp : (keysM (ofM r k) 2).Pairwise (· < ·) := keys_rises 2 (of_nodup r k)
    rw [h2] at hp
    rw [List.pairwise_iff_getElem] at hp
    rw [List.getD_eq_getElem?_getD, List.getD_eq_getElem?_getD, List.getElem?_eq_getElem (by omega), List.getElem?_eq_getElem hj]
    exact hp j (j + 1) (by omega) hj (by omega)
  unfold claimE
  rw [if_neg (by rw [hv]; simp), if_neg (by rw [hr]; simp)]
  split
  · exact .inr rfl
  · exact .inl rfl
end Go.Proofs.YtgdbckjkeofoaaaGreat

namespace Go.Proofs.YtgdbckjkeofoaaaGreat
open Go.RowKit Go.Proofs.Eng Go.Proofs.Foot Go.Proofs.Locks Go.Proofs.Sched
set_option linter.unusedSimpArgs false
set_option linter.unusedVariables false set_option maxRecDepth 10000
attribute [local irreducible] T TL LV TH TA
set_option maxHeartbeats 3200000
theorem tw_take : ∀ {l : List Tx} {k : Tx} {p : Nat}, p ≤ l.length → (∀ j, j < p → l.getD j [] < k) → (p < l.length → ¬ l.getD p [] < k) → l.takeWhile (fun x => decide (x < k)) = l.take p ∧ l.dropWhile (fun x => decide (x < k)) = l.drop p
  | [], k, p, hp, _, _ => by simp
  | y :: l, k, 0, hp, _, h2 => by
    have := h2 (by simp)
    have hy : ¬ y < k := this
    rw [List.takeWhile_cons_of_neg (by simpa using hy), List.dropWhile_cons_of_neg (by simpa using hy)]
    exact ⟨rfl, rfl⟩
  | y :: l, k, p + 1, hp, h1, h2 => by
    have hy : y < k := h1 0 (by omega)
    obtain ⟨a, b⟩ := tw_take (l := l) (k := k) (p := p) (by simpa using hp) (fun j hj => h1 (j + 1) (by omega)) (fun q => h2 (by simp only [List.length_cons]; omega))
    rw [List.takeWhile_cons_of_pos (by simpa using hy), List.dropWhile_cons_of_pos (by simpa using hy), a, b]
    exact ⟨rfl, rfl⟩
theorem rise_get {l : List Tx} (h : l.Pairwise (· < ·)) {i j : Nat} (hi : i < j) (hj : j < l.length) : l.getD i [] < l.getD j [] := by
  rw [List.getD_eq_getElem?_getD, List.getD_eq_getElem?_getD, List.getElem?_eq_getElem (by omega), List.getElem?_eq_getElem hj]
  rw [List.pairwise_iff_getElem] at h
  exact h i j (by omega) hj hi
/-- The place of a key. -/
theorem at2_c15 (b : Nat) (a r : Int) (x : SL) (l : List Tx) (k : Tx) (w : World) (hs : l.Pairwise (· < ·)) (hb : Blk w b 89 [.int .i64 a, .int .i64 r, sL x]) (hr : Rd w x.1 x.2.1 4 (rowV itV l)) (hn : x.2.1 ≤ 1000000) :
    Ret Tryz.prog 64 [pB b, .string (ofL k)] w (fun v w' => ∃ (p : Nat), v = .tuple #[.int .i64 (p : Int), .bool (decide (k ∈ l))] ∧ p ≤ x.2.1 ∧ (∀ j, j < p → l.getD j [] < k) ∧ (p < x.2.1 → ¬ l.getD p [] < k) ∧ Ext w w') := by
  have hl : l.length = x.2.1 := by have := hr.1; rw [rowV_len itV_len] at this; omega
  have hbD : b ∉ ([] : List Nat) := by simp
  have hxD : Off x.1 ([] : List Nat) := .nil _
  refine ret_T (n := 54) Tryz.func64 rfl rfl ?_
  repeat (first | refine T_seq ?_ | refine T_region ?_ | refine TL_nil ?_ | refine TL_assign (hk := ?_))
  refine T_region_any TE.mixed ([] : List Nat) ?_; intro w1 e1 z1
  have hb1 := hb.be e1
  (refine TA_take 0 rfl (by kernel_rfl) (by kernel_rfl) (by kernel_rfl) ?_; (repeat (first | refine TL_move (hk := ?_) | refine TL_assign (hk := ?_) | refine TLP_load TE (hk := ?_) | refine TL_fieldAddr TE (hk := ?_) | refine TL_len TE (hk := ?_) | refine TL_nilCheck (hk := ?_))); refine TL_nil_p ?_); (refine TA_take 1 rfl (by kernel_rfl) (by kernel_rfl) (by kernel_rfl) ?_; (repeat (first | refine TL_move (hk := ?_) | refine TL_assign (hk := ?_) | refine TLP_load TE (hk := ?_) | refine TL_fieldAddr TE (hk := ?_) | refine TL_len TE (hk := ?_) | refine TL_nilCheck (hk := ?_))); refine TL_nil_p ?_); (refine TA_take 2 rfl (by kernel_rfl) (by kernel_rfl) (by kernel_rfl) ?_; (repeat (first | refine TL_move (hk := ?_) | refine TL_assign (hk := ?_) | refine TLP_load TE (hk := ?_) | refine TL_fieldAddr TE (hk := ?_) | refine TL_len TE (hk := ?_) | refine TL_nilCheck (hk := ?_))); refine TL_nil_p ?_); (refine TA_take 3 rfl (by kernel_rfl) (by kernel_rfl) (by kernel_rfl) ?_; (repeat (first | refine TL_move (hk := ?_) | refine TL_assign (hk := ?_) | refine TLP_load TE (hk := ?_) | refine TL_fieldAddr TE (hk := ?_) | refine TL_len TE (hk := ?_) | refine TL_nilCheck (hk := ?_))); refine TL_nil_p ?_); (refine TA_take 4 rfl (by kernel_rfl) (by kernel_rfl) (by kernel_rfl) ?_; (repeat (first | refine TL_move (hk := ?_) | refine TL_assign (hk := ?_) | refine TLP_load TE (hk := ?_) | refine TL_fieldAddr TE (hk := ?_) | refine TL_len TE (hk := ?_) | refine TL_nilCheck (hk := ?_))); refine TL_nil_p ?_); (refine TA_take 5 rfl (by kernel_rfl) (by kernel_rfl) (by kernel_rfl) ?_; (repeat (first | refine TL_move (hk := ?_) | refine TL_assign (hk := ?_) | refine TLP_load TE (hk := ?_) | refine TL_fieldAddr TE (hk := ?_) | refine TL_len TE (hk := ?_) | refine TL_nilCheck (hk := ?_))); refine TL_nil_p ?_)
  (refine TA_one 6 rfl (by kernel_rfl) (by kernel_rfl) ?_; (repeat (refine TL_assign (hk := ?_))); refine TL_nil_p ?_)
  refine TA_done (by kernel_rfl) ?_
  repeat (first | refine T_seq ?_ | refine T_block ?_)
  refine T_loop (ι := Nat × Nat) (fun i => [(6, .int .i64 (i.1 : Int)), (7, .int .i64 (i.2 : Int)), (0, pB b), (1, .string (ofL k))]) (fun i w' => Ext w w' ∧ i.1 ≤ i.2 ∧ i.2 ≤ x.2.1 ∧ (∀ j, j < i.1 → l.getD j [] < k) ∧ ∀ j, i.2 ≤ j → j < x.2.1 → ¬ l.getD j [] < k) (fun i => i.2 - i.1) (0, x.2.1) (.c rfl (.c rfl (.c rfl (.c rfl (.n))))) ⟨e1, Nat.zero_le _, Nat.le_refl _, fun j hj => absurd hj (by simp), fun j h1 h2 => by simp only at h1; omega⟩ ?_
  rintro ⟨lo, hi⟩ w2 ⟨e2, h1, h2, g1, g2⟩ ih
  simp only at h1 h2 ih g1 g2 ⊢
  have hb2 := hb.be e2
  have hr2 := hr.be e2
  clear hb1
  by_cases hlt : lo < hi
  · have hA : x.1 ≠ none := by obtain ⟨_, _, hq, _⟩ := hr2.2 (by omega); rw [hq]; simp
    have hmc : ((lo : Int) + (hi : Int)) / 2 = (((lo + hi) / 2 : Nat) : Int) := by omega
    obtain ⟨mid, hmid⟩ : ∃ mid, (lo + hi) / 2 = mid := ⟨_, rfl⟩
    rw [hmid] at hmc
    have hm1 : lo ≤ mid ∧ mid < hi := by omega
    have hv : (rowV itV l)[mid * 4 + 0]? = some (.string (ofL (l.getD mid []))) := rowV_at itV_len l mid 0 [] (by omega) (by omega)
    have hlow : ∀ j, j < mid → l.getD j [] < l.getD mid [] := fun j hj => rise_get hs hj (by omega)
    have hup : ∀ j, mid < j → j < x.2.1 → l.getD mid [] < l.getD j [] := fun j hj hj2 => rise_get hs hj (by omega)
    obtain ⟨y, hy⟩ : ∃ y, l.getD mid [] = y := ⟨_, rfl⟩
    rw [hy] at hv hlow hup
    by_cases hc : y < k
    · repeat (first | refine T_seq ?_ | refine T_region ?_ | refine T_cond_true rfl ?_ | refine T_block ?_ | refine T_skip ?_ | refine TL_add (hk := ?_) | refine TL_quo (hk := ?_) | refine TL_lt_t (hk := ?_) | refine TL_nil ?_ | refine TL_move (hk := ?_) | refine TL_assign (hk := ?_) | refine TL_load TE (hk := ?_) | refine TL_fieldAddr TE (hk := ?_) | refine TL_fieldAddr_e TE (hk := ?_) | refine TL_indexAddr TE (hk := ?_) | refine TL_nilCheck (hk := ?_))
      rw [hmc]
      repeat (first | refine T_region ?_ | refine T_cond_true rfl ?_ | refine T_inBlock ?_ | refine TL_add (hk := ?_) | refine TL_slt_t (hk := ?_) | refine TL_nil ?_ | refine TL_move (hk := ?_) | refine TL_assign (hk := ?_) | refine TL_load_rd TE (hk := ?_))
      exact ih (mid + 1, hi) _ _ (by simp only; omega) ⟨e2, by simp only; omega, h2, fun j hj => by
        by_cases q : j = mid
        · rw [q, hy]; exact hc
        · exact List.lt_trans (hlow j (by simp only at hj; omega)) hc, g2⟩ (.c rfl (.c rfl (.c rfl (.c rfl (.n)))))
    · repeat (first | refine T_seq ?_ | refine T_region ?_ | refine T_cond_true rfl ?_ | refine T_block ?_ | refine T_skip ?_ | refine TL_add (hk := ?_) | refine TL_quo (hk := ?_) | refine TL_lt_t (hk := ?_) | refine TL_nil ?_ | refine TL_move (hk := ?_) | refine TL_assign (hk := ?_) | refine TL_load TE (hk := ?_) | refine TL_fieldAddr TE (hk := ?_) | refine TL_fieldAddr_e TE (hk := ?_) | refine TL_indexAddr TE (hk := ?_) | refine TL_nilCheck (hk := ?_))
      rw [hmc]
      repeat (first | refine T_region ?_ | refine T_cond_false rfl ?_ | refine T_inBlock ?_ | refine TL_slt_f (hk := ?_) | refine TL_nil ?_ | refine TL_move (hk := ?_) | refine TL_assign (hk := ?_) | refine TL_load_rd TE (hk := ?_))
      exact ih (lo, mid) _ _ (by simp only; omega) ⟨e2, by simp only; omega, by simp only; omega, g1, fun j hj hj2 => by
        by_cases q : j = mid
        · rw [q, hy]; exact hc
        · exact fun z => hc (List.lt_trans (hup j (by simp only at hj; omega) hj2) z)⟩ (.c rfl (.c rfl (.c rfl (.c rfl (.n)))))
  · clear ih
    have he : lo = hi := by omega
    subst he
    by_cases hln : lo < x.2.1
    · have hA : x.1 ≠ none := by obtain ⟨_, _, hq, _⟩ := hr2.2 (by omega); rw [hq]; simp
      have hv : (rowV itV l)[lo * 4 + 0]? = some (.string (ofL (l.getD lo []))) := rowV_at itV_len l lo 0 [] (by omega) (by omega)
      have hmem : l.getD lo [] ∈ l := txs_mem (by omega)
      have hin : k ∈ l ↔ l.getD lo [] = k := by
        constructor
        · intro hk
          obtain ⟨j, hj, rfl⟩ := List.mem_iff_getElem.1 hk
          have hg : l.getD j [] = l[j] := by rw [List.getD_eq_getElem?_getD, List.getElem?_eq_getElem hj]; rfl
          rcases Nat.lt_trichotomy j lo with q | q | q
          · have := g1 j q; rw [hg] at this; exact absurd this (List.lt_irrefl _)
          · rw [← q]; exact hg
          · exfalso
            have := rise_get hs q hj
            rw [hg] at this
            exact g2 lo (Nat.le_refl _) hln this
        · intro e; rw [← e]; exact hmem
      obtain ⟨y, hy⟩ : ∃ y, l.getD lo [] = y := ⟨_, rfl⟩
      rw [hy] at hv hin
      by_cases hc : y = k
      · have hc' : ofL y = ofL k := by rw [hc]
        rw [decide_eq_true (hin.2 hc)]
        repeat (first | refine T_seq ?_ | refine T_region ?_ | refine T_cond_false rfl ?_ | refine T_exit rfl ?_ | refine TL_lt_f (hk := ?_) | refine TL_nil ?_ | refine TL_move (hk := ?_))
        refine T_region_any TE.mixed ([] : List Nat) ?_; intro w3 e3 z3
        have hb3 := hb2.be e3
        have hr3 := hr2.be e3
        (refine TA_take 0 rfl (by kernel_rfl) (by kernel_rfl) (by kernel_rfl) ?_; (repeat (first | refine TL_lt_t (hk := ?_) | refine TL_seq_t (hk := ?_) | refine TL_move (hk := ?_) | refine TL_assign (hk := ?_) | refine TLP_load TE (hk := ?_) | refine TLP_load_rd TE (hk := ?_) | refine TL_fieldAddr TE (hk := ?_) | refine TL_fieldAddr_e TE (hk := ?_) | refine TL_indexAddrn TE (hk := ?_) | refine TL_len TE (hk := ?_) | refine TL_yes (hk := ?_) | refine TL_pick_t (hk := ?_) | refine TL_nilCheck (hk := ?_))); refine TL_nil_p ?_); (refine TA_take 1 rfl (by kernel_rfl) (by kernel_rfl) (by kernel_rfl) ?_; (repeat (first | refine TL_lt_t (hk := ?_) | refine TL_seq_t (hk := ?_) | refine TL_move (hk := ?_) | refine TL_assign (hk := ?_) | refine TLP_load TE (hk := ?_) | refine TLP_load_rd TE (hk := ?_) | refine TL_fieldAddr TE (hk := ?_) | refine TL_fieldAddr_e TE (hk := ?_) | refine TL_indexAddrn TE (hk := ?_) | refine TL_len TE (hk := ?_) | refine TL_yes (hk := ?_) | refine TL_pick_t (hk := ?_) | refine TL_nilCheck (hk := ?_))); refine TL_nil_p ?_); (refine TA_take 2 rfl (by kernel_rfl) (by kernel_rfl) (by kernel_rfl) ?_; (repeat (first | refine TL_lt_t (hk := ?_) | refine TL_seq_t (hk := ?_) | refine TL_move (hk := ?_) | refine TL_assign (hk := ?_) | refine TLP_load TE (hk := ?_) | refine TLP_load_rd TE (hk := ?_) | refine TL_fieldAddr TE (hk := ?_) | refine TL_fieldAddr_e TE (hk := ?_) | refine TL_indexAddrn TE (hk := ?_) | refine TL_len TE (hk := ?_) | refine TL_yes (hk := ?_) | refine TL_pick_t (hk := ?_) | refine TL_nilCheck (hk := ?_))); refine TL_nil_p ?_); (refine TA_take 3 rfl (by kernel_rfl) (by kernel_rfl) (by kernel_rfl) ?_; (repeat (first | refine TL_lt_t (hk := ?_) | refine TL_seq_t (hk := ?_) | refine TL_move (hk := ?_) | refine TL_assign (hk := ?_) | refine TLP_load TE (hk := ?_) | refine TLP_load_rd TE (hk := ?_) | refine TL_fieldAddr TE (hk := ?_) | refine TL_fieldAddr_e TE (hk := ?_) | refine TL_indexAddrn TE (hk := ?_) | refine TL_len TE (hk := ?_) | refine TL_yes (hk := ?_) | refine TL_pick_t (hk := ?_) | refine TL_nilCheck (hk := ?_))); refine TL_nil_p ?_); (refine TA_take 4 rfl (by kernel_rfl) (by kernel_rfl) (by kernel_rfl) ?_; (repeat (first | refine TL_lt_t (hk := ?_) | refine TL_seq_t (hk := ?_) | refine TL_move (hk := ?_) | refine TL_assign (hk := ?_) | refine TLP_load TE (hk := ?_) | refine TLP_load_rd TE (hk := ?_) | refine TL_fieldAddr TE (hk := ?_) | refine TL_fieldAddr_e TE (hk := ?_) | refine TL_indexAddrn TE (hk := ?_) | refine TL_len TE (hk := ?_) | refine TL_yes (hk := ?_) | refine TL_pick_t (hk := ?_) | refine TL_nilCheck (hk := ?_))); refine TL_nil_p ?_); (refine TA_take 5 rfl (by kernel_rfl) (by kernel_rfl) (by kernel_rfl) ?_; (repeat (first | refine TL_lt_t (hk := ?_) | refine TL_seq_t (hk := ?_) | refine TL_move (hk := ?_) | refine TL_assign (hk := ?_) | refine TLP_load TE (hk := ?_) | refine TLP_load_rd TE (hk := ?_) | refine TL_fieldAddr TE (hk := ?_) | refine TL_fieldAddr_e TE (hk := ?_) | refine TL_indexAddrn TE (hk := ?_) | refine TL_len TE (hk := ?_) | refine TL_yes (hk := ?_) | refine TL_pick_t (hk := ?_) | refine TL_nilCheck (hk := ?_))); refine TL_nil_p ?_); (refine TA_take 6 rfl (by kernel_rfl) (by kernel_rfl) (by kernel_rfl) ?_; (repeat (first | refine TL_lt_t (hk := ?_) | refine TL_seq_t (hk := ?_) | refine TL_move (hk := ?_) | refine TL_assign (hk := ?_) | refine TLP_load TE (hk := ?_) | refine TLP_load_rd TE (hk := ?_) | refine TL_fieldAddr TE (hk := ?_) | refine TL_fieldAddr_e TE (hk := ?_) | refine TL_indexAddrn TE (hk := ?_) | refine TL_len TE (hk := ?_) | refine TL_yes (hk := ?_) | refine TL_pick_t (hk := ?_) | refine TL_nilCheck (hk := ?_))); refine TL_nil_p ?_); (refine TA_take 7 rfl (by kernel_rfl) (by kernel_rfl) (by kernel_rfl) ?_; (repeat (first | refine TL_lt_t (hk := ?_) | refine TL_seq_t (hk := ?_) | refine TL_move (hk := ?_) | refine TL_assign (hk := ?_) | refine TLP_load TE (hk := ?_) | refine TLP_load_rd TE (hk := ?_) | refine TL_fieldAddr TE (hk := ?_) | refine TL_fieldAddr_e TE (hk := ?_) | refine TL_indexAddrn TE (hk := ?_) | refine TL_len TE (hk := ?_) | refine TL_yes (hk := ?_) | refine TL_pick_t (hk := ?_) | refine TL_nilCheck (hk := ?_))); refine TL_nil_p ?_); (refine TA_take 8 rfl (by kernel_rfl) (by kernel_rfl) (by kernel_rfl) ?_; (repeat (first | refine TL_lt_t (hk := ?_) | refine TL_seq_t (hk := ?_) | refine TL_move (hk := ?_) | refine TL_assign (hk := ?_) | refine TLP_load TE (hk := ?_) | refine TLP_load_rd TE (hk := ?_) | refine TL_fieldAddr TE (hk := ?_) | refine TL_fieldAddr_e TE (hk := ?_) | refine TL_indexAddrn TE (hk := ?_) | refine TL_len TE (hk := ?_) | refine TL_yes (hk := ?_) | refine TL_pick_t (hk := ?_) | refine TL_nilCheck (hk := ?_))); refine TL_nil_p ?_); (refine TA_take 9 rfl (by kernel_rfl) (by kernel_rfl) (by kernel_rfl) ?_; (repeat (first | refine TL_lt_t (hk := ?_) | refine TL_seq_t (hk := ?_) | refine TL_move (hk := ?_) | refine TL_assign (hk := ?_) | refine TLP_load TE (hk := ?_) | refine TLP_load_rd TE (hk := ?_) | refine TL_fieldAddr TE (hk := ?_) | refine TL_fieldAddr_e TE (hk := ?_) | refine TL_indexAddrn TE (hk := ?_) | refine TL_len TE (hk := ?_) | refine TL_yes (hk := ?_) | refine TL_pick_t (hk := ?_) | refine TL_nilCheck (hk := ?_))); refine TL_nil_p ?_); (refine TA_take 10 rfl (by kernel_rfl) (by kernel_rfl) (by kernel_rfl) ?_; (repeat (first | refine TL_lt_t (hk := ?_) | refine TL_seq_t (hk := ?_) | refine TL_move (hk := ?_) | refine TL_assign (hk := ?_) | refine TLP_load TE (hk := ?_) | refine TLP_load_rd TE (hk := ?_) | refine TL_fieldAddr TE (hk := ?_) | refine TL_fieldAddr_e TE (hk := ?_) | refine TL_indexAddrn TE (hk := ?_) | refine TL_len TE (hk := ?_) | refine TL_yes (hk := ?_) | refine TL_pick_t (hk := ?_) | refine TL_nilCheck (hk := ?_))); refine TL_nil_p ?_); (refine TA_take 11 rfl (by kernel_rfl) (by kernel_rfl) (by kernel_rfl) ?_; (repeat (first | refine TL_lt_t (hk := ?_) | refine TL_seq_t (hk := ?_) | refine TL_move (hk := ?_) | refine TL_assign (hk := ?_) | refine TLP_load TE (hk := ?_) | refine TLP_load_rd TE (hk := ?_) | refine TL_fieldAddr TE (hk := ?_) | refine TL_fieldAddr_e TE (hk := ?_) | refine TL_indexAddrn TE (hk := ?_) | refine TL_len TE (hk := ?_) | refine TL_yes (hk := ?_) | refine TL_pick_t (hk := ?_) | refine TL_nilCheck (hk := ?_))); refine TL_nil_p ?_); (refine TA_take 12 rfl (by kernel_rfl) (by kernel_rfl) (by kernel_rfl) ?_; (repeat (first | refine TL_lt_t (hk := ?_) | refine TL_seq_t (hk := ?_) | refine TL_move (hk := ?_) | refine TL_assign (hk := ?_) | refine TLP_load TE (hk := ?_) | refine TLP_load_rd TE (hk := ?_) | refine TL_fieldAddr TE (hk := ?_) | refine TL_fieldAddr_e TE (hk := ?_) | refine TL_indexAddrn TE (hk := ?_) | refine TL_len TE (hk := ?_) | refine TL_yes (hk := ?_) | refine TL_pick_t (hk := ?_) | refine TL_nilCheck (hk := ?_))); refine TL_nil_p ?_); (refine TA_take 13 rfl (by kernel_rfl) (by kernel_rfl) (by kernel_rfl) ?_; (repeat (first | refine TL_lt_t (hk := ?_) | refine TL_seq_t (hk := ?_) | refine TL_move (hk := ?_) | refine TL_assign (hk := ?_) | refine TLP_load TE (hk := ?_) | refine TLP_load_rd TE (hk := ?_) | refine TL_fieldAddr TE (hk := ?_) | refine TL_fieldAddr_e TE (hk := ?_) | refine TL_indexAddrn TE (hk := ?_) | refine TL_len TE (hk := ?_) | refine TL_yes (hk := ?_) | refine TL_pick_t (hk := ?_) | refine TL_nilCheck (hk := ?_))); refine TL_nil_p ?_); (refine TA_take 14 rfl (by kernel_rfl) (by kernel_rfl) (by kernel_rfl) ?_; (repeat (first | refine TL_lt_t (hk := ?_) | refine TL_seq_t (hk := ?_) | refine TL_move (hk := ?_) | refine TL_assign (hk := ?_) | refine TLP_load TE (hk := ?_) | refine TLP_load_rd TE (hk := ?_) | refine TL_fieldAddr TE (hk := ?_) | refine TL_fieldAddr_e TE (hk := ?_) | refine TL_indexAddrn TE (hk := ?_) | refine TL_len TE (hk := ?_) | refine TL_yes (hk := ?_) | refine TL_pick_t (hk := ?_) | refine TL_nilCheck (hk := ?_))); refine TL_nil_p ?_); (refine TA_take 15 rfl (by kernel_rfl) (by kernel_rfl) (by kernel_rfl) ?_; (repeat (first | refine TL_lt_t (hk := ?_) | refine TL_seq_t (hk := ?_) | refine TL_move (hk := ?_) | refine TL_assign (hk := ?_) | refine TLP_load TE (hk := ?_) | refine TLP_load_rd TE (hk := ?_) | refine TL_fieldAddr TE (hk := ?_) | refine TL_fieldAddr_e TE (hk := ?_) | refine TL_indexAddrn TE (hk := ?_) | refine TL_len TE (hk := ?_) | refine TL_yes (hk := ?_) | refine TL_pick_t (hk := ?_) | refine TL_nilCheck (hk := ?_))); refine TL_nil_p ?_); (refine TA_take 16 rfl (by kernel_rfl) (by kernel_rfl) (by kernel_rfl) ?_; (repeat (first | refine TL_lt_t (hk := ?_) | refine TL_seq_t (hk := ?_) | refine TL_move (hk := ?_) | refine TL_assign (hk := ?_) | refine TLP_load TE (hk := ?_) | refine TLP_load_rd TE (hk := ?_) | refine TL_fieldAddr TE (hk := ?_) | refine TL_fieldAddr_e TE (hk := ?_) | refine TL_indexAddrn TE (hk := ?_) | refine TL_len TE (hk := ?_) | refine TL_yes (hk := ?_) | refine TL_pick_t (hk := ?_) | refine TL_nilCheck (hk := ?_))); refine TL_nil_p ?_); (refine TA_take 17 rfl (by kernel_rfl) (by kernel_rfl) (by kernel_rfl) ?_; (repeat (first | refine TL_lt_t (hk := ?_) | refine TL_seq_t (hk := ?_) | refine TL_move (hk := ?_) | refine TL_assign (hk := ?_) | refine TLP_load TE (hk := ?_) | refine TLP_load_rd TE (hk := ?_) | refine TL_fieldAddr TE (hk := ?_) | refine TL_fieldAddr_e TE (hk := ?_) | refine TL_indexAddrn TE (hk := ?_) | refine TL_len TE (hk := ?_) | refine TL_yes (hk := ?_) | refine TL_pick_t (hk := ?_) | refine TL_nilCheck (hk := ?_))); refine TL_nil_p ?_); (refine TA_take 18 rfl (by kernel_rfl) (by kernel_rfl) (by kernel_rfl) ?_; (repeat (first | refine TL_lt_t (hk := ?_) | refine TL_seq_t (hk := ?_) | refine TL_move (hk := ?_) | refine TL_assign (hk := ?_) | refine TLP_load TE (hk := ?_) | refine TLP_load_rd TE (hk := ?_) | refine TL_fieldAddr TE (hk := ?_) | refine TL_fieldAddr_e TE (hk := ?_) | refine TL_indexAddrn TE (hk := ?_) | refine TL_len TE (hk := ?_) | refine TL_yes (hk := ?_) | refine TL_pick_t (hk := ?_) | refine TL_nilCheck (hk := ?_))); refine TL_nil_p ?_); (refine TA_take 19 rfl (by kernel_rfl) (by kernel_rfl) (by kernel_rfl) ?_; (repeat (first | refine TL_lt_t (hk := ?_) | refine TL_seq_t (hk := ?_) | refine TL_move (hk := ?_) | refine TL_assign (hk := ?_) | refine TLP_load TE (hk := ?_) | refine TLP_load_rd TE (hk := ?_) | refine TL_fieldAddr TE (hk := ?_) | refine TL_fieldAddr_e TE (hk := ?_) | refine TL_indexAddrn TE (hk := ?_) | refine TL_len TE (hk := ?_) | refine TL_yes (hk := ?_) | refine TL_pick_t (hk := ?_) | refine TL_nilCheck (hk := ?_))); refine TL_nil_p ?_); (refine TA_take 20 rfl (by kernel_rfl) (by kernel_rfl) (by kernel_rfl) ?_; (repeat (first | refine TL_lt_t (hk := ?_) | refine TL_seq_t (hk := ?_) | refine TL_move (hk := ?_) | refine TL_assign (hk := ?_) | refine TLP_load TE (hk := ?_) | refine TLP_load_rd TE (hk := ?_) | refine TL_fieldAddr TE (hk := ?_) | refine TL_fieldAddr_e TE (hk := ?_) | refine TL_indexAddrn TE (hk := ?_) | refine TL_len TE (hk := ?_) | refine TL_yes (hk := ?_) | refine TL_pick_t (hk := ?_) | refine TL_nilCheck (hk := ?_))); refine TL_nil_p ?_)
        (refine TA_one 21 rfl (by kernel_rfl) (by kernel_rfl) ?_; (repeat (refine TL_assign (hk := ?_))); refine TL_nil_p ?_)
        refine TA_done (by kernel_rfl) ?_
        --
        exact T_ret2 rfl rfl rfl ⟨lo, rfl, h2, g1, fun _ => g2 lo (Nat.le_refl _) hln, e2.ext e3⟩
      · have hc' : ¬ ofL y = ofL k := fun h => hc (ofL_inj h)
        rw [decide_eq_false (fun q => hc (hin.1 q))]
        repeat (first | refine T_seq ?_ | refine T_region ?_ | refine T_cond_false rfl ?_ | refine T_exit rfl ?_ | refine TL_lt_f (hk := ?_) | refine TL_nil ?_ | refine TL_move (hk := ?_))
        refine T_region_any TE.mixed ([] : List Nat) ?_; intro w3 e3 z3
        have hb3 := hb2.be e3
        have hr3 := hr2.be e3
        (refine TA_take 0 rfl (by kernel_rfl) (by kernel_rfl) (by kernel_rfl) ?_; (repeat (first | refine TL_lt_t (hk := ?_) | refine TL_seq_f (hk := ?_) | refine TL_move (hk := ?_) | refine TL_assign (hk := ?_) | refine TLP_load TE (hk := ?_) | refine TLP_load_rd TE (hk := ?_) | refine TL_fieldAddr TE (hk := ?_) | refine TL_fieldAddr_e TE (hk := ?_) | refine TL_indexAddrn TE (hk := ?_) | refine TL_len TE (hk := ?_) | refine TL_yes (hk := ?_) | refine TL_pick_t (hk := ?_) | refine TL_nilCheck (hk := ?_))); refine TL_nil_p ?_); (refine TA_take 1 rfl (by kernel_rfl) (by kernel_rfl) (by kernel_rfl) ?_; (repeat (first | refine TL_lt_t (hk := ?_) | refine TL_seq_f (hk := ?_) | refine TL_move (hk := ?_) | refine TL_assign (hk := ?_) | refine TLP_load TE (hk := ?_) | refine TLP_load_rd TE (hk := ?_) | refine TL_fieldAddr TE (hk := ?_) | refine TL_fieldAddr_e TE (hk := ?_) | refine TL_indexAddrn TE (hk := ?_) | refine TL_len TE (hk := ?_) | refine TL_yes (hk := ?_) | refine TL_pick_t (hk := ?_) | refine TL_nilCheck (hk := ?_))); refine TL_nil_p ?_); (refine TA_take 2 rfl (by kernel_rfl) (by kernel_rfl) (by kernel_rfl) ?_; (repeat (first | refine TL_lt_t (hk := ?_) | refine TL_seq_f (hk := ?_) | refine TL_move (hk := ?_) | refine TL_assign (hk := ?_) | refine TLP_load TE (hk := ?_) | refine TLP_load_rd TE (hk := ?_) | refine TL_fieldAddr TE (hk := ?_) | refine TL_fieldAddr_e TE (hk := ?_) | refine TL_indexAddrn TE (hk := ?_) | refine TL_len TE (hk := ?_) | refine TL_yes (hk := ?_) | refine TL_pick_t (hk := ?_) | refine TL_nilCheck (hk := ?_))); refine TL_nil_p ?_); (refine TA_take 3 rfl (by kernel_rfl) (by kernel_rfl) (by kernel_rfl) ?_; (repeat (first | refine TL_lt_t (hk := ?_) | refine TL_seq_f (hk := ?_) | refine TL_move (hk := ?_) | refine TL_assign (hk := ?_) | refine TLP_load TE (hk := ?_) | refine TLP_load_rd TE (hk := ?_) | refine TL_fieldAddr TE (hk := ?_) | refine TL_fieldAddr_e TE (hk := ?_) | refine TL_indexAddrn TE (hk := ?_) | refine TL_len TE (hk := ?_) | refine TL_yes (hk := ?_) | refine TL_pick_t (hk := ?_) | refine TL_nilCheck (hk := ?_))); refine TL_nil_p ?_); (refine TA_take 4 rfl (by kernel_rfl) (by kernel_rfl) (by kernel_rfl) ?_; (repeat (first | refine TL_lt_t (hk := ?_) | refine TL_seq_f (hk := ?_) | refine TL_move (hk := ?_) | refine TL_assign (hk := ?_) | refine TLP_load TE (hk := ?_) | refine TLP_load_rd TE (hk := ?_) | refine TL_fieldAddr TE (hk := ?_) | refine TL_fieldAddr_e TE (hk := ?_) | refine TL_indexAddrn TE (hk := ?_) | refine TL_len TE (hk := ?_) | refine TL_yes (hk := ?_) | refine TL_pick_t (hk := ?_) | refine TL_nilCheck (hk := ?_))); refine TL_nil_p ?_); (refine TA_take 5 rfl (by kernel_rfl) (by kernel_rfl) (by kernel_rfl) ?_; (repeat (first | refine TL_lt_t (hk := ?_) | refine TL_seq_f (hk := ?_) | refine TL_move (hk := ?_) | refine TL_assign (hk := ?_) | refine TLP_load TE (hk := ?_) | refine TLP_load_rd TE (hk := ?_) | refine TL_fieldAddr TE (hk := ?_) | refine TL_fieldAddr_e TE (hk := ?_) | refine TL_indexAddrn TE (hk := ?_) | refine TL_len TE (hk := ?_) | refine TL_yes (hk := ?_) | refine TL_pick_t (hk := ?_) | refine TL_nilCheck (hk := ?_))); refine TL_nil_p ?_); (refine TA_take 6 rfl (by kernel_rfl) (by kernel_rfl) (by kernel_rfl) ?_; (repeat (first | refine TL_lt_t (hk := ?_) | refine TL_seq_f (hk := ?_) | refine TL_move (hk := ?_) | refine TL_assign (hk := ?_) | refine TLP_load TE (hk := ?_) | refine TLP_load_rd TE (hk := ?_) | refine TL_fieldAddr TE (hk := ?_) | refine TL_fieldAddr_e TE (hk := ?_) | refine TL_indexAddrn TE (hk := ?_) | refine TL_len TE (hk := ?_) | refine TL_yes (hk := ?_) | refine TL_pick_t (hk := ?_) | refine TL_nilCheck (hk := ?_))); refine TL_nil_p ?_); (refine TA_take 7 rfl (by kernel_rfl) (by kernel_rfl) (by kernel_rfl) ?_; (repeat (first | refine TL_lt_t (hk := ?_) | refine TL_seq_f (hk := ?_) | refine TL_move (hk := ?_) | refine TL_assign (hk := ?_) | refine TLP_load TE (hk := ?_) | refine TLP_load_rd TE (hk := ?_) | refine TL_fieldAddr TE (hk := ?_) | refine TL_fieldAddr_e TE (hk := ?_) | refine TL_indexAddrn TE (hk := ?_) | refine TL_len TE (hk := ?_) | refine TL_yes (hk := ?_) | refine TL_pick_t (hk := ?_) | refine TL_nilCheck (hk := ?_))); refine TL_nil_p ?_); (refine TA_take 8 rfl (by kernel_rfl) (by kernel_rfl) (by kernel_rfl) ?_; (repeat (first | refine TL_lt_t (hk := ?_) | refine TL_seq_f (hk := ?_) | refine TL_move (hk := ?_) | refine TL_assign (hk := ?_) | refine TLP_load TE (hk := ?_) | refine TLP_load_rd TE (hk := ?_) | refine TL_fieldAddr TE (hk := ?_) | refine TL_fieldAddr_e TE (hk := ?_) | refine TL_indexAddrn TE (hk := ?_) | refine TL_len TE (hk := ?_) | refine TL_yes (hk := ?_) | refine TL_pick_t (hk := ?_) | refine TL_nilCheck (hk := ?_))); refine TL_nil_p ?_); (refine TA_take 9 rfl (by kernel_rfl) (by kernel_rfl) (by kernel_rfl) ?_; (repeat (first | refine TL_lt_t (hk := ?_) | refine TL_seq_f (hk := ?_) | refine TL_move (hk := ?_) | refine TL_assign (hk := ?_) | refine TLP_load TE (hk := ?_) | refine TLP_load_rd TE (hk := ?_) | refine TL_fieldAddr TE (hk := ?_) | refine TL_fieldAddr_e TE (hk := ?_) | refine TL_indexAddrn TE (hk := ?_) | refine TL_len TE (hk := ?_) | refine TL_yes (hk := ?_) | refine TL_pick_t (hk := ?_) | refine TL_nilCheck (hk := ?_))); refine TL_nil_p ?_); (refine TA_take 10 rfl (by kernel_rfl) (by kernel_rfl) (by kernel_rfl) ?_; (repeat (first | refine TL_lt_t (hk := ?_) | refine TL_seq_f (hk := ?_) | refine TL_move (hk := ?_) | refine TL_assign (hk := ?_) | refine TLP_load TE (hk := ?_) | refine TLP_load_rd TE (hk := ?_) | refine TL_fieldAddr TE (hk := ?_) | refine TL_fieldAddr_e TE (hk := ?_) | refine TL_indexAddrn TE (hk := ?_) | refine TL_len TE (hk := ?_) | refine TL_yes (hk := ?_) | refine TL_pick_t (hk := ?_) | refine TL_nilCheck (hk := ?_))); refine TL_nil_p ?_); (refine TA_take 11 rfl (by kernel_rfl) (by kernel_rfl) (by kernel_rfl) ?_; (repeat (first | refine TL_lt_t (hk := ?_) | refine TL_seq_f (hk := ?_) | refine TL_move (hk := ?_) | refine TL_assign (hk := ?_) | refine TLP_load TE (hk := ?_) | refine TLP_load_rd TE (hk := ?_) | refine TL_fieldAddr TE (hk := ?_) | refine TL_fieldAddr_e TE (hk := ?_) | refine TL_indexAddrn TE (hk := ?_) | refine TL_len TE (hk := ?_) | refine TL_yes (hk := ?_) | refine TL_pick_t (hk := ?_) | refine TL_nilCheck (hk := ?_))); refine TL_nil_p ?_); (refine TA_take 12 rfl (by kernel_rfl) (by kernel_rfl) (by kernel_rfl) ?_; (repeat (first | refine TL_lt_t (hk := ?_) | refine TL_seq_f (hk := ?_) | refine TL_move (hk := ?_) | refine TL_assign (hk := ?_) | refine TLP_load TE (hk := ?_) | refine TLP_load_rd TE (hk := ?_) | refine TL_fieldAddr TE (hk := ?_) | refine TL_fieldAddr_e TE (hk := ?_) | refine TL_indexAddrn TE (hk := ?_) | refine TL_len TE (hk := ?_) | refine TL_yes (hk := ?_) | refine TL_pick_t (hk := ?_) | refine TL_nilCheck (hk := ?_))); refine TL_nil_p ?_); (refine TA_take 13 rfl (by kernel_rfl) (by kernel_rfl) (by kernel_rfl) ?_; (repeat (first | refine TL_lt_t (hk := ?_) | refine TL_seq_f (hk := ?_) | refine TL_move (hk := ?_) | refine TL_assign (hk := ?_) | refine TLP_load TE (hk := ?_) | refine TLP_load_rd TE (hk := ?_) | refine TL_fieldAddr TE (hk := ?_) | refine TL_fieldAddr_e TE (hk := ?_) | refine TL_indexAddrn TE (hk := ?_) | refine TL_len TE (hk := ?_) | refine TL_yes (hk := ?_) | refine TL_pick_t (hk := ?_) | refine TL_nilCheck (hk := ?_))); refine TL_nil_p ?_); (refine TA_take 14 rfl (by kernel_rfl) (by kernel_rfl) (by kernel_rfl) ?_; (repeat (first | refine TL_lt_t (hk := ?_) | refine TL_seq_f (hk := ?_) | refine TL_move (hk := ?_) | refine TL_assign (hk := ?_) | refine TLP_load TE (hk := ?_) | refine TLP_load_rd TE (hk := ?_) | refine TL_fieldAddr TE (hk := ?_) | refine TL_fieldAddr_e TE (hk := ?_) | refine TL_indexAddrn TE (hk := ?_) | refine TL_len TE (hk := ?_) | refine TL_yes (hk := ?_) | refine TL_pick_t (hk := ?_) | refine TL_nilCheck (hk := ?_))); refine TL_nil_p ?_); (refine TA_take 15 rfl (by kernel_rfl) (by kernel_rfl) (by kernel_rfl) ?_; (repeat (first | refine TL_lt_t (hk := ?_) | refine TL_seq_f (hk := ?_) | refine TL_move (hk := ?_) | refine TL_assign (hk := ?_) | refine TLP_load TE (hk := ?_) | refine TLP_load_rd TE (hk := ?_) | refine TL_fieldAddr TE (hk := ?_) | refine TL_fieldAddr_e TE (hk := ?_) | refine TL_indexAddrn TE (hk := ?_) | refine TL_len TE (hk := ?_) | refine TL_yes (hk := ?_) | refine TL_pick_t (hk := ?_) | refine TL_nilCheck (hk := ?_))); refine TL_nil_p ?_); (refine TA_take 16 rfl (by kernel_rfl) (by kernel_rfl) (by kernel_rfl) ?_; (repeat (first | refine TL_lt_t (hk := ?_) | refine TL_seq_f (hk := ?_) | refine TL_move (hk := ?_) | refine TL_assign (hk := ?_) | refine TLP_load TE (hk := ?_) | refine TLP_load_rd TE (hk := ?_) | refine TL_fieldAddr TE (hk := ?_) | refine TL_fieldAddr_e TE (hk := ?_) | refine TL_indexAddrn TE (hk := ?_) | refine TL_len TE (hk := ?_) | refine TL_yes (hk := ?_) | refine TL_pick_t (hk := ?_) | refine TL_nilCheck (hk := ?_))); refine TL_nil_p ?_); (refine TA_take 17 rfl (by kernel_rfl) (by kernel_rfl) (by kernel_rfl) ?_; (repeat (first | refine TL_lt_t (hk := ?_) | refine TL_seq_f (hk := ?_) | refine TL_move (hk := ?_) | refine TL_assign (hk := ?_) | refine TLP_load TE (hk := ?_) | refine TLP_load_rd TE (hk := ?_) | refine TL_fieldAddr TE (hk := ?_) | refine TL_fieldAddr_e TE (hk := ?_) | refine TL_indexAddrn TE (hk := ?_) | refine TL_len TE (hk := ?_) | refine TL_yes (hk := ?_) | refine TL_pick_t (hk := ?_) | refine TL_nilCheck (hk := ?_))); refine TL_nil_p ?_); (refine TA_take 18 rfl (by kernel_rfl) (by kernel_rfl) (by kernel_rfl) ?_; (repeat (first | refine TL_lt_t (hk := ?_) | refine TL_seq_f (hk := ?_) | refine TL_move (hk := ?_) | refine TL_assign (hk := ?_) | refine TLP_load TE (hk := ?_) | refine TLP_load_rd TE (hk := ?_) | refine TL_fieldAddr TE (hk := ?_) | refine TL_fieldAddr_e TE (hk := ?_) | refine TL_indexAddrn TE (hk := ?_) | refine TL_len TE (hk := ?_) | refine TL_yes (hk := ?_) | refine TL_pick_t (hk := ?_) | refine TL_nilCheck (hk := ?_))); refine TL_nil_p ?_); (refine TA_take 19 rfl (by kernel_rfl) (by kernel_rfl) (by kernel_rfl) ?_; (repeat (first | refine TL_lt_t (hk := ?_) | refine TL_seq_f (hk := ?_) | refine TL_move (hk := ?_) | refine TL_assign (hk := ?_) | refine TLP_load TE (hk := ?_) | refine TLP_load_rd TE (hk := ?_) | refine TL_fieldAddr TE (hk := ?_) | refine TL_fieldAddr_e TE (hk := ?_) | refine TL_indexAddrn TE (hk := ?_) | refine TL_len TE (hk := ?_) | refine TL_yes (hk := ?_) | refine TL_pick_t (hk := ?_) | refine TL_nilCheck (hk := ?_))); refine TL_nil_p ?_); (refine TA_take 20 rfl (by kernel_rfl) (by kernel_rfl) (by kernel_rfl) ?_; (repeat (first | refine TL_lt_t (hk := ?_) | refine TL_seq_f (hk := ?_) | refine TL_move (hk := ?_) | refine TL_assign (hk := ?_) | refine TLP_load TE (hk := ?_) | refine TLP_load_rd TE (hk := ?_) | refine TL_fieldAddr TE (hk := ?_) | refine TL_fieldAddr_e TE (hk := ?_) | refine TL_indexAddrn TE (hk := ?_) | refine TL_len TE (hk := ?_) | refine TL_yes (hk := ?_) | refine TL_pick_t (hk := ?_) | refine TL_nilCheck (hk := ?_))); refine TL_nil_p ?_)
        (refine TA_one 21 rfl (by kernel_rfl) (by kernel_rfl) ?_; (repeat (refine TL_assign (hk := ?_))); refine TL_nil_p ?_)
        refine TA_done (by kernel_rfl) ?_
        --
        exact T_ret2 rfl rfl rfl ⟨lo, rfl, h2, g1, fun _ => g2 lo (Nat.le_refl _) hln, e2.ext e3⟩
    · have hno : k ∉ l := fun hk => by
        obtain ⟨j, hj, rfl⟩ := List.mem_iff_getElem.1 hk
        have := g1 j (by omega)
        rw [List.getD_eq_getElem?_getD, List.getElem?_eq_getElem hj] at this
        exact List.lt_irrefl _ this
      rw [decide_eq_false hno]
      repeat (first | refine T_seq ?_ | refine T_region ?_ | refine T_cond_false rfl ?_ | refine T_exit rfl ?_ | refine TL_lt_f (hk := ?_) | refine TL_nil ?_ | refine TL_move (hk := ?_))
      refine T_region_any TE.mixed ([] : List Nat) ?_; intro w3 e3 z3
      have hb3 := hb2.be e3
      (refine TA_take 0 rfl (by kernel_rfl) (by kernel_rfl) (by kernel_rfl) ?_; (repeat (first | refine TL_lt_f (hk := ?_) | refine TL_move (hk := ?_) | refine TL_assign (hk := ?_) | refine TLP_load TE (hk := ?_) | refine TL_fieldAddr TE (hk := ?_) | refine TL_len TE (hk := ?_) | refine TL_no (hk := ?_) | refine TL_pick_f (hk := ?_) | refine TL_nilCheck (hk := ?_))); refine TL_nil_p ?_); (refine TA_take 1 rfl (by kernel_rfl) (by kernel_rfl) (by kernel_rfl) ?_; (repeat (first | refine TL_lt_f (hk := ?_) | refine TL_move (hk := ?_) | refine TL_assign (hk := ?_) | refine TLP_load TE (hk := ?_) | refine TL_fieldAddr TE (hk := ?_) | refine TL_len TE (hk := ?_) | refine TL_no (hk := ?_) | refine TL_pick_f (hk := ?_) | refine TL_nilCheck (hk := ?_))); refine TL_nil_p ?_); (refine TA_take 2 rfl (by kernel_rfl) (by kernel_rfl) (by kernel_rfl) ?_; (repeat (first | refine TL_lt_f (hk := ?_) | refine TL_move (hk := ?_) | refine TL_assign (hk := ?_) | refine TLP_load TE (hk := ?_) | refine TL_fieldAddr TE (hk := ?_) | refine TL_len TE (hk := ?_) | refine TL_no (hk := ?_) | refine TL_pick_f (hk := ?_) | refine TL_nilCheck (hk := ?_))); refine TL_nil_p ?_); (refine TA_take 3 rfl (by kernel_rfl) (by kernel_rfl) (by kernel_rfl) ?_; (repeat (first | refine TL_lt_f (hk := ?_) | refine TL_move (hk := ?_) | refine TL_assign (hk := ?_) | refine TLP_load TE (hk := ?_) | refine TL_fieldAddr TE (hk := ?_) | refine TL_len TE (hk := ?_) | refine TL_no (hk := ?_) | refine TL_pick_f (hk := ?_) | refine TL_nilCheck (hk := ?_))); refine TL_nil_p ?_); (refine TA_take 4 rfl (by kernel_rfl) (by kernel_rfl) (by kernel_rfl) ?_; (repeat (first | refine TL_lt_f (hk := ?_) | refine TL_move (hk := ?_) | refine TL_assign (hk := ?_) | refine TLP_load TE (hk := ?_) | refine TL_fieldAddr TE (hk := ?_) | refine TL_len TE (hk := ?_) | refine TL_no (hk := ?_) | refine TL_pick_f (hk := ?_) | refine TL_nilCheck (hk := ?_))); refine TL_nil_p ?_); (refine TA_take 5 rfl (by kernel_rfl) (by kernel_rfl) (by kernel_rfl) ?_; (repeat (first | refine TL_lt_f (hk := ?_) | refine TL_move (hk := ?_) | refine TL_assign (hk := ?_) | refine TLP_load TE (hk := ?_) | refine TL_fieldAddr TE (hk := ?_) | refine TL_len TE (hk := ?_) | refine TL_no (hk := ?_) | refine TL_pick_f (hk := ?_) | refine TL_nilCheck (hk := ?_))); refine TL_nil_p ?_); (refine TA_take 6 rfl (by kernel_rfl) (by kernel_rfl) (by kernel_rfl) ?_; (repeat (first | refine TL_lt_f (hk := ?_) | refine TL_move (hk := ?_) | refine TL_assign (hk := ?_) | refine TLP_load TE (hk := ?_) | refine TL_fieldAddr TE (hk := ?_) | refine TL_len TE (hk := ?_) | refine TL_no (hk := ?_) | refine TL_pick_f (hk := ?_) | refine TL_nilCheck (hk := ?_))); refine TL_nil_p ?_); (refine TA_take 7 rfl (by kernel_rfl) (by kernel_rfl) (by kernel_rfl) ?_; (repeat (first | refine TL_lt_f (hk := ?_) | refine TL_move (hk := ?_) | refine TL_assign (hk := ?_) | refine TLP_load TE (hk := ?_) | refine TL_fieldAddr TE (hk := ?_) | refine TL_len TE (hk := ?_) | refine TL_no (hk := ?_) | refine TL_pick_f (hk := ?_) | refine TL_nilCheck (hk := ?_))); refine TL_nil_p ?_); (refine TA_take 8 rfl (by kernel_rfl) (by kernel_rfl) (by kernel_rfl) ?_; (repeat (first | refine TL_lt_f (hk := ?_) | refine TL_move (hk := ?_) | refine TL_assign (hk := ?_) | refine TLP_load TE (hk := ?_) | refine TL_fieldAddr TE (hk := ?_) | refine TL_len TE (hk := ?_) | refine TL_no (hk := ?_) | refine TL_pick_f (hk := ?_) | refine TL_nilCheck (hk := ?_))); refine TL_nil_p ?_); (refine TA_take 9 rfl (by kernel_rfl) (by kernel_rfl) (by kernel_rfl) ?_; (repeat (first | refine TL_lt_f (hk := ?_) | refine TL_move (hk := ?_) | refine TL_assign (hk := ?_) | refine TLP_load TE (hk := ?_) | refine TL_fieldAddr TE (hk := ?_) | refine TL_len TE (hk := ?_) | refine TL_no (hk := ?_) | refine TL_pick_f (hk := ?_) | refine TL_nilCheck (hk := ?_))); refine TL_nil_p ?_); (refine TA_take 10 rfl (by kernel_rfl) (by kernel_rfl) (by kernel_rfl) ?_; (repeat (first | refine TL_lt_f (hk := ?_) | refine TL_move (hk := ?_) | refine TL_assign (hk := ?_) | refine TLP_load TE (hk := ?_) | refine TL_fieldAddr TE (hk := ?_) | refine TL_len TE (hk := ?_) | refine TL_no (hk := ?_) | refine TL_pick_f (hk := ?_) | refine TL_nilCheck (hk := ?_))); refine TL_nil_p ?_); (refine TA_take 11 rfl (by kernel_rfl) (by kernel_rfl) (by kernel_rfl) ?_; (repeat (first | refine TL_lt_f (hk := ?_) | refine TL_move (hk := ?_) | refine TL_assign (hk := ?_) | refine TLP_load TE (hk := ?_) | refine TL_fieldAddr TE (hk := ?_) | refine TL_len TE (hk := ?_) | refine TL_no (hk := ?_) | refine TL_pick_f (hk := ?_) | refine TL_nilCheck (hk := ?_))); refine TL_nil_p ?_); (refine TA_take 12 rfl (by kernel_rfl) (by kernel_rfl) (by kernel_rfl) ?_; (repeat (first | refine TL_lt_f (hk := ?_) | refine TL_move (hk := ?_) | refine TL_assign (hk := ?_) | refine TLP_load TE (hk := ?_) | refine TL_fieldAddr TE (hk := ?_) | refine TL_len TE (hk := ?_) | refine TL_no (hk := ?_) | refine TL_pick_f (hk := ?_) | refine TL_nilCheck (hk := ?_))); refine TL_nil_p ?_); (refine TA_take 13 rfl (by kernel_rfl) (by kernel_rfl) (by kernel_rfl) ?_; (repeat (first | refine TL_lt_f (hk := ?_) | refine TL_move (hk := ?_) | refine TL_assign (hk := ?_) | refine TLP_load TE (hk := ?_) | refine TL_fieldAddr TE (hk := ?_) | refine TL_len TE (hk := ?_) | refine TL_no (hk := ?_) | refine TL_pick_f (hk := ?_) | refine TL_nilCheck (hk := ?_))); refine TL_nil_p ?_); (refine TA_take 14 rfl (by kernel_rfl) (by kernel_rfl) (by kernel_rfl) ?_; (repeat (first | refine TL_lt_f (hk := ?_) | refine TL_move (hk := ?_) | refine TL_assign (hk := ?_) | refine TLP_load TE (hk := ?_) | refine TL_fieldAddr TE (hk := ?_) | refine TL_len TE (hk := ?_) | refine TL_no (hk := ?_) | refine TL_pick_f (hk := ?_) | refine TL_nilCheck (hk := ?_))); refine TL_nil_p ?_); (refine TA_take 15 rfl (by kernel_rfl) (by kernel_rfl) (by kernel_rfl) ?_; (repeat (first | refine TL_lt_f (hk := ?_) | refine TL_move (hk := ?_) | refine TL_assign (hk := ?_) | refine TLP_load TE (hk := ?_) | refine TL_fieldAddr TE (hk := ?_) | refine TL_len TE (hk := ?_) | refine TL_no (hk := ?_) | refine TL_pick_f (hk := ?_) | refine TL_nilCheck (hk := ?_))); refine TL_nil_p ?_); (refine TA_take 16 rfl (by kernel_rfl) (by kernel_rfl) (by kernel_rfl) ?_; (repeat (first | refine TL_lt_f (hk := ?_) | refine TL_move (hk := ?_) | refine TL_assign (hk := ?_) | refine TLP_load TE (hk := ?_) | refine TL_fieldAddr TE (hk := ?_) | refine TL_len TE (hk := ?_) | refine TL_no (hk := ?_) | refine TL_pick_f (hk := ?_) | refine TL_nilCheck (hk := ?_))); refine TL_nil_p ?_); (refine TA_take 17 rfl (by kernel_rfl) (by kernel_rfl) (by kernel_rfl) ?_; (repeat (first | refine TL_lt_f (hk := ?_) | refine TL_move (hk := ?_) | refine TL_assign (hk := ?_) | refine TLP_load TE (hk := ?_) | refine TL_fieldAddr TE (hk := ?_) | refine TL_len TE (hk := ?_) | refine TL_no (hk := ?_) | refine TL_pick_f (hk := ?_) | refine TL_nilCheck (hk := ?_))); refine TL_nil_p ?_); (refine TA_take 18 rfl (by kernel_rfl) (by kernel_rfl) (by kernel_rfl) ?_; (repeat (first | refine TL_lt_f (hk := ?_) | refine TL_move (hk := ?_) | refine TL_assign (hk := ?_) | refine TLP_load TE (hk := ?_) | refine TL_fieldAddr TE (hk := ?_) | refine TL_len TE (hk := ?_) | refine TL_no (hk := ?_) | refine TL_pick_f (hk := ?_) | refine TL_nilCheck (hk := ?_))); refine TL_nil_p ?_); (refine TA_take 19 rfl (by kernel_rfl) (by kernel_rfl) (by kernel_rfl) ?_; (repeat (first | refine TL_lt_f (hk := ?_) | refine TL_move (hk := ?_) | refine TL_assign (hk := ?_) | refine TLP_load TE (hk := ?_) | refine TL_fieldAddr TE (hk := ?_) | refine TL_len TE (hk := ?_) | refine TL_no (hk := ?_) | refine TL_pick_f (hk := ?_) | refine TL_nilCheck (hk := ?_))); refine TL_nil_p ?_); (refine TA_take 20 rfl (by kernel_rfl) (by kernel_rfl) (by kernel_rfl) ?_; (repeat (first | refine TL_lt_f (hk := ?_) | refine TL_move (hk := ?_) | refine TL_assign (hk := ?_) | refine TLP_load TE (hk := ?_) | refine TL_fieldAddr TE (hk := ?_) | refine TL_len TE (hk := ?_) | refine TL_no (hk := ?_) | refine TL_pick_f (hk := ?_) | refine TL_nilCheck (hk := ?_))); refine TL_nil_p ?_)
      (refine TA_one 21 rfl (by kernel_rfl) (by kernel_rfl) ?_; (repeat (refine TL_assign (hk := ?_))); refine TL_nil_p ?_)
      refine TA_done (by kernel_rfl) ?_
      --
      exact T_ret2 rfl rfl rfl ⟨lo, rfl, h2, g1, fun q => absurd q hln, e2.ext e3⟩
theorem RClaimed_c (b : Nat) (a r : Int) (x : SL) (l : List Tx) (k : Tx) (w : World) (hs : l.Pairwise (· < ·)) (hb : Blk w b 89 [.int .i64 a, .int .i64 r, sL x]) (hr : Rd w x.1 x.2.1 4 (rowV itV l)) (hn : x.2.1 ≤ 1000000) :
    Ret Tryz.prog 63 [pB b, .string (ofL k)] w (fun v w' => v = .bool (decide (k ∈ l)) ∧ Ext w w') := by
  refine ret_T (n := 14) Tryz.func63 rfl rfl ?_
  repeat (first | refine T_seq ?_ | refine T_region ?_ | refine TL_nil ?_ | refine TL_move (hk := ?_) | refine TL_assign (hk := ?_))
  refine TL_call TE (hc := at2_c15 b a r x l k w hs hb hr hn) (hk := ?_)
  rintro _ w1 ⟨p, rfl, -, -, -, e1⟩
  repeat (first | refine T_seq ?_ | refine T_region ?_ | refine TL_nil ?_ | refine TL_move (hk := ?_) | refine TL_assign (hk := ?_) | refine TL_extract (hk := ?_))
  exact T_ret1 rfl rfl ⟨rfl, e1⟩
theorem RKeys_c (b : Nat) (a r : Int) (x : SL) (l : List Tx) (w : World) (hb : Blk w b 89 [.int .i64 a, .int .i64 r, sL x]) (hr : Rd w x.1 x.2.1 4 (rowV itV l)) (hn : x.2.1 ≤ 1000000) :
    Ret Tryz.prog 55 [pB b] w (fun v w' => ∃ y : SL, v = sL y ∧ Ext w w' ∧ Own w' w.heap.size 9 1 y.1 y.2.1 y.2.2 (sv l)) := by
  have hl : l.length = x.2.1 := by have := hr.1; rw [rowV_len itV_len] at this; omega
  refine ret_T (n := 26) Tryz.func55 rfl rfl ?_
  repeat (first | refine T_seq ?_ | refine T_region ?_ | refine T_block ?_ | refine TL_nil ?_ | refine TL_assign (hk := ?_))
  refine T_loop (ι := Nat × SL) (fun i => [(4, .int .i64 (i.1 : Int)), (3, sL i.2), (0, pB b)]) (fun i w' => i.1 ≤ x.2.1 ∧ Ext w w' ∧ Own w' w.heap.size 9 1 i.2.1 i.2.2.1 i.2.2.2 (sv (l.take i.1))) (fun i => x.2.1 - i.1) (0, (none, 0, 0)) (.c rfl (.c rfl (.c rfl (.n)))) ⟨Nat.zero_le _, Mod.refl _ _, Own.nil _ _ _ _⟩ ?_
  rintro ⟨i, y⟩ w1 ⟨hi, e1, o1⟩ ih
  simp only at hi e1 o1 ih ⊢
  have hb1 := hb.be e1
  have hr1 := hr.be e1
  have z1 := e1.size
  have hyl : y.2.1 = i := by have := o1.len; rw [sv_length, List.length_take] at this; omega
  by_cases hlt : i < x.2.1
  · have hA : x.1 ≠ none := by obtain ⟨_, _, hq, _⟩ := hr1.2 (by omega); rw [hq]; simp
    have hv : (rowV itV l)[i * 4 + 0]? = some (.string (ofL (l.getD i []))) := rowV_at itV_len l i 0 [] (by omega) (by omega)
    have htk : l.take (i + 1) = l.take i ++ [l.getD i []] := take_snoc l i [] (by omega)
    generalize l.getD i [] = k at hv htk
    repeat (first | refine T_seq ?_ | refine T_region ?_ | refine T_cond_true rfl ?_ | refine T_block ?_ | refine T_skip ?_ | refine TL_lt_t (hk := ?_) | refine TL_nil ?_ | refine TL_move (hk := ?_) | refine TL_load TE (hk := ?_) | refine TL_load_rd TE (hk := ?_) | refine TL_fieldAddr TE (hk := ?_) | refine TL_fieldAddr_e TE (hk := ?_) | refine TL_indexAddrn TE (hk := ?_) | refine TL_len TE (hk := ?_) | refine TL_nilCheck (hk := ?_))
    refine TL_buildSlice TE (hk := ?_); intro b2 w2 e2 h2 h2' k2
    have r2 : Rd w2 (some ⟨b2, 0, none⟩) 1 1 (sv [k]) := Rd.blk k2 rfl
    have o2 := o1.be e2
    have z2 := e2.size
    have hone := sv_one [k]
    --
    refine TL_append TE (hk := ?_); intro A3 c3 w3 o3 m3 n3
    rw [← sv_append, ← htk] at o3
    have e3 : Ext w w3 := (e1.ext e2).own m3 o1.hi
    repeat (first | refine T_region ?_ | refine T_inBlock ?_ | refine TL_add (hk := ?_) | refine TL_nil ?_ | refine TL_move (hk := ?_) | refine TL_assign (hk := ?_))
    exact ih (i + 1, (A3, y.2.1 + 1, c3)) _ _ (by simp only; omega) ⟨by simp only; omega, e3, o3⟩ (.c rfl (.c rfl (.c rfl (.n))))
  · have htk : l.take i = l := List.take_of_length_le (by omega)
    rw [htk] at o1
    clear ih
    repeat (first | refine T_seq ?_ | refine T_region ?_ | refine T_cond_false rfl ?_ | refine T_exit rfl ?_ | refine TL_lt_f (hk := ?_) | refine TL_nil ?_ | refine TL_move (hk := ?_) | refine TL_assign (hk := ?_) | refine TL_load TE (hk := ?_) | refine TL_fieldAddr TE (hk := ?_) | refine TL_len TE (hk := ?_) | refine TL_nilCheck (hk := ?_))
    exact T_ret1 rfl rfl ⟨y, rfl, e1, o1⟩
def rowN (P : Nat) (f : Nat → Nat) : List Value := (List.range P).map fun p => .int .i64 ((f p : Nat) : Int)
theorem rowN_len (P : Nat) (f : Nat → Nat) : (rowN P f).length = P := by simp [rowN]
theorem rowN_get {P : Nat} (f : Nat → Nat) {p : Nat} (h : p < P) : (rowN P f)[p]? = some (.int .i64 ((f p : Nat) : Int)) := by simp [rowN, h]
theorem rowN_set {P : Nat} (f g : Nat → Nat) {q : Nat} (hg : ∀ p, g p = if p = q then f p + 1 else f p) : (rowN P f).set q (.int .i64 (((f q : Nat) : Int) + 1)) = rowN P g := by
  apply List.ext_getElem?
  intro p
  rw [List.getElem?_set]
  by_cases e : q = p
  · subst e
    rw [if_pos rfl]
    by_cases h : q < P
    · rw [if_pos (by rw [rowN_len]; exact h), rowN_get _ h, hg, if_pos rfl]; simp
    · rw [if_neg (by rw [rowN_len]; exact h), List.getElem?_eq_none (by rw [rowN_len]; omega)]
  · rw [if_neg e]
    by_cases h : p < P
    · rw [rowN_get _ h, rowN_get _ h, hg, if_neg (fun z => e z.symm)]
    · rw [List.getElem?_eq_none (by rw [rowN_len]; omega), List.getElem?_eq_none (by rw [rowN_len]; omega)]
def cN (P : Nat) (l : List Tx) (p : Nat) : Nat := (l.filter fun k => decide (partT k P = p)).length
theorem cN_succ (P : Nat) (l : List Tx) (i p : Nat) (h : i < l.length) : cN P (l.take (i + 1)) p = if p = partT (l.getD i []) P then cN P (l.take i) p + 1 else cN P (l.take i) p := by
  unfold cN
  rw [take_snoc l i [] h, List.filter_append, List.length_append, List.filter_cons]
  by_cases e : partT (l.getD i []) P = p
  · rw [if_pos (by simpa using e), if_pos e.symm]; simp
  · rw [if_neg (by simpa using e), if_neg (fun q => e q.symm)]; simp
theorem cN_le (P : Nat) (l : List Tx) (p : Nat) : cN P l p ≤ l.length := List.length_filter_le _ _
theorem more_yes (C : List CL) (ks : List Tx) (i p : Nat) (h : i < ks.length) (hh : hasE C (ks.getD i []) = false) : moreN C (ks.take (i + 1)) p = if p = partT (ks.getD i []) C.length then moreN C (ks.take i) p + 1 else moreN C (ks.take i) p := by
  rw [more_succ C ks i p h]
  unfold moreB
  rw [hh]
  by_cases e : partT (ks.getD i []) C.length = p
  · rw [if_pos (by rw [decide_eq_true e]; rfl), if_pos e.symm]
  · rw [if_neg (by rw [decide_eq_false e]; simp), if_neg (fun q => e q.symm)]; rfl
theorem more_no (C : List CL) (ks : List Tx) (i p : Nat) (h : i < ks.length) (hh : hasE C (ks.getD i []) = true) : moreN C (ks.take (i + 1)) p = moreN C (ks.take i) p := by
  rw [more_succ C ks i p h]
  unfold moreB
  rw [hh, if_neg (by simp)]
  rfl
theorem RClaim_c (b P r : Nat) (x : SL) (l : List Tx) (S : StE) (base : Nat) (A : Option Addr) (n c : Nat) (ks : List Tx) (w : World) (D : DS P r S l) (hb : Blk w b 89 [.int .i64 (P : Int), .int .i64 (r : Int), sL x]) (ho : Own w base 108 4 x.1 x.2.1 x.2.2 (rowV itV l)) (hbw : base ≤ w.heap.size) (hbx : b ∉ blkL x.1) (hP : P ≤ 64) (hR : 1 ≤ r ∧ r ≤ 4096) (rd : Rd w A n 1 (sv ks)) (hn : n ≤ 50000) (hln : l.length ≤ 500000) (hk : ∀ k ∈ ks, k.length ≤ 9223372036854775807) (hkl : ∀ k ∈ l, k.length ≤ 9223372036854775807) (hA : b ∉ blkL A) :
    Ret Tryz.prog 29 [pB b, .slice A n c] w (fun v w' => v = .int .i64 ((claimE S ks).2 : Int) ∧ (((claimE S ks).2 ≠ 0 ∧ Ext w w') ∨ ((claimE S ks).2 = 0 ∧ Eng.Mod [b] w w' ∧ ∃ x' : SL, Blk w' b 89 [.int .i64 (P : Int), .int .i64 (r : Int), sL x'] ∧ Own w' base 108 4 x'.1 x'.2.1 x'.2.2 (rowV itV (ks.foldl insK l)) ∧ ∀ q ∈ blkL x'.1, q ∈ blkL x.1 ∨ w.heap.size ≤ q))) := by
  have hl : ks.length = n := by have := rd.1; rw [sv_length] at this; omega
  have hxl : l.length = x.2.1 := by have := ho.len; rw [rowV_len itV_len] at this; omega
  have hgk : ∀ i, i < n → (ks.getD i []).length ≤ 9223372036854775807 := fun i hi => hk _ (txs_mem (by omega))
  have hgl : ∀ i, i < x.2.1 → (l.getD i []).length ≤ 9223372036854775807 := fun i hi => hkl _ (txs_mem (by omega))
  have hCl : S.C.length = P := D.d0.cl
  have hP1 := D.d0.pp
  have hbs := hb.lt
  have hfd := fun p (hp : p < P) => D.full ks hp
  have hhs := D.d0.hs
  have hri := D.d0.ri
  unfold claimE
  refine ret_T (n := 160) Tryz.func29 rfl rfl ?_
  repeat (first | refine T_seq ?_ | refine T_region ?_ | refine T_block ?_ | refine TL_nil ?_ | refine TL_assign (hk := ?_))
  refine T_loop (ι := Nat) (fun i => [(5, .int .i64 (i : Int)), (0, pB b), (1, .slice A n c)]) (fun i w' => Ext w w' ∧ i ≤ n ∧ ∀ j, j < i → validT (ks.getD j []) = true) (fun i => n - i) 0 (.c rfl (.c rfl (.c rfl (.n)))) ⟨Mod.refl _ _, Nat.zero_le _, fun j h => absurd h (by omega)⟩ ?_
  rintro i w1 ⟨e1, hi, hu⟩ ih
  have rd1 := rd.be e1
  by_cases hlt : i < n
  · have hA1 : A ≠ none := by obtain ⟨_, _, hq, _⟩ := rd1.2 (by omega); rw [hq]; simp
    have hkk := hgk i hlt
    have hmem := txs_mem (l := ks) (i := i) (by omega)
    obtain ⟨key, hkey⟩ : ∃ key, ks.getD i [] = key := ⟨_, rfl⟩
    rw [hkey] at hkk hmem
    repeat (first | refine T_seq ?_ | refine T_region ?_ | refine T_cond_true rfl ?_ | refine T_block ?_ | refine T_skip ?_ | refine TL_lt_t (hk := ?_) | refine TL_nil ?_ | refine TL_move (hk := ?_) | refine TL_indexAddr1n TE (hk := ?_) | refine TL_len TE (hk := ?_) | refine TL_load_s TE (hk := ?_))
    rw [hkey]
    --
    refine TL_call TE (hc := RValid_c key hkk _) (hk := ?_)
    rintro _ _ ⟨rfl, rfl⟩
    cases hv : validT key with
    | true =>
      repeat (first | refine T_region ?_ | refine T_cond_false rfl ?_ | refine T_inBlock ?_ | refine T_skip ?_ | refine TL_add (hk := ?_) | refine TL_nil ?_ | refine TL_move (hk := ?_) | refine TL_assign (hk := ?_) | refine TL_not (hk := ?_))
      exact ih (i + 1) _ _ (by omega) ⟨e1, by omega, fun j hj => by
        by_cases q : j = i
        · rw [q, hkey]; exact hv
        · exact hu j (by omega)⟩ (.c rfl (.c rfl (.c rfl (.n))))
    | false =>
      have hany : ks.any (fun k => !validT k) = true := List.any_eq_true.2 ⟨key, hmem, by simp [hv]⟩
      rw [if_pos hany]
      clear ih
      repeat (first | refine T_seq ?_ | refine T_region ?_ | refine T_cond_true rfl ?_ | refine TL_nil ?_ | refine TL_assign (hk := ?_) | refine TL_not (hk := ?_))
      exact T_ret1 rfl rfl ⟨rfl, .inl ⟨by simp, e1⟩⟩
  clear ih
  have hany : ks.any (fun k => !validT k) = false := by
    rw [List.any_eq_false]
    intro k hk2
    obtain ⟨j, hj, rfl⟩ := List.mem_iff_getElem.1 hk2
    have := hu j (by omega)
    rw [List.getD_eq_getElem?_getD, List.getElem?_eq_getElem hj] at this
    simpa using this
  rw [if_neg (by rw [hany]; simp)]
  clear hu hany
  repeat (first | refine T_seq ?_ | refine T_region ?_ | refine T_cond_false rfl ?_ | refine T_block ?_ | refine T_exit rfl ?_ | refine TL_lt_f (hk := ?_) | refine TL_nil ?_ | refine TL_move (hk := ?_) | refine TL_assign (hk := ?_) | refine TL_len TE (hk := ?_))
  refine T_loop (ι := Nat) (fun i => [(6, .int .i64 (i : Int)), (0, pB b), (1, .slice A n c)]) (fun i w' => 1 ≤ i ∧ (i ≤ n ∨ i = 1) ∧ Ext w w' ∧ ∀ j, j + 1 < i → ks.getD j [] < ks.getD (j + 1) []) (fun i => n - i) 1 (.c rfl (.c rfl (.c rfl (.n)))) ⟨Nat.le_refl _, .inr rfl, e1, fun j hj => absurd hj (by omega)⟩ ?_
  clear rd1 e1
  rintro i w2 ⟨hi1, hi2, e2, hu⟩ ih
  have rd2 := rd.be e2
  by_cases hlt2 : i < n
  · have hA2 : A ≠ none := by obtain ⟨_, _, hq, _⟩ := rd2.2 (by omega); rw [hq]; simp
    have hic : ((i : Int) - 1) = ((i - 1 : Nat) : Int) := by omega
    have hAD : Off A ([] : List Nat) := .nil _
    obtain ⟨x, hx⟩ : ∃ x, ks.getD i [] = x := ⟨_, rfl⟩
    obtain ⟨y, hy⟩ : ∃ x, ks.getD (i - 1) [] = x := ⟨_, rfl⟩
    by_cases hle : x ≤ y
    · have hr : riseB ks = false := rise_no (j := i - 1) (by omega) (by rw [hy, show i - 1 + 1 = i by omega, hx]; exact List.not_lt.2 hle)
      rw [hr, if_pos rfl]
      clear ih
      repeat (first | refine T_seq ?_ | refine T_region ?_ | refine T_cond_true rfl ?_ | refine T_block ?_ | refine T_skip ?_ | refine TL_lt_t (hk := ?_) | refine TL_nil ?_ | refine TL_move (hk := ?_) | refine TL_len TE (hk := ?_))
      refine T_region_any TE.mixed ([] : List Nat) ?_; intro w3 e3 z3
      have rd3 := rd2.be e3
      (refine TA_take 0 rfl (by kernel_rfl) (by kernel_rfl) (by kernel_rfl) ?_; (repeat (first | refine TL_sub (hk := ?_) | refine TL_move (hk := ?_))); refine TL_nil_p ?_); (refine TA_take 1 rfl (by kernel_rfl) (by kernel_rfl) (by kernel_rfl) ?_; (repeat (first | refine TL_sub (hk := ?_) | refine TL_move (hk := ?_))); refine TL_nil_p ?_); (refine TA_take 2 rfl (by kernel_rfl) (by kernel_rfl) (by kernel_rfl) ?_; (repeat (first | refine TL_sub (hk := ?_) | refine TL_move (hk := ?_))); refine TL_nil_p ?_)
      rw [hic]
      (refine TA_take 3 rfl (by kernel_rfl) (by kernel_rfl) (by kernel_rfl) ?_; (repeat (first | refine TL_move (hk := ?_) | refine TLP_load_s TE (hk := ?_) | refine TL_indexAddr1n TE (hk := ?_))); refine TL_nil_p ?_); (refine TA_take 4 rfl (by kernel_rfl) (by kernel_rfl) (by kernel_rfl) ?_; (repeat (first | refine TL_move (hk := ?_) | refine TLP_load_s TE (hk := ?_) | refine TL_indexAddr1n TE (hk := ?_))); refine TL_nil_p ?_); (refine TA_take 5 rfl (by kernel_rfl) (by kernel_rfl) (by kernel_rfl) ?_; (repeat (first | refine TL_move (hk := ?_) | refine TLP_load_s TE (hk := ?_) | refine TL_indexAddr1n TE (hk := ?_))); refine TL_nil_p ?_); (refine TA_take 6 rfl (by kernel_rfl) (by kernel_rfl) (by kernel_rfl) ?_; (repeat (first | refine TL_move (hk := ?_) | refine TLP_load_s TE (hk := ?_) | refine TL_indexAddr1n TE (hk := ?_))); refine TL_nil_p ?_); (refine TA_take 7 rfl (by kernel_rfl) (by kernel_rfl) (by kernel_rfl) ?_; (repeat (first | refine TL_move (hk := ?_) | refine TLP_load_s TE (hk := ?_) | refine TL_indexAddr1n TE (hk := ?_))); refine TL_nil_p ?_); (refine TA_take 8 rfl (by kernel_rfl) (by kernel_rfl) (by kernel_rfl) ?_; (repeat (first | refine TL_move (hk := ?_) | refine TLP_load_s TE (hk := ?_) | refine TL_indexAddr1n TE (hk := ?_))); refine TL_nil_p ?_)
      rw [hx, hy]
      (refine TA_one 9 rfl (by kernel_rfl) (by kernel_rfl) ?_; (repeat (refine TL_sge_t (hk := ?_))); refine TL_nil_p ?_)
      refine TA_done (by kernel_rfl) ?_
      repeat (first | refine T_seq ?_ | refine T_region ?_ | refine T_cond_true rfl ?_ | refine TL_nil ?_ | refine TL_assign (hk := ?_))
      exact T_ret1 rfl rfl ⟨rfl, .inl ⟨by simp, e2.ext e3⟩⟩
    · repeat (first | refine T_seq ?_ | refine T_region ?_ | refine T_cond_true rfl ?_ | refine T_block ?_ | refine T_skip ?_ | refine TL_lt_t (hk := ?_) | refine TL_nil ?_ | refine TL_move (hk := ?_) | refine TL_len TE (hk := ?_))
      refine T_region_any TE.mixed ([] : List Nat) ?_; intro w3 e3 z3
      have rd3 := rd2.be e3
      (refine TA_take 0 rfl (by kernel_rfl) (by kernel_rfl) (by kernel_rfl) ?_; (repeat (first | refine TL_sub (hk := ?_) | refine TL_move (hk := ?_))); refine TL_nil_p ?_); (refine TA_take 1 rfl (by kernel_rfl) (by kernel_rfl) (by kernel_rfl) ?_; (repeat (first | refine TL_sub (hk := ?_) | refine TL_move (hk := ?_))); refine TL_nil_p ?_); (refine TA_take 2 rfl (by kernel_rfl) (by kernel_rfl) (by kernel_rfl) ?_; (repeat (first | refine TL_sub (hk := ?_) | refine TL_move (hk := ?_))); refine TL_nil_p ?_)
      rw [hic]
      (refine TA_take 3 rfl (by kernel_rfl) (by kernel_rfl) (by kernel_rfl) ?_; (repeat (first | refine TL_move (hk := ?_) | refine TLP_load_s TE (hk := ?_) | refine TL_indexAddr1n TE (hk := ?_))); refine TL_nil_p ?_); (refine TA_take 4 rfl (by kernel_rfl) (by kernel_rfl) (by kernel_rfl) ?_; (repeat (first | refine TL_move (hk := ?_) | refine TLP_load_s TE (hk := ?_) | refine TL_indexAddr1n TE (hk := ?_))); refine TL_nil_p ?_); (refine TA_take 5 rfl (by kernel_rfl) (by kernel_rfl) (by kernel_rfl) ?_; (repeat (first | refine TL_move (hk := ?_) | refine TLP_load_s TE (hk := ?_) | refine TL_indexAddr1n TE (hk := ?_))); refine TL_nil_p ?_); (refine TA_take 6 rfl (by kernel_rfl) (by kernel_rfl) (by kernel_rfl) ?_; (repeat (first | refine TL_move (hk := ?_) | refine TLP_load_s TE (hk := ?_) | refine TL_indexAddr1n TE (hk := ?_))); refine TL_nil_p ?_); (refine TA_take 7 rfl (by kernel_rfl) (by kernel_rfl) (by kernel_rfl) ?_; (repeat (first | refine TL_move (hk := ?_) | refine TLP_load_s TE (hk := ?_) | refine TL_indexAddr1n TE (hk := ?_))); refine TL_nil_p ?_); (refine TA_take 8 rfl (by kernel_rfl) (by kernel_rfl) (by kernel_rfl) ?_; (repeat (first | refine TL_move (hk := ?_) | refine TLP_load_s TE (hk := ?_) | refine TL_indexAddr1n TE (hk := ?_))); refine TL_nil_p ?_)
      rw [hx, hy]
      (refine TA_one 9 rfl (by kernel_rfl) (by kernel_rfl) ?_; (repeat (refine TL_sge_f (hk := ?_))); refine TL_nil_p ?_)
      refine TA_done (by kernel_rfl) ?_
      repeat (first | refine T_region ?_ | refine T_cond_false rfl ?_ | refine T_inBlock ?_ | refine T_skip ?_ | refine TL_add (hk := ?_) | refine TL_nil ?_ | refine TL_move (hk := ?_) | refine TL_assign (hk := ?_))
      exact ih (i + 1) w3 _ (by omega) ⟨by omega, by omega, e2.ext e3, fun j hj => by
        by_cases q : j + 1 = i
        · subst q
          rw [hx]
          rw [show j + 1 - 1 = j by omega] at hy
          rw [hy]
          exact List.not_le.1 hle
        · exact hu j (by omega)⟩ (.c rfl (.c rfl (.c rfl (.n))))
  clear ih
  have hr : riseB ks = true := rise_yes (fun j hj => hu j (by omega))
  rw [hr, if_neg (by simp)]
  have hb2 := hb.be e2
  clear hu hi1 hi2
  repeat (first | refine T_seq ?_ | refine T_region ?_ | refine T_cond_false rfl ?_ | refine T_exit rfl ?_ | refine TL_lt_f (hk := ?_) | refine TL_nil ?_ | refine TL_move (hk := ?_) | refine TL_load TE (hk := ?_) | refine TL_fieldAddr TE (hk := ?_) | refine TL_len TE (hk := ?_) | refine TL_nilCheck (hk := ?_))
  refine TL_makeSlice TE (m := P) (hk := ?_); intro bM w3 e3 h3 h3' k3
  have hm0 : List.replicate P (Value.int .i64 0) = rowN P (cN P (l.take 0)) := by
    symm
    refine List.eq_replicate_iff.2 ⟨by rw [rowN_len], fun u hu => ?_⟩
    obtain ⟨p, _, rfl⟩ := List.mem_map.1 hu
    simp [cN]
  have o3 : Own w3 w2.heap.size 3 1 (some ⟨bM, 0, none⟩) P P (rowN P (cN P (l.take 0))) := by
    rw [← hm0]
    exact Own.of_blk k3 h3 (by simp) (by unfold maxLen; omega)
  have z3 := e3.size
  have z2 := e2.size
  clear k3 hm0 hb2
  repeat (first | refine T_seq ?_ | refine T_region ?_ | refine T_block ?_ | refine TL_nil ?_ | refine TL_assign (hk := ?_))
  refine T_loop (ι := Nat) (fun i => [(8, .int .i64 (i : Int)), (7, .slice (some ⟨bM, 0, none⟩) P P), (0, pB b), (1, .slice A n c)]) (fun i w' => i ≤ x.2.1 ∧ Ext w2 w' ∧ Own w' w2.heap.size 3 1 (some ⟨bM, 0, none⟩) P P (rowN P (cN P (l.take i)))) (fun i => x.2.1 - i) 0 (.c rfl (.c rfl (.c rfl (.c rfl (.n))))) ⟨Nat.zero_le _, e3, o3⟩ ?_
  clear o3
  rintro i w4 ⟨hi4, e4, o4⟩ ih
  have hb4 := hb.be (e2.ext e4)
  have rx4 := ho.rd.be (e2.ext e4)
  by_cases hlt4 : i < x.2.1
  · have hxA : x.1 ≠ none := by obtain ⟨_, _, hq, _⟩ := rx4.2 (by omega); rw [hq]; simp
    have hkk := hgl i hlt4
    have hv : (rowV itV l)[i * 4 + 0]? = some (.string (ofL (l.getD i []))) := rowV_at itV_len l i 0 [] (by omega) (by omega)
    have hcs := fun p => cN_succ P l i p (by omega)
    have hcl := fun p => cN_le P (l.take i) p
    have htl : (l.take i).length ≤ 500000 := by rw [List.length_take]; omega
    obtain ⟨key, hkey⟩ : ∃ key, l.getD i [] = key := ⟨_, rfl⟩
    rw [hkey] at hkk hv
    rw [hkey] at hcs
    have hp := partT_lt key hP1
    have hm1 : (((hashT key : Nat) : Int) % ((P : Nat) : Int)) = ((partT key P : Nat) : Int) := by unfold partT; omega
    have hpv : (if ((P : Nat) : Int) < 1 then 0 else ((hashT key : Nat) : Int) % ((P : Nat) : Int)) = ((partT key P : Nat) : Int) := by
      rw [if_neg (by omega), hm1]
    have hmn : cN P (l.take i) (partT key P) ≤ 500000 := Nat.le_trans (hcl _) htl
    have hvr := rowN_get (cN P (l.take i)) hp
    have hset := rowN_set (P := P) (cN P (l.take i)) (cN P (l.take (i + 1))) hcs
    have hbD : b ∉ ([] : List Nat) := by simp
    have hxD : Off x.1 ([] : List Nat) := .nil _
    repeat (first | refine T_seq ?_ | refine T_region ?_ | refine T_cond_true rfl ?_ | refine T_block ?_ | refine T_skip ?_ | refine TL_lt_t (hk := ?_) | refine TL_nil ?_ | refine TL_move (hk := ?_) | refine TL_load TE (hk := ?_) | refine TL_fieldAddr TE (hk := ?_) | refine TL_len TE (hk := ?_) | refine TL_nilCheck (hk := ?_))
    refine T_region_anyz TE.mixed ([] : List Nat) (some 18) ?_; intro w6 e6 z6
    have o6 := o4.be e6
    have rx6 := rx4.be e6
    have hb6 := hb4.be e6
    have hMD : Off (some (⟨bM, 0, none⟩ : Addr)) ([] : List Nat) := .nil _
    have or6 := o6.rd
    (refine TA_take 0 rfl (by kernel_rfl) (by kernel_rfl) (by kernel_rfl) ?_; (repeat (first | refine TL_move (hk := ?_) | refine TLP_load TE (hk := ?_) | refine TLP_load_rd TE (hk := ?_) | refine TL_fieldAddr TE (hk := ?_) | refine TL_fieldAddr_e TE (hk := ?_) | refine TL_indexAddrn TE (hk := ?_) | refine TL_nilCheck (hk := ?_))); refine TL_nil_p ?_); (refine TA_take 1 rfl (by kernel_rfl) (by kernel_rfl) (by kernel_rfl) ?_; (repeat (first | refine TL_move (hk := ?_) | refine TLP_load TE (hk := ?_) | refine TLP_load_rd TE (hk := ?_) | refine TL_fieldAddr TE (hk := ?_) | refine TL_fieldAddr_e TE (hk := ?_) | refine TL_indexAddrn TE (hk := ?_) | refine TL_nilCheck (hk := ?_))); refine TL_nil_p ?_); (refine TA_take 2 rfl (by kernel_rfl) (by kernel_rfl) (by kernel_rfl) ?_; (repeat (first | refine TL_move (hk := ?_) | refine TLP_load TE (hk := ?_) | refine TLP_load_rd TE (hk := ?_) | refine TL_fieldAddr TE (hk := ?_) | refine TL_fieldAddr_e TE (hk := ?_) | refine TL_indexAddrn TE (hk := ?_) | refine TL_nilCheck (hk := ?_))); refine TL_nil_p ?_); (refine TA_take 3 rfl (by kernel_rfl) (by kernel_rfl) (by kernel_rfl) ?_; (repeat (first | refine TL_move (hk := ?_) | refine TLP_load TE (hk := ?_) | refine TLP_load_rd TE (hk := ?_) | refine TL_fieldAddr TE (hk := ?_) | refine TL_fieldAddr_e TE (hk := ?_) | refine TL_indexAddrn TE (hk := ?_) | refine TL_nilCheck (hk := ?_))); refine TL_nil_p ?_); (refine TA_take 4 rfl (by kernel_rfl) (by kernel_rfl) (by kernel_rfl) ?_; (repeat (first | refine TL_move (hk := ?_) | refine TLP_load TE (hk := ?_) | refine TLP_load_rd TE (hk := ?_) | refine TL_fieldAddr TE (hk := ?_) | refine TL_fieldAddr_e TE (hk := ?_) | refine TL_indexAddrn TE (hk := ?_) | refine TL_nilCheck (hk := ?_))); refine TL_nil_p ?_); (refine TA_take 5 rfl (by kernel_rfl) (by kernel_rfl) (by kernel_rfl) ?_; (repeat (first | refine TL_move (hk := ?_) | refine TLP_load TE (hk := ?_) | refine TLP_load_rd TE (hk := ?_) | refine TL_fieldAddr TE (hk := ?_) | refine TL_fieldAddr_e TE (hk := ?_) | refine TL_indexAddrn TE (hk := ?_) | refine TL_nilCheck (hk := ?_))); refine TL_nil_p ?_); (refine TA_take 6 rfl (by kernel_rfl) (by kernel_rfl) (by kernel_rfl) ?_; (repeat (first | refine TL_move (hk := ?_) | refine TLP_load TE (hk := ?_) | refine TLP_load_rd TE (hk := ?_) | refine TL_fieldAddr TE (hk := ?_) | refine TL_fieldAddr_e TE (hk := ?_) | refine TL_indexAddrn TE (hk := ?_) | refine TL_nilCheck (hk := ?_))); refine TL_nil_p ?_); (refine TA_take 7 rfl (by kernel_rfl) (by kernel_rfl) (by kernel_rfl) ?_; (repeat (first | refine TL_move (hk := ?_) | refine TLP_load TE (hk := ?_) | refine TLP_load_rd TE (hk := ?_) | refine TL_fieldAddr TE (hk := ?_) | refine TL_fieldAddr_e TE (hk := ?_) | refine TL_indexAddrn TE (hk := ?_) | refine TL_nilCheck (hk := ?_))); refine TL_nil_p ?_); (refine TA_take 8 rfl (by kernel_rfl) (by kernel_rfl) (by kernel_rfl) ?_; (repeat (first | refine TL_move (hk := ?_) | refine TLP_load TE (hk := ?_) | refine TLP_load_rd TE (hk := ?_) | refine TL_fieldAddr TE (hk := ?_) | refine TL_fieldAddr_e TE (hk := ?_) | refine TL_indexAddrn TE (hk := ?_) | refine TL_nilCheck (hk := ?_))); refine TL_nil_p ?_); (refine TA_take 9 rfl (by kernel_rfl) (by kernel_rfl) (by kernel_rfl) ?_; (repeat (first | refine TL_move (hk := ?_) | refine TLP_load TE (hk := ?_) | refine TLP_load_rd TE (hk := ?_) | refine TL_fieldAddr TE (hk := ?_) | refine TL_fieldAddr_e TE (hk := ?_) | refine TL_indexAddrn TE (hk := ?_) | refine TL_nilCheck (hk := ?_))); refine TL_nil_p ?_); (refine TA_take 10 rfl (by kernel_rfl) (by kernel_rfl) (by kernel_rfl) ?_; (repeat (first | refine TL_move (hk := ?_) | refine TLP_load TE (hk := ?_) | refine TLP_load_rd TE (hk := ?_) | refine TL_fieldAddr TE (hk := ?_) | refine TL_fieldAddr_e TE (hk := ?_) | refine TL_indexAddrn TE (hk := ?_) | refine TL_nilCheck (hk := ?_))); refine TL_nil_p ?_); (refine TA_take 11 rfl (by kernel_rfl) (by kernel_rfl) (by kernel_rfl) ?_; (repeat (first | refine TL_move (hk := ?_) | refine TLP_load TE (hk := ?_) | refine TLP_load_rd TE (hk := ?_) | refine TL_fieldAddr TE (hk := ?_) | refine TL_fieldAddr_e TE (hk := ?_) | refine TL_indexAddrn TE (hk := ?_) | refine TL_nilCheck (hk := ?_))); refine TL_nil_p ?_); (refine TA_take 12 rfl (by kernel_rfl) (by kernel_rfl) (by kernel_rfl) ?_; (repeat (first | refine TL_move (hk := ?_) | refine TLP_load TE (hk := ?_) | refine TLP_load_rd TE (hk := ?_) | refine TL_fieldAddr TE (hk := ?_) | refine TL_fieldAddr_e TE (hk := ?_) | refine TL_indexAddrn TE (hk := ?_) | refine TL_nilCheck (hk := ?_))); refine TL_nil_p ?_)
    refine TA_one 13 rfl (by kernel_rfl) (by kernel_rfl) ?_; (try refine TL_yes (hk := ?_)); refine TL_call TE (hc := (RPartition_c key hkk (P : Int) (by omega) w6)) (hq := (by rintro _ w' ⟨rfl, rfl⟩; exact Mod.refl _ _)) (hk := ?_)
    rintro _ _ ⟨rfl, rfl⟩
    rw [hpv]
    refine TL_nil_p ?_
    (refine TA_take 14 rfl (by kernel_rfl) (by kernel_rfl) (by kernel_rfl) ?_; (repeat (first | refine TL_add (hk := ?_) | refine TLP_load_rd TE (hk := ?_) | refine TL_indexAddr1n TE (hk := ?_))); refine TL_nil_p ?_); (refine TA_take 15 rfl (by kernel_rfl) (by kernel_rfl) (by kernel_rfl) ?_; (repeat (first | refine TL_add (hk := ?_) | refine TLP_load_rd TE (hk := ?_) | refine TL_indexAddr1n TE (hk := ?_))); refine TL_nil_p ?_); (refine TA_take 16 rfl (by kernel_rfl) (by kernel_rfl) (by kernel_rfl) ?_; (repeat (first | refine TL_add (hk := ?_) | refine TLP_load_rd TE (hk := ?_) | refine TL_indexAddr1n TE (hk := ?_))); refine TL_nil_p ?_); (refine TA_take 17 rfl (by kernel_rfl) (by kernel_rfl) (by kernel_rfl) ?_; (repeat (first | refine TL_add (hk := ?_) | refine TLP_load_rd TE (hk := ?_) | refine TL_indexAddr1n TE (hk := ?_))); refine TL_nil_p ?_)
    refine TA_one 18 rfl (by kernel_rfl) (by kernel_rfl) ?_
    refine TL_store_own TE (ho := o6) (hj := by rw [rowN_len]; exact hp) (hf := rfl) (hq := fun _ _ _ => trivial) (hk := ?_); intro w7 m7 z7 o7
    refine TL_nil_z (by kernel_rfl) ?_
    rw [hset] at o7
    repeat (first | refine T_region ?_ | refine T_inBlock ?_ | refine TL_add (hk := ?_) | refine TL_nil ?_ | refine TL_move (hk := ?_) | refine TL_assign (hk := ?_))
    exact ih (i + 1) w7 _ (by omega) ⟨by omega, (e4.ext e6).own m7 o6.hi, o7⟩ (.c rfl (.c rfl (.c rfl (.c rfl (.n)))))
  clear ih
  have htk : l.take i = l := List.take_of_length_le (by omega)
  rw [htk] at o4
  clear htk
  have hz : ∀ p, cN P l p = cN P l p + moreN S.C (ks.take 0) p := fun p => by simp [moreN]
  rw [show cN P l = fun p => cN P l p + moreN S.C (ks.take 0) p from funext hz] at o4
  clear hz
  repeat (first | refine T_seq ?_ | refine T_region ?_ | refine T_cond_false rfl ?_ | refine T_block ?_ | refine T_exit rfl ?_ | refine TL_lt_f (hk := ?_) | refine TL_nil ?_ | refine TL_move (hk := ?_) | refine TL_assign (hk := ?_) | refine TL_load TE (hk := ?_) | refine TL_fieldAddr TE (hk := ?_) | refine TL_len TE (hk := ?_) | refine TL_nilCheck (hk := ?_))
  refine T_loop (ι := Nat) (fun i => [(9, .int .i64 (i : Int)), (7, .slice (some ⟨bM, 0, none⟩) P P), (0, pB b), (1, .slice A n c)]) (fun i w' => i ≤ n ∧ Ext w2 w' ∧ Own w' w2.heap.size 3 1 (some ⟨bM, 0, none⟩) P P (rowN P fun p => cN P l p + moreN S.C (ks.take i) p)) (fun i => n - i) 0 (.c rfl (.c rfl (.c rfl (.c rfl (.n))))) ⟨Nat.zero_le _, e4, o4⟩ ?_
  clear o4 hb4 rx4 e4 hlt4 hi4
  rintro i w4 ⟨hi4, e4, o4⟩ ih
  have rd4 := rd2.be e4
  have hb4 := hb.be (e2.ext e4)
  have rx4 := ho.rd.be (e2.ext e4)
  by_cases hlt4 : i < n
  · have hA4 : A ≠ none := by obtain ⟨_, _, hq, _⟩ := rd4.2 (by omega); rw [hq]; simp
    have hkk := hgk i hlt4
    have hmy := fun p => more_yes S.C ks i p (by omega)
    have hmo := fun p => more_no S.C ks i p (by omega)
    have hhk := hhs (ks.getD i [])
    obtain ⟨key, hkey⟩ : ∃ key, ks.getD i [] = key := ⟨_, rfl⟩
    rw [hkey] at hkk hhk
    rw [hkey, hCl] at hmy
    rw [hkey] at hmo
    have hp := partT_lt key hP1
    have hm1 : (((hashT key : Nat) : Int) % ((P : Nat) : Int)) = ((partT key P : Nat) : Int) := by unfold partT; omega
    have hpv : (if ((P : Nat) : Int) < 1 then 0 else ((hashT key : Nat) : Int) % ((P : Nat) : Int)) = ((partT key P : Nat) : Int) := by
      rw [if_neg (by omega), hm1]
    have hmn : cN P l (partT key P) + moreN S.C (ks.take i) (partT key P) ≤ 600000 := by
      have h1 := cN_le P l (partT key P)
      have h2 : moreN S.C (ks.take i) (partT key P) ≤ 50000 := by unfold moreN; exact Nat.le_trans (List.length_filter_le _ _) (by rw [List.length_take]; omega)
      omega
    have hvr := rowN_get (fun p => cN P l p + moreN S.C (ks.take i) p) hp
    repeat (first | refine T_seq ?_ | refine T_region ?_ | refine T_cond_true rfl ?_ | refine T_block ?_ | refine T_skip ?_ | refine TL_lt_t (hk := ?_) | refine TL_nil ?_ | refine TL_move (hk := ?_) | refine TL_indexAddr1n TE (hk := ?_) | refine TL_len TE (hk := ?_) | refine TL_load_s TE (hk := ?_))
    rw [hkey]
    --
    refine TL_call TE (hc := RClaimed_c b (P : Int) (r : Int) x l key w4 hri hb4 rx4 (by omega)) (hk := ?_)
    rintro _ w5 ⟨rfl, e5⟩
    have o5 := o4.be e5
    have rd5 := rd4.be e5
    have hb5 := hb4.be e5
    by_cases hin : key ∈ l
    · rw [decide_eq_true hin]
      have hsm : (fun p => cN P l p + moreN S.C (ks.take (i + 1)) p) = fun p => cN P l p + moreN S.C (ks.take i) p := funext fun p => by rw [hmo p (hhk.1 hin)]
      repeat (first | refine T_region ?_ | refine T_cond_false rfl ?_ | refine T_inBlock ?_ | refine T_skip ?_ | refine TL_add (hk := ?_) | refine TL_nil ?_ | refine TL_move (hk := ?_) | refine TL_assign (hk := ?_) | refine TL_not (hk := ?_))
      exact ih (i + 1) w5 _ (by omega) ⟨by omega, e4.ext e5, by rw [hsm]; exact o5⟩ (.c rfl (.c rfl (.c rfl (.c rfl (.n)))))
    · rw [decide_eq_false hin]
      have hno : hasE S.C key = false := by
        cases hq : hasE S.C key with
        | false => rfl
        | true => exact absurd (hhk.2 hq) hin
      have hset := rowN_set (P := P) (fun p => cN P l p + moreN S.C (ks.take i) p) (fun p => cN P l p + moreN S.C (ks.take (i + 1)) p) (q := partT key P) (fun p => by
        rw [hmy p hno]
        split <;> omega)

      have hbD : b ∉ ([] : List Nat) := by simp
      have hAD : Off A ([] : List Nat) := .nil _
      clear rd4 hb4 o4 rx4
      repeat (first | refine T_cond_true rfl ?_ | refine TL_nil ?_ | refine TL_not (hk := ?_))
      refine T_region_anyz TE.mixed ([] : List Nat) (some 14) ?_; intro w6 e6 z6
      have o6 := o5.be e6
      have rd6 := rd5.be e6
      have hb6 := hb5.be e6
      have hMD : Off (some (⟨bM, 0, none⟩ : Addr)) ([] : List Nat) := .nil _
      have or6 := o6.rd
      (refine TA_take 0 rfl (by kernel_rfl) (by kernel_rfl) (by kernel_rfl) ?_; (repeat (first | refine TL_move (hk := ?_) | refine TLP_load TE (hk := ?_) | refine TLP_load_s TE (hk := ?_) | refine TL_fieldAddr TE (hk := ?_) | refine TL_indexAddr1n TE (hk := ?_) | refine TL_nilCheck (hk := ?_))); refine TL_nil_p ?_); (refine TA_take 1 rfl (by kernel_rfl) (by kernel_rfl) (by kernel_rfl) ?_; (repeat (first | refine TL_move (hk := ?_) | refine TLP_load TE (hk := ?_) | refine TLP_load_s TE (hk := ?_) | refine TL_fieldAddr TE (hk := ?_) | refine TL_indexAddr1n TE (hk := ?_) | refine TL_nilCheck (hk := ?_))); refine TL_nil_p ?_); (refine TA_take 2 rfl (by kernel_rfl) (by kernel_rfl) (by kernel_rfl) ?_; (repeat (first | refine TL_move (hk := ?_) | refine TLP_load TE (hk := ?_) | refine TLP_load_s TE (hk := ?_) | refine TL_fieldAddr TE (hk := ?_) | refine TL_indexAddr1n TE (hk := ?_) | refine TL_nilCheck (hk := ?_))); refine TL_nil_p ?_); (refine TA_take 3 rfl (by kernel_rfl) (by kernel_rfl) (by kernel_rfl) ?_; (repeat (first | refine TL_move (hk := ?_) | refine TLP_load TE (hk := ?_) | refine TLP_load_s TE (hk := ?_) | refine TL_fieldAddr TE (hk := ?_) | refine TL_indexAddr1n TE (hk := ?_) | refine TL_nilCheck (hk := ?_))); refine TL_nil_p ?_); (refine TA_take 4 rfl (by kernel_rfl) (by kernel_rfl) (by kernel_rfl) ?_; (repeat (first | refine TL_move (hk := ?_) | refine TLP_load TE (hk := ?_) | refine TLP_load_s TE (hk := ?_) | refine TL_fieldAddr TE (hk := ?_) | refine TL_indexAddr1n TE (hk := ?_) | refine TL_nilCheck (hk := ?_))); refine TL_nil_p ?_); (refine TA_take 5 rfl (by kernel_rfl) (by kernel_rfl) (by kernel_rfl) ?_; (repeat (first | refine TL_move (hk := ?_) | refine TLP_load TE (hk := ?_) | refine TLP_load_s TE (hk := ?_) | refine TL_fieldAddr TE (hk := ?_) | refine TL_indexAddr1n TE (hk := ?_) | refine TL_nilCheck (hk := ?_))); refine TL_nil_p ?_); (refine TA_take 6 rfl (by kernel_rfl) (by kernel_rfl) (by kernel_rfl) ?_; (repeat (first | refine TL_move (hk := ?_) | refine TLP_load TE (hk := ?_) | refine TLP_load_s TE (hk := ?_) | refine TL_fieldAddr TE (hk := ?_) | refine TL_indexAddr1n TE (hk := ?_) | refine TL_nilCheck (hk := ?_))); refine TL_nil_p ?_); (refine TA_take 7 rfl (by kernel_rfl) (by kernel_rfl) (by kernel_rfl) ?_; (repeat (first | refine TL_move (hk := ?_) | refine TLP_load TE (hk := ?_) | refine TLP_load_s TE (hk := ?_) | refine TL_fieldAddr TE (hk := ?_) | refine TL_indexAddr1n TE (hk := ?_) | refine TL_nilCheck (hk := ?_))); refine TL_nil_p ?_); (refine TA_take 8 rfl (by kernel_rfl) (by kernel_rfl) (by kernel_rfl) ?_; (repeat (first | refine TL_move (hk := ?_) | refine TLP_load TE (hk := ?_) | refine TLP_load_s TE (hk := ?_) | refine TL_fieldAddr TE (hk := ?_) | refine TL_indexAddr1n TE (hk := ?_) | refine TL_nilCheck (hk := ?_))); refine TL_nil_p ?_)
      rw [hkey]
      refine TA_one 9 rfl (by kernel_rfl) (by kernel_rfl) ?_; (try refine TL_yes (hk := ?_)); refine TL_call TE (hc := (RPartition_c key hkk (P : Int) (by omega) w6)) (hq := (by rintro _ w' ⟨rfl, rfl⟩; exact Mod.refl _ _)) (hk := ?_)
      rintro _ _ ⟨rfl, rfl⟩
      rw [hpv]
      refine TL_nil_p ?_
      (refine TA_take 10 rfl (by kernel_rfl) (by kernel_rfl) (by kernel_rfl) ?_; (repeat (first | refine TL_add (hk := ?_) | refine TLP_load_rd TE (hk := ?_) | refine TL_indexAddr1n TE (hk := ?_))); refine TL_nil_p ?_); (refine TA_take 11 rfl (by kernel_rfl) (by kernel_rfl) (by kernel_rfl) ?_; (repeat (first | refine TL_add (hk := ?_) | refine TLP_load_rd TE (hk := ?_) | refine TL_indexAddr1n TE (hk := ?_))); refine TL_nil_p ?_); (refine TA_take 12 rfl (by kernel_rfl) (by kernel_rfl) (by kernel_rfl) ?_; (repeat (first | refine TL_add (hk := ?_) | refine TLP_load_rd TE (hk := ?_) | refine TL_indexAddr1n TE (hk := ?_))); refine TL_nil_p ?_); (refine TA_take 13 rfl (by kernel_rfl) (by kernel_rfl) (by kernel_rfl) ?_; (repeat (first | refine TL_add (hk := ?_) | refine TLP_load_rd TE (hk := ?_) | refine TL_indexAddr1n TE (hk := ?_))); refine TL_nil_p ?_)
      refine TA_one 14 rfl (by kernel_rfl) (by kernel_rfl) ?_
      refine TL_store_own TE (ho := o6) (hj := by rw [rowN_len]; exact hp) (hf := rfl) (hq := fun _ _ _ => trivial) (hk := ?_); intro w7 m7 z7 o7
      refine TL_nil_z (by kernel_rfl) ?_
      rw [hset] at o7
      repeat (first | refine T_region ?_ | refine T_inBlock ?_ | refine TL_add (hk := ?_) | refine TL_nil ?_ | refine TL_move (hk := ?_) | refine TL_assign (hk := ?_))
      exact ih (i + 1) w7 _ (by omega) ⟨by omega, ((e4.ext e5).ext e6).own m7 o6.hi, o7⟩ (.c rfl (.c rfl (.c rfl (.c rfl (.n)))))
  clear ih
  have htk : ks.take i = ks := List.take_of_length_le (by omega)
  rw [htk] at o4
  clear htk rx4
  repeat (first | refine T_seq ?_ | refine T_region ?_ | refine T_cond_false rfl ?_ | refine T_block ?_ | refine T_exit rfl ?_ | refine TL_lt_f (hk := ?_) | refine TL_nil ?_ | refine TL_move (hk := ?_) | refine TL_assign (hk := ?_) | refine TL_len TE (hk := ?_))
  refine T_loop (ι := Nat) (fun j => [(10, .int .i64 (j : Int)), (7, .slice (some ⟨bM, 0, none⟩) P P), (0, pB b), (1, .slice A n c)]) (fun j w' => j ≤ P ∧ Ext w4 w' ∧ ∀ p, p < j → fullB S ks p = false) (fun j => P - j) 0 (.c rfl (.c rfl (.c rfl (.c rfl (.n))))) ⟨Nat.zero_le _, Mod.refl _ _, fun p h => absurd h (by omega)⟩ ?_
  rintro j w5 ⟨hj, e5, hu⟩ ih
  have o5 := o4.be e5
  have hb5 := hb4.be e5
  have or5 := o5.rd
  by_cases hltj : j < P
  · have hvr := rowN_get (fun p => cN P l p + moreN S.C ks p) hltj
    have hmn : cN P l j + moreN S.C ks j ≤ 600000 := by
      have h1 := cN_le P l j
      have h2 : moreN S.C ks j ≤ 50000 := by unfold moreN; exact Nat.le_trans (List.length_filter_le _ _) (by omega)
      omega
    have hfj := hfd j hltj
    have hbD : b ∉ ([] : List Nat) := by simp
    have hMD : Off (some (⟨bM, 0, none⟩ : Addr)) ([] : List Nat) := .nil _
    by_cases hful : r < cN P l j + moreN S.C ks j
    · have hany : (List.range S.C.length).any (fullB S ks) = true := List.any_eq_true.2 ⟨j, List.mem_range.2 (by rw [hCl]; exact hltj), by rw [hfj]; exact decide_eq_true hful⟩
      rw [if_pos hany]
      clear ih
      repeat (first | refine T_seq ?_ | refine T_region ?_ | refine T_cond_true rfl ?_ | refine T_block ?_ | refine T_skip ?_ | refine TL_lt_t (hk := ?_) | refine TL_nil ?_ | refine TL_move (hk := ?_) | refine TL_load TE (hk := ?_) | refine TL_fieldAddr TE (hk := ?_) | refine TL_nilCheck (hk := ?_))
      refine T_region_any TE.mixed ([] : List Nat) ?_; intro w6 e6 z6
      have hb6 := hb5.be e6
      have or6 := or5.be e6
      (refine TA_take 0 rfl (by kernel_rfl) (by kernel_rfl) (by kernel_rfl) ?_; (repeat (first | refine TL_move (hk := ?_) | refine TLP_load TE (hk := ?_) | refine TLP_load_rd TE (hk := ?_) | refine TL_fieldAddr TE (hk := ?_) | refine TL_indexAddr1n TE (hk := ?_) | refine TL_nilCheck (hk := ?_))); refine TL_nil_p ?_); (refine TA_take 1 rfl (by kernel_rfl) (by kernel_rfl) (by kernel_rfl) ?_; (repeat (first | refine TL_move (hk := ?_) | refine TLP_load TE (hk := ?_) | refine TLP_load_rd TE (hk := ?_) | refine TL_fieldAddr TE (hk := ?_) | refine TL_indexAddr1n TE (hk := ?_) | refine TL_nilCheck (hk := ?_))); refine TL_nil_p ?_); (refine TA_take 2 rfl (by kernel_rfl) (by kernel_rfl) (by kernel_rfl) ?_; (repeat (first | refine TL_move (hk := ?_) | refine TLP_load TE (hk := ?_) | refine TLP_load_rd TE (hk := ?_) | refine TL_fieldAddr TE (hk := ?_) | refine TL_indexAddr1n TE (hk := ?_) | refine TL_nilCheck (hk := ?_))); refine TL_nil_p ?_); (refine TA_take 3 rfl (by kernel_rfl) (by kernel_rfl) (by kernel_rfl) ?_; (repeat (first | refine TL_move (hk := ?_) | refine TLP_load TE (hk := ?_) | refine TLP_load_rd TE (hk := ?_) | refine TL_fieldAddr TE (hk := ?_) | refine TL_indexAddr1n TE (hk := ?_) | refine TL_nilCheck (hk := ?_))); refine TL_nil_p ?_); (refine TA_take 4 rfl (by kernel_rfl) (by kernel_rfl) (by kernel_rfl) ?_; (repeat (first | refine TL_move (hk := ?_) | refine TLP_load TE (hk := ?_) | refine TLP_load_rd TE (hk := ?_) | refine TL_fieldAddr TE (hk := ?_) | refine TL_indexAddr1n TE (hk := ?_) | refine TL_nilCheck (hk := ?_))); refine TL_nil_p ?_); (refine TA_take 5 rfl (by kernel_rfl) (by kernel_rfl) (by kernel_rfl) ?_; (repeat (first | refine TL_move (hk := ?_) | refine TLP_load TE (hk := ?_) | refine TLP_load_rd TE (hk := ?_) | refine TL_fieldAddr TE (hk := ?_) | refine TL_indexAddr1n TE (hk := ?_) | refine TL_nilCheck (hk := ?_))); refine TL_nil_p ?_); (refine TA_take 6 rfl (by kernel_rfl) (by kernel_rfl) (by kernel_rfl) ?_; (repeat (first | refine TL_move (hk := ?_) | refine TLP_load TE (hk := ?_) | refine TLP_load_rd TE (hk := ?_) | refine TL_fieldAddr TE (hk := ?_) | refine TL_indexAddr1n TE (hk := ?_) | refine TL_nilCheck (hk := ?_))); refine TL_nil_p ?_); (refine TA_take 7 rfl (by kernel_rfl) (by kernel_rfl) (by kernel_rfl) ?_; (repeat (first | refine TL_move (hk := ?_) | refine TLP_load TE (hk := ?_) | refine TLP_load_rd TE (hk := ?_) | refine TL_fieldAddr TE (hk := ?_) | refine TL_indexAddr1n TE (hk := ?_) | refine TL_nilCheck (hk := ?_))); refine TL_nil_p ?_)
      (refine TA_one 8 rfl (by kernel_rfl) (by kernel_rfl) ?_; (repeat (refine TL_gt_t (hk := ?_))); refine TL_nil_p ?_)
      refine TA_done (by kernel_rfl) ?_
      repeat (first | refine T_seq ?_ | refine T_region ?_ | refine T_cond_true rfl ?_ | refine TL_nil ?_ | refine TL_assign (hk := ?_))
      exact T_ret1 rfl rfl ⟨rfl, .inl ⟨by simp, ((e2.ext e4).ext e5).ext e6⟩⟩
    · repeat (first | refine T_seq ?_ | refine T_region ?_ | refine T_cond_true rfl ?_ | refine T_block ?_ | refine T_skip ?_ | refine TL_lt_t (hk := ?_) | refine TL_nil ?_ | refine TL_move (hk := ?_) | refine TL_load TE (hk := ?_) | refine TL_fieldAddr TE (hk := ?_) | refine TL_nilCheck (hk := ?_))
      refine T_region_any TE.mixed ([] : List Nat) ?_; intro w6 e6 z6
      have hb6 := hb5.be e6
      have or6 := or5.be e6
      (refine TA_take 0 rfl (by kernel_rfl) (by kernel_rfl) (by kernel_rfl) ?_; (repeat (first | refine TL_move (hk := ?_) | refine TLP_load TE (hk := ?_) | refine TLP_load_rd TE (hk := ?_) | refine TL_fieldAddr TE (hk := ?_) | refine TL_indexAddr1n TE (hk := ?_) | refine TL_nilCheck (hk := ?_))); refine TL_nil_p ?_); (refine TA_take 1 rfl (by kernel_rfl) (by kernel_rfl) (by kernel_rfl) ?_; (repeat (first | refine TL_move (hk := ?_) | refine TLP_load TE (hk := ?_) | refine TLP_load_rd TE (hk := ?_) | refine TL_fieldAddr TE (hk := ?_) | refine TL_indexAddr1n TE (hk := ?_) | refine TL_nilCheck (hk := ?_))); refine TL_nil_p ?_); (refine TA_take 2 rfl (by kernel_rfl) (by kernel_rfl) (by kernel_rfl) ?_; (repeat (first | refine TL_move (hk := ?_) | refine TLP_load TE (hk := ?_) | refine TLP_load_rd TE (hk := ?_) | refine TL_fieldAddr TE (hk := ?_) | refine TL_indexAddr1n TE (hk := ?_) | refine TL_nilCheck (hk := ?_))); refine TL_nil_p ?_); (refine TA_take 3 rfl (by kernel_rfl) (by kernel_rfl) (by kernel_rfl) ?_; (repeat (first | refine TL_move (hk := ?_) | refine TLP_load TE (hk := ?_) | refine TLP_load_rd TE (hk := ?_) | refine TL_fieldAddr TE (hk := ?_) | refine TL_indexAddr1n TE (hk := ?_) | refine TL_nilCheck (hk := ?_))); refine TL_nil_p ?_); (refine TA_take 4 rfl (by kernel_rfl) (by kernel_rfl) (by kernel_rfl) ?_; (repeat (first | refine TL_move (hk := ?_) | refine TLP_load TE (hk := ?_) | refine TLP_load_rd TE (hk := ?_) | refine TL_fieldAddr TE (hk := ?_) | refine TL_indexAddr1n TE (hk := ?_) | refine TL_nilCheck (hk := ?_))); refine TL_nil_p ?_); (refine TA_take 5 rfl (by kernel_rfl) (by kernel_rfl) (by kernel_rfl) ?_; (repeat (first | refine TL_move (hk := ?_) | refine TLP_load TE (hk := ?_) | refine TLP_load_rd TE (hk := ?_) | refine TL_fieldAddr TE (hk := ?_) | refine TL_indexAddr1n TE (hk := ?_) | refine TL_nilCheck (hk := ?_))); refine TL_nil_p ?_); (refine TA_take 6 rfl (by kernel_rfl) (by kernel_rfl) (by kernel_rfl) ?_; (repeat (first | refine TL_move (hk := ?_) | refine TLP_load TE (hk := ?_) | refine TLP_load_rd TE (hk := ?_) | refine TL_fieldAddr TE (hk := ?_) | refine TL_indexAddr1n TE (hk := ?_) | refine TL_nilCheck (hk := ?_))); refine TL_nil_p ?_); (refine TA_take 7 rfl (by kernel_rfl) (by kernel_rfl) (by kernel_rfl) ?_; (repeat (first | refine TL_move (hk := ?_) | refine TLP_load TE (hk := ?_) | refine TLP_load_rd TE (hk := ?_) | refine TL_fieldAddr TE (hk := ?_) | refine TL_indexAddr1n TE (hk := ?_) | refine TL_nilCheck (hk := ?_))); refine TL_nil_p ?_)
      (refine TA_one 8 rfl (by kernel_rfl) (by kernel_rfl) ?_; (repeat (refine TL_gt_f (hk := ?_))); refine TL_nil_p ?_)
      refine TA_done (by kernel_rfl) ?_
      repeat (first | refine T_region ?_ | refine T_cond_false rfl ?_ | refine T_inBlock ?_ | refine T_skip ?_ | refine TL_add (hk := ?_) | refine TL_nil ?_ | refine TL_move (hk := ?_) | refine TL_assign (hk := ?_))
      exact ih (j + 1) w6 _ (by omega) ⟨by omega, e5.ext e6, fun p hp => by
        by_cases q : p = j
        · rw [q, hfj]; exact decide_eq_false hful
        · exact hu p (by omega)⟩ (.c rfl (.c rfl (.c rfl (.c rfl (.n)))))
  clear ih
  have hany : (List.range S.C.length).any (fullB S ks) = false := by
    rw [List.any_eq_false]
    intro p hp
    rw [List.mem_range, hCl] at hp
    simp [hu p (by omega)]
  rw [if_neg (by rw [hany]; simp)]
  have E5 := (e2.ext e4).ext e5
  clear hu hany o4 o5 or5 hb4 rd4
  have ho5 := ho.be E5
  have hil : ∀ i, ((ks.take i).foldl insK l).length ≤ l.length + i := fun i => by
    have : ∀ (t m : List Tx), (t.foldl insK m).length ≤ m.length + t.length := fun t => by
      induction t with
      | nil => intro m; simp
      | cons y t iht =>
        intro m
        rw [List.foldl_cons]
        have h1 := iht (insK m y)
        have h2 := insK_cnt m y (fun _ => true)
        rw [List.filter_eq_self.2 (fun _ _ => rfl), List.filter_eq_self.2 (fun _ _ => rfl)] at h2
        have h3 : (insK m y).length ≤ m.length + 1 := by rw [h2]; split <;> omega
        simp only [List.length_cons]
        omega
    have h1 := this (ks.take i) l
    have h2 := List.length_take_le i ks
    omega
  have hir : ∀ i, ((ks.take i).foldl insK l).Pairwise (· < ·) := fun i => (D.d0.puts (ks.take i)).ri
  repeat (first | refine T_seq ?_ | refine T_region ?_ | refine T_cond_false rfl ?_ | refine T_block ?_ | refine T_exit rfl ?_ | refine TL_lt_f (hk := ?_) | refine TL_nil ?_ | refine TL_move (hk := ?_) | refine TL_assign (hk := ?_) | refine TL_load TE (hk := ?_) | refine TL_fieldAddr TE (hk := ?_) | refine TL_nilCheck (hk := ?_))
  refine T_loop (ι := Nat) (fun i => [(11, .int .i64 (i : Int)), (7, .slice (some ⟨bM, 0, none⟩) P P), (0, pB b), (1, .slice A n c)]) (fun i w' => i ≤ n ∧ Eng.Mod [b] w w' ∧ ∃ (x' : SL), Blk w' b 89 [.int .i64 (P : Int), .int .i64 (r : Int), sL x'] ∧ Own w' base 108 4 x'.1 x'.2.1 x'.2.2 (rowV itV ((ks.take i).foldl insK l)) ∧ ∀ q ∈ blkL x'.1, q ∈ blkL x.1 ∨ w.heap.size ≤ q) (fun i => n - i) 0 (.c rfl (.c rfl (.c rfl (.c rfl (.n))))) ⟨Nat.zero_le _, Ext.un E5, x, hb5, ho5, fun q hq => .inl hq⟩ ?_
  clear hb5 E5 ho5
  rintro i w9 ⟨hi9, m9, x9, hb9, o9, hx9⟩ ih
  have rd9 := rd.mod m9 (off_ofL fun u q q' => by rw [List.mem_singleton] at q'; subst q'; exact hA q)
  by_cases hlt9 : i < n
  · have hA9 : A ≠ none := by obtain ⟨_, _, hq, _⟩ := rd9.2 (by omega); rw [hq]; simp
    have hfs : (ks.take (i + 1)).foldl insK l = insK ((ks.take i).foldl insK l) (ks.getD i []) := by rw [take_snoc ks i [] (by omega), List.foldl_append]; rfl
    have hill := hil i
    have hirr := hir i
    obtain ⟨l9, hl9d⟩ : ∃ l9, (ks.take i).foldl insK l = l9 := ⟨_, rfl⟩
    rw [hl9d] at o9 hfs hill hirr
    obtain ⟨key, hkey⟩ : ∃ key, ks.getD i [] = key := ⟨_, rfl⟩
    rw [hkey] at hfs
    have hl9 : l9.length = x9.2.1 := by have := o9.len; rw [rowV_len itV_len] at this; omega
    have hcap := o9.cap
    repeat (first | refine T_seq ?_ | refine T_region ?_ | refine T_cond_true rfl ?_ | refine T_block ?_ | refine T_skip ?_ | refine TL_lt_t (hk := ?_) | refine TL_nil ?_ | refine TL_move (hk := ?_) | refine TL_indexAddr1n TE (hk := ?_) | refine TL_len TE (hk := ?_) | refine TL_load_s TE (hk := ?_))
    rw [hkey]
    --
    refine TL_call TE (hc := at2_c15 b (P : Int) (r : Int) x9 l9 key w9 hirr hb9 o9.rd (by omega)) (hk := ?_)
    rintro _ w9' ⟨p, rfl, hp, hpl, hpg, e9⟩
    replace m9 := m9.trans (Ext.un e9)
    replace hb9 := hb9.be e9
    replace o9 := o9.be e9
    replace rd9 := rd9.be e9
    clear e9
    rename_i w9o
    generalize w9' = w9 at *
    by_cases hin : key ∈ l9
    · rw [decide_eq_true hin]
      have hsm : insK l9 key = l9 := if_pos hin
      rw [hsm] at hfs
      repeat (first | refine T_seq ?_ | refine T_region ?_ | refine T_cond_false rfl ?_ | refine T_inBlock ?_ | refine T_skip ?_ | refine TL_add (hk := ?_) | refine TL_nil ?_ | refine TL_move (hk := ?_) | refine TL_assign (hk := ?_) | refine TL_extract (hk := ?_) | refine TL_not (hk := ?_))
      exact ih (i + 1) w9 _ (by omega) ⟨by omega, m9, x9, hb9, by rw [hfs]; exact o9, hx9⟩ (.c rfl (.c rfl (.c rfl (.c rfl (.n)))))
    · rw [decide_eq_false hin]
      obtain ⟨tw1, tw2⟩ := tw_take (l := l9) (k := key) (p := p) (by omega) hpl (fun q => hpg (by omega))
      have hins : l9.take p ++ [key] ++ l9.drop p = (ks.take (i + 1)).foldl insK l := by
        rw [hfs]
        unfold insK
        rw [if_neg hin, tw1, tw2]
        simp
      have z09 := m9.size
      have hbD : b ∉ ([] : List Nat) := by simp
      have hAD : Off A ([] : List Nat) := .nil _
      have hxD : Off x9.1 ([] : List Nat) := .nil _
      repeat (first | refine T_seq ?_ | refine T_region ?_ | refine T_cond_true rfl ?_ | refine TL_nil ?_ | refine TL_move (hk := ?_) | refine TL_assign (hk := ?_) | refine TL_extract (hk := ?_) | refine TL_not (hk := ?_))
      refine T_region_anyz TE.mixed ([] : List Nat) (some 25) ?_; intro w10 e10 z10
      have hb10 := hb9.be e10
      have o10 := o9.be e10
      have rd10 := rd9.be e10
      have rtake : Rd w10 x9.1 p 4 (rowV itV (l9.take p)) := by rw [← rowV_take itV_len]; exact o10.rd.take hp
      have rdrop : Rd w10 (cutA x9.1 x9.2.2 p 4) (x9.2.1 - p) 4 (rowV itV (l9.drop p)) := by
        have := Rd.cut (l := p) (h := x9.2.1) o10.rd hp (Nat.le_refl _) hcap.1
        rw [rowV_drop itV_len, List.take_of_length_le (by rw [rowV_len itV_len, List.length_drop, hl9]; exact Nat.le_refl _)] at this
        exact this
      (refine TA_take 0 rfl (by kernel_rfl) (by kernel_rfl) (by kernel_rfl) ?_; (repeat (first | refine TL_move (hk := ?_) | refine TLP_load TE (hk := ?_) | refine TLP_load_s TE (hk := ?_) | refine TL_fieldAddr TE (hk := ?_) | refine TL_indexAddr1n TE (hk := ?_) | refine TL_nilCheck (hk := ?_) | refine TL_slice_hi TE (hk := ?_))); refine TL_nil_p ?_); (refine TA_take 2 rfl (by kernel_rfl) (by kernel_rfl) (by kernel_rfl) ?_; (repeat (first | refine TL_move (hk := ?_) | refine TLP_load TE (hk := ?_) | refine TLP_load_s TE (hk := ?_) | refine TL_fieldAddr TE (hk := ?_) | refine TL_indexAddr1n TE (hk := ?_) | refine TL_nilCheck (hk := ?_) | refine TL_slice_hi TE (hk := ?_))); refine TL_nil_p ?_); (refine TA_take 3 rfl (by kernel_rfl) (by kernel_rfl) (by kernel_rfl) ?_; (repeat (first | refine TL_move (hk := ?_) | refine TLP_load TE (hk := ?_) | refine TLP_load_s TE (hk := ?_) | refine TL_fieldAddr TE (hk := ?_) | refine TL_indexAddr1n TE (hk := ?_) | refine TL_nilCheck (hk := ?_) | refine TL_slice_hi TE (hk := ?_))); refine TL_nil_p ?_); (refine TA_take 4 rfl (by kernel_rfl) (by kernel_rfl) (by kernel_rfl) ?_; (repeat (first | refine TL_move (hk := ?_) | refine TLP_load TE (hk := ?_) | refine TLP_load_s TE (hk := ?_) | refine TL_fieldAddr TE (hk := ?_) | refine TL_indexAddr1n TE (hk := ?_) | refine TL_nilCheck (hk := ?_) | refine TL_slice_hi TE (hk := ?_))); refine TL_nil_p ?_); (refine TA_take 5 rfl (by kernel_rfl) (by kernel_rfl) (by kernel_rfl) ?_; (repeat (first | refine TL_move (hk := ?_) | refine TLP_load TE (hk := ?_) | refine TLP_load_s TE (hk := ?_) | refine TL_fieldAddr TE (hk := ?_) | refine TL_indexAddr1n TE (hk := ?_) | refine TL_nilCheck (hk := ?_) | refine TL_slice_hi TE (hk := ?_))); refine TL_nil_p ?_); (refine TA_take 6 rfl (by kernel_rfl) (by kernel_rfl) (by kernel_rfl) ?_; (repeat (first | refine TL_move (hk := ?_) | refine TLP_load TE (hk := ?_) | refine TLP_load_s TE (hk := ?_) | refine TL_fieldAddr TE (hk := ?_) | refine TL_indexAddr1n TE (hk := ?_) | refine TL_nilCheck (hk := ?_) | refine TL_slice_hi TE (hk := ?_))); refine TL_nil_p ?_); (refine TA_take 7 rfl (by kernel_rfl) (by kernel_rfl) (by kernel_rfl) ?_; (repeat (first | refine TL_move (hk := ?_) | refine TLP_load TE (hk := ?_) | refine TLP_load_s TE (hk := ?_) | refine TL_fieldAddr TE (hk := ?_) | refine TL_indexAddr1n TE (hk := ?_) | refine TL_nilCheck (hk := ?_) | refine TL_slice_hi TE (hk := ?_))); refine TL_nil_p ?_); (refine TA_take 9 rfl (by kernel_rfl) (by kernel_rfl) (by kernel_rfl) ?_; (repeat (first | refine TL_move (hk := ?_) | refine TLP_load TE (hk := ?_) | refine TLP_load_s TE (hk := ?_) | refine TL_fieldAddr TE (hk := ?_) | refine TL_indexAddr1n TE (hk := ?_) | refine TL_nilCheck (hk := ?_) | refine TL_slice_hi TE (hk := ?_))); refine TL_nil_p ?_); (refine TA_take 10 rfl (by kernel_rfl) (by kernel_rfl) (by kernel_rfl) ?_; (repeat (first | refine TL_move (hk := ?_) | refine TLP_load TE (hk := ?_) | refine TLP_load_s TE (hk := ?_) | refine TL_fieldAddr TE (hk := ?_) | refine TL_indexAddr1n TE (hk := ?_) | refine TL_nilCheck (hk := ?_) | refine TL_slice_hi TE (hk := ?_))); refine TL_nil_p ?_); (refine TA_take 11 rfl (by kernel_rfl) (by kernel_rfl) (by kernel_rfl) ?_; (repeat (first | refine TL_move (hk := ?_) | refine TLP_load TE (hk := ?_) | refine TLP_load_s TE (hk := ?_) | refine TL_fieldAddr TE (hk := ?_) | refine TL_indexAddr1n TE (hk := ?_) | refine TL_nilCheck (hk := ?_) | refine TL_slice_hi TE (hk := ?_))); refine TL_nil_p ?_); (refine TA_take 12 rfl (by kernel_rfl) (by kernel_rfl) (by kernel_rfl) ?_; (repeat (first | refine TL_move (hk := ?_) | refine TLP_load TE (hk := ?_) | refine TLP_load_s TE (hk := ?_) | refine TL_fieldAddr TE (hk := ?_) | refine TL_indexAddr1n TE (hk := ?_) | refine TL_nilCheck (hk := ?_) | refine TL_slice_hi TE (hk := ?_))); refine TL_nil_p ?_)
      rw [hkey]
      (refine TA_take 13 rfl (by kernel_rfl) (by kernel_rfl) (by kernel_rfl) ?_; (repeat (first | refine TL_move (hk := ?_) | refine TLP_load TE (hk := ?_) | refine TL_fieldAddr TE (hk := ?_) | refine TL_nilCheck (hk := ?_) | refine TL_slice_lo TE (hk := ?_) | refine TL_build TE (hk := ?_))); refine TL_nil_p ?_); (refine TA_take 16 rfl (by kernel_rfl) (by kernel_rfl) (by kernel_rfl) ?_; (repeat (first | refine TL_move (hk := ?_) | refine TLP_load TE (hk := ?_) | refine TL_fieldAddr TE (hk := ?_) | refine TL_nilCheck (hk := ?_) | refine TL_slice_lo TE (hk := ?_) | refine TL_build TE (hk := ?_))); refine TL_nil_p ?_); (refine TA_take 17 rfl (by kernel_rfl) (by kernel_rfl) (by kernel_rfl) ?_; (repeat (first | refine TL_move (hk := ?_) | refine TLP_load TE (hk := ?_) | refine TL_fieldAddr TE (hk := ?_) | refine TL_nilCheck (hk := ?_) | refine TL_slice_lo TE (hk := ?_) | refine TL_build TE (hk := ?_))); refine TL_nil_p ?_); (refine TA_take 18 rfl (by kernel_rfl) (by kernel_rfl) (by kernel_rfl) ?_; (repeat (first | refine TL_move (hk := ?_) | refine TLP_load TE (hk := ?_) | refine TL_fieldAddr TE (hk := ?_) | refine TL_nilCheck (hk := ?_) | refine TL_slice_lo TE (hk := ?_) | refine TL_build TE (hk := ?_))); refine TL_nil_p ?_); (refine TA_take 19 rfl (by kernel_rfl) (by kernel_rfl) (by kernel_rfl) ?_; (repeat (first | refine TL_move (hk := ?_) | refine TLP_load TE (hk := ?_) | refine TL_fieldAddr TE (hk := ?_) | refine TL_nilCheck (hk := ?_) | refine TL_slice_lo TE (hk := ?_) | refine TL_build TE (hk := ?_))); refine TL_nil_p ?_); (refine TA_take 20 rfl (by kernel_rfl) (by kernel_rfl) (by kernel_rfl) ?_; (repeat (first | refine TL_move (hk := ?_) | refine TLP_load TE (hk := ?_) | refine TL_fieldAddr TE (hk := ?_) | refine TL_nilCheck (hk := ?_) | refine TL_slice_lo TE (hk := ?_) | refine TL_build TE (hk := ?_))); refine TL_nil_p ?_); (refine TA_take 21 rfl (by kernel_rfl) (by kernel_rfl) (by kernel_rfl) ?_; (repeat (first | refine TL_move (hk := ?_) | refine TLP_load TE (hk := ?_) | refine TL_fieldAddr TE (hk := ?_) | refine TL_nilCheck (hk := ?_) | refine TL_slice_lo TE (hk := ?_) | refine TL_build TE (hk := ?_))); refine TL_nil_p ?_)
      refine TA_two 1 14 rfl rfl (by kernel_rfl) (by kernel_rfl) ?_ ?_
      · refine TL_buildSlice0 TE (hf := rfl) (hq := fun w' h => Ext.un (h)) (hk := ?_); intro bA wA eA qA qA' kA
        have oA : Own wA w10.heap.size 108 4 (some ⟨bA, 0, none⟩) 0 0 [] := Own.of_blk kA qA rfl (by decide)
        have EA : Ext w10 wA := eA
        have hiA := oA.hi
        refine TL_nil_p ?_
        refine TA_two 8 14 rfl rfl (by kernel_rfl) (by kernel_rfl) ?_ ?_
        · refine TL_append TE (ho := oA) (hr := rtake.be EA) (h1 := rowV_one itV_one _) (hf := rfl) (hq := fun w' m => Ext.un (EA.own m oA.hi)) (hk := ?_); intro A8 c8 w8 o8 m8 n8
          rw [List.nil_append] at o8
          have E8 := EA.own m8 hiA
          refine TL_nil_p ?_
          refine TA_one 14 rfl (by kernel_rfl) (by kernel_rfl) ?_
          refine TL_buildSliceA TE (hf := rfl) (hq := fun w' h => Ext.un (E8.ext (h))) (hk := ?_); intro bB wB eB qB qB' kB
          replace kB : Blk wB bB 108 (rowV itV [key]) := kB
          have rB : Rd wB (some ⟨bB, 0, none⟩) 1 4 (rowV itV [key]) := Rd.blk kB rfl
          have E15 := E8.ext eB
          have o8 := o8.be eB
          have r14 := rB
          have zA := eA.size
          have z15 := E15.size
          refine TL_nil_p ?_
          refine TA_one 15 rfl (by kernel_rfl) (by kernel_rfl) ?_
          refine TL_append TE (ho := o8) (hr := r14) (h1 := rowV_one itV_one _) (hf := rfl) (hq := fun w' m => Ext.un (E15.own m o8.hi)) (hk := ?_); intro A15 c15 w15 o15 m15 n15
          rw [← rowV_append] at o15
          have E16 := E15.own m15 o8.hi
          have h15 := o15.hi
          have z16 := E16.size
          refine TL_nil_p ?_
          refine TA_one 22 rfl (by kernel_rfl) (by kernel_rfl) ?_
          refine TL_append TE (ho := o15) (hr := rdrop.be E16) (h1 := rowV_one itV_one _) (hf := rfl) (hq := fun w' m => Ext.un (E16.own m o15.hi)) (hk := ?_); intro A22 c22 w22 o22 m22 n22
          rw [← rowV_append] at o22
          have E23 := E16.own m22 o15.hi
          have hb23 := hb10.be E23
          refine TL_nil_p ?_
          (refine TA_one 23 rfl (by kernel_rfl) (by kernel_rfl) ?_; (repeat (first | refine TL_fieldAddr TE (hk := ?_) | refine TL_nilCheck (hk := ?_))); refine TL_nil_p ?_); (refine TA_one 24 rfl (by kernel_rfl) (by kernel_rfl) ?_; (repeat (first | refine TL_fieldAddr TE (hk := ?_) | refine TL_nilCheck (hk := ?_))); refine TL_nil_p ?_)
          refine TA_one 25 rfl (by kernel_rfl) (by kernel_rfl) ?_
          refine TL_store TE (hb := hb23) (hf := rfl) (hq := fun _ _ _ => trivial) (hk := ?_); intro w25 m25 z25 k25
          refine TL_nil_z (by kernel_rfl) ?_
          have z10 := e10.size
          have z9 := m9.size
          have hbl22 : ∀ u ∈ blkL A22, u ∉ [b] := fun u q q' => by
            rw [List.mem_singleton] at q'
            have := (o22.bl u q).1
            have := hb.lt
            omega
          repeat (first | refine T_region ?_ | refine T_inBlock ?_ | refine TL_add (hk := ?_) | refine TL_nil ?_ | refine TL_move (hk := ?_) | refine TL_assign (hk := ?_))
          exact ih (i + 1) w25 _ (by omega) ⟨by omega, ((m9.trans (Ext.un e10)).trans (Ext.un E23)).trans m25, (A22, 0 + p + 1 + (x9.2.1 - p), c22), k25, hins ▸ (Own.weaken (o22.modL m25 hbl22) (by omega)), fun q hq => (Near.mem n22 q hq).elim (fun z => by have := h15 ; exact .inr (by have := Hi.mem o15.hi q z; omega)) (fun z => .inr (by omega))⟩ (.c rfl (.c rfl (.c rfl (.c rfl (.n)))))
        · refine TL_buildSliceA TE (hf := rfl) (hq := fun w' h => Ext.un (EA.ext (h))) (hk := ?_); intro bB wB eB qB qB' kB
          replace kB : Blk wB bB 108 (rowV itV [key]) := kB
          have rB : Rd wB (some ⟨bB, 0, none⟩) 1 4 (rowV itV [key]) := Rd.blk kB rfl
          have EB := EA.ext eB
          refine TL_nil_p ?_
          refine TA_one 8 rfl (by kernel_rfl) (by kernel_rfl) ?_
          refine TL_append TE (ho := oA.be eB) (hr := rtake.be EB) (h1 := rowV_one itV_one _) (hf := rfl) (hq := fun w' m => Ext.un (EB.own m oA.hi)) (hk := ?_); intro A8 c8 w8 o8 m8 n8
          rw [List.nil_append] at o8
          have E15 := EB.own m8 hiA
          have zA := eA.size
          have r14 := rB.mod m8 (off_ofL fun u q q' => by
            simp [blkL] at q q'
            omega)
          have z15 := E15.size
          refine TL_nil_p ?_
          refine TA_one 15 rfl (by kernel_rfl) (by kernel_rfl) ?_
          refine TL_append TE (ho := o8) (hr := r14) (h1 := rowV_one itV_one _) (hf := rfl) (hq := fun w' m => Ext.un (E15.own m o8.hi)) (hk := ?_); intro A15 c15 w15 o15 m15 n15
          rw [← rowV_append] at o15
          have E16 := E15.own m15 o8.hi
          have h15 := o15.hi
          have z16 := E16.size
          refine TL_nil_p ?_
          refine TA_one 22 rfl (by kernel_rfl) (by kernel_rfl) ?_
          refine TL_append TE (ho := o15) (hr := rdrop.be E16) (h1 := rowV_one itV_one _) (hf := rfl) (hq := fun w' m => Ext.un (E16.own m o15.hi)) (hk := ?_); intro A22 c22 w22 o22 m22 n22
          rw [← rowV_append] at o22
          have E23 := E16.own m22 o15.hi
          have hb23 := hb10.be E23
          refine TL_nil_p ?_
          (refine TA_one 23 rfl (by kernel_rfl) (by kernel_rfl) ?_; (repeat (first | refine TL_fieldAddr TE (hk := ?_) | refine TL_nilCheck (hk := ?_))); refine TL_nil_p ?_); (refine TA_one 24 rfl (by kernel_rfl) (by kernel_rfl) ?_; (repeat (first | refine TL_fieldAddr TE (hk := ?_) | refine TL_nilCheck (hk := ?_))); refine TL_nil_p ?_)
          refine TA_one 25 rfl (by kernel_rfl) (by kernel_rfl) ?_
          refine TL_store TE (hb := hb23) (hf := rfl) (hq := fun _ _ _ => trivial) (hk := ?_); intro w25 m25 z25 k25
          refine TL_nil_z (by kernel_rfl) ?_
          have z10 := e10.size
          have z9 := m9.size
          have hbl22 : ∀ u ∈ blkL A22, u ∉ [b] := fun u q q' => by
            rw [List.mem_singleton] at q'
            have := (o22.bl u q).1
            have := hb.lt
            omega
          repeat (first | refine T_region ?_ | refine T_inBlock ?_ | refine TL_add (hk := ?_) | refine TL_nil ?_ | refine TL_move (hk := ?_) | refine TL_assign (hk := ?_))
          exact ih (i + 1) w25 _ (by omega) ⟨by omega, ((m9.trans (Ext.un e10)).trans (Ext.un E23)).trans m25, (A22, 0 + p + 1 + (x9.2.1 - p), c22), k25, hins ▸ (Own.weaken (o22.modL m25 hbl22) (by omega)), fun q hq => (Near.mem n22 q hq).elim (fun z => by have := h15 ; exact .inr (by have := Hi.mem o15.hi q z; omega)) (fun z => .inr (by omega))⟩ (.c rfl (.c rfl (.c rfl (.c rfl (.n)))))
      · refine TL_buildSliceA TE (hf := rfl) (hq := fun w' h => Ext.un (h)) (hk := ?_); intro bB wB eB qB qB' kB
        replace kB : Blk wB bB 108 (rowV itV [key]) := kB
        have rB : Rd wB (some ⟨bB, 0, none⟩) 1 4 (rowV itV [key]) := Rd.blk kB rfl
        have EB : Ext w10 wB := eB
        refine TL_nil_p ?_
        refine TA_one 1 rfl (by kernel_rfl) (by kernel_rfl) ?_
        refine TL_buildSlice0 TE (hf := rfl) (hq := fun w' h => Ext.un (EB.ext (h))) (hk := ?_); intro bA wA eA qA qA' kA
        have oA : Own wA wB.heap.size 108 4 (some ⟨bA, 0, none⟩) 0 0 [] := Own.of_blk kA qA rfl (by decide)
        have EA := EB.ext eA
        have hiA := oA.hi
        refine TL_nil_p ?_
        refine TA_one 8 rfl (by kernel_rfl) (by kernel_rfl) ?_
        refine TL_append TE (ho := oA) (hr := rtake.be EA) (h1 := rowV_one itV_one _) (hf := rfl) (hq := fun w' m => Ext.un (EB.ext (eA.own m oA.hi))) (hk := ?_); intro A8 c8 w8 o8 m8 n8
        rw [List.nil_append] at o8
        have E15 := EB.ext (eA.own m8 hiA)
        have r14 := (rB.be eA).mod m8 (off_ofL fun u q q' => by
          simp [blkL] at q q'
          omega)
        have zB := eB.size
        have o8 := Own.weaken (base' := w10.heap.size) o8 zB
        have z15 := E15.size
        refine TL_nil_p ?_
        refine TA_one 15 rfl (by kernel_rfl) (by kernel_rfl) ?_
        refine TL_append TE (ho := o8) (hr := r14) (h1 := rowV_one itV_one _) (hf := rfl) (hq := fun w' m => Ext.un (E15.own m o8.hi)) (hk := ?_); intro A15 c15 w15 o15 m15 n15
        rw [← rowV_append] at o15
        have E16 := E15.own m15 o8.hi
        have h15 := o15.hi
        have z16 := E16.size
        refine TL_nil_p ?_
        refine TA_one 22 rfl (by kernel_rfl) (by kernel_rfl) ?_
        refine TL_append TE (ho := o15) (hr := rdrop.be E16) (h1 := rowV_one itV_one _) (hf := rfl) (hq := fun w' m => Ext.un (E16.own m o15.hi)) (hk := ?_); intro A22 c22 w22 o22 m22 n22
        rw [← rowV_append] at o22
        have E23 := E16.own m22 o15.hi
        have hb23 := hb10.be E23
        refine TL_nil_p ?_
        (refine TA_one 23 rfl (by kernel_rfl) (by kernel_rfl) ?_; (repeat (first | refine TL_fieldAddr TE (hk := ?_) | refine TL_nilCheck (hk := ?_))); refine TL_nil_p ?_); (refine TA_one 24 rfl (by kernel_rfl) (by kernel_rfl) ?_; (repeat (first | refine TL_fieldAddr TE (hk := ?_) | refine TL_nilCheck (hk := ?_))); refine TL_nil_p ?_)
        refine TA_one 25 rfl (by kernel_rfl) (by kernel_rfl) ?_
        refine TL_store TE (hb := hb23) (hf := rfl) (hq := fun _ _ _ => trivial) (hk := ?_); intro w25 m25 z25 k25
        refine TL_nil_z (by kernel_rfl) ?_
        have z10 := e10.size
        have z9 := m9.size
        have hbl22 : ∀ u ∈ blkL A22, u ∉ [b] := fun u q q' => by
          rw [List.mem_singleton] at q'
          have := (o22.bl u q).1
          have := hb.lt
          omega
        repeat (first | refine T_region ?_ | refine T_inBlock ?_ | refine TL_add (hk := ?_) | refine TL_nil ?_ | refine TL_move (hk := ?_) | refine TL_assign (hk := ?_))
        exact ih (i + 1) w25 _ (by omega) ⟨by omega, ((m9.trans (Ext.un e10)).trans (Ext.un E23)).trans m25, (A22, 0 + p + 1 + (x9.2.1 - p), c22), k25, hins ▸ (Own.weaken (o22.modL m25 hbl22) (by omega)), fun q hq => (Near.mem n22 q hq).elim (fun z => by have := h15 ; exact .inr (by have := Hi.mem o15.hi q z; omega)) (fun z => .inr (by omega))⟩ (.c rfl (.c rfl (.c rfl (.c rfl (.n)))))

  · clear ih
    have htk : ks.take i = ks := List.take_of_length_le (by omega)
    rw [htk] at o9
    repeat (first | refine T_seq ?_ | refine T_region ?_ | refine T_cond_false rfl ?_ | refine T_exit rfl ?_ | refine TL_lt_f (hk := ?_) | refine TL_nil ?_ | refine TL_move (hk := ?_) | refine TL_assign (hk := ?_) | refine TL_len TE (hk := ?_))
    exact T_ret1 rfl rfl ⟨rfl, .inr ⟨rfl, m9, x9, hb9, o9, hx9⟩⟩
end Go.Proofs.YtgdbckjkeofoaaaGreat

/- The document's scheduler, and its store, in memory. -/
namespace Go.Proofs.YtgdbckjkeofoaaaGreat
open Go.RowKit Go.Proofs.Eng Go.Proofs.Foot Go.Proofs.Locks Go.Proofs.Sched
set_option linter.unusedSimpArgs false
set_option linter.unusedVariables false set_option maxRecDepth 10000
attribute [local irreducible] T TL LV TH TA
def updF (f : Nat → Nat) (L : List Nat) (k : Nat) : Nat → Nat := fun b => if b ∈ L then k else f b
theorem updF_in {f : Nat → Nat} {L : List Nat} {k b : Nat} (h : b ∈ L) : updF f L k b = k := if_pos h
theorem updF_out {f : Nat → Nat} {L : List Nat} {k b : Nat} (h : b ∉ L) : updF f L k b = f b := if_neg h
structure DEv (w : World) (g : Nat → Nat) (x : EV) : Prop where
  ra : Rd w x.A x.n 1 (sv x.rd)
  rb : Rd w x.B x.m 1 (sv x.wr)
  ha : ∀ b ∈ blkL x.A, g b = 5
  hb : ∀ b ∈ blkL x.B, g b = 5
  na : x.n ≤ 64
  nb : x.m ≤ 64
/-- Where it lies. -/
structure DA where
  y : Nat
  sb : Nat
  P : Nat
  r : Nat
structure DocM (w : World) (base : Nat) (a : DA) (x L : SL) (es : List EV) (g : Nat → Nat) (win : Nat) (S : StE) (l : List Tx) (E : List EnE) : Prop where
  sk : Blk w a.sb 89 [.int .i64 (a.P : Int), .int .i64 (a.r : Int), sL x]
  so : Own w base 108 4 x.1 x.2.1 x.2.2 (rowV itV l)
  yk : Blk w a.y 59 [.int .i64 (win : Int), pB a.sb, sL L]
  eo : Own w base 92 3 L.1 L.2.1 L.2.2 (rowV enV es)
  ee : es.map enE = E
  ek : ∀ z ∈ es, DEv w g z
  ds : DS a.P a.r S l
  g1 : g a.sb = 1
  g2 : ∀ b ∈ blkL x.1, g b = 2
  g3 : g a.y = 3
  g4 : ∀ b ∈ blkL L.1, g b = 4
  old : ∀ b, g b ≠ 0 → base ≤ b ∧ b < w.heap.size
  p6 : a.P ≤ 64
  r4 : 1 ≤ a.r ∧ a.r ≤ 4096
  wn : 1 ≤ win ∧ win ≤ 4096
section
variable {w w' w1 w2 w3 : World} {base : Nat} {a : DA} {x L : SL} {es : List EV} {g g' : Nat → Nat} {win : Nat} {S S' : StE} {l l' : List Tx} {E : List EnE} {Z : List Nat}
theorem DEv.mod {z : EV} (h : DEv w g z) (m : Eng.Mod Z w w') (hZ : ∀ b ∈ Z, g b ≠ 5) : DEv w' g z :=
  { h with ra := h.ra.mod m (off_ofL fun b hb q => hZ b q (h.ha b hb)), rb := h.rb.mod m (off_ofL fun b hb q => hZ b q (h.hb b hb)) }
theorem DocM.mod (h : DocM w base a x L es g win S l E) (m : Eng.Mod Z w w') (hZ : ∀ b ∈ Z, g b = 0) : DocM w' base a x L es g win S l E :=
  have nin : ∀ b k, g b = k + 1 → b ∉ Z := fun b k e q => by rw [hZ b q] at e; cases e
  { h with
    sk := h.sk.mod m (nin _ _ h.g1)
    so := h.so.modL m (fun b hb => nin b _ (h.g2 b hb))
    yk := h.yk.mod m (nin _ _ h.g3)
    eo := h.eo.modL m (fun b hb => nin b _ (h.g4 b hb))
    ek := fun z hz => (h.ek z hz).mod m (fun b hb q => by rw [hZ b hb] at q; cases q)
    old := fun b hb => by have := h.old b hb; have := m.size; omega }
theorem DocM.ext (h : DocM w base a x L es g win S l E) (e : Ext w w') : DocM w' base a x L es g win S l E := h.mod e (fun b hb => by cases hb)
theorem DocM.tn (h : DocM w base a x L es g win S l E) {o o' : Nat → Nat} (t : Tn o o' w w') (hd : ∀ b, o b = 0 ∨ g b = 0) : DocM w' base a x L es g win S l E ∧ ∀ b, o' b = 0 ∨ g b = 0 := by
  obtain ⟨⟨S, m1, s1⟩, n1, z1⟩ := t
  refine ⟨h.mod m1 (fun b hb => (hd b).resolve_left (s1 b hb)), fun b => ?_⟩
  by_cases q : o' b = 0
  · exact .inl q
  · right
    rcases n1 b q with h1 | h1
    · exact (hd b).resolve_left h1
    · by_cases y : g b = 0
      · exact y
      · have := (h.old b y).2; omega
theorem DocM.el (h : DocM w base a x L es g win S l E) : L.2.1 = E.length ∧ es.length = E.length := by
  have h1 := h.eo.len
  rw [rowV_len enV_len] at h1
  have h2 := congrArg List.length h.ee
  rw [List.length_map] at h2
  omega
theorem DocM.at (h : DocM w base a x L es g win S l E) {i : Nat} (hi : i < E.length) : enE (es.getD i ev0) = E.getD i en0 := by
  have hl := h.el.2
  rw [← h.ee, List.getD_eq_getElem?_getD, List.getD_eq_getElem?_getD, List.getElem?_map, List.getElem?_eq_getElem (by omega)]
  rfl
theorem DocM.st_at (h : DocM w base a x L es g win S l E) {i : Nat} (hi : i < E.length) : (rowV enV es)[i * 3 + 2]? = some (.int .i64 ((stE E i : Nat) : Int)) := by
  have hl := h.el.2
  have h1 : (rowV enV es)[i * 3 + 2]? = some (.int .i64 ((es.getD i ev0).st : Int)) := rowV_at enV_len es i 2 ev0 (by omega) (by omega)
  have h2 := h.at hi
  have h3 : (es.getD i ev0).st = stE E i := by unfold stE; rw [← h2]; rfl
  rw [h1, h3]
/-- A state turns. -/
theorem DocM.setE (h : DocM w base a x L es g win S l E) {i z : Nat} (hi : i < E.length) (m : Eng.Mod (blkL L.1) w w') (ho : Own w' base 92 3 L.1 L.2.1 L.2.2 (rowV enV (evSt es i z))) :
    DocM w' base a x L (evSt es i z) g win S l (setSt E i z) ∧ Tn g g w w' := by
  have hl := h.el.2
  have nin : ∀ b k, g b = k → k ≠ 4 → b ∉ blkL L.1 := fun b k e k4 q => by have := h.g4 b q; omega
  refine ⟨{ h with
    sk := h.sk.mod m (nin _ _ h.g1 (by decide))
    so := h.so.modL m (fun b hb => nin b _ (h.g2 b hb) (by decide))
    yk := h.yk.mod m (nin _ _ h.g3 (by decide))
    eo := ho
    ee := by rw [evSt_enE _ _ _ (by omega), h.ee]
    ek := fun y hy => ?_
    old := fun b hb => by have := h.old b hb; have := m.size; omega }, ⟨_, m, fun b hb => by rw [h.g4 b hb]; decide⟩, fun b hb => .inl hb, m.size⟩
  have h0 : DEv w g y := by
    rcases List.mem_or_eq_of_mem_set hy with q | q
    · exact h.ek y q
    · have := h.ek _ (getD_in (d := ev0) (by omega : i < es.length))
      rw [q]
      exact ⟨this.ra, this.rb, this.ha, this.hb, this.na, this.nb⟩
  exact h0.mod m (fun b hb q => by have := h.g4 b hb; omega)
/-- Keys are claimed. -/
theorem DocM.claim (h : DocM w base a x L es g win S l E) (m : Eng.Mod [a.sb] w w') {x' : SL} (hb : Blk w' a.sb 89 [.int .i64 (a.P : Int), .int .i64 (a.r : Int), sL x']) (ho : Own w' base 108 4 x'.1 x'.2.1 x'.2.2 (rowV itV l')) (hn : ∀ q ∈ blkL x'.1, q ∈ blkL x.1 ∨ w.heap.size ≤ q) (hd : DS a.P a.r S' l') :
    ∃ g', DocM w' base a x' L es g' win S' l' E ∧ Tn g g' w w' := by
  have hz : ∀ b, w.heap.size ≤ b → g b = 0 := fun b hb => by
    by_cases q : g b = 0
    · exact q
    · have := (h.old b q).2; omega
  have nin : ∀ b k, g b = k → k ≠ 1 → b ∉ [a.sb] := fun b k e k1 q => by rw [List.mem_singleton.1 q, h.g1] at e; omega
  have keep : ∀ b k, g b = k + 1 → k ≠ 1 → updF g (blkL x'.1) 2 b = k + 1 := fun b k e k1 => by
    by_cases q : b ∈ blkL x'.1
    · rcases hn b q with z | z
      · have := h.g2 b z; omega
      · rw [hz b z] at e; omega
    · rw [updF_out q, e]
  have keep2 : ∀ b, updF g (blkL x'.1) 2 b ≠ 0 → g b ≠ 0 ∨ w.heap.size ≤ b := fun b hb => by
    by_cases q : b ∈ blkL x'.1
    · rcases hn b q with z | z
      · left; rw [h.g2 b z]; decide
      · exact .inr z
    · rw [updF_out q] at hb; exact .inl hb
  refine ⟨updF g (blkL x'.1) 2, { h with
    sk := hb
    so := ho
    yk := h.yk.mod m (nin _ _ h.g3 (by decide))
    eo := h.eo.modL m (fun b hb => nin b _ (h.g4 b hb) (by decide))
    ek := fun z hz' => ?_
    ds := hd
    g1 := keep _ 0 h.g1 (by decide)
    g2 := fun b hb => updF_in hb
    g3 := keep _ 2 h.g3 (by decide)
    g4 := fun b hb => keep _ 3 (h.g4 b hb) (by decide)
    old := fun b hb => ?_ }, ⟨[a.sb], m, fun b hb => by rw [List.mem_singleton.1 hb, h.g1]; decide⟩, keep2, m.size⟩
  · have := (h.ek z hz').mod m (fun b hb q => by rw [List.mem_singleton.1 hb, h.g1] at q; cases q)
    exact { this with ha := fun b hb => keep b 4 (this.ha b hb) (by decide), hb := fun b hb => keep b 4 (this.hb b hb) (by decide) }
  · by_cases q : b ∈ blkL x'.1
    · have := ho.bl b q; omega
    · rw [updF_out q] at hb
      have := h.old b hb; have := m.size; omega
/-- An entry more. -/
theorem DocM.push (h : DocM w base a x L es g win S l E) {z : EV} {L' : SL} (e1 : Ext w w1) (m2 : Eng.Mod (blkL L.1) w1 w2) (ho : Own w2 base 92 3 L'.1 L'.2.1 L'.2.2 (rowV enV (es ++ [z]))) (hn : Near L.1 L'.1 w1) (m3 : Eng.Mod [a.y] w2 w3) (hb : Blk w3 a.y 59 [.int .i64 (win : Int), pB a.sb, sL L'])
    (ra : Rd w z.A z.n 1 (sv z.rd)) (rb : Rd w z.B z.m 1 (sv z.wr)) (ha : ∀ b ∈ blkL z.A, g b = 0 ∧ base ≤ b ∧ b < w.heap.size ∧ w'.heap.size ≤ b) (hb' : ∀ b ∈ blkL z.B, g b = 0 ∧ base ≤ b ∧ b < w.heap.size ∧ w'.heap.size ≤ b) (na : z.n ≤ 64) (nb : z.m ≤ 64) (e0 : Ext w' w) (h0 : ∀ b, g b ≠ 0 → b < w'.heap.size) :
    ∃ g', DocM w3 base a x L' (es ++ [z]) g' win S l (E ++ [enE z]) ∧ Tn g g' w' w3 := by
  have z1 := e1.size
  have z2 := m2.size
  have z3 := m3.size
  have z0 := e0.size
  have hz : ∀ b, w.heap.size ≤ b → g b = 0 := fun b hb => by
    by_cases q : g b = 0
    · exact q
    · have := (h.old b q).2; omega
  have hn' : ∀ b ∈ blkL L'.1, b ∈ blkL L.1 ∨ w.heap.size ≤ b := fun b hb => (Near.mem hn b hb).imp id (fun q => by omega)
  have M : Eng.Mod (a.y :: blkL L.1) w w3 := ((e1.mono (S' := a.y :: blkL L.1) (fun b hb => by cases hb)).step m2 (fun b hb => .inl (List.mem_cons_of_mem _ hb))).step m3 (fun b hb => .inl (by rw [List.mem_singleton.1 hb]; exact List.mem_cons_self))
  have hS : ∀ b ∈ a.y :: blkL L.1, g b = 3 ∨ g b = 4 := fun b hb => by
    rcases List.mem_cons.1 hb with rfl | hb
    · exact .inl h.g3
    · exact .inr (h.g4 b hb)
  have nin : ∀ b k, g b = k → k ≠ 3 → k ≠ 4 → b ∉ a.y :: blkL L.1 := fun b k e k3 k4 q => by rcases hS b q with y | y <;> omega
  obtain ⟨g', hg'⟩ : ∃ g' : Nat → Nat, g' = updF (updF g (blkL L'.1) 4) (blkL z.A ++ blkL z.B) 5 := ⟨_, rfl⟩
  have hF : ∀ b ∈ blkL z.A ++ blkL z.B, g b = 0 ∧ base ≤ b ∧ b < w.heap.size ∧ w'.heap.size ≤ b := fun b hb => (List.mem_append.1 hb).elim (ha b) (hb' b)
  have kF : ∀ b ∈ blkL z.A ++ blkL z.B, g' b = 5 := fun b hb => by rw [hg']; exact updF_in hb
  have kL : ∀ b ∈ blkL L'.1, g' b = 4 := fun b hb => by
    rw [hg', updF_out (fun q => ?_), updF_in hb]
    have h1 := hF b q
    rcases hn' b hb with y | y
    · have := h.g4 b y; omega
    · omega
  have keep : ∀ b, g b ≠ 0 → g' b = g b := fun b hb => by
    rw [hg', updF_out (fun q => hb (hF b q).1)]
    by_cases q : b ∈ blkL L'.1
    · rw [updF_in q]
      rcases hn' b q with y | y
      · exact (h.g4 b y).symm
      · exact absurd (hz b y) hb
    · exact updF_out q
  have kp : ∀ {b k}, g b = k + 1 → g' b = k + 1 := fun {b k} e => by rw [keep b (by omega), e]
  have hnz : ∀ b, g' b ≠ 0 → g b ≠ 0 ∨ b ∈ blkL z.A ++ blkL z.B ∨ b ∈ blkL L'.1 := fun b hb => by
    by_cases q : b ∈ blkL z.A ++ blkL z.B
    · exact .inr (.inl q)
    · by_cases q2 : b ∈ blkL L'.1
      · exact .inr (.inr q2)
      · rw [hg', updF_out q, updF_out q2] at hb; exact .inl hb
  have hyL : ∀ b ∈ blkL L'.1, b ∉ [a.y] := fun b hb q => by
    rw [List.mem_singleton] at q
    have h3 := h.g3
    rcases hn' b hb with y | y
    · have := h.g4 b y; rw [q] at this; omega
    · have := hz b y; rw [q] at this; omega
  refine ⟨g', { h with
    sk := h.sk.mod M (nin _ _ h.g1 (by decide) (by decide))
    so := h.so.modL M (fun b hb => nin b _ (h.g2 b hb) (by decide) (by decide))
    yk := hb
    eo := ho.modL m3 hyL
    ee := by rw [List.map_append, h.ee]; rfl
    ek := fun u hu => ?_
    g1 := kp h.g1
    g2 := fun b hb => kp (h.g2 b hb)
    g3 := kp h.g3
    g4 := kL
    old := fun b hb => ?_ }, ?_⟩
  · rcases List.mem_append.1 hu with q | q
    · have := (h.ek u q).mod M (fun b hb e => by rcases hS b hb with y | y <;> omega)
      exact { this with ha := fun b hb => kp (this.ha b hb), hb := fun b hb => kp (this.hb b hb) }
    · rw [List.mem_singleton.1 q]
      exact ⟨ra.mod M (off_ofL fun b hb e => by have := (ha b hb).1; rcases hS b e with y | y <;> omega), rb.mod M (off_ofL fun b hb e => by have := (hb' b hb).1; rcases hS b e with y | y <;> omega), fun b hb => kF b (List.mem_append_left _ hb), fun b hb => kF b (List.mem_append_right _ hb), na, nb⟩
  · rcases hnz b hb with q | q | q
    · have := h.old b q; omega
    · have := hF b q; omega
    · have := ho.bl b q; omega
  · refine ⟨⟨a.y :: blkL L.1, Mod.step (e0.mono (fun b hb => by cases hb)) M (fun b hb => .inl hb), fun b hb => by rcases hS b hb with y | y <;> omega⟩, fun b hb => ?_, by omega⟩
    rcases hnz b hb with q | q | q
    · exact .inl q
    · exact .inr (hF b q).2.2.2
    · rcases hn' b q with y | y
      · left; rw [h.g4 b y]; decide
      · exact .inr (by omega)
end
end Go.Proofs.YtgdbckjkeofoaaaGreat

namespace Go.Proofs.YtgdbckjkeofoaaaGreat
open Go.RowKit Go.Proofs.Eng Go.Proofs.Foot
set_option linter.unusedSimpArgs false
set_option linter.unusedVariables false set_option maxRecDepth 10000
attribute [local irreducible] T TL LV TH TA
theorem short_append {r k : List Tx} (sr : Short r) (sk : Short k) : Short (r ++ k) := fun i hi => by
  simp only [List.length_append] at hi
  by_cases h : i < r.length
  · have := sr i h
    simpa [List.getD_eq_getElem?_getD, List.getElem?_append_left h] using this
  · have := sk (i - r.length) (by omega)
    simpa [List.getD_eq_getElem?_getD, List.getElem?_append_right (by omega : r.length ≤ i)] using this
end Go.Proofs.YtgdbckjkeofoaaaGreat

namespace Go.Proofs.YtgdbckjkeofoaaaGreat
open Go.RowKit Go.Proofs.Eng Go.Proofs.Foot
set_option linter.unusedSimpArgs false
set_option linter.unusedVariables false set_option maxRecDepth 10000
attribute [local irreducible] T TL LV TH TA































































































theorem RClash_c (A B C D : Option Addr) (n m p q c d e f : Nat) (r k r2 k2 : List Tx) (w : World) (hA : Rd w A n 1 (sv r)) (hB : Rd w B m 1 (sv k)) (hC : Rd w C p 1 (sv r2)) (hD : Rd w D q 1 (sv k2)) (hn : n ≤ 50000) (hm : m ≤ 50000) (hp : p ≤ 50000) (hq : q ≤ 50000) :
    Ret Tryz.prog 38 [.agg #[.slice A n c, .slice B m d], .agg #[.slice C p e, .slice D q f]] w (fun v w' => v = .bool ((k.any fun x => decide (x ∈ r2 ++ k2)) || (k2.any fun x => decide (x ∈ r ++ k))) ∧ Ext w w') := by
  refine ret_T (n := 23) Tryz.func38 rfl rfl ?_
  repeat (first | refine T_seq ?_ | refine T_region ?_)
  refine TL_box (hk := ?_); intro b1 w1 e1 h1 h1' k1
  --
  refine TL_box (hk := ?_); intro b2 w2 e2 h2 h2' k2'
  have k12 := k1.be e2
  have e02 := e1.ext e2
  clear k1
  repeat (first | refine T_seq ?_ | refine TL_nil ?_ | refine TL_assign (hk := ?_))
  refine T_region_held TE.mixed [] [(0, true), (1, true), (2, true), (3, true), (4, true), (5, true), (6, false), (7, false), (8, true), (9, true), (10, true), (11, true), (12, true), (13, true), (14, true), (15, false), (16, false), (17, true), (18, true)] rfl (by kernel_rfl) rfl (by kernel_rfl) ?_; intro w3 e3 s3
  have hd3 : Eng.Mod [] w3 w3 := Mod.refl _ _
  have hD1 : b1 ∉ ([] : List Nat) := by simp
  have hD2 : b2 ∉ ([] : List Nat) := by simp
  have e03 := e02.ext e3
  have k13 := k12.be e3
  have k23 := k2'.be e3
  have hA3 := hA.be e03
  have hB3 := hB.be e03
  have hC3 := hC.be e03
  have hD3 := hD.be e03
  clear k12 k2' hA hB hC hD
  repeat (first | refine TLH_load TE (hk := ?_) | refine TL_fieldAddr TE (hk := ?_))
  refine TL_call TE (hc := both_c C D p q e f r2 k2 w3 hC3 hD3 (by omega) (by omega)) (hq := fun v w' ⟨_, _, _, h, _⟩ => hd3.ext h) (hk := ?_)
  rintro _ w4 ⟨A4, c4, rfl, e4, o4⟩
  refine TL_call TE (hc := RSome_c B A4 m (p + q) d c4 k (r2 ++ k2) w4 (hB3.be e4) o4.rd (by omega) (by omega)) (hq := fun v w' ⟨_, h⟩ => h ▸ hd3.ext e4) (hk := ?_)
  rintro _ w4 ⟨rfl, rfl⟩
  by_cases q1 : (k.any fun x => decide (x ∈ r2 ++ k2)) = true
  · rw [q1]
    repeat (first | refine TL_move (hk := ?_) | refine TL_assign (hk := ?_) | refine TL_no (hk := ?_) | refine TL_pick_t (hk := ?_))
    refine TL_nil_h ?_
    --
    exact T_ret1 rfl rfl ⟨by simp, e03.ext e4⟩
  · have q1' : (k.any fun x => decide (x ∈ r2 ++ k2)) = false := by simpa using q1
    rw [q1']
    repeat (first | refine TL_move (hk := ?_) | refine TLH_load TE (hk := ?_) | refine TL_fieldAddr TE (hk := ?_) | refine TL_yes (hk := ?_))
    refine TL_call TE (hc := both_c A B n m c d r k w4 (hA3.be e4) (hB3.be e4) (by omega) (by omega)) (hq := fun v w' ⟨_, _, _, h, _⟩ => (hd3.ext e4).ext h) (hk := ?_)
    rintro _ w5 ⟨A5, c5, rfl, e5, o5⟩
    repeat (refine TL_yes (hk := ?_))
    refine TL_call TE (hc := RSome_c D A5 q (n + m) f c5 k2 (r ++ k) w5 ((hD3.be e4).be e5) o5.rd (by omega) (by omega)) (hq := fun v w' ⟨_, h⟩ => h ▸ (hd3.ext e4).ext e5) (hk := ?_)
    rintro _ w5 ⟨rfl, rfl⟩
    repeat (first | refine TL_assign (hk := ?_) | refine TL_pick_f (hk := ?_))
    refine TL_nil_h ?_
    --
    exact T_ret1 rfl rfl ⟨by simp, (e03.ext e4).ext e5⟩

















































end Go.Proofs.YtgdbckjkeofoaaaGreat
