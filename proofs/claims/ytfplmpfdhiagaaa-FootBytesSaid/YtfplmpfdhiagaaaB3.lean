import Derived.Test.YtfplmpfdhiagaaaB2
import Derived.Laws.StructEq
import Derived.SizedLaws
/- Parts: CW8 CW8n CW9 CW2 CW4 CW10 FW18 FW19 CW13 FW20 FSpec6 FW21 CW14 CW15 FW22 Eng17 FW23 FW24 FW25 Eng18 FW26 FW32. -/
namespace Go.Proofs.Ytfplmpfdhiagaaa
open Go.RowKit Go.Proofs.Eng Go.Proofs.Codec
set_option linter.unusedSimpArgs false
set_option linter.unusedVariables false
attribute [local irreducible] T TL LV TH TA
set_option maxHeartbeats 1000000
theorem st_params (args : List Value) (n m : Nat) : ∀ a : Act, a.tmps = args.toArray ++ Array.replicate (n - args.length) undef → ∀ i v, Eng.look (params 0 args) i = some v → a.tmps.getD i undef = v := by
  intro a ha i v hv
  obtain ⟨_, hi⟩ := look_params args 0 i v hv
  have h1 : args[i]? = some v := by simpa using hi
  have h2 : i < args.length := (List.getElem?_eq_some_iff.1 h1).1
  rw [ha, Array.getD_eq_getD_getElem?, Array.getElem?_append_left (by simpa using h2)]
  simp [h1]
theorem Rd.mod0 {w w' : World} {A : Option Addr} {n s : Nat} {xs : List Value} {S : List Nat} (h : Rd w A n s xs) (hm : Mod S w w') (hS : 0 < n → Off A S) : Rd w' A n s xs := by
  rcases Nat.eq_zero_or_pos n with rfl | hn
  · exact ⟨h.1, fun hn => by omega⟩
  · exact h.mod hm (hS hn)
theorem Rd.offNew {w : World} {A : Option Addr} {n s x : Nat} {xs : List Value} (h : Rd w A n s xs) (hx : w.heap.size ≤ x) (hn : 0 < n) : Off A [x] := by
  obtain ⟨b, off, rfl, hb, _⟩ := h.2 (by omega)
  intro ad e hq
  cases e
  simp only [List.mem_singleton] at hq
  omega
theorem take_ok {α : Type} {s : RS} {z0 v : α} {k : Nat} {t : List UInt8 → Except Int (α × Nat)} (he : s.err = 0) (h : t (s.b.drop s.pos) = .ok (v, k)) : s.take z0 t = (v, { s with pos := s.pos + k, last := s.pos }) := by
  unfold RS.take; rw [if_pos he, h]
theorem take_err {α : Type} {s : RS} {z0 : α} {e : Int} {t : List UInt8 → Except Int (α × Nat)} (he : s.err = 0) (h : t (s.b.drop s.pos) = .error e) : s.take z0 t = (z0, { s with err := e, spot := s.pos }) := by
  unfold RS.take; rw [if_pos he, h]








































































































































































































































































































































theorem rdd0_string (w : World) (x y z : Nat) : CallsD Try.prog 104 #[ptr x, ptr y, ptr z] .returning w (fun e u w' => u = .returning ∧ e = .returned (.tuple #[]) ∧ w' = w) := by
  refine callsD_recover (n := 32) (args := [ptr x, ptr y, ptr z]) (st := params 0 [ptr x, ptr y, ptr z]) Try.func104 rfl rfl (st_params _ _ 0) rfl (.inl ⟨rfl, rfl, rfl⟩) ?_
  repeat (first | refine T_seq ?_ | refine T_region ?_ | refine T_cond_false rfl ?_ | refine T_skip ?_ | refine TL_ine_f TE (hk := ?_) | refine TL_nil ?_ | refine TL_move (hk := ?_) | refine TL_assign (hk := ?_))
  refine T_end0' rfl ⟨rfl, rfl⟩
theorem rdd1_string (b : Nat) (s : RS) (A : Option Addr) (n c : Nat) (e : Int) (w : World) (x y z : Nat) (tx ty tz : TypeId) (p : Nat) (v0 : Value) (h : Rdr w 107 b s A n c) (hx : Blk w x tx [.int .i64 (p : Int)]) (hy : Blk w y ty [v0]) (hz : Blk w z tz [ptr b])
    (hyb : y ≠ b) (hxb : x ≠ b) (hzb : z ≠ b) (hxy : x ≠ y) (hzy : z ≠ y) (hyA : 0 < n → Off A [y]) (hp : p ≤ n) :
    CallsD Try.prog 104 #[ptr x, ptr y, ptr z] (.panicking (gave e)) w (fun e' u w' => u = .panicking [{ v := .iface 112 (.agg #[.int .i64 e]), recovered := true }] ∧ e' = .returned (.tuple #[]) ∧ Mod [y, b] w w' ∧ Rdr w' 107 b { s with pos := p, err := e, spot := p } A n c ∧ Blk w' y ty [.string ⟨#[]⟩]) := by
  refine callsD_recover (n := 32) (args := [ptr x, ptr y, ptr z]) (st := params 0 [ptr x, ptr y, ptr z]) Try.func104 rfl rfl (st_params _ _ 0) rfl (.inr ⟨_, _, rfl, rfl, rfl⟩) ?_
  obtain ⟨hb, hr, ho, hl, hpp, hla, hbig, hcap⟩ := h
  repeat (first | refine T_seq ?_ | refine T_region ?_ | refine T_cond_true rfl ?_ | refine TL_ine_t TE (hk := ?_) | refine TL_nil ?_ | refine TL_move (hk := ?_) | refine TL_assign (hk := ?_) | refine TL_extract (hk := ?_) | refine TL_assert_t TE (hk := ?_))
  refine TL_alloc TE (hk := ?_); intro g w1 e1 g1 g2 kg
  --
  refine TL_store1 TE rfl rfl rfl rfl rfl (by exact kg) (by decide) (hk := ?_); intro w2 m2 s2 k2
  have e2 : Ext w w2 := Mod.step e1 m2 (fun y hy => .inr (by simp only [List.mem_singleton] at hy; omega))
  repeat (first | refine T_seq ?_ | refine T_region ?_ | refine T_cond_false rfl ?_ | refine T_skip ?_ | refine TL_nil ?_ | refine TL_move (hk := ?_) | refine TL_assign (hk := ?_) | refine TL_not (hk := ?_))
  have hxl := hx.be e2
  have hzl := hz.be e2
  have hyl := hy.be e2
  have hbl := hb.be e2
  refine T_region_h TE (fun w' => Blk w' x tx [.int .i64 (p : Int)] ∧ Blk w' z tz [ptr b] ∧ Blk w' g 112 [.int .i64 e]) (fun w3 e3 s3 => ⟨⟨hxl.be e3, hzl.be e3, k2.be e3⟩, ?_⟩)
  have hx3 := hxl.be e3
  have hz3 := hzl.be e3
  have hy3 := hyl.be e3
  have hb3 := hbl.be e3
  have hg3 := k2.be e3
  refine TH_load 0 TE rfl (by kernel_rfl) (by kernel_rfl) (by kernel_rfl) rfl rfl rfl rfl (by rintro w' ⟨h1, h2, h3⟩; first | exact h1 | exact h2 | exact h3) (by exact rfl) ?_; refine TH_load 1 TE rfl (by kernel_rfl) (by kernel_rfl) (by kernel_rfl) rfl rfl rfl rfl (by rintro w' ⟨h1, h2, h3⟩; first | exact h1 | exact h2 | exact h3) (by exact rfl) ?_; refine TH_load 2 TE rfl (by kernel_rfl) (by kernel_rfl) (by kernel_rfl) rfl rfl rfl rfl (by rintro w' ⟨h1, h2, h3⟩; first | exact h1 | exact h2 | exact h3) (by exact rfl) ?_
  refine TH_move 3 rfl (by kernel_rfl) (by kernel_rfl) (by kernel_rfl) rfl rfl ?_
  refine TH_load 4 TE rfl (by kernel_rfl) (by kernel_rfl) (by kernel_rfl) rfl rfl rfl rfl (by rintro w' ⟨h1, h2, h3⟩; first | exact h1 | exact h2 | exact h3) (by exact rfl) ?_
  refine TH_fieldAddr 5 TE rfl (by kernel_rfl) (by kernel_rfl) (by kernel_rfl) rfl rfl rfl rfl rfl rfl ?_
  refine TH_load 6 TE rfl (by kernel_rfl) (by kernel_rfl) (by kernel_rfl) rfl rfl rfl rfl (by rintro w' ⟨h1, h2, h3⟩; first | exact h1 | exact h2 | exact h3) (by exact rfl) ?_; refine TH_load 7 TE rfl (by kernel_rfl) (by kernel_rfl) (by kernel_rfl) rfl rfl rfl rfl (by rintro w' ⟨h1, h2, h3⟩; first | exact h1 | exact h2 | exact h3) (by exact rfl) ?_
  have yg : y < g := Nat.lt_of_lt_of_le hy.lt g1
  have bg : b < g := Nat.lt_of_lt_of_le hb.lt g1
  refine TH_store 8 TE rfl (by kernel_rfl) rfl rfl rfl rfl (by focus ((repeat (first | assumption | (apply Own.rd; assumption) | (apply Rd.blk; assumption; exact rfl) | (apply Blk.be; assumption) | (apply Rd.be; assumption) | (apply Own.be; assumption) | (apply Blk.bm; assumption; focus (first | assumption | (simp only [List.mem_cons, List.not_mem_nil, or_false]; omega))) | (apply Rd.bm; assumption; focus assumption) | (apply Own.bm; assumption; focus assumption))); done)) (by first | decide | (simp; done) | (simp; omega)) ?_; intro w4 m4 s4 k4
  have hx4 := hx3.mod m4 (by simpa using hxy)
  have hz4 := hz3.mod m4 (by simpa using hzy)
  have hg4 := hg3.mod m4 (by simp; omega)
  have hb4 := hb3.mod m4 (by simpa using Ne.symm hyb)
  refine ⟨⟨hx4, hz4, hg4⟩, ?_⟩
  refine TH_nilCheck 9 rfl (by kernel_rfl) (by kernel_rfl) (by kernel_rfl) rfl rfl ?_
  refine TH_fieldAddr 10 TE rfl (by kernel_rfl) (by kernel_rfl) (by kernel_rfl) rfl rfl rfl rfl rfl rfl ?_
  refine TH_store 11 TE rfl (by kernel_rfl) rfl rfl rfl rfl (by focus ((repeat (first | assumption | (apply Own.rd; assumption) | (apply Rd.blk; assumption; exact rfl) | (apply Blk.be; assumption) | (apply Rd.be; assumption) | (apply Own.be; assumption) | (apply Blk.bm; assumption; focus (first | assumption | (simp only [List.mem_cons, List.not_mem_nil, or_false]; omega))) | (apply Rd.bm; assumption; focus assumption) | (apply Own.bm; assumption; focus assumption))); done)) (by first | decide | (simp; done) | (simp; omega)) ?_; intro w5 m5 s5 k5
  have hx5 := hx4.mod m5 (by simpa using hxb)
  have hz5 := hz4.mod m5 (by simpa using hzb)
  have hg5 := hg4.mod m5 (by simp; omega)
  have hy5 := k4.mod m5 (by simpa using hyb)
  refine ⟨⟨hx5, hz5, hg5⟩, ?_⟩
  refine TH_nilCheck 12 rfl (by kernel_rfl) (by kernel_rfl) (by kernel_rfl) rfl rfl ?_
  refine TH_fieldAddr 13 TE rfl (by kernel_rfl) (by kernel_rfl) (by kernel_rfl) rfl rfl rfl rfl rfl rfl ?_
  refine TH_store 14 TE rfl (by kernel_rfl) rfl rfl rfl rfl (by focus ((repeat (first | assumption | (apply Own.rd; assumption) | (apply Rd.blk; assumption; exact rfl) | (apply Blk.be; assumption) | (apply Rd.be; assumption) | (apply Own.be; assumption) | (apply Blk.bm; assumption; focus (first | assumption | (simp only [List.mem_cons, List.not_mem_nil, or_false]; omega))) | (apply Rd.bm; assumption; focus assumption) | (apply Own.bm; assumption; focus assumption))); done)) (by first | decide | (simp; done) | (simp; omega)) ?_; intro w6 m6 s6 k6
  have hx6 := hx5.mod m6 (by simpa using hxb)
  have hz6 := hz5.mod m6 (by simpa using hzb)
  have hg6 := hg5.mod m6 (by simp; omega)
  have hy6 := hy5.mod m6 (by simpa using hyb)
  refine ⟨⟨hx6, hz6, hg6⟩, ?_⟩
  refine TH_nilCheck 15 rfl (by kernel_rfl) (by kernel_rfl) (by kernel_rfl) rfl rfl ?_
  refine TH_fieldAddr 16 TE rfl (by kernel_rfl) (by kernel_rfl) (by kernel_rfl) rfl rfl rfl rfl rfl rfl ?_
  refine TH_store 17 TE rfl (by kernel_rfl) rfl rfl rfl rfl (by focus ((repeat (first | assumption | (apply Own.rd; assumption) | (apply Rd.blk; assumption; exact rfl) | (apply Blk.be; assumption) | (apply Rd.be; assumption) | (apply Own.be; assumption) | (apply Blk.bm; assumption; focus (first | assumption | (simp only [List.mem_cons, List.not_mem_nil, or_false]; omega))) | (apply Rd.bm; assumption; focus assumption) | (apply Own.bm; assumption; focus assumption))); done)) (by first | decide | (simp; done) | (simp; omega)) ?_; intro w7 m7 s7 k7
  have hx7 := hx6.mod m7 (by simpa using hxb)
  have hz7 := hz6.mod m7 (by simpa using hzb)
  have hg7 := hg6.mod m7 (by simp; omega)
  have hy7 := hy6.mod m7 (by simpa using hyb)
  refine ⟨⟨hx7, hz7, hg7⟩, ?_⟩
  refine TH_done (by kernel_rfl) ?_
  have hm : Mod [y, b] w w7 := by
    have a1 : Mod [y, b] w w3 := Ext.mod (Mod.ext e2 e3)
    have a2 := a1.step m4 (fun q hq => .inl (by simp only [List.mem_cons, List.not_mem_nil, or_false] at hq ⊢; omega))
    have a3 := a2.step m5 (fun q hq => .inl (by simp only [List.mem_cons, List.not_mem_nil, or_false] at hq ⊢; omega))
    have a4 := a3.step m6 (fun q hq => .inl (by simp only [List.mem_cons, List.not_mem_nil, or_false] at hq ⊢; omega))
    exact a4.step m7 (fun q hq => .inl (by simp only [List.mem_cons, List.not_mem_nil, or_false] at hq ⊢; omega))
  refine T_end0' rfl ⟨rfl, hm, ⟨k7, Rd.mod0 hr hm ?_, ho, hl, hp, hla, hbig, hcap⟩, hy7⟩
  intro hn0 ad ea hq
  simp only [List.mem_cons, List.not_mem_nil, or_false] at hq
  rcases hq with hq | hq
  · exact hyA hn0 ad ea (by simpa using hq)
  · exact ho ad ea (by simpa using hq)
theorem rd_string {α : Type} (b : Nat) (s : RS) (A : Option Addr) (n c : Nat) (w : World) (g : Nat) (fst cap : List Value) (V : α → Value) (z0 : α) (hV : V z0 = .string ⟨#[]⟩) (hV1 : ∀ x, (V x).oneCell' = true) (t : List UInt8 → Except Int (α × Nat)) (hE : TE.fn g = true) (h : Rdr w 107 b s A n c)
    (hc : ∀ w', Ext w w' → Calls Try.prog g (fst ++ cap).toArray w' (Took w' b s A n c V (t (s.b.drop s.pos)))) :
    Ret Try.prog 90 [ptr b, .func (.func g) fst.toArray cap.toArray] w (fun v w' => v = V (s.take z0 t).1 ∧ Mod [b] w w' ∧ Rdr w' 107 b (s.take z0 t).2 A n c) := by
  have h0 := h
  obtain ⟨hb, hr, ho, hl, hpp, hla, hbig, hcap⟩ := h
  refine ret_T (n := 28) Try.func90 rfl rfl ?_
  repeat (first | refine T_seq ?_ | refine T_region ?_)
  refine TL_box (hk := ?_); intro x1 w1 e1 g1 g1' k1
  --
  refine TL_alloc TE (hk := ?_); intro x2 w2 e2 g2 g2' k2
  have e02 : Ext w w2 := e1.ext e2
  have hb2 := hb.be e02
  have k12 : Blk w2 x1 _ [ptr b] := k1.be e2
  have k22 : Blk w2 x2 _ [.string ⟨#[]⟩] := k2
  have lb := hb.lt
  have ls1 := e1.size
  by_cases he : s.err = 0
  · rw [he] at hb2
    repeat (first | refine T_seq ?_ | refine T_region ?_ | refine T_cond_false rfl ?_ | refine T_skip ?_ | refine TL_ne_f (hk := ?_) | refine TL_pnil_f TE (hk := ?_) | refine TL_nil ?_ | refine TL_move (hk := ?_) | refine TL_load TE (hk := ?_) | refine TL_fieldAddr TE (hk := ?_) | refine TL_yes (hk := ?_) | refine TL_pick_f (hk := ?_) | refine TL_nilCheck (hk := ?_))
    refine TL_alloc TE (hk := ?_); intro x3 w3 e3 g3 g3' k3
    --
    refine TL_store TE (hk := ?_); intro w4 m4 s4 k4
    have e34 : Ext w2 w4 := Mod.step e3 m4 (fun y hy => .inr (by simp only [List.mem_singleton] at hy; omega))
    have e04 : Ext w w4 := e02.ext e34
    have k14 := k12.be e34
    have k24 := k22.be e34
    have k34 : Blk w4 x3 _ [.int .i64 (s.pos : Int)] := k4
    have hc4 := hc w4 e04
    have l12 : x1 < x2 := by omega
    have ls2 := e2.size
    have l23 : x2 < x3 := by omega
    repeat (first | refine T_seq ?_ | refine T_region ?_ | refine TL_nil ?_ | refine TL_makeFunc (hk := ?_))
    refine TL_defer rfl rfl rfl ?_
    repeat (first | refine T_seq ?_ | refine T_region ?_ | refine TL_nil ?_ | refine TL_move (hk := ?_))
    refine TL_callc TE (fst := fst) (cap := cap) (vs := []) rfl rfl hE rfl (by simpa using hc4) ?_ ?_ (fun _ h => h)
    · rintro _ w5 ⟨x, k, hx, rfl, m5, h5⟩
      rw [take_ok he hx]
      have k15 := k14.mod m5 (by simp; omega)
      have k25 := k24.mod m5 (by simp; omega)
      have k35 := k34.mod m5 (by simp; omega)
      obtain ⟨hb5, hr5, _, _, hp5, _, _, _⟩ := h5
      simp only at hb5 hr5 hp5
      refine TL_store TE rfl rfl (hV1 x) rfl (by exact k25) (by decide) (hk := ?_); intro w6 m6 s6 k6
      have k16 := k15.mod m6 (by simp; omega)
      have k36 := k35.mod m6 (by simp; omega)
      have hb6 := hb5.mod m6 (by simp; omega)
      have hr6 := Rd.mod0 hr5 m6 (Rd.offNew hr (by omega))
      repeat (first | refine T_seq ?_ | refine T_region ?_ | refine TL_nil ?_ | refine TL_load TE (hk := ?_) | refine TL_fieldAddr TE (hk := ?_) | refine TL_nilCheck (hk := ?_))
      refine TL_store TE (hk := ?_); intro w7 m7 s7 k7
      have k17 := k16.mod m7 (by simp; omega)
      have k37 := k36.mod m7 (by simp; omega)
      have k27 : Blk w7 x2 _ [V x] := k6.mod m7 (by simp; omega)
      have hr7 := hr6.mod m7 ho
      repeat (first | refine T_seq ?_ | refine T_region ?_ | refine TL_nil ?_ | refine TL_load TE (hk := ?_))
      refine TL_store TE rfl rfl (hV1 x) rfl (by exact k27) (by simp) (hk := ?_); intro w8 m8 s8 k8
      have hb8 := k7.mod m8 (by simp; omega)
      have hr8 := Rd.mod0 hr7 m8 (Rd.offNew hr (by omega))
      have hm : Mod [b] w w8 := by
        have a1 : Mod [b] w w5 := (Ext.mod e04).trans m5
        have a2 := a1.step m6 (fun q hq => .inr (by simp only [List.mem_singleton] at hq; omega))
        have a3 := a2.trans m7
        exact a3.step m8 (fun q hq => .inr (by simp only [List.mem_singleton] at hq; omega))
      repeat (refine TL_nil ?_)
      refine T_leave ?_
      refine LV_defer TE (args := []) (cap := [ptr x3, ptr x2, ptr x1]) rfl (by simp) (rdd0_string w8 x3 x2 x1) ?_ ?_ ?_
      · rintro v u' w9 ⟨rfl, hv, rfl⟩
        refine LV_ret rfl (res1c TE rfl rfl rfl rfl k8 rfl) ?_
        exact ⟨rfl, hm, ⟨hb8, hr8, ho, hl, hp5, hpp, hbig, hcap⟩⟩
      · rintro ch u' w9 ⟨_, hv, _⟩; cases hv
      · rintro u' w9 ⟨_, hv, _⟩; cases hv
    · rintro ch w5 ⟨e, p, hx, rfl, m5, h5⟩
      rw [take_err he hx]
      have k15 := k14.mod m5 (by simp; omega)
      have k25 := k24.mod m5 (by simp; omega)
      have k35 := k34.mod m5 (by simp; omega)
      refine LV_defer TE (args := []) (cap := [ptr x3, ptr x2, ptr x1]) rfl (by simp) (rdd1_string b _ A n c e w5 x3 x2 x1 _ _ _ s.pos _ h5 k35 k25 k15 (by omega) (by omega) (by omega) (by omega) (by omega) (Rd.offNew hr (by omega)) hpp) ?_ ?_ ?_
      · rintro v u' w9 ⟨rfl, hv, m9, h9, k9⟩
        refine LV_ret rfl (res1c TE rfl rfl rfl rfl k9 rfl) ?_
        refine ⟨hV.symm, ?_, h9⟩
        exact ((Ext.mod e04).trans m5).step m9 (fun q hq => by simp only [List.mem_cons, List.not_mem_nil, or_false] at hq ⊢; omega)
      · rintro ch u' w9 ⟨_, hv, _⟩; cases hv
      · rintro u' w9 ⟨_, hv, _⟩; cases hv
  · have hs0 : s.take z0 t = (z0, s) := by unfold RS.take; rw [if_neg he]
    rw [hs0]
    repeat (first | refine T_seq ?_ | refine T_region ?_ | refine T_cond_true rfl ?_ | refine TL_ne_t (hk := ?_) | refine TL_pnil_f TE (hk := ?_) | refine TL_nil ?_ | refine TL_move (hk := ?_) | refine TL_load TE (hk := ?_) | refine TL_fieldAddr TE (hk := ?_) | refine TL_yes (hk := ?_) | refine TL_pick_f (hk := ?_) | refine TL_nilCheck (hk := ?_))
    refine TL_store TE (hk := ?_); intro w3 m3 s3 k3
    have hm : Ext w w3 := Mod.step e02 m3 (fun y hy => .inr (by simp only [List.mem_singleton] at hy; omega))
    repeat (refine TL_nil ?_)
    exact T_ret1c TE rfl rfl rfl rfl k3 rfl ⟨hV.symm, Ext.mod hm, h0.ext hm⟩
theorem rdd0_byte (w : World) (x y z : Nat) : CallsD Try.prog 105 #[ptr x, ptr y, ptr z] .returning w (fun e u w' => u = .returning ∧ e = .returned (.tuple #[]) ∧ w' = w) := by
  refine callsD_recover (n := 32) (args := [ptr x, ptr y, ptr z]) (st := params 0 [ptr x, ptr y, ptr z]) Try.func105 rfl rfl (st_params _ _ 0) rfl (.inl ⟨rfl, rfl, rfl⟩) ?_
  repeat (first | refine T_seq ?_ | refine T_region ?_ | refine T_cond_false rfl ?_ | refine T_skip ?_ | refine TL_ine_f TE (hk := ?_) | refine TL_nil ?_ | refine TL_move (hk := ?_) | refine TL_assign (hk := ?_))
  refine T_end0' rfl ⟨rfl, rfl⟩
theorem rdd1_byte (b : Nat) (s : RS) (A : Option Addr) (n c : Nat) (e : Int) (w : World) (x y z : Nat) (tx ty tz : TypeId) (p : Nat) (v0 : Value) (h : Rdr w 107 b s A n c) (hx : Blk w x tx [.int .i64 (p : Int)]) (hy : Blk w y ty [v0]) (hz : Blk w z tz [ptr b])
    (hyb : y ≠ b) (hxb : x ≠ b) (hzb : z ≠ b) (hxy : x ≠ y) (hzy : z ≠ y) (hyA : 0 < n → Off A [y]) (hp : p ≤ n) :
    CallsD Try.prog 105 #[ptr x, ptr y, ptr z] (.panicking (gave e)) w (fun e' u w' => u = .panicking [{ v := .iface 112 (.agg #[.int .i64 e]), recovered := true }] ∧ e' = .returned (.tuple #[]) ∧ Mod [y, b] w w' ∧ Rdr w' 107 b { s with pos := p, err := e, spot := p } A n c ∧ Blk w' y ty [.int .u8 0]) := by
  refine callsD_recover (n := 32) (args := [ptr x, ptr y, ptr z]) (st := params 0 [ptr x, ptr y, ptr z]) Try.func105 rfl rfl (st_params _ _ 0) rfl (.inr ⟨_, _, rfl, rfl, rfl⟩) ?_
  obtain ⟨hb, hr, ho, hl, hpp, hla, hbig, hcap⟩ := h
  repeat (first | refine T_seq ?_ | refine T_region ?_ | refine T_cond_true rfl ?_ | refine TL_ine_t TE (hk := ?_) | refine TL_nil ?_ | refine TL_move (hk := ?_) | refine TL_assign (hk := ?_) | refine TL_extract (hk := ?_) | refine TL_assert_t TE (hk := ?_))
  refine TL_alloc TE (hk := ?_); intro g w1 e1 g1 g2 kg
  --
  refine TL_store1 TE rfl rfl rfl rfl rfl (by exact kg) (by decide) (hk := ?_); intro w2 m2 s2 k2
  have e2 : Ext w w2 := Mod.step e1 m2 (fun y hy => .inr (by simp only [List.mem_singleton] at hy; omega))
  repeat (first | refine T_seq ?_ | refine T_region ?_ | refine T_cond_false rfl ?_ | refine T_skip ?_ | refine TL_nil ?_ | refine TL_move (hk := ?_) | refine TL_assign (hk := ?_) | refine TL_not (hk := ?_))
  have hxl := hx.be e2
  have hzl := hz.be e2
  have hyl := hy.be e2
  have hbl := hb.be e2
  refine T_region_h TE (fun w' => Blk w' x tx [.int .i64 (p : Int)] ∧ Blk w' z tz [ptr b] ∧ Blk w' g 112 [.int .i64 e]) (fun w3 e3 s3 => ⟨⟨hxl.be e3, hzl.be e3, k2.be e3⟩, ?_⟩)
  have hx3 := hxl.be e3
  have hz3 := hzl.be e3
  have hy3 := hyl.be e3
  have hb3 := hbl.be e3
  have hg3 := k2.be e3
  refine TH_load 0 TE rfl (by kernel_rfl) (by kernel_rfl) (by kernel_rfl) rfl rfl rfl rfl (by rintro w' ⟨h1, h2, h3⟩; first | exact h1 | exact h2 | exact h3) (by exact rfl) ?_; refine TH_load 1 TE rfl (by kernel_rfl) (by kernel_rfl) (by kernel_rfl) rfl rfl rfl rfl (by rintro w' ⟨h1, h2, h3⟩; first | exact h1 | exact h2 | exact h3) (by exact rfl) ?_; refine TH_load 2 TE rfl (by kernel_rfl) (by kernel_rfl) (by kernel_rfl) rfl rfl rfl rfl (by rintro w' ⟨h1, h2, h3⟩; first | exact h1 | exact h2 | exact h3) (by exact rfl) ?_
  refine TH_move 3 rfl (by kernel_rfl) (by kernel_rfl) (by kernel_rfl) rfl rfl ?_
  refine TH_load 4 TE rfl (by kernel_rfl) (by kernel_rfl) (by kernel_rfl) rfl rfl rfl rfl (by rintro w' ⟨h1, h2, h3⟩; first | exact h1 | exact h2 | exact h3) (by exact rfl) ?_
  refine TH_fieldAddr 5 TE rfl (by kernel_rfl) (by kernel_rfl) (by kernel_rfl) rfl rfl rfl rfl rfl rfl ?_
  refine TH_load 6 TE rfl (by kernel_rfl) (by kernel_rfl) (by kernel_rfl) rfl rfl rfl rfl (by rintro w' ⟨h1, h2, h3⟩; first | exact h1 | exact h2 | exact h3) (by exact rfl) ?_; refine TH_load 7 TE rfl (by kernel_rfl) (by kernel_rfl) (by kernel_rfl) rfl rfl rfl rfl (by rintro w' ⟨h1, h2, h3⟩; first | exact h1 | exact h2 | exact h3) (by exact rfl) ?_
  have yg : y < g := Nat.lt_of_lt_of_le hy.lt g1
  have bg : b < g := Nat.lt_of_lt_of_le hb.lt g1
  refine TH_store 8 TE rfl (by kernel_rfl) rfl rfl rfl rfl (by focus ((repeat (first | assumption | (apply Own.rd; assumption) | (apply Rd.blk; assumption; exact rfl) | (apply Blk.be; assumption) | (apply Rd.be; assumption) | (apply Own.be; assumption) | (apply Blk.bm; assumption; focus (first | assumption | (simp only [List.mem_cons, List.not_mem_nil, or_false]; omega))) | (apply Rd.bm; assumption; focus assumption) | (apply Own.bm; assumption; focus assumption))); done)) (by first | decide | (simp; done) | (simp; omega)) ?_; intro w4 m4 s4 k4
  have hx4 := hx3.mod m4 (by simpa using hxy)
  have hz4 := hz3.mod m4 (by simpa using hzy)
  have hg4 := hg3.mod m4 (by simp; omega)
  have hb4 := hb3.mod m4 (by simpa using Ne.symm hyb)
  refine ⟨⟨hx4, hz4, hg4⟩, ?_⟩
  refine TH_nilCheck 9 rfl (by kernel_rfl) (by kernel_rfl) (by kernel_rfl) rfl rfl ?_
  refine TH_fieldAddr 10 TE rfl (by kernel_rfl) (by kernel_rfl) (by kernel_rfl) rfl rfl rfl rfl rfl rfl ?_
  refine TH_store 11 TE rfl (by kernel_rfl) rfl rfl rfl rfl (by focus ((repeat (first | assumption | (apply Own.rd; assumption) | (apply Rd.blk; assumption; exact rfl) | (apply Blk.be; assumption) | (apply Rd.be; assumption) | (apply Own.be; assumption) | (apply Blk.bm; assumption; focus (first | assumption | (simp only [List.mem_cons, List.not_mem_nil, or_false]; omega))) | (apply Rd.bm; assumption; focus assumption) | (apply Own.bm; assumption; focus assumption))); done)) (by first | decide | (simp; done) | (simp; omega)) ?_; intro w5 m5 s5 k5
  have hx5 := hx4.mod m5 (by simpa using hxb)
  have hz5 := hz4.mod m5 (by simpa using hzb)
  have hg5 := hg4.mod m5 (by simp; omega)
  have hy5 := k4.mod m5 (by simpa using hyb)
  refine ⟨⟨hx5, hz5, hg5⟩, ?_⟩
  refine TH_nilCheck 12 rfl (by kernel_rfl) (by kernel_rfl) (by kernel_rfl) rfl rfl ?_
  refine TH_fieldAddr 13 TE rfl (by kernel_rfl) (by kernel_rfl) (by kernel_rfl) rfl rfl rfl rfl rfl rfl ?_
  refine TH_store 14 TE rfl (by kernel_rfl) rfl rfl rfl rfl (by focus ((repeat (first | assumption | (apply Own.rd; assumption) | (apply Rd.blk; assumption; exact rfl) | (apply Blk.be; assumption) | (apply Rd.be; assumption) | (apply Own.be; assumption) | (apply Blk.bm; assumption; focus (first | assumption | (simp only [List.mem_cons, List.not_mem_nil, or_false]; omega))) | (apply Rd.bm; assumption; focus assumption) | (apply Own.bm; assumption; focus assumption))); done)) (by first | decide | (simp; done) | (simp; omega)) ?_; intro w6 m6 s6 k6
  have hx6 := hx5.mod m6 (by simpa using hxb)
  have hz6 := hz5.mod m6 (by simpa using hzb)
  have hg6 := hg5.mod m6 (by simp; omega)
  have hy6 := hy5.mod m6 (by simpa using hyb)
  refine ⟨⟨hx6, hz6, hg6⟩, ?_⟩
  refine TH_nilCheck 15 rfl (by kernel_rfl) (by kernel_rfl) (by kernel_rfl) rfl rfl ?_
  refine TH_fieldAddr 16 TE rfl (by kernel_rfl) (by kernel_rfl) (by kernel_rfl) rfl rfl rfl rfl rfl rfl ?_
  refine TH_store 17 TE rfl (by kernel_rfl) rfl rfl rfl rfl (by focus ((repeat (first | assumption | (apply Own.rd; assumption) | (apply Rd.blk; assumption; exact rfl) | (apply Blk.be; assumption) | (apply Rd.be; assumption) | (apply Own.be; assumption) | (apply Blk.bm; assumption; focus (first | assumption | (simp only [List.mem_cons, List.not_mem_nil, or_false]; omega))) | (apply Rd.bm; assumption; focus assumption) | (apply Own.bm; assumption; focus assumption))); done)) (by first | decide | (simp; done) | (simp; omega)) ?_; intro w7 m7 s7 k7
  have hx7 := hx6.mod m7 (by simpa using hxb)
  have hz7 := hz6.mod m7 (by simpa using hzb)
  have hg7 := hg6.mod m7 (by simp; omega)
  have hy7 := hy6.mod m7 (by simpa using hyb)
  refine ⟨⟨hx7, hz7, hg7⟩, ?_⟩
  refine TH_done (by kernel_rfl) ?_
  have hm : Mod [y, b] w w7 := by
    have a1 : Mod [y, b] w w3 := Ext.mod (Mod.ext e2 e3)
    have a2 := a1.step m4 (fun q hq => .inl (by simp only [List.mem_cons, List.not_mem_nil, or_false] at hq ⊢; omega))
    have a3 := a2.step m5 (fun q hq => .inl (by simp only [List.mem_cons, List.not_mem_nil, or_false] at hq ⊢; omega))
    have a4 := a3.step m6 (fun q hq => .inl (by simp only [List.mem_cons, List.not_mem_nil, or_false] at hq ⊢; omega))
    exact a4.step m7 (fun q hq => .inl (by simp only [List.mem_cons, List.not_mem_nil, or_false] at hq ⊢; omega))
  refine T_end0' rfl ⟨rfl, hm, ⟨k7, Rd.mod0 hr hm ?_, ho, hl, hp, hla, hbig, hcap⟩, hy7⟩
  intro hn0 ad ea hq
  simp only [List.mem_cons, List.not_mem_nil, or_false] at hq
  rcases hq with hq | hq
  · exact hyA hn0 ad ea (by simpa using hq)
  · exact ho ad ea (by simpa using hq)
theorem rd_byte {α : Type} (b : Nat) (s : RS) (A : Option Addr) (n c : Nat) (w : World) (g : Nat) (fst cap : List Value) (V : α → Value) (z0 : α) (hV : V z0 = .int .u8 0) (hV1 : ∀ x, (V x).oneCell' = true) (t : List UInt8 → Except Int (α × Nat)) (hE : TE.fn g = true) (h : Rdr w 107 b s A n c)
    (hc : ∀ w', Ext w w' → Calls Try.prog g (fst ++ cap).toArray w' (Took w' b s A n c V (t (s.b.drop s.pos)))) :
    Ret Try.prog 92 [ptr b, .func (.func g) fst.toArray cap.toArray] w (fun v w' => v = V (s.take z0 t).1 ∧ Mod [b] w w' ∧ Rdr w' 107 b (s.take z0 t).2 A n c) := by
  have h0 := h
  obtain ⟨hb, hr, ho, hl, hpp, hla, hbig, hcap⟩ := h
  refine ret_T (n := 28) Try.func92 rfl rfl ?_
  repeat (first | refine T_seq ?_ | refine T_region ?_)
  refine TL_box (hk := ?_); intro x1 w1 e1 g1 g1' k1
  --
  refine TL_alloc TE (hk := ?_); intro x2 w2 e2 g2 g2' k2
  have e02 : Ext w w2 := e1.ext e2
  have hb2 := hb.be e02
  have k12 : Blk w2 x1 _ [ptr b] := k1.be e2
  have k22 : Blk w2 x2 _ [.int .u8 0] := k2
  have lb := hb.lt
  have ls1 := e1.size
  by_cases he : s.err = 0
  · rw [he] at hb2
    repeat (first | refine T_seq ?_ | refine T_region ?_ | refine T_cond_false rfl ?_ | refine T_skip ?_ | refine TL_ne_f (hk := ?_) | refine TL_pnil_f TE (hk := ?_) | refine TL_nil ?_ | refine TL_move (hk := ?_) | refine TL_load TE (hk := ?_) | refine TL_fieldAddr TE (hk := ?_) | refine TL_yes (hk := ?_) | refine TL_pick_f (hk := ?_) | refine TL_nilCheck (hk := ?_))
    refine TL_alloc TE (hk := ?_); intro x3 w3 e3 g3 g3' k3
    --
    refine TL_store TE (hk := ?_); intro w4 m4 s4 k4
    have e34 : Ext w2 w4 := Mod.step e3 m4 (fun y hy => .inr (by simp only [List.mem_singleton] at hy; omega))
    have e04 : Ext w w4 := e02.ext e34
    have k14 := k12.be e34
    have k24 := k22.be e34
    have k34 : Blk w4 x3 _ [.int .i64 (s.pos : Int)] := k4
    have hc4 := hc w4 e04
    have l12 : x1 < x2 := by omega
    have ls2 := e2.size
    have l23 : x2 < x3 := by omega
    repeat (first | refine T_seq ?_ | refine T_region ?_ | refine TL_nil ?_ | refine TL_makeFunc (hk := ?_))
    refine TL_defer rfl rfl rfl ?_
    repeat (first | refine T_seq ?_ | refine T_region ?_ | refine TL_nil ?_ | refine TL_move (hk := ?_))
    refine TL_callc TE (fst := fst) (cap := cap) (vs := []) rfl rfl hE rfl (by simpa using hc4) ?_ ?_ (fun _ h => h)
    · rintro _ w5 ⟨x, k, hx, rfl, m5, h5⟩
      rw [take_ok he hx]
      have k15 := k14.mod m5 (by simp; omega)
      have k25 := k24.mod m5 (by simp; omega)
      have k35 := k34.mod m5 (by simp; omega)
      obtain ⟨hb5, hr5, _, _, hp5, _, _, _⟩ := h5
      simp only at hb5 hr5 hp5
      refine TL_store TE rfl rfl (hV1 x) rfl (by exact k25) (by decide) (hk := ?_); intro w6 m6 s6 k6
      have k16 := k15.mod m6 (by simp; omega)
      have k36 := k35.mod m6 (by simp; omega)
      have hb6 := hb5.mod m6 (by simp; omega)
      have hr6 := Rd.mod0 hr5 m6 (Rd.offNew hr (by omega))
      repeat (first | refine T_seq ?_ | refine T_region ?_ | refine TL_nil ?_ | refine TL_load TE (hk := ?_) | refine TL_fieldAddr TE (hk := ?_) | refine TL_nilCheck (hk := ?_))
      refine TL_store TE (hk := ?_); intro w7 m7 s7 k7
      have k17 := k16.mod m7 (by simp; omega)
      have k37 := k36.mod m7 (by simp; omega)
      have k27 : Blk w7 x2 _ [V x] := k6.mod m7 (by simp; omega)
      have hr7 := hr6.mod m7 ho
      repeat (first | refine T_seq ?_ | refine T_region ?_ | refine TL_nil ?_ | refine TL_load TE (hk := ?_))
      refine TL_store TE rfl rfl (hV1 x) rfl (by exact k27) (by simp) (hk := ?_); intro w8 m8 s8 k8
      have hb8 := k7.mod m8 (by simp; omega)
      have hr8 := Rd.mod0 hr7 m8 (Rd.offNew hr (by omega))
      have hm : Mod [b] w w8 := by
        have a1 : Mod [b] w w5 := (Ext.mod e04).trans m5
        have a2 := a1.step m6 (fun q hq => .inr (by simp only [List.mem_singleton] at hq; omega))
        have a3 := a2.trans m7
        exact a3.step m8 (fun q hq => .inr (by simp only [List.mem_singleton] at hq; omega))
      repeat (refine TL_nil ?_)
      refine T_leave ?_
      refine LV_defer TE (args := []) (cap := [ptr x3, ptr x2, ptr x1]) rfl (by simp) (rdd0_byte w8 x3 x2 x1) ?_ ?_ ?_
      · rintro v u' w9 ⟨rfl, hv, rfl⟩
        refine LV_ret rfl (res1c TE rfl rfl rfl rfl k8 rfl) ?_
        exact ⟨rfl, hm, ⟨hb8, hr8, ho, hl, hp5, hpp, hbig, hcap⟩⟩
      · rintro ch u' w9 ⟨_, hv, _⟩; cases hv
      · rintro u' w9 ⟨_, hv, _⟩; cases hv
    · rintro ch w5 ⟨e, p, hx, rfl, m5, h5⟩
      rw [take_err he hx]
      have k15 := k14.mod m5 (by simp; omega)
      have k25 := k24.mod m5 (by simp; omega)
      have k35 := k34.mod m5 (by simp; omega)
      refine LV_defer TE (args := []) (cap := [ptr x3, ptr x2, ptr x1]) rfl (by simp) (rdd1_byte b _ A n c e w5 x3 x2 x1 _ _ _ s.pos _ h5 k35 k25 k15 (by omega) (by omega) (by omega) (by omega) (by omega) (Rd.offNew hr (by omega)) hpp) ?_ ?_ ?_
      · rintro v u' w9 ⟨rfl, hv, m9, h9, k9⟩
        refine LV_ret rfl (res1c TE rfl rfl rfl rfl k9 rfl) ?_
        refine ⟨hV.symm, ?_, h9⟩
        exact ((Ext.mod e04).trans m5).step m9 (fun q hq => by simp only [List.mem_cons, List.not_mem_nil, or_false] at hq ⊢; omega)
      · rintro ch u' w9 ⟨_, hv, _⟩; cases hv
      · rintro u' w9 ⟨_, hv, _⟩; cases hv
  · have hs0 : s.take z0 t = (z0, s) := by unfold RS.take; rw [if_neg he]
    rw [hs0]
    repeat (first | refine T_seq ?_ | refine T_region ?_ | refine T_cond_true rfl ?_ | refine TL_ne_t (hk := ?_) | refine TL_pnil_f TE (hk := ?_) | refine TL_nil ?_ | refine TL_move (hk := ?_) | refine TL_load TE (hk := ?_) | refine TL_fieldAddr TE (hk := ?_) | refine TL_yes (hk := ?_) | refine TL_pick_f (hk := ?_) | refine TL_nilCheck (hk := ?_))
    refine TL_store TE (hk := ?_); intro w3 m3 s3 k3
    have hm : Ext w w3 := Mod.step e02 m3 (fun y hy => .inr (by simp only [List.mem_singleton] at hy; omega))
    repeat (refine TL_nil ?_)
    exact T_ret1c TE rfl rfl rfl rfl k3 rfl ⟨hV.symm, Ext.mod hm, h0.ext hm⟩
theorem rdd0_int (w : World) (x y z : Nat) : CallsD Try.prog 102 #[ptr x, ptr y, ptr z] .returning w (fun e u w' => u = .returning ∧ e = .returned (.tuple #[]) ∧ w' = w) := by
  refine callsD_recover (n := 32) (args := [ptr x, ptr y, ptr z]) (st := params 0 [ptr x, ptr y, ptr z]) Try.func102 rfl rfl (st_params _ _ 0) rfl (.inl ⟨rfl, rfl, rfl⟩) ?_
  repeat (first | refine T_seq ?_ | refine T_region ?_ | refine T_cond_false rfl ?_ | refine T_skip ?_ | refine TL_ine_f TE (hk := ?_) | refine TL_nil ?_ | refine TL_move (hk := ?_) | refine TL_assign (hk := ?_))
  refine T_end0' rfl ⟨rfl, rfl⟩
theorem rdd1_int (b : Nat) (s : RS) (A : Option Addr) (n c : Nat) (e : Int) (w : World) (x y z : Nat) (tx ty tz : TypeId) (p : Nat) (v0 : Value) (h : Rdr w 107 b s A n c) (hx : Blk w x tx [.int .i64 (p : Int)]) (hy : Blk w y ty [v0]) (hz : Blk w z tz [ptr b])
    (hyb : y ≠ b) (hxb : x ≠ b) (hzb : z ≠ b) (hxy : x ≠ y) (hzy : z ≠ y) (hyA : 0 < n → Off A [y]) (hp : p ≤ n) :
    CallsD Try.prog 102 #[ptr x, ptr y, ptr z] (.panicking (gave e)) w (fun e' u w' => u = .panicking [{ v := .iface 112 (.agg #[.int .i64 e]), recovered := true }] ∧ e' = .returned (.tuple #[]) ∧ Mod [y, b] w w' ∧ Rdr w' 107 b { s with pos := p, err := e, spot := p } A n c ∧ Blk w' y ty [.int .i64 0]) := by
  refine callsD_recover (n := 32) (args := [ptr x, ptr y, ptr z]) (st := params 0 [ptr x, ptr y, ptr z]) Try.func102 rfl rfl (st_params _ _ 0) rfl (.inr ⟨_, _, rfl, rfl, rfl⟩) ?_
  obtain ⟨hb, hr, ho, hl, hpp, hla, hbig, hcap⟩ := h
  repeat (first | refine T_seq ?_ | refine T_region ?_ | refine T_cond_true rfl ?_ | refine TL_ine_t TE (hk := ?_) | refine TL_nil ?_ | refine TL_move (hk := ?_) | refine TL_assign (hk := ?_) | refine TL_extract (hk := ?_) | refine TL_assert_t TE (hk := ?_))
  refine TL_alloc TE (hk := ?_); intro g w1 e1 g1 g2 kg
  --
  refine TL_store1 TE rfl rfl rfl rfl rfl (by exact kg) (by decide) (hk := ?_); intro w2 m2 s2 k2
  have e2 : Ext w w2 := Mod.step e1 m2 (fun y hy => .inr (by simp only [List.mem_singleton] at hy; omega))
  repeat (first | refine T_seq ?_ | refine T_region ?_ | refine T_cond_false rfl ?_ | refine T_skip ?_ | refine TL_nil ?_ | refine TL_move (hk := ?_) | refine TL_assign (hk := ?_) | refine TL_not (hk := ?_))
  have hxl := hx.be e2
  have hzl := hz.be e2
  have hyl := hy.be e2
  have hbl := hb.be e2
  refine T_region_h TE (fun w' => Blk w' x tx [.int .i64 (p : Int)] ∧ Blk w' z tz [ptr b] ∧ Blk w' g 112 [.int .i64 e]) (fun w3 e3 s3 => ⟨⟨hxl.be e3, hzl.be e3, k2.be e3⟩, ?_⟩)
  have hx3 := hxl.be e3
  have hz3 := hzl.be e3
  have hy3 := hyl.be e3
  have hb3 := hbl.be e3
  have hg3 := k2.be e3
  refine TH_load 0 TE rfl (by kernel_rfl) (by kernel_rfl) (by kernel_rfl) rfl rfl rfl rfl (by rintro w' ⟨h1, h2, h3⟩; first | exact h1 | exact h2 | exact h3) (by exact rfl) ?_; refine TH_load 1 TE rfl (by kernel_rfl) (by kernel_rfl) (by kernel_rfl) rfl rfl rfl rfl (by rintro w' ⟨h1, h2, h3⟩; first | exact h1 | exact h2 | exact h3) (by exact rfl) ?_; refine TH_load 2 TE rfl (by kernel_rfl) (by kernel_rfl) (by kernel_rfl) rfl rfl rfl rfl (by rintro w' ⟨h1, h2, h3⟩; first | exact h1 | exact h2 | exact h3) (by exact rfl) ?_
  refine TH_move 3 rfl (by kernel_rfl) (by kernel_rfl) (by kernel_rfl) rfl rfl ?_
  refine TH_load 4 TE rfl (by kernel_rfl) (by kernel_rfl) (by kernel_rfl) rfl rfl rfl rfl (by rintro w' ⟨h1, h2, h3⟩; first | exact h1 | exact h2 | exact h3) (by exact rfl) ?_
  refine TH_fieldAddr 5 TE rfl (by kernel_rfl) (by kernel_rfl) (by kernel_rfl) rfl rfl rfl rfl rfl rfl ?_
  refine TH_load 6 TE rfl (by kernel_rfl) (by kernel_rfl) (by kernel_rfl) rfl rfl rfl rfl (by rintro w' ⟨h1, h2, h3⟩; first | exact h1 | exact h2 | exact h3) (by exact rfl) ?_; refine TH_load 7 TE rfl (by kernel_rfl) (by kernel_rfl) (by kernel_rfl) rfl rfl rfl rfl (by rintro w' ⟨h1, h2, h3⟩; first | exact h1 | exact h2 | exact h3) (by exact rfl) ?_
  have yg : y < g := Nat.lt_of_lt_of_le hy.lt g1
  have bg : b < g := Nat.lt_of_lt_of_le hb.lt g1
  refine TH_store 8 TE rfl (by kernel_rfl) rfl rfl rfl rfl (by focus ((repeat (first | assumption | (apply Own.rd; assumption) | (apply Rd.blk; assumption; exact rfl) | (apply Blk.be; assumption) | (apply Rd.be; assumption) | (apply Own.be; assumption) | (apply Blk.bm; assumption; focus (first | assumption | (simp only [List.mem_cons, List.not_mem_nil, or_false]; omega))) | (apply Rd.bm; assumption; focus assumption) | (apply Own.bm; assumption; focus assumption))); done)) (by first | decide | (simp; done) | (simp; omega)) ?_; intro w4 m4 s4 k4
  have hx4 := hx3.mod m4 (by simpa using hxy)
  have hz4 := hz3.mod m4 (by simpa using hzy)
  have hg4 := hg3.mod m4 (by simp; omega)
  have hb4 := hb3.mod m4 (by simpa using Ne.symm hyb)
  refine ⟨⟨hx4, hz4, hg4⟩, ?_⟩
  refine TH_nilCheck 9 rfl (by kernel_rfl) (by kernel_rfl) (by kernel_rfl) rfl rfl ?_
  refine TH_fieldAddr 10 TE rfl (by kernel_rfl) (by kernel_rfl) (by kernel_rfl) rfl rfl rfl rfl rfl rfl ?_
  refine TH_store 11 TE rfl (by kernel_rfl) rfl rfl rfl rfl (by focus ((repeat (first | assumption | (apply Own.rd; assumption) | (apply Rd.blk; assumption; exact rfl) | (apply Blk.be; assumption) | (apply Rd.be; assumption) | (apply Own.be; assumption) | (apply Blk.bm; assumption; focus (first | assumption | (simp only [List.mem_cons, List.not_mem_nil, or_false]; omega))) | (apply Rd.bm; assumption; focus assumption) | (apply Own.bm; assumption; focus assumption))); done)) (by first | decide | (simp; done) | (simp; omega)) ?_; intro w5 m5 s5 k5
  have hx5 := hx4.mod m5 (by simpa using hxb)
  have hz5 := hz4.mod m5 (by simpa using hzb)
  have hg5 := hg4.mod m5 (by simp; omega)
  have hy5 := k4.mod m5 (by simpa using hyb)
  refine ⟨⟨hx5, hz5, hg5⟩, ?_⟩
  refine TH_nilCheck 12 rfl (by kernel_rfl) (by kernel_rfl) (by kernel_rfl) rfl rfl ?_
  refine TH_fieldAddr 13 TE rfl (by kernel_rfl) (by kernel_rfl) (by kernel_rfl) rfl rfl rfl rfl rfl rfl ?_
  refine TH_store 14 TE rfl (by kernel_rfl) rfl rfl rfl rfl (by focus ((repeat (first | assumption | (apply Own.rd; assumption) | (apply Rd.blk; assumption; exact rfl) | (apply Blk.be; assumption) | (apply Rd.be; assumption) | (apply Own.be; assumption) | (apply Blk.bm; assumption; focus (first | assumption | (simp only [List.mem_cons, List.not_mem_nil, or_false]; omega))) | (apply Rd.bm; assumption; focus assumption) | (apply Own.bm; assumption; focus assumption))); done)) (by first | decide | (simp; done) | (simp; omega)) ?_; intro w6 m6 s6 k6
  have hx6 := hx5.mod m6 (by simpa using hxb)
  have hz6 := hz5.mod m6 (by simpa using hzb)
  have hg6 := hg5.mod m6 (by simp; omega)
  have hy6 := hy5.mod m6 (by simpa using hyb)
  refine ⟨⟨hx6, hz6, hg6⟩, ?_⟩
  refine TH_nilCheck 15 rfl (by kernel_rfl) (by kernel_rfl) (by kernel_rfl) rfl rfl ?_
  refine TH_fieldAddr 16 TE rfl (by kernel_rfl) (by kernel_rfl) (by kernel_rfl) rfl rfl rfl rfl rfl rfl ?_
  refine TH_store 17 TE rfl (by kernel_rfl) rfl rfl rfl rfl (by focus ((repeat (first | assumption | (apply Own.rd; assumption) | (apply Rd.blk; assumption; exact rfl) | (apply Blk.be; assumption) | (apply Rd.be; assumption) | (apply Own.be; assumption) | (apply Blk.bm; assumption; focus (first | assumption | (simp only [List.mem_cons, List.not_mem_nil, or_false]; omega))) | (apply Rd.bm; assumption; focus assumption) | (apply Own.bm; assumption; focus assumption))); done)) (by first | decide | (simp; done) | (simp; omega)) ?_; intro w7 m7 s7 k7
  have hx7 := hx6.mod m7 (by simpa using hxb)
  have hz7 := hz6.mod m7 (by simpa using hzb)
  have hg7 := hg6.mod m7 (by simp; omega)
  have hy7 := hy6.mod m7 (by simpa using hyb)
  refine ⟨⟨hx7, hz7, hg7⟩, ?_⟩
  refine TH_done (by kernel_rfl) ?_
  have hm : Mod [y, b] w w7 := by
    have a1 : Mod [y, b] w w3 := Ext.mod (Mod.ext e2 e3)
    have a2 := a1.step m4 (fun q hq => .inl (by simp only [List.mem_cons, List.not_mem_nil, or_false] at hq ⊢; omega))
    have a3 := a2.step m5 (fun q hq => .inl (by simp only [List.mem_cons, List.not_mem_nil, or_false] at hq ⊢; omega))
    have a4 := a3.step m6 (fun q hq => .inl (by simp only [List.mem_cons, List.not_mem_nil, or_false] at hq ⊢; omega))
    exact a4.step m7 (fun q hq => .inl (by simp only [List.mem_cons, List.not_mem_nil, or_false] at hq ⊢; omega))
  refine T_end0' rfl ⟨rfl, hm, ⟨k7, Rd.mod0 hr hm ?_, ho, hl, hp, hla, hbig, hcap⟩, hy7⟩
  intro hn0 ad ea hq
  simp only [List.mem_cons, List.not_mem_nil, or_false] at hq
  rcases hq with hq | hq
  · exact hyA hn0 ad ea (by simpa using hq)
  · exact ho ad ea (by simpa using hq)
theorem rd_int {α : Type} (b : Nat) (s : RS) (A : Option Addr) (n c : Nat) (w : World) (g : Nat) (fst cap : List Value) (V : α → Value) (z0 : α) (hV : V z0 = .int .i64 0) (hV1 : ∀ x, (V x).oneCell' = true) (t : List UInt8 → Except Int (α × Nat)) (hE : TE.fn g = true) (h : Rdr w 107 b s A n c)
    (hc : ∀ w', Ext w w' → Calls Try.prog g (fst ++ cap).toArray w' (Took w' b s A n c V (t (s.b.drop s.pos)))) :
    Ret Try.prog 87 [ptr b, .func (.func g) fst.toArray cap.toArray] w (fun v w' => v = V (s.take z0 t).1 ∧ Mod [b] w w' ∧ Rdr w' 107 b (s.take z0 t).2 A n c) := by
  have h0 := h
  obtain ⟨hb, hr, ho, hl, hpp, hla, hbig, hcap⟩ := h
  refine ret_T (n := 28) Try.func87 rfl rfl ?_
  repeat (first | refine T_seq ?_ | refine T_region ?_)
  refine TL_box (hk := ?_); intro x1 w1 e1 g1 g1' k1
  --
  refine TL_alloc TE (hk := ?_); intro x2 w2 e2 g2 g2' k2
  have e02 : Ext w w2 := e1.ext e2
  have hb2 := hb.be e02
  have k12 : Blk w2 x1 _ [ptr b] := k1.be e2
  have k22 : Blk w2 x2 _ [.int .i64 0] := k2
  have lb := hb.lt
  have ls1 := e1.size
  by_cases he : s.err = 0
  · rw [he] at hb2
    repeat (first | refine T_seq ?_ | refine T_region ?_ | refine T_cond_false rfl ?_ | refine T_skip ?_ | refine TL_ne_f (hk := ?_) | refine TL_pnil_f TE (hk := ?_) | refine TL_nil ?_ | refine TL_move (hk := ?_) | refine TL_load TE (hk := ?_) | refine TL_fieldAddr TE (hk := ?_) | refine TL_yes (hk := ?_) | refine TL_pick_f (hk := ?_) | refine TL_nilCheck (hk := ?_))
    refine TL_alloc TE (hk := ?_); intro x3 w3 e3 g3 g3' k3
    --
    refine TL_store TE (hk := ?_); intro w4 m4 s4 k4
    have e34 : Ext w2 w4 := Mod.step e3 m4 (fun y hy => .inr (by simp only [List.mem_singleton] at hy; omega))
    have e04 : Ext w w4 := e02.ext e34
    have k14 := k12.be e34
    have k24 := k22.be e34
    have k34 : Blk w4 x3 _ [.int .i64 (s.pos : Int)] := k4
    have hc4 := hc w4 e04
    have l12 : x1 < x2 := by omega
    have ls2 := e2.size
    have l23 : x2 < x3 := by omega
    repeat (first | refine T_seq ?_ | refine T_region ?_ | refine TL_nil ?_ | refine TL_makeFunc (hk := ?_))
    refine TL_defer rfl rfl rfl ?_
    repeat (first | refine T_seq ?_ | refine T_region ?_ | refine TL_nil ?_ | refine TL_move (hk := ?_))
    refine TL_callc TE (fst := fst) (cap := cap) (vs := []) rfl rfl hE rfl (by simpa using hc4) ?_ ?_ (fun _ h => h)
    · rintro _ w5 ⟨x, k, hx, rfl, m5, h5⟩
      rw [take_ok he hx]
      have k15 := k14.mod m5 (by simp; omega)
      have k25 := k24.mod m5 (by simp; omega)
      have k35 := k34.mod m5 (by simp; omega)
      obtain ⟨hb5, hr5, _, _, hp5, _, _, _⟩ := h5
      simp only at hb5 hr5 hp5
      refine TL_store TE rfl rfl (hV1 x) rfl (by exact k25) (by decide) (hk := ?_); intro w6 m6 s6 k6
      have k16 := k15.mod m6 (by simp; omega)
      have k36 := k35.mod m6 (by simp; omega)
      have hb6 := hb5.mod m6 (by simp; omega)
      have hr6 := Rd.mod0 hr5 m6 (Rd.offNew hr (by omega))
      repeat (first | refine T_seq ?_ | refine T_region ?_ | refine TL_nil ?_ | refine TL_load TE (hk := ?_) | refine TL_fieldAddr TE (hk := ?_) | refine TL_nilCheck (hk := ?_))
      refine TL_store TE (hk := ?_); intro w7 m7 s7 k7
      have k17 := k16.mod m7 (by simp; omega)
      have k37 := k36.mod m7 (by simp; omega)
      have k27 : Blk w7 x2 _ [V x] := k6.mod m7 (by simp; omega)
      have hr7 := hr6.mod m7 ho
      repeat (first | refine T_seq ?_ | refine T_region ?_ | refine TL_nil ?_ | refine TL_load TE (hk := ?_))
      refine TL_store TE rfl rfl (hV1 x) rfl (by exact k27) (by simp) (hk := ?_); intro w8 m8 s8 k8
      have hb8 := k7.mod m8 (by simp; omega)
      have hr8 := Rd.mod0 hr7 m8 (Rd.offNew hr (by omega))
      have hm : Mod [b] w w8 := by
        have a1 : Mod [b] w w5 := (Ext.mod e04).trans m5
        have a2 := a1.step m6 (fun q hq => .inr (by simp only [List.mem_singleton] at hq; omega))
        have a3 := a2.trans m7
        exact a3.step m8 (fun q hq => .inr (by simp only [List.mem_singleton] at hq; omega))
      repeat (refine TL_nil ?_)
      refine T_leave ?_
      refine LV_defer TE (args := []) (cap := [ptr x3, ptr x2, ptr x1]) rfl (by simp) (rdd0_int w8 x3 x2 x1) ?_ ?_ ?_
      · rintro v u' w9 ⟨rfl, hv, rfl⟩
        refine LV_ret rfl (res1c TE rfl rfl rfl rfl k8 rfl) ?_
        exact ⟨rfl, hm, ⟨hb8, hr8, ho, hl, hp5, hpp, hbig, hcap⟩⟩
      · rintro ch u' w9 ⟨_, hv, _⟩; cases hv
      · rintro u' w9 ⟨_, hv, _⟩; cases hv
    · rintro ch w5 ⟨e, p, hx, rfl, m5, h5⟩
      rw [take_err he hx]
      have k15 := k14.mod m5 (by simp; omega)
      have k25 := k24.mod m5 (by simp; omega)
      have k35 := k34.mod m5 (by simp; omega)
      refine LV_defer TE (args := []) (cap := [ptr x3, ptr x2, ptr x1]) rfl (by simp) (rdd1_int b _ A n c e w5 x3 x2 x1 _ _ _ s.pos _ h5 k35 k25 k15 (by omega) (by omega) (by omega) (by omega) (by omega) (Rd.offNew hr (by omega)) hpp) ?_ ?_ ?_
      · rintro v u' w9 ⟨rfl, hv, m9, h9, k9⟩
        refine LV_ret rfl (res1c TE rfl rfl rfl rfl k9 rfl) ?_
        refine ⟨hV.symm, ?_, h9⟩
        exact ((Ext.mod e04).trans m5).step m9 (fun q hq => by simp only [List.mem_cons, List.not_mem_nil, or_false] at hq ⊢; omega)
      · rintro ch u' w9 ⟨_, hv, _⟩; cases hv
      · rintro u' w9 ⟨_, hv, _⟩; cases hv
  · have hs0 : s.take z0 t = (z0, s) := by unfold RS.take; rw [if_neg he]
    rw [hs0]
    repeat (first | refine T_seq ?_ | refine T_region ?_ | refine T_cond_true rfl ?_ | refine TL_ne_t (hk := ?_) | refine TL_pnil_f TE (hk := ?_) | refine TL_nil ?_ | refine TL_move (hk := ?_) | refine TL_load TE (hk := ?_) | refine TL_fieldAddr TE (hk := ?_) | refine TL_yes (hk := ?_) | refine TL_pick_f (hk := ?_) | refine TL_nilCheck (hk := ?_))
    refine TL_store TE (hk := ?_); intro w3 m3 s3 k3
    have hm : Ext w w3 := Mod.step e02 m3 (fun y hy => .inr (by simp only [List.mem_singleton] at hy; omega))
    repeat (refine TL_nil ?_)
    exact T_ret1c TE rfl rfl rfl rfl k3 rfl ⟨hV.symm, Ext.mod hm, h0.ext hm⟩
end Go.Proofs.Ytfplmpfdhiagaaa

namespace Go.Proofs.Ytfplmpfdhiagaaa
open Go.RowKit Go.Proofs.Eng Go.Proofs.Codec
set_option linter.unusedSimpArgs false
set_option linter.unusedVariables false
attribute [local irreducible] T TL LV TH TA
set_option maxHeartbeats 1000000






























end Go.Proofs.Ytfplmpfdhiagaaa

namespace Go.Proofs.Ytfplmpfdhiagaaa
open Go.RowKit Go.Proofs.Eng Go.Proofs.Codec
set_option linter.unusedSimpArgs false
set_option linter.unusedVariables false
attribute [local irreducible] T TL LV TH TA
set_option maxHeartbeats 1000000
theorem Byte_c (b : Nat) (s : RS) (A : Option Addr) (n c : Nat) (w : World) (h : Rdr w 107 b s A n c) :
    Ret Try.prog 66 [ptr b] w (fun v w' => v = (fun x : Nat => Value.int .u8 (x : Int)) (s.take (0 : Nat) tByte).1 ∧ Mod [b] w w' ∧ Rdr w' 107 b (s.take (0 : Nat) tByte).2 A n c) := by
  refine ret_T (n := 7) Try.func66 rfl rfl ?_
  repeat (first | refine T_seq ?_ | refine T_region ?_ | refine TL_nil ?_ | refine TL_move (hk := ?_) | refine TL_assign (hk := ?_) | refine TL_makeFunc (hk := ?_))
  refine TL_call TE (hc := rd_byte b s A n c w 93 [ptr b] [] (fun x : Nat => Value.int .u8 (x : Int)) (0 : Nat) rfl (fun _ => rfl) tByte rfl h (fun w' e => byte_c b s A n c w' (h.ext e))) (hk := ?_)
  rintro _ w1 ⟨rfl, m1, h1⟩
  repeat (first | refine TL_nil ?_ | refine TL_assign (hk := ?_))
  exact T_ret1 rfl rfl ⟨rfl, m1, h1⟩
theorem Count_c (b : Nat) (s : RS) (A : Option Addr) (n c : Nat) (most : Int) (hmo : -9223372036854775808 ≤ most ∧ most ≤ 9223372036854775807) (w : World) (h : Rdr w 107 b s A n c) :
    Ret Try.prog 63 [ptr b, .int .i64 most] w (fun v w' => v = (fun x : Nat => Value.int .i64 (x : Int)) (s.take (0 : Nat) (tLim most 6)).1 ∧ Mod [b] w w' ∧ Rdr w' 107 b (s.take (0 : Nat) (tLim most 6)).2 A n c) := by
  refine ret_T (n := 8) Try.func63 rfl rfl ?_
  repeat (first | refine T_seq ?_ | refine T_region ?_)
  refine TL_box (hk := ?_); intro x1 w1 e1 g1 g1' k1
  --
  refine TL_box (hk := ?_); intro x2 w2 e2 g2 g2' k2
  have k12 : Blk w2 x1 _ [ptr b] := k1.be e2
  have k22 : Blk w2 x2 _ [.int .i64 most] := k2
  have e02 : Ext w w2 := e1.ext e2
  have lb := h.blk.lt
  repeat (first | refine T_seq ?_ | refine T_region ?_ | refine TL_nil ?_ | refine TL_assign (hk := ?_) | refine TL_load TE (hk := ?_) | refine TL_makeFunc (hk := ?_))
  refine TL_call TE (hc := rd_int b s A n c w2 88 [] [ptr x1, ptr x2] (fun x : Nat => Value.int .i64 (x : Int)) (0 : Nat) rfl (fun _ => rfl) (tLim most 6) rfl (h.ext e02) (fun w' e => Count1_c b x1 x2 _ _ s A n c most hmo w' ((h.ext e02).ext e) (k12.ext e) (k22.ext e) )) (hk := ?_)
  rintro _ w3 ⟨rfl, m3, h3⟩
  repeat (first | refine TL_nil ?_ | refine TL_assign (hk := ?_))
  exact T_ret1 rfl rfl ⟨rfl, (Ext.mod e02).trans m3, h3⟩
theorem Text_c (b : Nat) (s : RS) (A : Option Addr) (n c : Nat) (most : Int) (hmo : -9223372036854775808 ≤ most ∧ most ≤ 9223372036854775807) (w : World) (h : Rdr w 107 b s A n c) :
    Ret Try.prog 64 [ptr b, .int .i64 most] w (fun v w' => v = (fun x : List UInt8 => Value.string ⟨x.toArray⟩) (s.take ([] : List UInt8) (tText most)).1 ∧ Mod [b] w w' ∧ Rdr w' 107 b (s.take ([] : List UInt8) (tText most)).2 A n c) := by
  refine ret_T (n := 8) Try.func64 rfl rfl ?_
  repeat (first | refine T_seq ?_ | refine T_region ?_)
  refine TL_box (hk := ?_); intro x1 w1 e1 g1 g1' k1
  --
  refine TL_box (hk := ?_); intro x2 w2 e2 g2 g2' k2
  have k12 : Blk w2 x1 _ [ptr b] := k1.be e2
  have k22 : Blk w2 x2 _ [.int .i64 most] := k2
  have e02 : Ext w w2 := e1.ext e2
  have lb := h.blk.lt
  repeat (first | refine T_seq ?_ | refine T_region ?_ | refine TL_nil ?_ | refine TL_assign (hk := ?_) | refine TL_load TE (hk := ?_) | refine TL_makeFunc (hk := ?_))
  refine TL_call TE (hc := rd_string b s A n c w2 91 [] [ptr x1, ptr x2] (fun x : List UInt8 => Value.string ⟨x.toArray⟩) ([] : List UInt8) rfl (fun _ => rfl) (tText most) rfl (h.ext e02) (fun w' e => Text1_c b x1 x2 _ _ s A n c most hmo w' ((h.ext e02).ext e) (k12.ext e) (k22.ext e) (by omega))) (hk := ?_)
  rintro _ w3 ⟨rfl, m3, h3⟩
  repeat (first | refine TL_nil ?_ | refine TL_assign (hk := ?_))
  exact T_ret1 rfl rfl ⟨rfl, (Ext.mod e02).trans m3, h3⟩
theorem Fail_c (b : Nat) (s : RS) (A : Option Addr) (n c : Nat) (e : Int) (w : World) (h : Rdr w 107 b s A n c) :
    Ret Try.prog 65 [ptr b, .int .i64 e] w (fun v w' => v = .tuple #[] ∧ Mod [b] w w' ∧ Rdr w' 107 b (s.fail e) A n c) := by
  have h0 := h
  obtain ⟨hb, hr, ho, hl, hp, hla, hbig, hcap⟩ := h
  refine ret_T (n := 28) Try.func65 rfl rfl ?_
  by_cases he : s.err = 0
  · by_cases he2 : e = 0
    · have hs : s.fail e = s := by unfold RS.fail; rw [if_neg (by omega)]
      rw [hs]
      repeat (first | refine T_seq ?_ | refine T_region ?_ | refine T_cond_false rfl ?_ | refine T_skip ?_ | refine TL_eq_t (hk := ?_) | refine TL_ne_f (hk := ?_) | refine TL_pnn_t TE (hk := ?_) | refine TL_nil ?_ | refine TL_move (hk := ?_) | refine TL_load TE (hk := ?_) | refine TL_fieldAddr TE (hk := ?_) | refine TL_yes (hk := ?_) | refine TL_pick_t (hk := ?_) | refine TL_nilCheck (hk := ?_))
      exact T_end0 rfl ⟨rfl, Mod.refl _ _, h0⟩
    · have hs : s.fail e = { s with err := e, spot := s.last } := by unfold RS.fail; rw [if_pos ⟨he, he2⟩]
      rw [hs]
      repeat (first | refine T_seq ?_ | refine T_region ?_ | refine T_cond_true rfl ?_ | refine TL_eq_t (hk := ?_) | refine TL_ne_t (hk := ?_) | refine TL_pnn_t TE (hk := ?_) | refine TL_nil ?_ | refine TL_move (hk := ?_) | refine TL_load TE (hk := ?_) | refine TL_fieldAddr TE (hk := ?_) | refine TL_yes (hk := ?_) | refine TL_pick_t (hk := ?_) | refine TL_nilCheck (hk := ?_))
      refine TL_store TE (hk := ?_); intro w1 m1 s1 k1
      repeat (first | refine TL_fieldAddr TE (hk := ?_) | refine TL_nilCheck (hk := ?_))
      refine TL_store TE (hk := ?_); intro w2 m2 s2 k2
      repeat (refine TL_nil ?_)
      have hm := m1.trans m2
      exact T_end0 rfl ⟨rfl, hm, ⟨k2, hr.mod hm ho, ho, hl, hp, hla, hbig, hcap⟩⟩
  · have hs : s.fail e = s := by unfold RS.fail; rw [if_neg (by omega)]
    rw [hs]
    repeat (first | refine T_seq ?_ | refine T_region ?_ | refine T_cond_false rfl ?_ | refine T_skip ?_ | refine TL_eq_f (hk := ?_) | refine TL_pnn_t TE (hk := ?_) | refine TL_nil ?_ | refine TL_move (hk := ?_) | refine TL_load TE (hk := ?_) | refine TL_fieldAddr TE (hk := ?_) | refine TL_yes (hk := ?_) | refine TL_no (hk := ?_) | refine TL_pick_t (hk := ?_) | refine TL_pick_f (hk := ?_) | refine TL_nilCheck (hk := ?_))
    exact T_end0 rfl ⟨rfl, Mod.refl _ _, h0⟩
theorem Why_c (b : Nat) (s : RS) (A : Option Addr) (n c : Nat) (w : World) (h : Rdr w 107 b s A n c) :
    Ret Try.prog 67 [ptr b] w (fun v w' => v = .tuple #[.int .i64 s.err, .int .i64 ((if s.err = 0 then 0 else s.spot : Nat) : Int)] ∧ Ext w w') := by
  have h0 := h
  obtain ⟨hb, hr, ho, hl, hp, hla, hbig, hcap⟩ := h
  refine ret_T (n := 21) Try.func67 rfl rfl ?_
  by_cases he : s.err = 0
  · rw [if_pos he, he]
    repeat (first | refine T_seq ?_ | refine T_region ?_ | refine T_cond_true rfl ?_ | refine TL_eq_t (hk := ?_) | refine TL_pnil_f TE (hk := ?_) | refine TL_nil ?_ | refine TL_move (hk := ?_) | refine TL_assign (hk := ?_) | refine TL_load TE (hk := ?_) | refine TL_fieldAddr TE (hk := ?_) | refine TL_yes (hk := ?_) | refine TL_pick_f (hk := ?_) | refine TL_nilCheck (hk := ?_))
    exact T_ret2 rfl rfl rfl ⟨rfl, Mod.refl _ _⟩
  · rw [if_neg he]
    repeat (first | refine T_seq ?_ | refine T_region ?_ | refine T_region_q TE.mixed (by kernel_rfl) ?_ | refine T_cond_false rfl ?_ | refine T_skip ?_ | refine TL_eq_f (hk := ?_) | refine TL_pnil_f TE (hk := ?_) | refine TL_nil ?_ | refine TL_move (hk := ?_) | refine TL_assign (hk := ?_) | refine TL_load TE (hk := ?_) | refine TL_fieldAddr TE (hk := ?_) | refine TL_yes (hk := ?_) | refine TL_pick_f (hk := ?_) | refine TL_nilCheck (hk := ?_))
    refine TL_nil_q ?_; intro w1 e1
    exact T_ret2 rfl rfl rfl ⟨rfl, e1⟩
theorem Rest_c (b : Nat) (s : RS) (A : Option Addr) (n c : Nat) (w : World) (h : Rdr w 107 b s A n c) :
    Ret Try.prog 68 [ptr b] w (fun v w' => v = .int .i64 (s.rest : Int) ∧ Ext w w') := by
  have h0 := h
  obtain ⟨hb, hr, ho, hl, hp, hla, hbig, hcap⟩ := h
  refine ret_T (n := 22) Try.func68 rfl rfl ?_
  by_cases he : s.err = 0
  · have hs : s.rest = n - s.pos := by unfold RS.rest; rw [if_pos he, hl]
    rw [hs]
    repeat (first | refine T_seq ?_ | refine T_region ?_ | refine T_region_q TE.mixed (by kernel_rfl) ?_ | refine T_cond_false rfl ?_ | refine T_skip ?_ | refine TL_sub (hk := ?_) | refine TL_ne_f (hk := ?_) | refine TL_pnil_f TE (hk := ?_) | refine TL_nil ?_ | refine TL_move (hk := ?_) | refine TL_assign (hk := ?_) | refine TL_load TE (hk := ?_) | refine TL_fieldAddr TE (hk := ?_) | refine TL_len TE (hk := ?_) | refine TL_yes (hk := ?_) | refine TL_pick_f (hk := ?_) | refine TL_nilCheck (hk := ?_))
    refine TL_nil_q ?_; intro w1 e1
    refine T_ret1 rfl rfl ⟨?_, e1⟩
    show Value.int .i64 ((n : Int) - (s.pos : Int)) = _
    rw [show ((n - s.pos : Nat) : Int) = (n : Int) - (s.pos : Int) by omega]
  · have hs : s.rest = 0 := by unfold RS.rest; rw [if_neg he]
    rw [hs]
    repeat (first | refine T_seq ?_ | refine T_region ?_ | refine T_cond_true rfl ?_ | refine TL_ne_t (hk := ?_) | refine TL_pnil_f TE (hk := ?_) | refine TL_nil ?_ | refine TL_move (hk := ?_) | refine TL_assign (hk := ?_) | refine TL_load TE (hk := ?_) | refine TL_fieldAddr TE (hk := ?_) | refine TL_yes (hk := ?_) | refine TL_pick_f (hk := ?_) | refine TL_nilCheck (hk := ?_))
    exact T_ret1 rfl rfl ⟨rfl, Mod.refl _ _⟩
end Go.Proofs.Ytfplmpfdhiagaaa

namespace Go.Proofs.Ytfplmpfdhiagaaa
open Go.RowKit Go.Proofs.Eng Go.Proofs.Codec
set_option linter.unusedSimpArgs false
set_option linter.unusedVariables false
attribute [local irreducible] T TL LV TH TA
















































































end Go.Proofs.Ytfplmpfdhiagaaa

namespace Go.Proofs.Ytfplmpfdhiagaaa
open Go.RowKit Go.Proofs.Eng Go.Proofs.Codec
set_option linter.unusedSimpArgs false
set_option linter.unusedVariables false
attribute [local irreducible] T TL LV TH TA
set_option maxHeartbeats 1000000

theorem RPutUint_c (A : Option Addr) (n c : Nat) (l : List UInt8) (x : Nat) (w : World) {z : Int} (hz : z = (x : Int)) (h : Rd w A n 1 (bv l)) (hn : n ≤ 70368744177000) (hx : x < 2 ^ 64) :
    Ret Try.prog 59 [.slice A n c, .int .u64 z] w (fun v w' => ∃ A' n' c', v = .slice A' n' c' ∧ Ext w w' ∧ Own w' w.heap.size 5 1 A' n' c' (bv (l ++ encU x))) := by
  subst hz
  have hlen : l.length = n := by simpa using h.1
  refine ret_T (n := 25) Try.func59 rfl rfl ?_
  repeat (first | refine T_seq ?_ | refine T_region ?_ | refine TL_nil ?_ | refine TL_assign (hk := ?_))
  refine TL_buildSlice TE (hk := ?_); intro b1 w1 e1 h1 h2 k1
  have o1 : Own w1 w.heap.size 5 1 (some ⟨b1, 0, none⟩) 0 0 [] := Own.of_blk k1 h1 rfl (by decide)
  have s1 := e1.size
  repeat (refine TL_move (hk := ?_))
  refine TL_append TE (hk := ?_); intro A1 c1 wb ob mb nb
  have e1 : Ext w wb := e1.own mb o1.hi
  have s1 := mb.size
  repeat (first | refine T_seq ?_ | refine T_block ?_ | refine TL_nil ?_ | refine TL_assign (hk := ?_))
  refine T_loop (ι := (Option Addr × Nat × Nat) × List UInt8 × Nat) (fun i => [(5, .slice i.1.1 i.1.2.1 i.1.2.2), (1, .int .u64 (i.2.2 : Int))])
    (fun i w' => Ext w w' ∧ Own w' w.heap.size 5 1 i.1.1 i.1.2.1 i.1.2.2 (bv (l ++ i.2.1)) ∧ i.2.1 ++ encU i.2.2 = encU x ∧ i.2.2 < 2 ^ 64) (fun i => i.2.2) ((A1, 0 + n, c1), [], x) (.c rfl (.c rfl (.n))) ⟨e1, by simpa using ob, rfl, hx⟩ ?_
  rintro ⟨⟨A2, n2, c2⟩, pre, m⟩ w2 ⟨e2, o2, hpre, hm⟩ ih
  simp only at e2 o2 hpre hm ih ⊢
  have s2 := e2.size
  have hn2 := o2.len
  have hl10 := encU_len64 hx
  rw [← hpre] at hl10
  simp only [bv_length, List.length_append, Nat.mul_one] at hn2 hl10
  have hp := encU_pos m
  by_cases h128 : m < 128
  · repeat (first | refine T_seq ?_ | refine T_region ?_ | refine T_cond_false rfl ?_ | refine T_exit rfl ?_ | refine TL_gt_f (hk := ?_) | refine TL_nil ?_ | refine TL_move (hk := ?_) | refine TL_conv TE (hk := ?_))
    refine TL_buildSlice TE (hk := ?_); intro b3 w3 e3 h31 h32 k3
    have s3 := e3.size
    --
    refine TL_append TE (hk := ?_); intro A4 c4 w4 o4 m4 n4
    repeat (first | refine TL_nil ?_ | refine TL_assign (hk := ?_))
    refine T_ret1 rfl rfl ⟨A4, _, c4, rfl, (e2.ext e3).own m4 o2.hi, ?_⟩
    rw [bv_snoc _ _ (by omega), List.append_assoc] at o4
    rw [← hpre, encU_lt h128]
    exact o4
  · repeat (first | refine T_seq ?_ | refine T_region ?_ | refine T_cond_true rfl ?_ | refine T_block ?_ | refine T_skip ?_ | refine TL_add (hk := ?_) | refine TL_rem (hk := ?_) | refine TL_gt_t (hk := ?_) | refine TL_nil ?_ | refine TL_move (hk := ?_) | refine TL_conv TE (hk := ?_))
    refine TL_buildSlice TE (hk := ?_); intro b3 w3 e3 h31 h32 k3
    have s3 := e3.size
    --
    refine TL_append TE (hk := ?_); intro A4 c4 w4 o4 m4 n4
    repeat (first | refine T_region ?_ | refine T_inBlock ?_ | refine TL_quo (hk := ?_) | refine TL_nil ?_ | refine TL_move (hk := ?_) | refine TL_assign (hk := ?_))
    have ho : Own w4 w.heap.size 5 1 A4 (n2 + 1) c4 (bv (l ++ (pre ++ [UInt8.ofNat (m % 128 + 128)]))) := by
      have o5 : Own w4 w.heap.size 5 1 A4 (n2 + 1) c4 (bv (l ++ pre) ++ [.int .u8 ((m % 128 + 128 : Nat) : Int)]) := o4
      rw [bv_snoc _ _ (by omega), List.append_assoc] at o5
      exact o5
    refine ih ⟨(A4, n2 + 1, c4), pre ++ [UInt8.ofNat (m % 128 + 128)], m / 128⟩ w4 _ (by simp only; omega) ⟨(e2.ext e3).own m4 o2.hi, ho, ?_, by simp only; omega⟩ (.c rfl (.c rfl (.n)))
    rw [← hpre, encU_ge h128]; simp

theorem PutText_c (A : Option Addr) (n c : Nat) (l : List UInt8) (S : ByteArray) (w : World) (h : Rd w A n 1 (bv l)) (hn : n ≤ 7036874417) (hs : S.size ≤ 7036874417) :
    Ret Try.prog 57 [.slice A n c, .string S] w (fun v w' => ∃ A' n' c', v = .slice A' n' c' ∧ Ext w w' ∧ Own w' w.heap.size 5 1 A' n' c' (bv (l ++ (encU S.size ++ S.data.toList)))) := by
  have hlen : l.length = n := by simpa using h.1
  refine ret_T (n := 12) Try.func57 rfl rfl ?_
  repeat (first | refine T_seq ?_ | refine T_region ?_ | refine TL_nil ?_ | refine TL_move (hk := ?_) | refine TL_assign (hk := ?_) | refine TL_len_s TE (hk := ?_) | refine TL_conv TE (hk := ?_))
  refine TL_call TE (hc := PutUint_c A n c l S.size w rfl h (by omega) (by omega)) (hk := ?_)
  rintro _ w1 ⟨A1, n1, c1, rfl, e1, o1⟩
  have s1 := e1.size
  have hn1 := o1.len
  have h10 := encU_len64 (n := S.size) (by omega)
  simp only [bv_length, List.length_append, Nat.mul_one] at hn1
  repeat (refine TL_move (hk := ?_))
  refine TL_append_s TE (hk := ?_); intro A2 c2 w2 o2 m2 n2
  repeat (first | refine TL_nil ?_ | refine TL_assign (hk := ?_))
  refine T_ret1 rfl rfl ⟨A2, _, c2, rfl, e1.own m2 o1.hi, ?_⟩
  rw [← bv_append, List.append_assoc] at o2
  exact o2
























end Go.Proofs.Ytfplmpfdhiagaaa

namespace Go.Proofs.Ytfplmpfdhiagaaa
open Go.RowKit Go.Proofs.Eng Go.Proofs.Codec
set_option linter.unusedSimpArgs false
set_option linter.unusedVariables false
attribute [local irreducible] T TL LV TH TA
set_option maxHeartbeats 1000000
theorem NewReader_c (A : Option Addr) (n c : Nat) (l : List UInt8) (w : World) (h : Rd w A n 1 (bv l)) (hn : n ≤ 7036874417) :
    Ret Try.prog 62 [.slice A n c] w (fun v w' => ∃ b A' n' c', v = ptr b ∧ Ext w w' ∧ w.heap.size ≤ b ∧ Hi A' w.heap.size ∧ Lo A' w'.heap.size ∧ Rdr w' 107 b ⟨l, 0, 0, 0, 0⟩ A' n' c') := by
  refine ret_T (n := 7) Try.func62 rfl rfl ?_
  repeat (first | refine T_seq ?_ | refine T_region ?_ | refine TL_nil ?_ | refine TL_move (hk := ?_) | refine TL_assign (hk := ?_))
  refine TL_call TE (hc := Clone_c A n c l w h (by omega)) (hk := ?_)
  rintro _ w1 ⟨A1, c1, rfl, e1, o1⟩
  repeat (refine TL_build TE (hk := ?_))
  refine TL_box (hk := ?_); intro b w2 e2 h1 h2 k
  repeat (first | refine TL_nil ?_ | refine TL_assign (hk := ?_))
  have hs := e1.size
  refine T_ret1 rfl rfl ⟨b, A1, n, c1, rfl, e1.ext e2, by omega, o1.hi, o1.lo.mono e2.size, ?_⟩
  exact ⟨k, (o1.be e2).rd, Off.lo o1.lo h1, by have := h.1; simpa using this, Nat.zero_le _, Nat.zero_le _, hn, o1.cap.1⟩
end Go.Proofs.Ytfplmpfdhiagaaa

namespace Go.Proofs.Ytfplmpfdhiagaaa
open Go.RowKit Go.Proofs.Eng Go.Proofs.Foot Go.Proofs.Codec
set_option linter.unusedSimpArgs false
set_option linter.unusedVariables false
attribute [local irreducible] T TL LV TH TA
theorem norm_short {r k : List Tx} (h : isNorm r k = true) : (∀ t ∈ r ++ k, t.length ≤ 32) ∧ (ofM r k).length ≤ 64 := by
  unfold isNorm at h
  have h := of_decide_eq_true h
  have e := norm_eq r k
  rw [← of_len] at e
  rw [e] at h
  by_cases q : (r.all validT && k.all validT) = true
  · rw [if_pos q] at h
    by_cases g : 64 < (ofM r k).length
    · rw [if_pos g] at h; exact absurd h.1 (by decide)
    · refine ⟨fun t ht => ?_, by omega⟩
      simp only [Bool.and_eq_true, List.all_eq_true] at q
      have hv : validT t = true := by
        rcases List.mem_append.1 ht with h | h
        · exact q.1 t h
        · exact q.2 t h
      simp only [validT, Bool.and_eq_true, decide_eq_true_eq] at hv
      exact hv.2.2
  · rw [if_neg q] at h; exact absurd h.1 (by decide)
theorem keys3_short {r k : List Tx} (h : isNorm r k = true) : ∀ t ∈ keysM (ofM r k) 3, t.length ≤ 32 := fun t ht => by
  rw [keys3, set_mem] at ht
  exact (norm_short h).1 t ht
theorem entryB_len (m : TM) (t : Tx) (h : t.length ≤ 32) : (entryB m t).length ≤ 43 := by
  have := encU_len64 (n := t.length) (by omega)
  simp only [entryB, List.length_append, List.length_cons, List.length_nil]
  omega
theorem Put_c (B A C : Option Addr) (nb cb n c m d : Nat) (ahead : List UInt8) (r k : List Tx) (w : World) (hb : Rd w B nb 1 (bv ahead)) (h : Rd w A n 1 (sv r)) (g : Rd w C m 1 (sv k)) (hnb : nb ≤ 200000) (hn : n ≤ 50000) (hm : m ≤ 50000) (sr : Short r) (sk : Short k) :
    Ret Try.prog 16 [.slice B nb cb, .agg #[.slice A n c, .slice C m d]] w (fun v w' => ∃ P np cp, v = .tuple #[.slice P np cp, .int .i64 (if isNorm r k = true then 0 else 31)] ∧ Ext w w' ∧ Own w' w.heap.size 5 1 P np cp (if isNorm r k = true then bv (ahead ++ putB (ofM r k)) else [])) := by
  refine ret_T (n := 36) Try.func16 rfl rfl ?_
  repeat (first | refine T_seq ?_ | refine T_region ?_)
  refine TL_box (hk := ?_); intro b1 w1 e1 h1 h1' k1
  repeat (first | refine T_seq ?_ | refine T_region ?_ | refine TL_nil ?_ | refine TL_assign (hk := ?_))
  refine TL_loadb TE (cs := [.slice A n c, .slice C m d]) (o := 0) rfl rfl k1 rfl rfl (Nat.succ_pos _) (hk := ?_)
  refine TL_call TE (hc := normal_c A C n c m d r k _ (h.be e1) (g.be e1) hn hm sr sk) (hk := ?_)
  rintro _ w2 ⟨rfl, e2⟩
  by_cases hN : isNorm r k = true
  · rw [if_pos hN, if_pos hN]
    have hshort := keys3_short hN
    have h64 := (norm_short hN).2
    have hl3 := of_len3 r k
    rw [hN]
    have k12 := k1.be e2
    have e02 := e1.ext e2
    have hb2 := hb.be e02
    have hA2 := h.be e02
    have hC2 := g.be e02
    clear k1 h g
    repeat (first | refine T_seq ?_ | refine T_region ?_ | refine T_cond_false rfl ?_ | refine T_skip ?_ | refine TL_nil ?_ | refine TL_not (hk := ?_))
    refine TL_loadb TE (cs := [.slice A n c, .slice C m d]) (o := 0) rfl rfl k12 rfl rfl (Nat.succ_pos _) (hk := ?_)
    refine TL_call TE (hc := of_c A C n c m d r k _ hA2 hC2 (by omega) (by omega)) (hk := ?_)
    rintro _ w3 ⟨bm, rfl, e3, hbm, mp⟩
    have hb3 := hb2.be e3
    have z3 := e02.size
    have z3' := e3.size
    repeat (first | refine T_seq ?_ | refine T_region ?_ | refine TL_nil ?_ | refine TL_move (hk := ?_) | refine TL_assign (hk := ?_) | refine TL_conv TE (hk := ?_) | refine TL_len_m TE (hk := ?_))
    refine TL_call TE (hc := PutUint_c B nb cb ahead (ofM r k).length _ rfl hb3 (by omega) (by omega)) (hk := ?_)
    rintro _ w4 ⟨A4, n4, c4, rfl, e4, o4⟩
    have mp4 := mp.be e4
    have z4 := e4.size
    have hlb := hb.1
    have hlen4 := o4.len
    have henc := encU_len64 (n := (ofM r k).length) (by omega)
    simp only [bv_length, List.length_append, Nat.mul_one] at hlen4 hlb
    repeat (first | refine T_seq ?_ | refine T_region ?_ | refine TL_nil ?_ | refine TL_move (hk := ?_) | refine TL_assign (hk := ?_))
    refine TL_call TE (hc := keys_c bm 3 (ofM r k) _ mp4 (by decide) (of_lt4 r k) (by omega)) (hk := ?_)
    rintro _ w5 ⟨A5, n5, c5, rfl, e5, o5⟩
    have mp5 := mp4.be e5
    have z5 := e5.size
    obtain ⟨ks, hks⟩ : ∃ ks, keysM (ofM r k) 3 = ks := ⟨_, rfl⟩
    rw [hks] at o5 hshort hl3
    have hkl : ks.length = n5 := by simpa using o5.len
    have o45 := o4.be e5
    have e05 := ((e02.ext e3).ext e4).ext e5
    have hi5 := o5.hi
    clear mp mp4 o4 hb2 hb3 hA2 hC2
    repeat (first | refine T_block ?_ | refine TL_nil ?_ | refine TL_move (hk := ?_) | refine TL_len TE (hk := ?_))
    refine T_loop (ι := (Option Addr × Nat × Nat) × Nat) (fun i => [(22, .int .i64 (i.2 : Int)), (21, .int .i64 (n5 : Int)), (20, .slice A5 n5 c5), (6, .map (some bm)), (0, .slice i.1.1 i.1.2.1 i.1.2.2)])
      (fun i w' => Ext w w' ∧ Ext w5 w' ∧ i.2 ≤ n5 ∧ i.1.2.1 ≤ 200010 + 43 * i.2 ∧ Own w' w.heap.size 5 1 i.1.1 i.1.2.1 i.1.2.2 (bv (ahead ++ (encU n5 ++ bodyB (ofM r k) (ks.take i.2))))) (fun i => n5 - i.2) ((A4, n4, c4), 0) (.c rfl (.c rfl (.c rfl (.c rfl (.c rfl (.n))))))
      ⟨e05, Mod.refl _ _, Nat.zero_le _, by show n4 ≤ 200010 + 43 * 0; omega, ?_⟩ ?_
    · have := o45.weaken (base' := w.heap.size) (by omega)
      rw [hl3, hkl] at this
      simpa [bodyB] using this
    rintro ⟨⟨A6, n6, c6⟩, i⟩ w6 ⟨e6, e56, hi, hn6, o6⟩ ih
    simp only at hi hn6 o6 ih ⊢
    have z6 := e6.size
    by_cases hlt : i < n5
    · obtain ⟨t, ht⟩ : ∃ t, ks.getD i [] = t := ⟨_, rfl⟩
      have htm : t ∈ ks := by rw [← ht]; exact getD_mem (by omega)
      have ht32 := hshort t htm
      have hbt := bodyB_take (ofM r k) ks i (by omega)
      rw [ht] at hbt
      have hel := entryB_len (ofM r k) t ht32
      have hb4 := bits_lt4 r k t
      obtain ⟨u, hu⟩ : ∃ u, (mget (ofM r k) t).getD 0 = u := ⟨_, rfl⟩
      have hu' : bitsM (ofM r k) t = u := hu
      have mp6 := mp5.be e56
      have o56 := o5.be e56
      have e1t := encU_len64 (n := t.length) (by omega)
      have hsz := ofL_size t
      rw [hu'] at hb4
      clear hshort
      repeat (first | refine T_seq ?_ | refine T_region ?_ | refine T_cond_true rfl ?_ | refine T_block ?_ | refine T_skip ?_ | refine TL_lt_t (hk := ?_) | refine TL_nil ?_ | refine TL_assign (hk := ?_) | refine TL_indexAddr1n TE (hk := ?_) | refine TL_load_s TE (hk := ?_))
      rw [ht]
      --
      refine T_region_any TE.mixed [] ?_; intro w7 e7 z7
      have hd7 : Eng.Mod [] w7 w7 := Mod.refl _ _
      have mp7 := mp6.be e7
      have o7 := o6.be e7
      have e07 := e6.ext e7
      clear o6 mp6
      (refine TA_take 0 rfl (by kernel_rfl) (by kernel_rfl) (by kernel_rfl) ?_; repeat (refine TL_move (hk := ?_)); refine TL_nil_p ?_); (refine TA_take 1 rfl (by kernel_rfl) (by kernel_rfl) (by kernel_rfl) ?_; repeat (refine TL_move (hk := ?_)); refine TL_nil_p ?_); (refine TA_take 3 rfl (by kernel_rfl) (by kernel_rfl) (by kernel_rfl) ?_; repeat (refine TL_move (hk := ?_)); refine TL_nil_p ?_); (refine TA_take 4 rfl (by kernel_rfl) (by kernel_rfl) (by kernel_rfl) ?_; repeat (refine TL_move (hk := ?_)); refine TL_nil_p ?_)
      refine TA_take 5 rfl (by kernel_rfl) (by kernel_rfl) (by kernel_rfl) ?_
      refine TLP_lookup TE 0 mp7 (by simp) (hk := ?_)
      rw [hu]
      refine TL_nil_p ?_
      refine TA_two 2 6 rfl rfl (by kernel_rfl) (by kernel_rfl) ?_ ?_
      · refine TL_call TE (hc := PutText_c A6 n6 c6 _ (ofL t) w7 o7.rd (by omega) (by omega)) (hq := fun v w' ⟨_, _, _, _, h, _⟩ => hd7.ext h) (hk := ?_)
        rintro _ w8 ⟨A8, n8, c8, rfl, e8, o8⟩
        have z8 := e8.size
        refine TL_nil_p ?_
        refine TA_one 6 rfl (by kernel_rfl) (by kernel_rfl) ?_
        refine TL_buildSlice TE (hf := rfl) (hq := fun w' h => (hd7.ext e8).ext h) (hk := ?_); intro b9 w9 e9 h9 h9' k9
        have z9 := e9.size
        have o89 := o8.be e9
        have hl8 := o8.len
        simp only [bv_length, List.length_append, Nat.mul_one, ofL_toList, ofL_size] at hl8
        have hl7 := o7.len
        simp only [bv_length, List.length_append, Nat.mul_one] at hl7
        have E9 := e8.ext e9
        refine TL_nil_p ?_
        refine TA_one 7 rfl (by kernel_rfl) (by kernel_rfl) ?_
        refine TL_append TE (hf := rfl) (hq := fun w' m => Mod.own E9 m o8.hi) (hk := ?_); intro A10 c10 w10 o10 m10 n10
        have E10 : Ext w7 w10 := (Mod.own E9 m10 o8.hi)
        refine TL_nil_p ?_
        (refine TA_one 8 rfl (by kernel_rfl) (by kernel_rfl) ?_; repeat (refine TL_assign (hk := ?_)); refine TL_nil_p ?_)
        refine TA_done (by kernel_rfl) ?_
        repeat (first | refine T_region ?_ | refine T_inBlock ?_ | refine TL_add (hk := ?_) | refine TL_nil ?_ | refine TL_move (hk := ?_))
        refine ih ((A10, n8 + 1, c10), i + 1) _ _ (by simp only; omega) ⟨e07.ext E10, (e56.ext e7).ext E10, by show i + 1 ≤ n5; omega, by show n8 + 1 ≤ 200010 + 43 * (i + 1); omega, ?_⟩ (.c rfl (.c rfl (.c rfl (.c rfl (.c rfl (.n))))))
        have o11 := o10.weaken (base' := w.heap.size) (by have := e07.size; omega)
        simp only
        rw [hbt, entryB, hu']
        have hv := bv_snoc (ahead ++ (encU n5 ++ bodyB (ofM r k) (ks.take i)) ++ (encU (ofL t).size ++ (ofL t).data.toList)) u (by omega)
        have hv2 : bv (ahead ++ (encU n5 ++ bodyB (ofM r k) (ks.take i)) ++ (encU (ofL t).size ++ (ofL t).data.toList)) ++ [uV u] = bv (ahead ++ (encU n5 ++ (bodyB (ofM r k) (ks.take i) ++ (encU t.length ++ t ++ [UInt8.ofNat u])))) := by
          rw [show uV u = Value.int .u8 (u : Int) from rfl, hv, ofL_toList, ofL_size]
          simp only [List.append_assoc]
        rw [← hv2]
        exact o11
      · refine TL_buildSlice TE (hf := rfl) (hq := fun w' h => hd7.ext h) (hk := ?_); intro b9 w9 e9 h9 h9' k9
        have z9 := e9.size
        have o79 := o7.be e9
        refine TL_nil_p ?_
        refine TA_one 2 rfl (by kernel_rfl) (by kernel_rfl) ?_
        refine TL_call TE (hc := PutText_c A6 n6 c6 _ (ofL t) w9 o79.rd (by omega) (by omega)) (hq := fun v w' ⟨_, _, _, _, h, _⟩ => (hd7.ext e9).ext h) (hk := ?_)
        rintro _ w8 ⟨A8, n8, c8, rfl, e8, o8⟩
        have z8 := e8.size
        have o89 := o8.weaken (base' := w7.heap.size) (by omega)
        have hl8 := o8.len
        simp only [bv_length, List.length_append, Nat.mul_one, ofL_toList, ofL_size] at hl8
        have hl7 := o7.len
        simp only [bv_length, List.length_append, Nat.mul_one] at hl7
        have k98 := k9.be e8
        have E9 := e9.ext e8
        refine TL_nil_p ?_
        refine TA_one 7 rfl (by kernel_rfl) (by kernel_rfl) ?_
        refine TL_append TE (hf := rfl) (hq := fun w' m => Mod.own E9 m o89.hi) (hk := ?_); intro A10 c10 w10 o10 m10 n10
        have E10 : Ext w7 w10 := (Mod.own E9 m10 o89.hi)
        refine TL_nil_p ?_
        (refine TA_one 8 rfl (by kernel_rfl) (by kernel_rfl) ?_; repeat (refine TL_assign (hk := ?_)); refine TL_nil_p ?_)
        refine TA_done (by kernel_rfl) ?_
        repeat (first | refine T_region ?_ | refine T_inBlock ?_ | refine TL_add (hk := ?_) | refine TL_nil ?_ | refine TL_move (hk := ?_))
        refine ih ((A10, n8 + 1, c10), i + 1) _ _ (by simp only; omega) ⟨e07.ext E10, (e56.ext e7).ext E10, by show i + 1 ≤ n5; omega, by show n8 + 1 ≤ 200010 + 43 * (i + 1); omega, ?_⟩ (.c rfl (.c rfl (.c rfl (.c rfl (.c rfl (.n))))))
        have o11 := o10.weaken (base' := w.heap.size) (by have := e07.size; omega)
        simp only
        rw [hbt, entryB, hu']
        have hv := bv_snoc (ahead ++ (encU n5 ++ bodyB (ofM r k) (ks.take i)) ++ (encU (ofL t).size ++ (ofL t).data.toList)) u (by omega)
        have hv2 : bv (ahead ++ (encU n5 ++ bodyB (ofM r k) (ks.take i)) ++ (encU (ofL t).size ++ (ofL t).data.toList)) ++ [uV u] = bv (ahead ++ (encU n5 ++ (bodyB (ofM r k) (ks.take i) ++ (encU t.length ++ t ++ [UInt8.ofNat u])))) := by
          rw [show uV u = Value.int .u8 (u : Int) from rfl, hv, ofL_toList, ofL_size]
          simp only [List.append_assoc]
        rw [← hv2]
        exact o11
    · have hin : i = n5 := by omega
      have hall : ks.take i = ks := List.take_of_length_le (by omega)
      repeat (first | refine T_seq ?_ | refine T_region ?_ | refine T_cond_false rfl ?_ | refine T_exit rfl ?_ | refine TL_lt_f (hk := ?_) | refine TL_nil ?_ | refine TL_move (hk := ?_) | refine TL_assign (hk := ?_))
      refine T_ret2 rfl rfl rfl ⟨A6, n6, c6, rfl, e6, ?_⟩
      rw [hall] at o6
      unfold putB
      rw [hks, hkl]
      exact o6
  · have hN' : isNorm r k = false := by simpa using hN
    rw [hN']
    repeat (first | refine T_seq ?_ | refine T_region ?_ | refine T_cond_true rfl ?_ | refine TL_nil ?_ | refine TL_assign (hk := ?_) | refine TL_not (hk := ?_))
    exact T_ret2 rfl rfl rfl ⟨none, 0, 0, rfl, e1.ext e2, Own.nil _ _ _ _⟩
end Go.Proofs.Ytfplmpfdhiagaaa

namespace Go.Proofs.Ytfplmpfdhiagaaa
open Go.RowKit Go.Proofs.Eng Go.Proofs.Foot Go.Proofs.Codec
set_option linter.unusedSimpArgs false
set_option linter.unusedVariables false
attribute [local irreducible] T TL LV TH TA
theorem locks_eq (r k : List Tx) : locksM (ofM r k) = (setT (r ++ k)).map fun t => (t, decide (t ∈ k)) := by
  unfold locksM
  rw [keys3]
  apply List.map_congr_left
  intro t _
  rw [bits_of]
  by_cases h : t ∈ r <;> by_cases g : t ∈ k <;> simp [h, g]
theorem RLocks_c (A B : Option Addr) (n c m d : Nat) (r k : List Tx) (w : World) (h : Rd w A n 1 (sv r)) (g : Rd w B m 1 (sv k)) (hn : n ≤ 50000) (hm : m ≤ 50000) :
    Ret Try.prog 32 [.agg #[.slice A n c, .slice B m d]] w (fun v w' => ∃ A' n' c', v = .slice A' n' c' ∧ Ext w w' ∧ Own w' w.heap.size 57 2 A' n' c' (lv (locksM (ofM r k)))) := by
  rw [locks_eq]
  refine ret_T (n := 34) Try.func32 rfl rfl ?_
  repeat (first | refine T_seq ?_ | refine T_region ?_)
  refine TL_box (hk := ?_); intro b1 w1 e1 h1 h1' k1
  have z1 := e1.size
  repeat (first | refine T_seq ?_ | refine T_region ?_ | refine TL_nil ?_ | refine TL_assign (hk := ?_) | refine TL_load TE (hk := ?_) | refine TL_fieldAddr TE (hk := ?_))
  refine TL_call TE (hc := both_c A B n m c d r k _ (h.be e1) (g.be e1) (by omega) (by omega)) (hk := ?_)
  rintro _ w2 ⟨A2, c2, rfl, e2, o2⟩
  have z2 := e2.size
  have hl0 := o2.len
  simp only [sv_length, Nat.mul_one] at hl0
  have hsl := setT_len (r ++ k)
  refine TL_call TE (hc := Set_c A2 (n + m) c2 (r ++ k) _ o2.rd (by omega)) (hk := ?_)
  rintro _ w3 ⟨A3, c3, rfl, e3, o3⟩
  have z3 := e3.size
  obtain ⟨ks, hks⟩ : ∃ ks, setT (r ++ k) = ks := ⟨_, rfl⟩
  obtain ⟨n3, hn3⟩ : ∃ n3, ks.length = n3 := ⟨_, rfl⟩
  rw [hks, hn3] at o3
  rw [hks] at hsl ⊢
  rw [hn3]
  have e03 := (e1.ext e2).ext e3
  have k13 := (k1.be e2).be e3
  have hB3 := g.be e03
  have rd3 := o3.rd
  have lo3 := o3.lo
  have l13 : b1 < w3.heap.size := by omega
  have hlB : 0 < m → Lo B w.heap.size := fun q => g.lo q
  clear k1 h o2 o3
  repeat (first | refine T_seq ?_ | refine T_region ?_ | refine T_block ?_ | refine TL_nil ?_ | refine TL_assign (hk := ?_))
  refine T_loop (ι := (Option Addr × Nat × Nat) × Nat) (fun i => [(5, .int .i64 (i.2 : Int)), (3, .slice A3 n3 c3), (1, .pointer (some ⟨b1, 0, none⟩)), (4, .slice i.1.1 i.1.2.1 i.1.2.2)])
    (fun i w' => Ext w3 w' ∧ i.2 ≤ n3 ∧ i.1.2.1 = i.2 ∧ Own w' w3.heap.size 57 2 i.1.1 i.1.2.1 i.1.2.2 (lv ((ks.take i.2).map fun t => (t, decide (t ∈ k))))) (fun i => n3 - i.2) ((none, 0, 0), 0) (.c rfl (.c rfl (.c rfl (.c rfl (.n)))))
    ⟨Mod.refl _ _, Nat.zero_le _, rfl, by simpa [lv] using Own.nil _ _ _ _⟩ ?_
  rintro ⟨⟨A4, n4, c4⟩, i⟩ w4 ⟨e4, hi, hni, o4⟩ ih
  simp only at e4 hi hni o4 ih
  subst hni
  change T _ _ _ _ _ [(5, .int .i64 (n4 : Int)), (3, .slice A3 n3 c3), (1, .pointer (some ⟨b1, 0, none⟩)), (4, .slice A4 n4 c4)] _ _
  have rd4 := rd3.be e4
  have z4 := e4.size
  have hB4 := hB3.be e4
  have k14 := k13.be e4
  by_cases hlt : n4 < n3
  · obtain ⟨t, ht⟩ : ∃ t, ks.getD n4 [] = t := ⟨_, rfl⟩
    have htk : (ks.take (n4 + 1)).map (fun t => (t, decide (t ∈ k))) = (ks.take n4).map (fun t => (t, decide (t ∈ k))) ++ [(t, decide (t ∈ k))] := by
      rw [List.take_succ_eq_append_getElem (by omega), List.map_append]
      have e : ks[n4]'(by omega) = t := by rw [← ht, List.getD_eq_getElem?_getD, List.getElem?_eq_getElem (by omega)]; rfl
      simp [e]
    repeat (first | refine T_seq ?_ | refine T_region ?_ | refine T_cond_true rfl ?_ | refine T_block ?_ | refine T_skip ?_ | refine TL_lt_t (hk := ?_) | refine TL_nil ?_ | refine TL_move (hk := ?_) | refine TL_len TE (hk := ?_))
    refine T_region_any TE.mixed (blkL A4) ?_; intro w5 e5 z5
    have hd5 : Eng.Mod (blkL A4) w5 w5 := Mod.refl _ _
    have rd5 := rd4.be e5
    have k15 := k14.be e5
    have hB5 := hB4.be e5
    have o5 := o4.be e5
    have off3 : Off A3 (blkL A4) := Off.lohi lo3 o4.hi
    have hb1 : b1 ∉ blkL A4 := hi_not o4.hi l13
    clear rd4 k14 hB4 o4
    (refine TA_take 0 rfl (by kernel_rfl) (by kernel_rfl) (by kernel_rfl) ?_; repeat (first | refine TL_move (hk := ?_) | refine TLP_load TE (hk := ?_) | refine TLP_load_s TE (hk := ?_) | refine TL_fieldAddr TE (hk := ?_) | refine TL_indexAddr1n TE (hk := ?_)); refine TL_nil_p ?_); (refine TA_take 1 rfl (by kernel_rfl) (by kernel_rfl) (by kernel_rfl) ?_; repeat (first | refine TL_move (hk := ?_) | refine TLP_load TE (hk := ?_) | refine TLP_load_s TE (hk := ?_) | refine TL_fieldAddr TE (hk := ?_) | refine TL_indexAddr1n TE (hk := ?_)); refine TL_nil_p ?_); (refine TA_take 2 rfl (by kernel_rfl) (by kernel_rfl) (by kernel_rfl) ?_; repeat (first | refine TL_move (hk := ?_) | refine TLP_load TE (hk := ?_) | refine TLP_load_s TE (hk := ?_) | refine TL_fieldAddr TE (hk := ?_) | refine TL_indexAddr1n TE (hk := ?_)); refine TL_nil_p ?_); (refine TA_take 3 rfl (by kernel_rfl) (by kernel_rfl) (by kernel_rfl) ?_; repeat (first | refine TL_move (hk := ?_) | refine TLP_load TE (hk := ?_) | refine TLP_load_s TE (hk := ?_) | refine TL_fieldAddr TE (hk := ?_) | refine TL_indexAddr1n TE (hk := ?_)); refine TL_nil_p ?_); (refine TA_take 4 rfl (by kernel_rfl) (by kernel_rfl) (by kernel_rfl) ?_; repeat (first | refine TL_move (hk := ?_) | refine TLP_load TE (hk := ?_) | refine TLP_load_s TE (hk := ?_) | refine TL_fieldAddr TE (hk := ?_) | refine TL_indexAddr1n TE (hk := ?_)); refine TL_nil_p ?_); (refine TA_take 5 rfl (by kernel_rfl) (by kernel_rfl) (by kernel_rfl) ?_; repeat (first | refine TL_move (hk := ?_) | refine TLP_load TE (hk := ?_) | refine TLP_load_s TE (hk := ?_) | refine TL_fieldAddr TE (hk := ?_) | refine TL_indexAddr1n TE (hk := ?_)); refine TL_nil_p ?_); (refine TA_take 6 rfl (by kernel_rfl) (by kernel_rfl) (by kernel_rfl) ?_; repeat (first | refine TL_move (hk := ?_) | refine TLP_load TE (hk := ?_) | refine TLP_load_s TE (hk := ?_) | refine TL_fieldAddr TE (hk := ?_) | refine TL_indexAddr1n TE (hk := ?_)); refine TL_nil_p ?_); (refine TA_take 7 rfl (by kernel_rfl) (by kernel_rfl) (by kernel_rfl) ?_; repeat (first | refine TL_move (hk := ?_) | refine TLP_load TE (hk := ?_) | refine TLP_load_s TE (hk := ?_) | refine TL_fieldAddr TE (hk := ?_) | refine TL_indexAddr1n TE (hk := ?_)); refine TL_nil_p ?_); (refine TA_take 8 rfl (by kernel_rfl) (by kernel_rfl) (by kernel_rfl) ?_; repeat (first | refine TL_move (hk := ?_) | refine TLP_load TE (hk := ?_) | refine TLP_load_s TE (hk := ?_) | refine TL_fieldAddr TE (hk := ?_) | refine TL_indexAddr1n TE (hk := ?_)); refine TL_nil_p ?_); (refine TA_take 9 rfl (by kernel_rfl) (by kernel_rfl) (by kernel_rfl) ?_; repeat (first | refine TL_move (hk := ?_) | refine TLP_load TE (hk := ?_) | refine TLP_load_s TE (hk := ?_) | refine TL_fieldAddr TE (hk := ?_) | refine TL_indexAddr1n TE (hk := ?_)); refine TL_nil_p ?_); (refine TA_take 10 rfl (by kernel_rfl) (by kernel_rfl) (by kernel_rfl) ?_; repeat (first | refine TL_move (hk := ?_) | refine TLP_load TE (hk := ?_) | refine TLP_load_s TE (hk := ?_) | refine TL_fieldAddr TE (hk := ?_) | refine TL_indexAddr1n TE (hk := ?_)); refine TL_nil_p ?_)
    rw [ht]
    refine TA_one 11 rfl (by kernel_rfl) (by kernel_rfl) ?_
    refine TL_call TE (hc := Has_c B m d k t w5 hB5 (by omega)) (hq := fun v w' ⟨_, h⟩ => h ▸ hd5) (hk := ?_)
    rintro _ w5 ⟨rfl, rfl⟩
    refine TL_nil_p ?_
    (refine TA_take 12 rfl (by kernel_rfl) (by kernel_rfl) (by kernel_rfl) ?_; repeat (refine TL_build TE (hk := ?_)); refine TL_nil_p ?_)
    refine TA_one 13 rfl (by kernel_rfl) (by kernel_rfl) ?_
    refine TL_buildSliceA TE (hf := rfl) (hq := fun w' h => hd5.ext h) (hk := ?_); intro b6 w6 e6 h6 h6' k6
    replace k6 : Blk w6 b6 57 [.string (ofL t), .bool (decide (t ∈ k))] := k6
    have z6 := e6.size
    have o6 := o5.be e6
    refine TL_nil_p ?_
    refine TA_one 14 rfl (by kernel_rfl) (by kernel_rfl) ?_
    refine TL_append TE (hf := rfl) (hq := fun w' m => (hd5.ext e6).trans m) (hk := ?_); intro A7 c7 w7 o7 m7 n7
    refine TL_nil_p ?_
    (refine TA_one 15 rfl (by kernel_rfl) (by kernel_rfl) ?_; repeat (refine TL_assign (hk := ?_)); refine TL_nil_p ?_)
    refine TA_done (by kernel_rfl) ?_
    repeat (first | refine T_region ?_ | refine T_inBlock ?_ | refine TL_add (hk := ?_) | refine TL_nil ?_ | refine TL_move (hk := ?_) | refine TL_assign (hk := ?_))
    refine ih ((A7, n4 + 1, c7), n4 + 1) _ _ (by simp only; omega) ⟨((e4.ext e5).ext e6).own m7 o6.hi, by show n4 + 1 ≤ n3; omega, rfl, ?_⟩ (.c rfl (.c rfl (.c rfl (.c rfl (.n)))))
    simp only
    rw [htk, lv_append]
    exact o7
  · have hin : n4 = n3 := by omega
    have hall : ks.take n4 = ks := List.take_of_length_le (by omega)
    repeat (first | refine T_seq ?_ | refine T_region ?_ | refine T_cond_false rfl ?_ | refine T_exit rfl ?_ | refine TL_lt_f (hk := ?_) | refine TL_nil ?_ | refine TL_move (hk := ?_) | refine TL_assign (hk := ?_) | refine TL_len TE (hk := ?_))
    refine T_ret1 rfl rfl ⟨A4, n4, c4, rfl, e03.ext e4, ?_⟩
    rw [hall] at o4
    exact o4.weaken (by omega)
end Go.Proofs.Ytfplmpfdhiagaaa

namespace Go.Proofs.Ytfplmpfdhiagaaa
open Go.RowKit Go.Proofs.Eng Go.Proofs.Codec
set_option linter.unusedSimpArgs false
set_option linter.unusedVariables false
attribute [local irreducible] T TL LV TH TA
set_option maxHeartbeats 1000000

theorem RPutText_c (A : Option Addr) (n c : Nat) (l : List UInt8) (S : ByteArray) (w : World) (h : Rd w A n 1 (bv l)) (hn : n ≤ 7036874417) (hs : S.size ≤ 7036874417) :
    Ret Try.prog 60 [.slice A n c, .string S] w (fun v w' => ∃ A' n' c', v = .slice A' n' c' ∧ Ext w w' ∧ Own w' w.heap.size 5 1 A' n' c' (bv (l ++ (encU S.size ++ S.data.toList)))) := by
  have hlen : l.length = n := by simpa using h.1
  refine ret_T (n := 12) Try.func60 rfl rfl ?_
  repeat (first | refine T_seq ?_ | refine T_region ?_ | refine TL_nil ?_ | refine TL_move (hk := ?_) | refine TL_assign (hk := ?_) | refine TL_len_s TE (hk := ?_) | refine TL_conv TE (hk := ?_))
  refine TL_call TE (hc := RPutUint_c A n c l S.size w rfl h (by omega) (by omega)) (hk := ?_)
  rintro _ w1 ⟨A1, n1, c1, rfl, e1, o1⟩
  have s1 := e1.size
  have hn1 := o1.len
  have h10 := encU_len64 (n := S.size) (by omega)
  simp only [bv_length, List.length_append, Nat.mul_one] at hn1
  repeat (refine TL_move (hk := ?_))
  refine TL_append_s TE (hk := ?_); intro A2 c2 w2 o2 m2 n2
  repeat (first | refine TL_nil ?_ | refine TL_assign (hk := ?_))
  refine T_ret1 rfl rfl ⟨A2, _, c2, rfl, e1.own m2 o1.hi, ?_⟩
  rw [← bv_append, List.append_assoc] at o2
  exact o2

def numV : Except Int (Nat × Nat) → Value
  | .ok (r, k) => .tuple #[.int .u64 (r : Int), .int .i64 (k : Int), .int .i64 0]
  | .error e => .tuple #[.int .u64 0, .int .i64 0, .int .i64 e]
theorem number_c (A : Option Addr) (n c : Nat) (l : List UInt8) (w : World) (h : Rd w A n 1 (bv l)) (hn : n ≤ 70368744177664) :
    Ret Try.prog 94 [.slice A n c] w (fun v w' => v = numV (num0 l) ∧ w' = w) := by
  have hlen : l.length = n := by simpa using h.1
  refine ret_T (n := 53) Try.func94 rfl rfl ?_
  repeat (first | refine T_seq ?_ | refine T_region ?_ | refine T_block ?_ | refine TL_nil ?_ | refine TL_assign (hk := ?_))
  refine T_loop (ι := Nat × Nat) (fun i => [(6, .int .i64 (i.1 : Int)), (5, .int .u64 (i.2 : Int)), (0, .slice A n c)])
    (fun i w' => w' = w ∧ i.1 ≤ 9 ∧ i.2 < 2 ^ (7 * i.1) ∧ numF (10 - i.1) i.1 i.2 (l.drop i.1) = num0 l) (fun i => 10 - i.1) (0, 0) (.c rfl (.c rfl (.c rfl (.n)))) ⟨rfl, by decide, by decide, rfl⟩ ?_
  rintro ⟨i, N⟩ w1 ⟨rfl, hi, hN, hF⟩ ih
  simp only at hi hN hF ih ⊢
  obtain ⟨f, hf⟩ : ∃ f, 10 - i = f + 1 := ⟨9 - i, by omega⟩
  rw [hf] at hF
  by_cases hin : i < n
  · have hd : l.drop i = l[i] :: l.drop (i + 1) := List.drop_eq_getElem_cons _
    have hg := gb_get l i (by omega)
    have hc := gb_lt l i
    rw [hd] at hF
    simp only [numF, ← hg] at hF
    by_cases h9 : i = 9 ∧ 1 < gb l i
    · rw [if_pos h9] at hF
      obtain ⟨rfl, h91⟩ := h9
      repeat (first | refine T_seq ?_ | refine T_region ?_ | refine T_cond_true rfl ?_ | refine T_cond_false rfl ?_ | refine T_block ?_ | refine T_skip ?_ | refine TL_lt_t (hk := ?_) | refine TL_gt_t (hk := ?_) | refine TL_ge_f (hk := ?_) | refine TL_eq_t (hk := ?_) | refine TL_nil ?_ | refine TL_move (hk := ?_) | refine TL_assign (hk := ?_) | (refine TL_load_b TE (hk := ?_); intro _) | refine TL_indexAddr1n TE (hk := ?_) | refine TL_len TE (hk := ?_) | refine TL_yes (hk := ?_) | refine TL_pick_t (hk := ?_))
      exact T_ret3 rfl rfl rfl rfl ⟨by rw [← hF]; rfl, rfl⟩
    · rw [if_neg h9] at hF
      have hp : 2 ^ (7 * (i + 1)) = 2 ^ (7 * i) * 128 := by rw [show 7 * (i + 1) = 7 * i + 7 from by omega, Nat.pow_add]
      have hm : N + gb l i % 128 * 2 ^ (7 * i) < 2 ^ (7 * (i + 1)) := by
        rw [hp]
        have : gb l i % 128 * 2 ^ (7 * i) ≤ 127 * 2 ^ (7 * i) := Nat.mul_le_mul_right _ (by omega)
        omega
      have hp9 : 2 ^ (7 * i) ≤ 2 ^ 63 := Nat.pow_le_pow_right (by decide) (by omega)
      have hb : N + gb l i % 128 * 2 ^ (7 * i) < 2 ^ 64 := by
        by_cases h9' : i = 9
        · have : gb l i % 128 * 2 ^ (7 * i) ≤ 1 * 2 ^ (7 * i) := Nat.mul_le_mul_right _ (by omega)
          omega
        · have : 2 ^ (7 * (i + 1)) ≤ 2 ^ 63 := Nat.pow_le_pow_right (by decide) (by omega)
          omega
      have hor : gb l i % 128 * 2 ^ (7 * i) % 2 ^ 64 = gb l i % 128 * 2 ^ (7 * i) := Nat.mod_eq_of_lt (by omega)
      have hq : N + gb l i % 128 * 2 ^ (7 * i) % 2 ^ 64 < 2 ^ 64 := by rw [hor]; exact hb
      by_cases i9 : i = 9
      · repeat (first | refine T_seq ?_ | refine T_region ?_ | refine T_cond_true rfl ?_ | refine T_cond_false rfl ?_ | refine T_block ?_ | refine T_skip ?_ | refine TL_mul (hk := ?_) | refine TL_rem (hk := ?_) | refine TL_lt_t (hk := ?_) | refine TL_gt_f (hk := ?_) | refine TL_ge_f (hk := ?_) | refine TL_eq_t (hk := ?_) | refine TL_nil ?_ | refine TL_move (hk := ?_) | (refine TL_load_b TE (hk := ?_); intro _) | refine TL_indexAddr1n TE (hk := ?_) | refine TL_len TE (hk := ?_) | refine TL_yes (hk := ?_) | refine TL_pick_t (hk := ?_) | refine TL_conv TE (hk := ?_))
        refine TL_shl rfl rfl (a := gb l i % 128) (c := 7 * i) (by omega) (by omega) rfl (by omega) rfl ?_
        repeat (first | refine T_seq ?_ | refine T_region ?_ | refine T_cond_true rfl ?_ | refine TL_add (hk := ?_) | refine TL_lt_t (hk := ?_) | refine TL_gt_t (hk := ?_) | refine TL_nil ?_ | refine TL_move (hk := ?_) | refine TL_assign (hk := ?_) | (refine TL_load_b TE (hk := ?_); intro _) | refine TL_indexAddr1n TE (hk := ?_) | refine TL_yes (hk := ?_))
        by_cases hlt : gb l i < 128
        · rw [if_pos hlt] at hF
          by_cases h0 : 0 < i
          · by_cases hz : gb l i = 0
            · rw [if_pos ⟨h0, hz⟩] at hF
              repeat (first | refine T_seq ?_ | refine T_region ?_ | refine T_cond_true rfl ?_ | refine TL_eq_t (hk := ?_) | refine TL_nil ?_ | refine TL_assign (hk := ?_) | refine TL_pick_t (hk := ?_))
              exact T_ret3 rfl rfl rfl rfl ⟨by rw [← hF]; rfl, rfl⟩
            · rw [if_neg (by omega)] at hF
              repeat (first | refine T_seq ?_ | refine T_region ?_ | refine T_cond_false rfl ?_ | refine T_skip ?_ | refine TL_add (hk := ?_) | refine TL_eq_f (hk := ?_) | refine TL_nil ?_ | refine TL_move (hk := ?_) | refine TL_assign (hk := ?_) | refine TL_pick_t (hk := ?_))
              exact T_ret3 rfl rfl rfl rfl ⟨by rw [← hF, hor]; rfl, rfl⟩
          · first
            | (exfalso; omega)
            | skip
              rw [if_neg (by omega)] at hF
              --
              exact T_ret3 rfl rfl rfl rfl ⟨by rw [← hF, hor]; rfl, rfl⟩
        · first
          | (exfalso; omega)
          | skip
            rw [if_neg hlt] at hF
            --
            refine ih (i + 1, N + gb l i % 128 * 2 ^ (7 * i)) _ _ (by simp only; omega) ⟨rfl, by simp only; omega, hm, ?_⟩ ?_
            · simp only
              rw [show 10 - (i + 1) = f by omega]
              exact hF
            · rw [hor]
              exact (.c rfl (.c rfl (.c rfl (.n))))
      · repeat (first | refine T_seq ?_ | refine T_region ?_ | refine T_cond_true rfl ?_ | refine T_cond_false rfl ?_ | refine T_block ?_ | refine T_skip ?_ | refine TL_mul (hk := ?_) | refine TL_rem (hk := ?_) | refine TL_lt_t (hk := ?_) | refine TL_ge_f (hk := ?_) | refine TL_eq_f (hk := ?_) | refine TL_nil ?_ | refine TL_move (hk := ?_) | (refine TL_load_b TE (hk := ?_); intro _) | refine TL_indexAddr1n TE (hk := ?_) | refine TL_len TE (hk := ?_) | refine TL_no (hk := ?_) | refine TL_pick_f (hk := ?_) | refine TL_conv TE (hk := ?_))
        refine TL_shl rfl rfl (a := gb l i % 128) (c := 7 * i) (by omega) (by omega) rfl (by omega) rfl ?_
        repeat (first | refine T_seq ?_ | refine T_region ?_ | refine TL_add (hk := ?_) | refine TL_nil ?_ | refine TL_move (hk := ?_) | refine TL_assign (hk := ?_) | (refine TL_load_b TE (hk := ?_); intro _) | refine TL_indexAddr1n TE (hk := ?_))
        by_cases hlt : gb l i < 128
        · rw [if_pos hlt] at hF
          by_cases h0 : 0 < i
          · by_cases hz : gb l i = 0
            · rw [if_pos ⟨h0, hz⟩] at hF
              repeat (first | refine T_seq ?_ | refine T_region ?_ | refine T_cond_true rfl ?_ | refine TL_lt_t (hk := ?_) | refine TL_gt_t (hk := ?_) | refine TL_eq_t (hk := ?_) | refine TL_nil ?_ | refine TL_move (hk := ?_) | refine TL_assign (hk := ?_) | (refine TL_load_b TE (hk := ?_); intro _) | refine TL_indexAddr1n TE (hk := ?_) | refine TL_yes (hk := ?_) | refine TL_pick_t (hk := ?_))
              exact T_ret3 rfl rfl rfl rfl ⟨by rw [← hF]; rfl, rfl⟩
            · rw [if_neg (by omega)] at hF
              repeat (first | refine T_seq ?_ | refine T_region ?_ | refine T_cond_true rfl ?_ | refine T_cond_false rfl ?_ | refine T_skip ?_ | refine TL_add (hk := ?_) | refine TL_lt_t (hk := ?_) | refine TL_gt_t (hk := ?_) | refine TL_eq_f (hk := ?_) | refine TL_nil ?_ | refine TL_move (hk := ?_) | refine TL_assign (hk := ?_) | (refine TL_load_b TE (hk := ?_); intro _) | refine TL_indexAddr1n TE (hk := ?_) | refine TL_yes (hk := ?_) | refine TL_pick_t (hk := ?_))
              exact T_ret3 rfl rfl rfl rfl ⟨by rw [← hF, hor]; rfl, rfl⟩
          · first
            | (exfalso; omega)
            | skip
              rw [if_neg (by omega)] at hF
              repeat (first | refine T_seq ?_ | refine T_region ?_ | refine T_cond_true rfl ?_ | refine T_cond_false rfl ?_ | refine T_skip ?_ | refine TL_add (hk := ?_) | refine TL_lt_t (hk := ?_) | refine TL_gt_f (hk := ?_) | refine TL_nil ?_ | refine TL_move (hk := ?_) | refine TL_assign (hk := ?_) | refine TL_no (hk := ?_) | refine TL_pick_f (hk := ?_))
              exact T_ret3 rfl rfl rfl rfl ⟨by rw [← hF, hor]; rfl, rfl⟩
        · first
          | (exfalso; omega)
          | skip
            rw [if_neg hlt] at hF
            repeat (first | refine T_region ?_ | refine T_cond_false rfl ?_ | refine T_inBlock ?_ | refine T_skip ?_ | refine TL_add (hk := ?_) | refine TL_lt_f (hk := ?_) | refine TL_nil ?_ | refine TL_move (hk := ?_) | refine TL_assign (hk := ?_))
            refine ih (i + 1, N + gb l i % 128 * 2 ^ (7 * i)) _ _ (by simp only; omega) ⟨rfl, by simp only; omega, hm, ?_⟩ ?_
            · simp only
              rw [show 10 - (i + 1) = f by omega]
              exact hF
            · rw [hor]
              exact (.c rfl (.c rfl (.c rfl (.n))))
  · rw [List.drop_of_length_le (by omega)] at hF
    repeat (first | refine T_seq ?_ | refine T_region ?_ | refine T_cond_true rfl ?_ | refine T_block ?_ | refine T_skip ?_ | refine TL_lt_t (hk := ?_) | refine TL_ge_t (hk := ?_) | refine TL_nil ?_ | refine TL_move (hk := ?_) | refine TL_assign (hk := ?_) | refine TL_len TE (hk := ?_))
    exact T_ret3 rfl rfl rfl rfl ⟨by rw [← hF]; rfl, rfl⟩

end Go.Proofs.Ytfplmpfdhiagaaa

namespace Go.Proofs.Ytfplmpfdhiagaaa
open Go.RowKit Go.Proofs.Eng Go.Proofs.Foot Go.Proofs.Codec
set_option linter.unusedSimpArgs false
set_option linter.unusedVariables false
attribute [local irreducible] T TL LV TH TA
theorem Rd.ne {w : World} {A : Option Addr} {n s : Nat} {xs : List Value} (h : Rd w A n s xs) (hn : 0 < n) : A ≠ none := by
  obtain ⟨b, off, rfl, _⟩ := h.2 hn
  exact fun h => by cases h
theorem lv_len (l : List (Tx × Bool)) : (lv l).length = l.length * 2 := by
  induction l with
  | nil => rfl
  | cons p l ih => simp [lv] at ih ⊢; omega
theorem lv_get (l : List (Tx × Bool)) (i : Nat) (hi : i < l.length) : (lv l)[Int.toNat (i : Int) * 2 + 0]? = some (.string (ofL (l.getD i ([], false)).1)) ∧ (lv l)[Int.toNat (i : Int) * 2 + 1]? = some (.bool (l.getD i ([], false)).2) := by
  have e : Int.toNat (i : Int) = i := by omega
  rw [e]
  induction l generalizing i with
  | nil => simp at hi
  | cons p l ih =>
    cases i with
    | zero => simp [lv]
    | succ i =>
      have := ih i (by simpa using hi) (by omega)
      have e2 : lv (p :: l) = [Value.string (ofL p.1), Value.bool p.2] ++ lv l := by simp [lv]
      rw [e2, List.getElem?_append_right (by simp; omega), List.getElem?_append_right (by simp; omega)]
      simp only [List.length_cons, List.length_nil, List.getD_cons_succ]
      rw [show (i + 1) * 2 + 0 - (0 + 1 + 1) = i * 2 + 0 by omega, show (i + 1) * 2 + 1 - (0 + 1 + 1) = i * 2 + 1 by omega]
      exact this
attribute [local irreducible] sv lv bv in
theorem RPut_c (B A C : Option Addr) (nb cb n c m d : Nat) (ahead : List UInt8) (r k : List Tx) (w : World) (hb : Rd w B nb 1 (bv ahead)) (h : Rd w A n 1 (sv r)) (g : Rd w C m 1 (sv k)) (hnb : nb ≤ 200000) (hn : n ≤ 50000) (hm : m ≤ 50000) (sr : Short r) (sk : Short k) :
    Ret Try.prog 17 [.slice B nb cb, .agg #[.slice A n c, .slice C m d]] w (fun v w' => ∃ P np cp, v = .tuple #[.slice P np cp, .int .i64 (if isNorm r k = true then 0 else 31)] ∧ Ext w w' ∧ Own w' w.heap.size 5 1 P np cp (if isNorm r k = true then bv (ahead ++ putB (ofM r k)) else [])) := by
  refine ret_T (n := 55) Try.func17 rfl rfl ?_
  repeat (first | refine T_seq ?_ | refine T_region ?_)
  refine TL_box (hk := ?_); intro b1 w1 e1 h1 h1' k1
  repeat (first | refine T_seq ?_ | refine T_region ?_ | refine TL_nil ?_ | refine TL_assign (hk := ?_))
  refine TL_loadb TE (cs := [.slice A n c, .slice C m d]) (o := 0) rfl rfl k1 rfl rfl (Nat.succ_pos _) (hk := ?_)
  refine TL_call TE (hc := RIs_c A C n c m d r k _ (h.be e1) (g.be e1) hn hm sr sk) (hk := ?_)
  rintro _ w2 ⟨rfl, e2⟩
  by_cases hN : isNorm r k = true
  · rw [if_pos hN, if_pos hN]
    have hshort := keys3_short hN
    have h64 := (norm_short hN).2
    have hl3 := of_len3 r k
    have hr := h.1
    rw [hN]
    have k12 := k1.be e2
    have e02 := e1.ext e2
    have hb2 := hb.be e02
    have hA2 := h.be e02
    have hC2 := g.be e02
    clear k1 h g
    repeat (first | refine T_seq ?_ | refine T_region ?_ | refine T_cond_false rfl ?_ | refine T_skip ?_ | refine TL_nil ?_ | refine TL_not (hk := ?_))
    refine TL_loadb TE (cs := [.slice A n c, .slice C m d]) (o := 0) rfl rfl k12 rfl rfl (Nat.succ_pos _) (hk := ?_)
    refine TL_call TE (hc := RLocks_c A C n c m d r k _ hA2 hC2 hn hm) (hk := ?_)
    rintro _ w3 ⟨A3, n3, c3, rfl, e3, o3⟩
    have hb3 := hb2.be e3
    have z3 := e02.size
    have z3' := e3.size
    obtain ⟨ks, hks⟩ : ∃ ks, keysM (ofM r k) 3 = ks := ⟨_, rfl⟩
    obtain ⟨ls, hls⟩ : ∃ ls, locksM (ofM r k) = ls := ⟨_, rfl⟩
    have hlm : ls = ks.map fun t => (t, bitsM (ofM r k) t &&& 2 != 0) := by rw [← hls, ← hks]; rfl
    rw [hls] at o3
    rw [hks] at hshort hl3
    have hkl : ks.length = n3 := by
      have := o3.len
      rw [lv_len, hlm, List.length_map] at this
      omega
    have e03 := e02.ext e3
    have rd3 := o3.rd
    have lo3 := o3.lo
    repeat (first | refine T_seq ?_ | refine T_region ?_ | refine TL_nil ?_ | refine TL_move (hk := ?_) | refine TL_assign (hk := ?_) | refine TL_len TE (hk := ?_) | refine TL_conv TE (hk := ?_))
    refine TL_call TE (hc := RPutUint_c B nb cb ahead n3 _ rfl hb3 (by omega) (by omega)) (hk := ?_)
    rintro _ w4 ⟨A4, n4, c4, rfl, e4, o4⟩
    have z4 := e4.size
    have hlb := hb.1
    have hlen4 := o4.len
    have henc := encU_len64 (n := n3) (by omega)
    simp only [bv_length, List.length_append, Nat.mul_one] at hlen4 hlb
    have e04 := e03.ext e4
    have hA4 := hA2.be (e3.ext e4)
    have k14 := k12.be (e3.ext e4)
    have rd4 := rd3.be e4
    clear hb2 hb3 hA2 hC2 k12
    repeat (first | refine T_seq ?_ | refine T_region ?_ | refine T_block ?_ | refine TL_nil ?_ | refine TL_assign (hk := ?_))
    refine T_loop (ι := (Option Addr × Nat × Nat) × Nat) (fun i => [(8, .int .i64 (i.2 : Int)), (6, .slice A3 n3 c3), (3, .pointer (some ⟨b1, 0, none⟩)), (7, .slice i.1.1 i.1.2.1 i.1.2.2)])
      (fun i w' => Ext w w' ∧ Ext w4 w' ∧ i.2 ≤ n3 ∧ i.1.2.1 ≤ 200010 + 43 * i.2 ∧ Own w' w.heap.size 5 1 i.1.1 i.1.2.1 i.1.2.2 (bv (ahead ++ (encU n3 ++ bodyB (ofM r k) (ks.take i.2))))) (fun i => n3 - i.2) ((A4, n4, c4), 0) (.c rfl (.c rfl (.c rfl (.c rfl (.n)))))
      ⟨e04, Mod.refl _ _, Nat.zero_le _, by show n4 ≤ 200010 + 43 * 0; omega, by simpa [bodyB] using o4.weaken (base' := w.heap.size) (by omega)⟩ ?_
    rintro ⟨⟨A6, n6, c6⟩, i⟩ w6 ⟨e6, e46, hi, hn6, o6⟩ ih
    simp only at hi hn6 o6 ih ⊢
    have z6 := e6.size
    by_cases hlt : i < n3
    · obtain ⟨t, ht⟩ : ∃ t, ks.getD i [] = t := ⟨_, rfl⟩
      have htm : t ∈ ks := by rw [← ht]; exact getD_mem (by omega)
      have ht32 := hshort t htm
      have hbt := bodyB_take (ofM r k) ks i (by omega)
      rw [ht] at hbt
      have hel := entryB_len (ofM r k) t ht32
      have hbits := bits_of r k t
      have hgi : ls.getD i ([], false) = (t, bitsM (ofM r k) t &&& 2 != 0) := by
        rw [hlm, ← ht, List.getD_eq_getElem?_getD, List.getElem?_map, List.getD_eq_getElem?_getD, List.getElem?_eq_getElem (by omega)]
        rfl
      have hlg := lv_get ls i (by rw [hlm, List.length_map]; omega)
      rw [hgi] at hlg
      obtain ⟨hl0, hl1⟩ := hlg
      simp only at hl0 hl1
      have rd6 := rd4.be e46
      have hA6 := hA4.be e46
      have k16 := k14.be e46
      have hne := Rd.ne rd6 (by omega)
      have e1t := encU_len64 (n := t.length) (by omega)
      have hsz := ofL_size t
      clear hshort
      repeat (first | refine T_seq ?_ | refine T_region ?_ | refine T_cond_true rfl ?_ | refine T_block ?_ | refine T_skip ?_ | refine TL_lt_t (hk := ?_) | refine TL_nil ?_ | refine TL_move (hk := ?_) | refine TL_load_rd TE (hk := ?_) | refine TL_fieldAddr_e TE (hk := ?_) | refine TL_indexAddrn TE (hk := ?_) | refine TL_len TE (hk := ?_))
      refine TL_call TE (hc := RPutText_c A6 n6 c6 _ (ofL t) w6 o6.rd (by omega) (by omega)) (hk := ?_)
      rintro _ w8 ⟨A8, n8, c8, rfl, e8, o8⟩
      have z8 := e8.size
      have hl8 := o8.len
      simp only [bv_length, List.length_append, Nat.mul_one, ofL_toList, ofL_size] at hl8
      have hl7 := o6.len
      simp only [bv_length, List.length_append, Nat.mul_one] at hl7
      have rd8 := rd6.be e8
      have hA8 := hA6.be e8
      have k18 := k16.be e8
      clear rd6 hA6 k16 o6
      repeat (first | refine T_seq ?_ | refine T_region ?_ | refine TL_nil ?_ | refine TL_assign (hk := ?_))
      refine T_region_any TE.mixed [] ?_; intro w9 e9 z9
      have hD1 : b1 ∉ ([] : List Nat) := by simp
      have rd9 := rd8.be e9
      have hA9 := hA8.be e9
      have k19 := k18.be e9
      have o9 := o8.be e9
      clear rd8 hA8 k18 o8
      (refine TA_take 0 rfl (by kernel_rfl) (by kernel_rfl) (by kernel_rfl) ?_; repeat (first | refine TL_move (hk := ?_) | refine TLP_load TE (hk := ?_) | refine TLP_load_rd TE (hk := ?_) | refine TL_fieldAddr TE (hk := ?_) | refine TL_fieldAddr_e TE (hk := ?_) | refine TL_indexAddrn TE (hk := ?_)); refine TL_nil_p ?_); (refine TA_take 1 rfl (by kernel_rfl) (by kernel_rfl) (by kernel_rfl) ?_; repeat (first | refine TL_move (hk := ?_) | refine TLP_load TE (hk := ?_) | refine TLP_load_rd TE (hk := ?_) | refine TL_fieldAddr TE (hk := ?_) | refine TL_fieldAddr_e TE (hk := ?_) | refine TL_indexAddrn TE (hk := ?_)); refine TL_nil_p ?_); (refine TA_take 2 rfl (by kernel_rfl) (by kernel_rfl) (by kernel_rfl) ?_; repeat (first | refine TL_move (hk := ?_) | refine TLP_load TE (hk := ?_) | refine TLP_load_rd TE (hk := ?_) | refine TL_fieldAddr TE (hk := ?_) | refine TL_fieldAddr_e TE (hk := ?_) | refine TL_indexAddrn TE (hk := ?_)); refine TL_nil_p ?_); (refine TA_take 3 rfl (by kernel_rfl) (by kernel_rfl) (by kernel_rfl) ?_; repeat (first | refine TL_move (hk := ?_) | refine TLP_load TE (hk := ?_) | refine TLP_load_rd TE (hk := ?_) | refine TL_fieldAddr TE (hk := ?_) | refine TL_fieldAddr_e TE (hk := ?_) | refine TL_indexAddrn TE (hk := ?_)); refine TL_nil_p ?_); (refine TA_take 4 rfl (by kernel_rfl) (by kernel_rfl) (by kernel_rfl) ?_; repeat (first | refine TL_move (hk := ?_) | refine TLP_load TE (hk := ?_) | refine TLP_load_rd TE (hk := ?_) | refine TL_fieldAddr TE (hk := ?_) | refine TL_fieldAddr_e TE (hk := ?_) | refine TL_indexAddrn TE (hk := ?_)); refine TL_nil_p ?_); (refine TA_take 5 rfl (by kernel_rfl) (by kernel_rfl) (by kernel_rfl) ?_; repeat (first | refine TL_move (hk := ?_) | refine TLP_load TE (hk := ?_) | refine TLP_load_rd TE (hk := ?_) | refine TL_fieldAddr TE (hk := ?_) | refine TL_fieldAddr_e TE (hk := ?_) | refine TL_indexAddrn TE (hk := ?_)); refine TL_nil_p ?_); (refine TA_take 6 rfl (by kernel_rfl) (by kernel_rfl) (by kernel_rfl) ?_; repeat (first | refine TL_move (hk := ?_) | refine TLP_load TE (hk := ?_) | refine TLP_load_rd TE (hk := ?_) | refine TL_fieldAddr TE (hk := ?_) | refine TL_fieldAddr_e TE (hk := ?_) | refine TL_indexAddrn TE (hk := ?_)); refine TL_nil_p ?_)
      refine TA_one 7 rfl (by kernel_rfl) (by kernel_rfl) ?_
      refine TL_call TE (hc := Has_c A n c r t w9 hA9 (by omega)) (hq := fun v w' ⟨_, h⟩ => h ▸ Mod.refl _ _) (hk := ?_)
      rintro _ w9 ⟨rfl, rfl⟩
      refine TL_nil_p ?_
      refine TA_done (by kernel_rfl) ?_
      have hrk : t ∈ r ∨ t ∈ k := by rw [← hks, keys3, set_mem] at htm; simpa using htm
      by_cases q1 : t ∈ r
      · by_cases q2 : t ∈ k
        · have hu : bitsM (ofM r k) t = 3 := by rw [hbits]; simp [q1, q2]
          rw [hu] at hl1
          replace hl1 : (lv ls)[Int.toNat (i : Int) * 2 + 1]? = some (.bool true) := hl1
          rw [decide_eq_true q1]
          repeat (first | refine T_seq ?_ | refine T_region ?_ | refine T_cond_true rfl ?_ | refine TL_add (hk := ?_) | refine TL_nil ?_ | refine TL_move (hk := ?_) | refine TL_assign (hk := ?_) | refine TL_load_rd TE (hk := ?_) | refine TL_fieldAddr_e TE (hk := ?_) | refine TL_indexAddrn TE (hk := ?_))
          refine TL_buildSlice TE (hk := ?_); intro b10 w10 e10 h10 h10' k10
          replace k10 : Blk w10 b10 5 [.int .u8 ((3 : Nat) : Int)] := k10
          have o10 := o9.be e10
          have z10 := e10.size
          --
          refine TL_append TE (hk := ?_); intro A11 c11 w11 o11 m11 n11
          have E11 : Ext w6 w11 := ((e8.ext e9).ext e10).own m11 (Hi.mono o10.hi (by omega))
          repeat (first | refine T_region ?_ | refine T_inBlock ?_ | refine TL_add (hk := ?_) | refine TL_nil ?_ | refine TL_move (hk := ?_) | refine TL_assign (hk := ?_))
          refine ih ((A11, n8 + 1, c11), i + 1) _ _ (by simp only; omega) ⟨e6.ext E11, e46.ext E11, by show i + 1 ≤ n3; omega, by show n8 + 1 ≤ 200010 + 43 * (i + 1); omega, ?_⟩ (.c rfl (.c rfl (.c rfl (.c rfl (.n)))))
          have o12 := o11.weaken (base' := w.heap.size) (by omega)
          simp only
          rw [hbt, entryB, hu]
          have hv := bv_snoc (ahead ++ (encU n3 ++ bodyB (ofM r k) (ks.take i)) ++ (encU (ofL t).size ++ (ofL t).data.toList)) 3 (by omega)
          have hv2 : bv (ahead ++ (encU n3 ++ bodyB (ofM r k) (ks.take i)) ++ (encU (ofL t).size ++ (ofL t).data.toList)) ++ [Value.int .u8 ((3 : Nat) : Int)] = bv (ahead ++ (encU n3 ++ (bodyB (ofM r k) (ks.take i) ++ (encU t.length ++ t ++ [UInt8.ofNat 3])))) := by
            rw [hv, ofL_toList, ofL_size]
            simp only [List.append_assoc]
          rw [← hv2]
          exact o12
        · have hu : bitsM (ofM r k) t = 1 := by rw [hbits]; simp [q1, q2]
          rw [hu] at hl1
          replace hl1 : (lv ls)[Int.toNat (i : Int) * 2 + 1]? = some (.bool false) := hl1
          rw [decide_eq_true q1]
          repeat (first | refine T_seq ?_ | refine T_region ?_ | refine T_cond_true rfl ?_ | refine T_cond_false rfl ?_ | refine T_skip ?_ | refine TL_add (hk := ?_) | refine TL_nil ?_ | refine TL_move (hk := ?_) | refine TL_assign (hk := ?_) | refine TL_load_rd TE (hk := ?_) | refine TL_fieldAddr_e TE (hk := ?_) | refine TL_indexAddrn TE (hk := ?_))
          refine TL_buildSlice TE (hk := ?_); intro b10 w10 e10 h10 h10' k10
          replace k10 : Blk w10 b10 5 [.int .u8 ((1 : Nat) : Int)] := k10
          have o10 := o9.be e10
          have z10 := e10.size
          --
          refine TL_append TE (hk := ?_); intro A11 c11 w11 o11 m11 n11
          have E11 : Ext w6 w11 := ((e8.ext e9).ext e10).own m11 (Hi.mono o10.hi (by omega))
          repeat (first | refine T_region ?_ | refine T_inBlock ?_ | refine TL_add (hk := ?_) | refine TL_nil ?_ | refine TL_move (hk := ?_) | refine TL_assign (hk := ?_))
          refine ih ((A11, n8 + 1, c11), i + 1) _ _ (by simp only; omega) ⟨e6.ext E11, e46.ext E11, by show i + 1 ≤ n3; omega, by show n8 + 1 ≤ 200010 + 43 * (i + 1); omega, ?_⟩ (.c rfl (.c rfl (.c rfl (.c rfl (.n)))))
          have o12 := o11.weaken (base' := w.heap.size) (by omega)
          simp only
          rw [hbt, entryB, hu]
          have hv := bv_snoc (ahead ++ (encU n3 ++ bodyB (ofM r k) (ks.take i)) ++ (encU (ofL t).size ++ (ofL t).data.toList)) 1 (by omega)
          have hv2 : bv (ahead ++ (encU n3 ++ bodyB (ofM r k) (ks.take i)) ++ (encU (ofL t).size ++ (ofL t).data.toList)) ++ [Value.int .u8 ((1 : Nat) : Int)] = bv (ahead ++ (encU n3 ++ (bodyB (ofM r k) (ks.take i) ++ (encU t.length ++ t ++ [UInt8.ofNat 1])))) := by
            rw [hv, ofL_toList, ofL_size]
            simp only [List.append_assoc]
          rw [← hv2]
          exact o12
      · have q2 : t ∈ k := hrk.resolve_left q1
        have hu : bitsM (ofM r k) t = 2 := by rw [hbits]; simp [q1, q2]
        rw [hu] at hl1
        replace hl1 : (lv ls)[Int.toNat (i : Int) * 2 + 1]? = some (.bool true) := hl1
        rw [decide_eq_false q1]
        repeat (first | refine T_seq ?_ | refine T_region ?_ | refine T_cond_true rfl ?_ | refine T_cond_false rfl ?_ | refine T_skip ?_ | refine TL_add (hk := ?_) | refine TL_nil ?_ | refine TL_move (hk := ?_) | refine TL_assign (hk := ?_) | refine TL_load_rd TE (hk := ?_) | refine TL_fieldAddr_e TE (hk := ?_) | refine TL_indexAddrn TE (hk := ?_))
        refine TL_buildSlice TE (hk := ?_); intro b10 w10 e10 h10 h10' k10
        replace k10 : Blk w10 b10 5 [.int .u8 ((2 : Nat) : Int)] := k10
        have o10 := o9.be e10
        have z10 := e10.size
        --
        refine TL_append TE (hk := ?_); intro A11 c11 w11 o11 m11 n11
        have E11 : Ext w6 w11 := ((e8.ext e9).ext e10).own m11 (Hi.mono o10.hi (by omega))
        repeat (first | refine T_region ?_ | refine T_inBlock ?_ | refine TL_add (hk := ?_) | refine TL_nil ?_ | refine TL_move (hk := ?_) | refine TL_assign (hk := ?_))
        refine ih ((A11, n8 + 1, c11), i + 1) _ _ (by simp only; omega) ⟨e6.ext E11, e46.ext E11, by show i + 1 ≤ n3; omega, by show n8 + 1 ≤ 200010 + 43 * (i + 1); omega, ?_⟩ (.c rfl (.c rfl (.c rfl (.c rfl (.n)))))
        have o12 := o11.weaken (base' := w.heap.size) (by omega)
        simp only
        rw [hbt, entryB, hu]
        have hv := bv_snoc (ahead ++ (encU n3 ++ bodyB (ofM r k) (ks.take i)) ++ (encU (ofL t).size ++ (ofL t).data.toList)) 2 (by omega)
        have hv2 : bv (ahead ++ (encU n3 ++ bodyB (ofM r k) (ks.take i)) ++ (encU (ofL t).size ++ (ofL t).data.toList)) ++ [Value.int .u8 ((2 : Nat) : Int)] = bv (ahead ++ (encU n3 ++ (bodyB (ofM r k) (ks.take i) ++ (encU t.length ++ t ++ [UInt8.ofNat 2])))) := by
          rw [hv, ofL_toList, ofL_size]
          simp only [List.append_assoc]
        rw [← hv2]
        exact o12
    · have hin : i = n3 := by omega
      have hall : ks.take i = ks := List.take_of_length_le (by omega)
      repeat (first | refine T_seq ?_ | refine T_region ?_ | refine T_cond_false rfl ?_ | refine T_exit rfl ?_ | refine TL_lt_f (hk := ?_) | refine TL_nil ?_ | refine TL_move (hk := ?_) | refine TL_assign (hk := ?_) | refine TL_len TE (hk := ?_))
      refine T_ret2 rfl rfl rfl ⟨A6, n6, c6, rfl, e6, ?_⟩
      rw [hall] at o6
      unfold putB
      rw [hks, hkl]
      exact o6
  · have hN' : isNorm r k = false := by simpa using hN
    rw [hN']
    repeat (first | refine T_seq ?_ | refine T_region ?_ | refine T_cond_true rfl ?_ | refine TL_nil ?_ | refine TL_assign (hk := ?_) | refine TL_not (hk := ?_))
    exact T_ret2 rfl rfl rfl ⟨none, 0, 0, rfl, e1.ext e2, Own.nil _ _ _ _⟩
end Go.Proofs.Ytfplmpfdhiagaaa

/- Which footprint stands at the front of bytes. -/
namespace Go.Proofs.Foot
open Go.Proofs.Eng Go.Proofs.Codec
set_option linter.unusedSimpArgs false
set_option linter.unusedVariables false
structure GS where
  s : RS
  last : Tx
  rd : List Tx
  wr : List Tx
def gText (g : GS) : Tx × RS := g.s.take ([] : List UInt8) (tText 32)
def gKey (g : GS) : RS := if validT (gText g).1 = true then (gText g).2 else (gText g).2.fail 30
def gRise (g : GS) : RS := if (gText g).1 ≤ g.last then (gKey g).fail 31 else gKey g
def gUse (g : GS) : Nat × RS := (gRise g).take (0 : Nat) tByte
def gEnd (g : GS) : RS := if (gUse g).1 < 1 ∨ 3 < (gUse g).1 then (gUse g).2.fail 31 else (gUse g).2
def gStep (g : GS) : GS := ⟨gEnd g, (gText g).1, if (gUse g).1 &&& 1 = 0 then g.rd else g.rd ++ [(gText g).1], if (gUse g).1 &&& 2 = 0 then g.wr else g.wr ++ [(gText g).1]⟩
def gIter : Nat → GS → GS
  | 0, g => g
  | n + 1, g => gStep (gIter n g)
def gInit (b : List UInt8) : Nat × RS := (RS.mk b 0 0 0 0).take (0 : Nat) (tLim 64 6)
def gAll (b : List UInt8) : GS := gIter (gInit b).1 ⟨(gInit b).2, [], [], []⟩
def getF (b : List UInt8) : ((List Tx × List Tx) × Nat) × Int :=
  if (gAll b).s.err = 0 then ((((gAll b).rd, (gAll b).wr), b.length - (gAll b).s.rest), 0) else ((([], []), 0), (gAll b).s.err)
theorem tLim_le {most e : Int} {l : List UInt8} {n k : Nat} (h : tLim most e l = .ok (n, k)) : (n : Int) ≤ most := by
  unfold tLim at h
  split at h
  · split at h
    · cases h
    · cases h; omega
  · cases h
theorem tText_le {most : Int} {l v : List UInt8} {k : Nat} (h : tText most l = .ok (v, k)) : (v.length : Int) ≤ most := by
  unfold tText at h
  split at h
  · rename_i n j hq
    have := tLim_le hq
    split at h
    · cases h
    · cases h
      rw [List.length_take]
      omega
  · cases h
theorem gText_le (g : GS) : (gText g).1.length ≤ 32 := by
  unfold gText RS.take
  split
  · cases h : tText 32 (g.s.b.drop g.s.pos) with
    | ok p => obtain ⟨v, k⟩ := p; have := tText_le h; simp only; omega
    | error e => simp
  · simp
theorem gUse_lt (g : GS) : (gUse g).1 < 256 := by
  unfold gUse RS.take
  split
  · cases h : tByte ((gRise g).b.drop (gRise g).pos) with
    | ok p =>
      obtain ⟨v, k⟩ := p
      unfold tByte at h
      split at h
      · cases h
      · rename_i c _ _
        cases h
        exact UInt8.toNat_lt c
    | error e => simp
  · simp
theorem gInit_le (b : List UInt8) : (gInit b).1 ≤ 64 := by
  unfold gInit RS.take
  simp only [if_true]
  cases h : tLim 64 6 (List.drop 0 b) with
  | ok p => obtain ⟨v, k⟩ := p; have := tLim_le h; simp only; omega
  | error e => simp
end Go.Proofs.Foot

namespace Go.Proofs.Ytfplmpfdhiagaaa
open Go.RowKit Go.Proofs.Eng Go.Proofs.Foot Go.Proofs.Codec
set_option linter.unusedSimpArgs false
set_option linter.unusedVariables false
attribute [local irreducible] T TL LV TH TA
theorem off_none (S : List Nat) : Off none S := fun _ h => by cases h
theorem Count_s (b : Nat) (s : RS) (A : Option Addr) (n c : Nat) (w : World) (h : Rdr w 107 b s A n c) :
    Ret Try.prog 63 [ptr b, .int .i64 64] w (fun v w' => v = .int .i64 (((s.take (0 : Nat) (tLim 64 6)).1 : Nat) : Int) ∧ Mod [b] w w' ∧ Rdr w' 107 b (s.take (0 : Nat) (tLim 64 6)).2 A n c) :=
  Count_c b s A n c 64 (by decide) w h
theorem Text_s (b : Nat) (s : RS) (A : Option Addr) (n c : Nat) (w : World) (h : Rdr w 107 b s A n c) :
    Ret Try.prog 64 [ptr b, .int .i64 32] w (fun v w' => v = .string (ofL (s.take ([] : List UInt8) (tText 32)).1) ∧ Mod [b] w w' ∧ Rdr w' 107 b (s.take ([] : List UInt8) (tText 32)).2 A n c) :=
  Text_c b s A n c 32 (by decide) w h
theorem Byte_s (b : Nat) (s : RS) (A : Option Addr) (n c : Nat) (w : World) (h : Rdr w 107 b s A n c) :
    Ret Try.prog 66 [ptr b] w (fun v w' => v = .int .u8 (((s.take (0 : Nat) tByte).1 : Nat) : Int) ∧ Mod [b] w w' ∧ Rdr w' 107 b (s.take (0 : Nat) tByte).2 A n c) :=
  Byte_c b s A n c w h
/-- A list that grows by one text or stays. -/
def more (l : List Tx) (t : Tx) (z : Nat) : List Tx := if z = 0 then l else l ++ [t]
/-- What stays while a footprint is read. -/
structure GInv (tR : TypeId) (w w5 w' : World) (bR b6 : Nat) (s : RS) (A : Option Addr) (n c : Nat) (x y : Option Addr × Nat × Nat) (rd wr : List Tx) : Prop where
  ext : Ext w w'
  mod : Eng.Mod [bR, b6] w5 w'
  rdr : Rdr w' tR bR s A n c
  blk : Blk w' b6 28 [.slice x.1 x.2.1 x.2.2, .slice y.1 y.2.1 y.2.2]
  own1 : Own w' w5.heap.size 9 1 x.1 x.2.1 x.2.2 (sv rd)
  own2 : Own w' w5.heap.size 9 1 y.1 y.2.1 y.2.2 (sv wr)
  off1 : Off y.1 (blkL x.1)
  off2 : Off x.1 (blkL y.1)
  hR : w.heap.size ≤ bR
  hR5 : bR < w5.heap.size
  h6 : w.heap.size ≤ b6
  h65 : b6 < w5.heap.size
  hne : bR ≠ b6
  hA : Lo A w5.heap.size
  hA6 : Off A [b6]
theorem GInv.step {tR : TypeId} {w w5 w' w2 : World} {bR b6 : Nat} {s s' : RS} {A : Option Addr} {n c : Nat} {x y : Option Addr × Nat × Nat} {rd wr : List Tx} (I : GInv tR w w5 w' bR b6 s A n c x y rd wr) (m : Eng.Mod [bR] w' w2) (r : Rdr w2 tR bR s' A n c) : GInv tR w w5 w2 bR b6 s' A n c x y rd wr := by
  have z := I.mod.size
  have h1 := I.hR
  have h2 := I.hR5
  have h3 := I.hne
  exact ⟨Mod.step I.ext m (by simp; omega), Mod.step I.mod m (by simp), r, I.blk.mod m (by simp; omega), I.own1.mod m (Off.hi I.own1.hi (by omega)), I.own2.mod m (Off.hi I.own2.hi (by omega)), I.off1, I.off2, I.hR, I.hR5, I.h6, I.h65, I.hne, I.hA, I.hA6⟩
theorem GInv.ext2 {tR : TypeId} {w w5 w' w2 : World} {bR b6 : Nat} {s : RS} {A : Option Addr} {n c : Nat} {x y : Option Addr × Nat × Nat} {rd wr : List Tx} (I : GInv tR w w5 w' bR b6 s A n c x y rd wr) (m : Ext w' w2) : GInv tR w w5 w2 bR b6 s A n c x y rd wr :=
  ⟨I.ext.ext m, I.mod.ext m, I.rdr.ext m, I.blk.ext m, I.own1.ext m, I.own2.ext m, I.off1, I.off2, I.hR, I.hR5, I.h6, I.h65, I.hne, I.hA, I.hA6⟩
theorem Get_c (B : Option Addr) (nb cb : Nat) (b : List UInt8) (w : World) (hb : Rd w B nb 1 (bv b)) (hnb : nb ≤ 200000) :
    Ret Try.prog 18 [.slice B nb cb] w (fun v w' => ∃ u, v = .tuple #[u, .int .i64 ((getF b).1.2 : Nat), .int .i64 (getF b).2] ∧ Ext w w' ∧ FootO w' w.heap.size 9 u (getF b).1.1) := by
  have hlb := hb.1
  simp only [bv_length, Nat.mul_one] at hlb
  refine ret_T (n := 75) Try.func18 rfl rfl ?_
  repeat (first | refine T_seq ?_ | refine T_region ?_)
  refine TL_alloc TE (hk := ?_); intro b2 w2 e2 h2 h2' k2
  have z2 := e2.size
  repeat (first | refine T_seq ?_ | refine T_region ?_ | refine TL_nil ?_ | refine TL_move (hk := ?_) | refine TL_assign (hk := ?_))
  refine TL_call TE (hc := NewReader_c B nb cb b _ (hb.be e2) (by omega)) (hk := ?_)
  rintro _ w3 ⟨bR, A3, n3, c3, rfl, e3, hbR, hi3, lo3, rr⟩
  have z3 := e3.size
  have lR := rr.blk.lt
  have hn3 : b.length = n3 := rr.len
  repeat (first | refine T_seq ?_ | refine T_region ?_ | refine TL_nil ?_ | refine TL_assign (hk := ?_))
  refine TL_alloc TE (hk := ?_); intro b6 w4 e4 h6 h6' k6
  have k24 := (k2.be e3).be e4
  have rr4 := rr.ext e4
  have z4 := e4.size
  have e04 := (e2.ext e3).ext e4
  clear k2 rr
  repeat (first | refine T_seq ?_ | refine T_region ?_ | refine TL_nil ?_ | refine TL_move (hk := ?_) | refine TL_assign (hk := ?_))
  refine TL_call TE (hc := Count_s bR _ A3 n3 c3 w4 rr4) (hk := ?_)
  rintro _ w5 ⟨rfl, m5, rr5⟩
  obtain ⟨c0, hc0⟩ : ∃ c0, (RS.mk b 0 0 0 0).take (0 : Nat) (tLim 64 6) = c0 := ⟨_, rfl⟩
  have hgi : gInit b = c0 := hc0
  have hg64 := gInit_le b
  rw [hgi] at hg64
  rw [hc0] at rr5
  rw [hc0]
  have z5 := m5.size
  have e05 : Ext w w5 := Mod.step e04 m5 (by simp; omega)
  have k25 := k24.bm m5 (by simp; omega)
  have k65 := k6.bm m5 (by simp; omega)
  have hA3 : Lo A3 w5.heap.size := Lo.mono lo3 (by omega)
  obtain ⟨n0, hn0⟩ : ∃ n0, c0.1 = n0 := ⟨_, rfl⟩
  rw [hn0] at hg64 ⊢
  clear k24 k6 rr4 hb
  repeat (first | refine T_block ?_ | refine TL_nil ?_ | refine TL_move (hk := ?_))
  have I0 : GInv 107 w w5 w5 bR b6 c0.2 A3 n3 c3 (none, 0, 0) (none, 0, 0) [] [] := ⟨e05, Mod.refl _ _, rr5, k65, Own.nil _ _ _ _, Own.nil _ _ _ _, off_none _, off_none _, by omega, by omega, by omega, by omega, by omega, hA3, Off.lo lo3 (by omega)⟩
  have h25 : b2 < w3.heap.size := by omega
  refine T_loop (ι := (GS × Nat) × (Option Addr × Nat × Nat) × (Option Addr × Nat × Nat)) (fun i => [(16, .int .i64 (i.1.2 : Int)), (15, .int .i64 (n0 : Int)), (7, .string (ofL i.1.1.last)), (6, .pointer (some ⟨b6, 0, none⟩)), (5, ptr bR), (2, .pointer (some ⟨b2, 0, none⟩)), (0, .slice B nb cb)])
    (fun i w' => i.1.2 ≤ n0 ∧ i.1.1 = gIter i.1.2 ⟨c0.2, [], [], []⟩ ∧ GInv 107 w w5 w' bR b6 i.1.1.s A3 n3 c3 i.2.1 i.2.2 i.1.1.rd i.1.1.wr ∧ i.2.1.2.1 ≤ i.1.2 ∧ i.2.2.2.1 ≤ i.1.2) (fun i => n0 - i.1.2) ((⟨c0.2, [], [], []⟩, 0), (none, 0, 0), (none, 0, 0)) (.c rfl (.c rfl (.c rfl (.c rfl (.c rfl (.c rfl (.c rfl (.n))))))))
    ⟨Nat.zero_le _, rfl, I0, Nat.zero_le _, Nat.zero_le _⟩ ?_
  rintro ⟨⟨g, i⟩, x, y⟩ w6 ⟨hi, hg, I6, hnr, hnw⟩ ih
  simp only at hi hg I6 hnr hnw ih ⊢
  by_cases hlt : i < n0
  · repeat (first | refine T_seq ?_ | refine T_region ?_ | refine T_cond_true rfl ?_ | refine T_block ?_ | refine T_skip ?_ | refine TL_lt_t (hk := ?_) | refine TL_nil ?_ | refine TL_move (hk := ?_))
    refine TL_call TE (hc := Text_s bR _ A3 n3 c3 w6 I6.rdr) (hk := ?_)
    rintro _ w7 ⟨rfl, m7, rr7⟩
    have I7 := I6.step m7 rr7
    obtain ⟨p, hp⟩ : ∃ p, g.s.take ([] : List UInt8) (tText 32) = p := ⟨_, rfl⟩
    have hgt : gText g = p := hp
    have hp32 := gText_le g
    have hu256 := gUse_lt g
    rw [hgt] at hp32
    rw [hp] at I7
    rw [hp]
    repeat (first | refine T_seq ?_ | refine T_region ?_ | refine TL_nil ?_ | refine TL_move (hk := ?_) | refine TL_assign (hk := ?_))
    refine TL_call TE (hc := Valid_c p.1 (by omega) _) (hk := ?_)
    rintro _ _ ⟨rfl, rfl⟩
    repeat (first | refine TL_nil ?_ | refine TL_not (hk := ?_))
    refine T_join (ι := Unit) (fun _ => [(8, .string (ofL p.1)), (16, .int .i64 (i : Int)), (15, .int .i64 (n0 : Int)), (7, .string (ofL g.last)), (6, .pointer (some ⟨b6, 0, none⟩)), (5, ptr bR), (2, .pointer (some ⟨b2, 0, none⟩)), (0, .slice B nb cb)])
      (fun _ w' => GInv 107 w w5 w' bR b6 (gKey g) A3 n3 c3 x y g.rd g.wr) (fun kk join => ?_) ?_
    · by_cases hv : validT p.1 = true
      · rw [hv]
        repeat (first | refine T_cond_false rfl ?_ | refine T_skip ?_)
        have hgk : gKey g = p.2 := by unfold gKey; rw [hgt, if_pos hv]
        exact T.sub (join () _ (by rw [hgk]; exact I7)) (.c rfl (.c rfl (.c rfl (.c rfl (.c rfl (.c rfl (.c rfl (.c rfl (.n)))))))))
      · have hv' : validT p.1 = false := by simpa using hv
        rw [hv']
        repeat (first | refine T_region ?_ | refine T_cond_true rfl ?_ | refine TL_move (hk := ?_))
        refine TL_call TE (hc := Fail_c bR _ A3 n3 c3 30 _ I7.rdr) (hk := ?_)
        rintro _ w8 ⟨_, m8, rr8⟩
        repeat (refine TL_nil ?_)
        have hgk : gKey g = p.2.fail 30 := by unfold gKey; rw [hgt, if_neg hv]
        exact T.sub (join () _ (by rw [hgk]; exact I7.step m8 rr8)) (.c rfl (.c rfl (.c rfl (.c rfl (.c rfl (.c rfl (.c rfl (.c rfl (.n)))))))))
    rintro _ w8 I8
    clear I7 I6 rr7
    repeat (first | refine T_seq ?_ | refine T_region ?_ | refine TL_move (hk := ?_))
    refine TL_sle_d (hk := ?_)
    repeat (refine TL_nil ?_)
    refine T_join (ι := Unit) (fun _ => [(8, .string (ofL p.1)), (16, .int .i64 (i : Int)), (15, .int .i64 (n0 : Int)), (6, .pointer (some ⟨b6, 0, none⟩)), (5, ptr bR), (2, .pointer (some ⟨b2, 0, none⟩)), (0, .slice B nb cb)])
      (fun _ w' => GInv 107 w w5 w' bR b6 (gRise g) A3 n3 c3 x y g.rd g.wr) (fun kk join => ?_) ?_
    · by_cases hv : p.1 ≤ g.last
      · rw [decide_eq_true hv]
        repeat (first | refine T_region ?_ | refine T_cond_true rfl ?_ | refine TL_move (hk := ?_))
        refine TL_call TE (hc := Fail_c bR _ A3 n3 c3 31 _ I8.rdr) (hk := ?_)
        rintro _ w9 ⟨_, m9, rr9⟩
        repeat (refine TL_nil ?_)
        have hgk : gRise g = (gKey g).fail 31 := by unfold gRise; rw [hgt, if_pos hv]
        exact T.sub (join () _ (by rw [hgk]; exact I8.step m9 rr9)) (.c rfl (.c rfl (.c rfl (.c rfl (.c rfl (.c rfl (.c rfl (.n))))))))
      · rw [decide_eq_false hv]
        repeat (first | refine T_cond_false rfl ?_ | refine T_skip ?_)
        have hgk : gRise g = gKey g := by unfold gRise; rw [hgt, if_neg hv]
        exact T.sub (join () _ (by rw [hgk]; exact I8)) (.c rfl (.c rfl (.c rfl (.c rfl (.c rfl (.c rfl (.c rfl (.n))))))))
    rintro _ w9 I9
    clear I8
    repeat (first | refine T_seq ?_ | refine T_region ?_ | refine TL_nil ?_ | refine TL_move (hk := ?_) | refine TL_assign (hk := ?_))
    refine TL_call TE (hc := Byte_s bR _ A3 n3 c3 w9 I9.rdr) (hk := ?_)
    rintro _ w10 ⟨rfl, m10, rr10⟩
    have I10 := I9.step m10 rr10
    obtain ⟨q, hq⟩ : ∃ q, (gRise g).take (0 : Nat) tByte = q := ⟨_, rfl⟩
    have hgu : gUse g = q := hq
    rw [hgu] at hu256
    rw [hq] at I10
    rw [hq]
    obtain ⟨u, hu⟩ : ∃ u, q.1 = u := ⟨_, rfl⟩
    rw [hu] at hu256 ⊢
    clear I9 rr10
    repeat (first | refine TL_nil ?_ | refine TL_assign (hk := ?_))
    refine T_seq ?_
    refine T_join (ι := Unit) (fun _ => [(9, .int .u8 (u : Int)), (8, .string (ofL p.1)), (7, .string (ofL p.1)), (16, .int .i64 (i : Int)), (15, .int .i64 (n0 : Int)), (6, .pointer (some ⟨b6, 0, none⟩)), (5, ptr bR), (2, .pointer (some ⟨b2, 0, none⟩)), (0, .slice B nb cb)])
      (fun _ w' => GInv 107 w w5 w' bR b6 (gEnd g) A3 n3 c3 x y g.rd g.wr) (fun kk join => ?_) ?_
    · by_cases hv : u < 1
      · repeat (first | refine T_seq ?_ | refine T_region ?_ | refine T_cond_true rfl ?_ | refine TL_lt_t (hk := ?_) | refine TL_nil ?_ | refine TL_move (hk := ?_) | refine TL_no (hk := ?_) | refine TL_pick_t (hk := ?_))
        refine TL_call TE (hc := Fail_c bR _ A3 n3 c3 31 _ I10.rdr) (hk := ?_)
        rintro _ w11 ⟨_, m11, rr11⟩
        repeat (refine TL_nil ?_)
        have hgk : gEnd g = q.2.fail 31 := by unfold gEnd; rw [hgu, hu, if_pos (.inl hv)]
        exact T.sub (join () _ (by rw [hgk]; exact I10.step m11 rr11)) (.c rfl (.c rfl (.c rfl (.c rfl (.c rfl (.c rfl (.c rfl (.c rfl (.c rfl (.n))))))))))
      · by_cases hv3 : 3 < u
        · repeat (first | refine T_seq ?_ | refine T_region ?_ | refine T_cond_true rfl ?_ | refine TL_lt_f (hk := ?_) | refine TL_gt_t (hk := ?_) | refine TL_nil ?_ | refine TL_move (hk := ?_) | refine TL_yes (hk := ?_) | refine TL_pick_f (hk := ?_))
          refine TL_call TE (hc := Fail_c bR _ A3 n3 c3 31 _ I10.rdr) (hk := ?_)
          rintro _ w11 ⟨_, m11, rr11⟩
          repeat (refine TL_nil ?_)
          have hgk : gEnd g = q.2.fail 31 := by unfold gEnd; rw [hgu, hu, if_pos (.inr hv3)]
          exact T.sub (join () _ (by rw [hgk]; exact I10.step m11 rr11)) (.c rfl (.c rfl (.c rfl (.c rfl (.c rfl (.c rfl (.c rfl (.c rfl (.c rfl (.n))))))))))
        · repeat (first | refine T_seq ?_ | refine T_region ?_ | refine T_cond_false rfl ?_ | refine T_skip ?_ | refine TL_lt_f (hk := ?_) | refine TL_gt_f (hk := ?_) | refine TL_nil ?_ | refine TL_move (hk := ?_) | refine TL_yes (hk := ?_) | refine TL_pick_f (hk := ?_))
          have hgk : gEnd g = q.2 := by unfold gEnd; rw [hgu, hu, if_neg (by omega)]
          exact T.sub (join () _ (by rw [hgk]; exact I10)) (.c rfl (.c rfl (.c rfl (.c rfl (.c rfl (.c rfl (.c rfl (.c rfl (.c rfl (.n))))))))))
    rintro _ w11 I11
    clear I10
    repeat (first | refine T_seq ?_ | refine T_region ?_ | refine TL_move (hk := ?_))
    refine TL_and (hk := ?_); intro _
    refine TL_ne_d (hk := ?_)
    repeat (refine TL_nil ?_)
    refine T_join (ι := Option Addr × Nat × Nat) (fun _ => [(9, .int .u8 (u : Int)), (8, .string (ofL p.1)), (7, .string (ofL p.1)), (16, .int .i64 (i : Int)), (15, .int .i64 (n0 : Int)), (6, .pointer (some ⟨b6, 0, none⟩)), (5, ptr bR), (2, .pointer (some ⟨b2, 0, none⟩)), (0, .slice B nb cb)])
      (fun x' w' => GInv 107 w w5 w' bR b6 (gEnd g) A3 n3 c3 x' y (if u &&& 1 = 0 then g.rd else g.rd ++ [p.1]) g.wr ∧ x'.2.1 ≤ i + 1) (fun kk join => ?_) ?_
    · by_cases hv : u &&& 1 = 0
      · rw [if_pos hv] at join
        rw [show decide (((u &&& 1 : Nat) : Int) = 0) = true from decide_eq_true (by omega)]
        repeat (first | refine T_cond_false rfl ?_ | refine T_skip ?_)
        exact T.sub (join x _ ⟨I11, by omega⟩) (.c rfl (.c rfl (.c rfl (.c rfl (.c rfl (.c rfl (.c rfl (.c rfl (.c rfl (.n))))))))))
      · rw [if_neg hv] at join
        rw [show decide (((u &&& 1 : Nat) : Int) = 0) = false from decide_eq_false (by omega)]
        have k6 := I11.blk
        have o1 := I11.own1
        repeat (first | refine T_region ?_ | refine T_cond_true rfl ?_ | refine TL_move (hk := ?_) | refine TL_load TE (hk := ?_) | refine TL_fieldAddr TE (hk := ?_))
        refine TL_buildSlice TE (hk := ?_); intro b12 w12 e12 h12 h12' k12
        replace k12 : Blk w12 b12 9 [.string (ofL p.1)] := k12
        have z12 := e12.size
        have o12 := o1.be e12
        have z11 := I11.mod.size
        refine TL_append TE (hk := ?_); intro A13 c13 w13 o13 m13 n13
        have J12 := I11.ext2 e12
        have h65 := I11.h65
        have hRR := I11.hR5
        have hne := I11.hne
        have h6 := I11.h6
        have z13 := m13.size
        have k13 := J12.blk.mod m13 (hi_not o12.hi h65)
        have rr13 := J12.rdr.mod m13 (hi_not o12.hi hRR) (Off.lohi J12.hA o12.hi)
        have own2 := J12.own2.mod m13 J12.off1
        have e13 : Ext w w13 := J12.ext.own m13 (Hi.mono o12.hi (by have := e05.size; omega))
        have mm13 : Eng.Mod [bR, b6] w5 w13 := Mod.step J12.mod m13 (fun z hz => .inr (by
          cases hx : x.1 with
          | none => rw [hx] at hz; simp [blkL] at hz
          | some ad => rw [hx] at hz; simp [blkL] at hz; rw [hz]; exact o12.hi ad hx))
        have noff : Off y.1 (blkL A13) := by
          intro ad had hm
          cases A13 with
          | none => simp [blkL] at hm
          | some a2 =>
            simp [blkL] at hm
            rcases n13 a2 rfl with h | h
            · exact J12.off1 ad had (by rw [h]; simp [blkL, hm])
            · have := J12.own2.lo ad had; omega
        have noff2 : Off A13 (blkL y.1) := by
          intro ad had hm
          cases hy : y.1 with
          | none => rw [hy] at hm; simp [blkL] at hm
          | some a2 =>
            rw [hy] at hm
            simp [blkL] at hm
            rcases n13 ad had with h | h
            · exact J12.off2 ad h (by rw [hy]; simp [blkL, hm])
            · have := J12.own2.lo a2 hy; omega
        clear k6 o1 k12 I11
        repeat (refine TL_fieldAddr TE (hk := ?_))
        refine TL_store TE (hk := ?_); intro w14 m14 z14 k14
        repeat (refine TL_nil ?_)
        refine T.sub (join (A13, x.2.1 + 1, c13) _ ⟨⟨Mod.step e13 m14 (by simp; omega), Mod.step mm13 m14 (by simp), rr13.mod m14 (by simp; omega) J12.hA6, k14, ?_, own2.mod m14 (Off.hi own2.hi (by omega)), noff, noff2, J12.hR, J12.hR5, J12.h6, J12.h65, J12.hne, J12.hA, J12.hA6⟩, by show x.2.1 + 1 ≤ i + 1; omega⟩) (.c rfl (.c rfl (.c rfl (.c rfl (.c rfl (.c rfl (.c rfl (.c rfl (.c rfl (.n))))))))))
        rw [sv_append]
        exact o13.mod m14 (Off.hi o13.hi (by omega))
    rintro x' w12 ⟨I12, hnx⟩
    obtain ⟨rd', hrd⟩ : ∃ rd', (if u &&& 1 = 0 then g.rd else g.rd ++ [p.1]) = rd' := ⟨_, rfl⟩
    rw [hrd] at I12
    repeat (first | refine T_seq ?_ | refine T_region ?_ | refine TL_move (hk := ?_))
    refine TL_and (hk := ?_); intro _
    refine TL_ne_d (hk := ?_)
    repeat (refine TL_nil ?_)
    refine T_join (ι := Option Addr × Nat × Nat) (fun _ => [(9, .int .u8 (u : Int)), (8, .string (ofL p.1)), (7, .string (ofL p.1)), (16, .int .i64 (i : Int)), (15, .int .i64 (n0 : Int)), (6, .pointer (some ⟨b6, 0, none⟩)), (5, ptr bR), (2, .pointer (some ⟨b2, 0, none⟩)), (0, .slice B nb cb)])
      (fun y' w' => GInv 107 w w5 w' bR b6 (gEnd g) A3 n3 c3 x' y' rd' (if u &&& 2 = 0 then g.wr else g.wr ++ [p.1]) ∧ y'.2.1 ≤ i + 1) (fun kk join => ?_) ?_
    · by_cases hv : u &&& 2 = 0
      · rw [if_pos hv] at join
        rw [show decide (((u &&& 2 : Nat) : Int) = 0) = true from decide_eq_true (by omega)]
        repeat (first | refine T_cond_false rfl ?_ | refine T_skip ?_)
        exact T.sub (join y _ ⟨I12, by omega⟩) (.c rfl (.c rfl (.c rfl (.c rfl (.c rfl (.c rfl (.c rfl (.c rfl (.c rfl (.n))))))))))
      · rw [if_neg hv] at join
        rw [show decide (((u &&& 2 : Nat) : Int) = 0) = false from decide_eq_false (by omega)]
        have k6 := I12.blk
        have o1 := I12.own2
        repeat (first | refine T_region ?_ | refine T_cond_true rfl ?_ | refine TL_move (hk := ?_) | refine TL_load TE (hk := ?_) | refine TL_fieldAddr TE (hk := ?_))
        refine TL_buildSlice TE (hk := ?_); intro b12 w12 e12 h12 h12' k12
        replace k12 : Blk w12 b12 9 [.string (ofL p.1)] := k12
        have z12 := e12.size
        have o12 := o1.be e12
        have z11 := I12.mod.size
        refine TL_append TE (hk := ?_); intro A13 c13 w13 o13 m13 n13
        have J12 := I12.ext2 e12
        have h65 := I12.h65
        have hRR := I12.hR5
        have hne := I12.hne
        have h6 := I12.h6
        have z13 := m13.size
        have k13 := J12.blk.mod m13 (hi_not o12.hi h65)
        have rr13 := J12.rdr.mod m13 (hi_not o12.hi hRR) (Off.lohi J12.hA o12.hi)
        have own1 := J12.own1.mod m13 J12.off2
        have e13 : Ext w w13 := J12.ext.own m13 (Hi.mono o12.hi (by have := e05.size; omega))
        have mm13 : Eng.Mod [bR, b6] w5 w13 := Mod.step J12.mod m13 (fun z hz => .inr (by
          cases hx : y.1 with
          | none => rw [hx] at hz; simp [blkL] at hz
          | some ad => rw [hx] at hz; simp [blkL] at hz; rw [hz]; exact o12.hi ad hx))
        have noff : Off x'.1 (blkL A13) := by
          intro ad had hm
          cases A13 with
          | none => simp [blkL] at hm
          | some a2 =>
            simp [blkL] at hm
            rcases n13 a2 rfl with h | h
            · exact J12.off2 ad had (by rw [h]; simp [blkL, hm])
            · have := J12.own1.lo ad had; omega
        have noff2 : Off A13 (blkL x'.1) := by
          intro ad had hm
          cases hy : x'.1 with
          | none => rw [hy] at hm; simp [blkL] at hm
          | some a2 =>
            rw [hy] at hm
            simp [blkL] at hm
            rcases n13 ad had with h | h
            · exact J12.off1 ad h (by rw [hy]; simp [blkL, hm])
            · have := J12.own1.lo a2 hy; omega
        clear k6 o1 k12 I12
        repeat (refine TL_fieldAddr TE (hk := ?_))
        refine TL_store TE (hk := ?_); intro w14 m14 z14 k14
        repeat (refine TL_nil ?_)
        refine T.sub (join (A13, y.2.1 + 1, c13) _ ⟨⟨Mod.step e13 m14 (by simp; omega), Mod.step mm13 m14 (by simp), rr13.mod m14 (by simp; omega) J12.hA6, k14, own1.mod m14 (Off.hi own1.hi (by omega)), ?_, noff2, noff, J12.hR, J12.hR5, J12.h6, J12.h65, J12.hne, J12.hA, J12.hA6⟩, by show y.2.1 + 1 ≤ i + 1; omega⟩) (.c rfl (.c rfl (.c rfl (.c rfl (.c rfl (.c rfl (.c rfl (.c rfl (.c rfl (.n))))))))))
        rw [sv_append]
        exact o13.mod m14 (Off.hi o13.hi (by omega))
    rintro y' w13 ⟨I13, hny⟩
    obtain ⟨wr', hwr⟩ : ∃ wr', (if u &&& 2 = 0 then g.wr else g.wr ++ [p.1]) = wr' := ⟨_, rfl⟩
    rw [hwr] at I13
    have hstep : gStep g = ⟨gEnd g, p.1, rd', wr'⟩ := by unfold gStep; rw [hgt, hgu, hu, hrd, hwr]
    repeat (first | refine T_region ?_ | refine T_inBlock ?_ | refine TL_add (hk := ?_) | refine TL_nil ?_ | refine TL_move (hk := ?_))
    refine ih ((⟨gEnd g, p.1, rd', wr'⟩, i + 1), x', y') _ _ (by simp only; omega) ⟨by show i + 1 ≤ n0; omega, ?_, I13, hnx, hny⟩ (.c rfl (.c rfl (.c rfl (.c rfl (.c rfl (.c rfl (.c rfl (.n))))))))
    show _ = gStep (gIter i _)
    rw [← hg, hstep]
  · have hin : i = n0 := by omega
    have hall : gAll b = g := by unfold gAll; rw [hgi, hn0, ← hin]; exact hg.symm
    repeat (first | refine T_seq ?_ | refine T_region ?_ | refine T_cond_false rfl ?_ | refine T_exit rfl ?_ | refine TL_lt_f (hk := ?_) | refine TL_nil ?_ | refine TL_move (hk := ?_))
    refine TL_call TE (hc := Why_c bR _ A3 n3 c3 w6 I6.rdr) (hk := ?_)
    rintro _ w7 ⟨rfl, e7⟩
    have I7 := I6.ext2 e7
    have k27 : Blk w7 b2 28 [.slice none 0 0, .slice none 0 0] := (k25.mod I6.mod (by simp; omega)).ext e7
    have hrest : g.s.rest ≤ nb := by
      have h1 := I7.rdr.len
      unfold RS.rest
      split <;> omega
    clear I6
    by_cases he : g.s.err = 0
    · have hf : getF b = (((g.rd, g.wr), b.length - g.s.rest), 0) := by unfold getF; rw [hall, if_pos he]
      rw [hf]
      repeat (first | refine T_seq ?_ | refine T_region ?_ | refine T_cond_false rfl ?_ | refine T_skip ?_ | refine TL_ne_f (hk := ?_) | refine TL_nil ?_ | refine TL_move (hk := ?_) | refine TL_assign (hk := ?_) | refine TL_extract (hk := ?_))
      refine T_region_any TE.mixed [b2] ?_; intro w8 e8 z8
      have I8 := I7.ext2 e8
      have k28 := k27.ext e8
      have h62 : b6 ∉ [b2] := by simp; omega
      refine TA_take 0 rfl (by kernel_rfl) (by kernel_rfl) (by kernel_rfl) ?_
      refine TLP_loadb TE (cs := [.slice x.1 x.2.1 x.2.2, .slice y.1 y.2.1 y.2.2]) (o := 0) (hb := I8.blk) (hD := h62) (hk := ?_)
      refine TL_nil_p ?_
      (refine TA_take 1 rfl (by kernel_rfl) (by kernel_rfl) (by kernel_rfl) ?_; repeat (first | refine TL_move (hk := ?_) | refine TL_len TE (hk := ?_)); refine TL_nil_p ?_); (refine TA_take 2 rfl (by kernel_rfl) (by kernel_rfl) (by kernel_rfl) ?_; repeat (first | refine TL_move (hk := ?_) | refine TL_len TE (hk := ?_)); refine TL_nil_p ?_); (refine TA_take 3 rfl (by kernel_rfl) (by kernel_rfl) (by kernel_rfl) ?_; repeat (first | refine TL_move (hk := ?_) | refine TL_len TE (hk := ?_)); refine TL_nil_p ?_)
      refine TA_one 4 rfl (by kernel_rfl) (by kernel_rfl) ?_
      refine TL_call TE (hc := Rest_c bR _ A3 n3 c3 w8 I8.rdr) (hq := fun v w' h => h.2.un) (hk := ?_)
      rintro _ w9 ⟨rfl, e9⟩
      have I9 := I8.ext2 e9
      have k29 := k28.ext e9
      refine TL_nil_p ?_
      (refine TA_take 5 rfl (by kernel_rfl) (by kernel_rfl) (by kernel_rfl) ?_; repeat (refine TL_sub (hk := ?_)); refine TL_nil_p ?_)
      refine TA_one 6 rfl (by kernel_rfl) (by kernel_rfl) ?_
      refine TL_storea TE (hf := rfl) (hq := fun w' h _ => e9.un.trans h) (hk := ?_); intro w10 m10 z10 k10
      refine TL_nil_p ?_
      (refine TA_take 7 rfl (by kernel_rfl) (by kernel_rfl) (by kernel_rfl) ?_; repeat (refine TL_assign (hk := ?_)); refine TL_nil_p ?_); (refine TA_take 8 rfl (by kernel_rfl) (by kernel_rfl) (by kernel_rfl) ?_; repeat (refine TL_assign (hk := ?_)); refine TL_nil_p ?_)
      refine TA_done (by kernel_rfl) ?_
      --
      have hsub : (((nb : Nat) : Int) - ((g.s.rest : Nat) : Int)) = ((b.length - g.s.rest : Nat) : Int) := by omega
      have z6 := I9.mod.size
      refine T_retA3 TE (vs := [.slice x.1 x.2.1 x.2.2, .slice y.1 y.2.1 y.2.2]) (o := 0) rfl rfl rfl rfl rfl rfl k10 rfl (Nat.succ_pos _) ⟨.agg #[.slice x.1 x.2.1 x.2.2, .slice y.1 y.2.1 y.2.2], ?_, Mod.step I9.ext m10 (by simp; omega), x.1, x.2.1, x.2.2, y.1, y.2.1, y.2.2, rfl, ?_, ?_, I9.off1⟩
      · rw [hsub]
      · exact (I9.own1.mod m10 (Off.hi I9.own1.hi (by omega))).weaken (by have := e05.size; omega)
      · exact (I9.own2.mod m10 (Off.hi I9.own2.hi (by omega))).weaken (by have := e05.size; omega)
    · have hf : getF b = ((([], []), 0), g.s.err) := by unfold getF; rw [hall, if_neg he]
      rw [hf]
      repeat (first | refine T_seq ?_ | refine T_region ?_ | refine T_cond_true rfl ?_ | refine TL_ne_t (hk := ?_) | refine TL_nil ?_ | refine TL_move (hk := ?_) | refine TL_assign (hk := ?_) | refine TL_extract (hk := ?_) | refine TL_build TE (hk := ?_))
      refine TL_storea TE (hk := ?_); intro w8 m8 s8 k8
      repeat (first | refine TL_nil ?_ | refine TL_assign (hk := ?_))
      exact T_retA3 TE (vs := [.slice none 0 0, .slice none 0 0]) (o := 0) rfl rfl rfl rfl rfl rfl k8 rfl (Nat.succ_pos _) ⟨.agg #[.slice none 0 0, .slice none 0 0], rfl, Mod.step I7.ext m8 (by simp; omega), FootO.nil _ _ _⟩
end Go.Proofs.Ytfplmpfdhiagaaa

namespace Go.Proofs.Ytfplmpfdhiagaaa
open Go.RowKit Go.Proofs.Eng Go.Proofs.Codec
set_option linter.unusedSimpArgs false
set_option linter.unusedVariables false
attribute [local irreducible] T TL LV TH TA
set_option maxHeartbeats 1000000

theorem fails_c (b : Nat) (s : RS) (A : Option Addr) (n c : Nat) (e : Int) (w : World) (h : Rdr w 91 b s A n c) :
    Ret Try.prog 95 [ptr b, .int .i64 e] w (fun v w' => v = .tuple #[] ∧ Mod [b] w w' ∧ Rdr w' 91 b { s with err := e, spot := s.pos } A n c) := by
  obtain ⟨hb, hr, ho, hl, hp, hla, hbig, hcap⟩ := h
  refine ret_T (n := 15) Try.func95 rfl rfl ?_
  repeat (first | refine T_seq ?_ | refine T_region ?_ | refine TL_move (hk := ?_) | refine TL_fieldAddr TE (hk := ?_) | refine TL_nilCheck (hk := ?_))
  refine TL_store TE (hk := ?_); intro w1 m1 s1 k1
  repeat (first | refine T_region ?_ | refine TL_nil ?_ | refine TL_move (hk := ?_) | refine TL_load TE (hk := ?_) | refine TL_fieldAddr TE (hk := ?_) | refine TL_nilCheck (hk := ?_))
  refine TL_store TE (hk := ?_); intro w2 m2 s2 k2
  repeat (refine TL_nil ?_)
  have hm := m1.trans m2
  exact T_end0 rfl ⟨rfl, hm, ⟨k2, hr.mod hm ho, ho, hl, hp, hla, hbig, hcap⟩⟩
theorem took_c (b : Nat) (s : RS) (A : Option Addr) (n c k : Nat) {z : Int} (hz : z = (k : Int)) (w : World) (h : Rdr w 91 b s A n c) (hk : s.pos + k ≤ n) :
    Ret Try.prog 96 [ptr b, .int .i64 z] w (fun v w' => v = .tuple #[] ∧ Mod [b] w w' ∧ Rdr w' 91 b { s with pos := s.pos + k, last := s.pos } A n c) := by
  obtain ⟨hb, hr, ho, hl, hp, hla, hbig, hcap⟩ := h
  subst hz
  refine ret_T (n := 20) Try.func96 rfl rfl ?_
  repeat (first | refine T_seq ?_ | refine T_region ?_ | refine TL_move (hk := ?_) | refine TL_load TE (hk := ?_) | refine TL_fieldAddr TE (hk := ?_) | refine TL_nilCheck (hk := ?_))
  refine TL_store TE (hk := ?_); intro w1 m1 s1 k1
  repeat (first | refine T_region ?_ | refine TL_add (hk := ?_) | refine TL_nil ?_ | refine TL_move (hk := ?_) | refine TL_load TE (hk := ?_) | refine TL_fieldAddr TE (hk := ?_) | refine TL_nilCheck (hk := ?_))
  refine TL_store TE (hk := ?_); intro w2 m2 s2 k2
  repeat (refine TL_nil ?_)
  have hm := m1.trans m2
  exact T_end0 rfl ⟨rfl, hm, ⟨k2, hr.mod hm ho, ho, hl, hk, hp, hbig, hcap⟩⟩
theorem Rd.tail1 {w : World} {A : Option Addr} {n c p : Nat} {l : List UInt8} (h : Rd w A n 1 (bv l)) (hp : p ≤ n) (hc : n ≤ c) : Rd w (cutA A c p 1) (n - p) 1 (bv (l.drop p)) := by
  have hlen : l.length = n := by simpa using h.1
  have h2 := h.cut (c := c) (l := p) (h := n) hp (Nat.le_refl _) hc
  have e : ((bv l).drop (p * 1)).take ((n - p) * 1) = bv (l.drop p) := by
    unfold bv
    rw [Nat.mul_one, Nat.mul_one, ← List.map_drop, List.take_of_length_le (by simp; omega)]
  rw [e] at h2
  exact h2
theorem numq {w : World} {A : Option Addr} {n c p : Nat} {l : List UInt8} {r : Except Int (Nat × Nat)} (h : Rd w A n 1 (bv l)) (hp : p ≤ n) (hc : n ≤ c) (hn : n ≤ 7036874417) (hr : num0 (l.drop p) = r) :
    ∀ w', Ext w w' → Ret Try.prog 94 [.slice (cutA A c p 1) (n - p) (c - p)] w' (fun u w'' => u = numV r ∧ Ext w' w'') := fun w' e => by
  have := number_c (cutA A c p 1) (n - p) (c - p) (l.drop p) w' ((Rd.tail1 h hp hc).ext e) (by omega)
  rw [hr] at this
  exact this.mono fun v w2 ⟨a, b⟩ => ⟨a, b ▸ Mod.refl _ _⟩
theorem take_no {α : Type} {s : RS} {z0 : α} {t : List UInt8 → Except Int (α × Nat)} (he : ¬ s.err = 0) : s.take z0 t = (z0, s) := by unfold RS.take; rw [if_neg he]

theorem RByte_c (b : Nat) (s : RS) (A : Option Addr) (n c : Nat) (w : World) (h : Rdr w 91 b s A n c) :
    Ret Try.prog 72 [ptr b] w (fun v w' => v = .int .u8 ((s.take (0 : Nat) tByte).1 : Int) ∧ Mod [b] w w' ∧ Rdr w' 91 b (s.take (0 : Nat) tByte).2 A n c) := by
  have h0 := h
  obtain ⟨hb, hr, ho, hl, hp, hla, hbig, hcap⟩ := h
  refine ret_T (n := 34) Try.func72 rfl rfl ?_
  by_cases he : s.err = 0
  · by_cases g : s.pos < n
    · have hd : s.b.drop s.pos = s.b[s.pos] :: s.b.drop (s.pos + 1) := List.drop_eq_getElem_cons _
      have ht : tByte (s.b.drop s.pos) = .ok (gb s.b s.pos, 1) := by rw [hd, gb_get _ _ (by omega)]; rfl
      rw [take_ok he ht]
      repeat (first | refine T_seq ?_ | refine T_region ?_ | refine T_region_q TE.mixed (by kernel_rfl) ?_ | refine T_cond_false rfl ?_ | refine T_skip ?_ | refine TL_ge_f (hk := ?_) | refine TL_ne_f (hk := ?_) | refine TL_nil ?_ | refine TL_move (hk := ?_) | refine TL_assign (hk := ?_) | refine TL_load TE (hk := ?_) | refine TL_fieldAddr TE (hk := ?_) | refine TL_len TE (hk := ?_) | refine TL_nilCheck (hk := ?_))
      refine TL_nil_q ?_; intro w1 e1
      repeat (first | refine T_seq ?_ | refine T_region_q TE.mixed (by kernel_rfl) ?_ | refine T_cond_false rfl ?_ | refine T_skip ?_ | refine TL_move (hk := ?_) | refine TL_assign (hk := ?_) | refine TL_load TE (hk := ?_) | (refine TL_load_b TE (hk := ?_); intro _) | refine TL_fieldAddr TE (hk := ?_) | refine TL_indexAddr1n TE (hk := ?_) | refine TL_nilCheck (hk := ?_))
      refine TL_nil_q ?_; intro w2 e2
      repeat (first | refine T_seq ?_ | refine T_region ?_ | refine TL_move (hk := ?_))
      refine TL_call TE (hc := took_c b s A n c 1 rfl w2 (h0.ext (e1.ext e2)) (by omega)) (hk := ?_)
      rintro _ w3 ⟨rfl, m3, h3⟩
      repeat (first | refine T_seq ?_ | refine T_region ?_ | refine TL_nil ?_ | refine TL_move (hk := ?_) | refine TL_assign (hk := ?_))
      exact T_ret1 rfl rfl ⟨rfl, (Ext.mod (e1.ext e2)).trans m3, h3⟩
    · have ht : tByte (s.b.drop s.pos) = .error 3 := by rw [List.drop_of_length_le (by omega)]; rfl
      rw [take_err he ht]
      repeat (first | refine T_seq ?_ | refine T_region ?_ | refine T_region_q TE.mixed (by kernel_rfl) ?_ | refine T_cond_false rfl ?_ | refine T_skip ?_ | refine TL_ge_t (hk := ?_) | refine TL_ne_f (hk := ?_) | refine TL_nil ?_ | refine TL_move (hk := ?_) | refine TL_assign (hk := ?_) | refine TL_load TE (hk := ?_) | refine TL_fieldAddr TE (hk := ?_) | refine TL_len TE (hk := ?_) | refine TL_nilCheck (hk := ?_))
      refine TL_nil_q ?_; intro w1 e1
      repeat (first | refine T_seq ?_ | refine T_region ?_ | refine T_cond_true rfl ?_ | refine TL_move (hk := ?_))
      refine TL_call TE (hc := fails_c b s A n c 3 w1 (h0.ext e1)) (hk := ?_)
      rintro _ w3 ⟨rfl, m3, h3⟩
      repeat (first | refine T_seq ?_ | refine T_region ?_ | refine TL_nil ?_ | refine TL_assign (hk := ?_))
      exact T_ret1 rfl rfl ⟨rfl, (Ext.mod e1).trans m3, h3⟩
  · rw [take_no he]
    repeat (first | refine T_seq ?_ | refine T_region ?_ | refine T_cond_true rfl ?_ | refine TL_ne_t (hk := ?_) | refine TL_nil ?_ | refine TL_move (hk := ?_) | refine TL_assign (hk := ?_) | refine TL_load TE (hk := ?_) | refine TL_fieldAddr TE (hk := ?_) | refine TL_nilCheck (hk := ?_))
    exact T_ret1 rfl rfl ⟨rfl, Mod.refl _ _, h0⟩





































theorem tLim_ok {most e : Int} {l : List UInt8} {x k : Nat} (hx : num0 l = .ok (x, k)) (h1 : 0 ≤ most) (h2 : (x : Int) ≤ most) : tLim most e l = .ok (x, k) := by
  unfold tLim; rw [hx]; simp only; rw [if_neg (by omega)]
theorem tLim_no {most e : Int} {l : List UInt8} {x k : Nat} (hx : num0 l = .ok (x, k)) (h : most < 0 ∨ most < (x : Int)) : tLim most e l = .error e := by
  unfold tLim; rw [hx]; simp only; rw [if_pos h]
theorem tLim_err {most e e' : Int} {l : List UInt8} (hx : num0 l = .error e') : tLim most e l = .error e' := by
  unfold tLim; rw [hx]
theorem RCount_c (b : Nat) (s : RS) (A : Option Addr) (n c : Nat) (most : Int) (hmo : -9223372036854775808 ≤ most ∧ most ≤ 9223372036854775807) (w : World) (h : Rdr w 91 b s A n c) :
    Ret Try.prog 70 [ptr b, .int .i64 most] w (fun v w' => v = .int .i64 ((s.take (0 : Nat) (tLim most 6)).1 : Int) ∧ Mod [b] w w' ∧ Rdr w' 91 b (s.take (0 : Nat) (tLim most 6)).2 A n c) := by
  have h0 := h
  obtain ⟨hb, hr, ho, hl, hp, hla, hbig, hcap⟩ := h
  refine ret_T (n := 49) Try.func70 rfl rfl ?_
  by_cases he : s.err = 0
  · cases hx : num0 (s.b.drop s.pos) with
    | ok x =>
      obtain ⟨x, k⟩ := x
      have hlt := num0_ok hx
      rw [List.length_drop] at hlt
      by_cases hm : most < 0
      · rw [take_err he (tLim_no hx (.inl hm))]
        repeat (first | refine T_seq ?_ | refine T_region ?_ | refine T_region_q TE.mixed (by kernel_rfl) ?_ | refine T_cond_false rfl ?_ | refine T_skip ?_ | refine TL_ne_f (hk := ?_) | refine TL_nil ?_ | refine TL_move (hk := ?_) | refine TL_assign (hk := ?_) | refine TL_load TE (hk := ?_) | refine TL_fieldAddr TE (hk := ?_) | refine TL_nilCheck (hk := ?_) | refine TL_slice_lo TE (hk := ?_))
        refine TL_call_q TE rfl rfl rfl (numq hr hp hcap hbig hx) ?_
        repeat (first | refine TL_move (hk := ?_) | refine TL_assign (hk := ?_) | refine TL_extract (hk := ?_))
        refine TL_nil_q ?_; intro w1 e1
        repeat (first | refine T_seq ?_ | refine T_region ?_ | refine T_cond_true rfl ?_ | refine TL_lt_t (hk := ?_) | refine TL_eq_t (hk := ?_) | refine TL_ne_t (hk := ?_) | refine TL_nil ?_ | refine TL_move (hk := ?_) | refine TL_assign (hk := ?_) | refine TL_yes (hk := ?_) | refine TL_no (hk := ?_) | refine TL_pick_t (hk := ?_))
        refine TL_call TE (hc := fails_c b s A n c 6 w1 (h0.ext e1)) (hk := ?_)
        rintro _ w3 ⟨rfl, m3, h3⟩
        repeat (first | refine T_seq ?_ | refine T_region ?_ | refine TL_nil ?_ | refine TL_assign (hk := ?_))
        exact T_ret1 rfl rfl ⟨rfl, (Ext.mod e1).trans m3, h3⟩
      by_cases hg : most < (x : Int)
      · rw [take_err he (tLim_no hx (.inr hg))]
        repeat (first | refine T_seq ?_ | refine T_region ?_ | refine T_region_q TE.mixed (by kernel_rfl) ?_ | refine T_cond_false rfl ?_ | refine T_skip ?_ | refine TL_ne_f (hk := ?_) | refine TL_nil ?_ | refine TL_move (hk := ?_) | refine TL_assign (hk := ?_) | refine TL_load TE (hk := ?_) | refine TL_fieldAddr TE (hk := ?_) | refine TL_nilCheck (hk := ?_) | refine TL_slice_lo TE (hk := ?_))
        refine TL_call_q TE rfl rfl rfl (numq hr hp hcap hbig hx) ?_
        repeat (first | refine TL_move (hk := ?_) | refine TL_assign (hk := ?_) | refine TL_extract (hk := ?_))
        refine TL_nil_q ?_; intro w1 e1
        repeat (first | refine T_seq ?_ | refine T_region ?_ | refine T_cond_true rfl ?_ | refine TL_lt_f (hk := ?_) | refine TL_gt_t (hk := ?_) | refine TL_eq_t (hk := ?_) | refine TL_ne_t (hk := ?_) | refine TL_nil ?_ | refine TL_move (hk := ?_) | refine TL_assign (hk := ?_) | refine TL_yes (hk := ?_) | refine TL_pick_t (hk := ?_) | refine TL_pick_f (hk := ?_) | refine TL_conv TE (hk := ?_))
        refine TL_call TE (hc := fails_c b s A n c 6 w1 (h0.ext e1)) (hk := ?_)
        rintro _ w3 ⟨rfl, m3, h3⟩
        repeat (first | refine T_seq ?_ | refine T_region ?_ | refine TL_nil ?_ | refine TL_assign (hk := ?_))
        exact T_ret1 rfl rfl ⟨rfl, (Ext.mod e1).trans m3, h3⟩
      · rw [take_ok he (tLim_ok hx (by omega) (by omega))]
        repeat (first | refine T_seq ?_ | refine T_region ?_ | refine T_region_q TE.mixed (by kernel_rfl) ?_ | refine T_cond_false rfl ?_ | refine T_skip ?_ | refine TL_ne_f (hk := ?_) | refine TL_nil ?_ | refine TL_move (hk := ?_) | refine TL_assign (hk := ?_) | refine TL_load TE (hk := ?_) | refine TL_fieldAddr TE (hk := ?_) | refine TL_nilCheck (hk := ?_) | refine TL_slice_lo TE (hk := ?_))
        refine TL_call_q TE rfl rfl rfl (numq hr hp hcap hbig hx) ?_
        repeat (first | refine TL_move (hk := ?_) | refine TL_assign (hk := ?_) | refine TL_extract (hk := ?_))
        refine TL_nil_q ?_; intro w1 e1
        repeat (first | refine T_seq ?_ | refine T_region ?_ | refine T_cond_false rfl ?_ | refine T_skip ?_ | refine TL_lt_f (hk := ?_) | refine TL_gt_f (hk := ?_) | refine TL_eq_t (hk := ?_) | refine TL_ne_f (hk := ?_) | refine TL_nil ?_ | refine TL_move (hk := ?_) | refine TL_yes (hk := ?_) | refine TL_pick_t (hk := ?_) | refine TL_pick_f (hk := ?_) | refine TL_conv TE (hk := ?_))
        refine TL_call TE (hc := took_c b s A n c k rfl w1 (h0.ext e1) (by omega)) (hk := ?_)
        rintro _ w3 ⟨rfl, m3, h3⟩
        repeat (first | refine T_seq ?_ | refine T_region ?_ | refine TL_nil ?_ | refine TL_move (hk := ?_) | refine TL_assign (hk := ?_) | refine TL_conv TE (hk := ?_))
        exact T_ret1 rfl rfl ⟨rfl, (Ext.mod e1).trans m3, h3⟩
    | error e =>
      have hne : ¬ e = 0 := num0_err hx
      rw [take_err he (tLim_err hx)]
      repeat (first | refine T_seq ?_ | refine T_region ?_ | refine T_region_q TE.mixed (by kernel_rfl) ?_ | refine T_cond_false rfl ?_ | refine T_skip ?_ | refine TL_ne_f (hk := ?_) | refine TL_nil ?_ | refine TL_move (hk := ?_) | refine TL_assign (hk := ?_) | refine TL_load TE (hk := ?_) | refine TL_fieldAddr TE (hk := ?_) | refine TL_nilCheck (hk := ?_) | refine TL_slice_lo TE (hk := ?_))
      refine TL_call_q TE rfl rfl rfl (numq hr hp hcap hbig hx) ?_
      repeat (first | refine TL_move (hk := ?_) | refine TL_assign (hk := ?_) | refine TL_extract (hk := ?_))
      refine TL_nil_q ?_; intro w1 e1
      repeat (first | refine T_seq ?_ | refine T_region ?_ | refine T_cond_true rfl ?_ | refine T_cond_false rfl ?_ | refine T_skip ?_ | refine TL_eq_f (hk := ?_) | refine TL_ne_t (hk := ?_) | refine TL_nil ?_ | refine TL_move (hk := ?_) | refine TL_no (hk := ?_) | refine TL_pick_f (hk := ?_))
      refine TL_call TE (hc := fails_c b s A n c e w1 (h0.ext e1)) (hk := ?_)
      rintro _ w3 ⟨rfl, m3, h3⟩
      repeat (first | refine T_seq ?_ | refine T_region ?_ | refine TL_nil ?_ | refine TL_assign (hk := ?_))
      exact T_ret1 rfl rfl ⟨rfl, (Ext.mod e1).trans m3, h3⟩
  · rw [take_no he]
    repeat (first | refine T_seq ?_ | refine T_region ?_ | refine T_cond_true rfl ?_ | refine TL_ne_t (hk := ?_) | refine TL_nil ?_ | refine TL_move (hk := ?_) | refine TL_assign (hk := ?_) | refine TL_load TE (hk := ?_) | refine TL_fieldAddr TE (hk := ?_) | refine TL_nilCheck (hk := ?_))
    exact T_ret1 rfl rfl ⟨rfl, Mod.refl _ _, h0⟩
end Go.Proofs.Ytfplmpfdhiagaaa

namespace Go.Proofs.Ytfplmpfdhiagaaa
open Go.RowKit Go.Proofs.Eng Go.Proofs.Codec
set_option linter.unusedSimpArgs false
set_option linter.unusedVariables false
attribute [local irreducible] T TL LV TH TA
set_option maxHeartbeats 1000000

theorem tText_ok {most : Int} {l : List UInt8} {x k : Nat} (hx : num0 l = .ok (x, k)) (h1 : 0 ≤ most) (h2 : (x : Int) ≤ most) (h3 : k + x ≤ l.length) : tText most l = .ok ((l.drop k).take x, k + x) := by
  unfold tText; rw [tLim_ok hx h1 h2]; simp only; rw [if_neg (by omega)]
theorem tText_short {most : Int} {l : List UInt8} {x k : Nat} (hx : num0 l = .ok (x, k)) (h1 : 0 ≤ most) (h2 : (x : Int) ≤ most) (h3 : l.length < k + x) : tText most l = .error 3 := by
  unfold tText; rw [tLim_ok hx h1 h2]; simp only; rw [if_pos h3]
theorem tText_no {most : Int} {l : List UInt8} {x k : Nat} (hx : num0 l = .ok (x, k)) (h : most < 0 ∨ most < (x : Int)) : tText most l = .error 1 := by
  unfold tText; rw [tLim_no hx h]
theorem tText_err {most : Int} {l : List UInt8} {e : Int} (hx : num0 l = .error e) : tText most l = .error e := by
  unfold tText; rw [tLim_err hx]
theorem Rd.mid1 {w : World} {A : Option Addr} {n c p q : Nat} {l : List UInt8} (h : Rd w A n 1 (bv l)) (hp : p ≤ q) (hq : q ≤ n) (hc : n ≤ c) : Rd w (cutA A c p 1) (q - p) 1 (bv ((l.drop p).take (q - p))) := by
  have h2 := h.cut (c := c) (l := p) (h := q) hp hq hc
  have e : ((bv l).drop (p * 1)).take ((q - p) * 1) = bv ((l.drop p).take (q - p)) := by
    unfold bv
    rw [Nat.mul_one, Nat.mul_one, ← List.map_drop, ← List.map_take]
  rw [e] at h2
  exact h2
theorem RText_c (b : Nat) (s : RS) (A : Option Addr) (n c : Nat) (most : Int) (hmo : -9223372036854775808 ≤ most ∧ most ≤ 9223372036854775807) (w : World) (h : Rdr w 91 b s A n c) :
    Ret Try.prog 71 [ptr b, .int .i64 most] w (fun v w' => v = .string ⟨(s.take ([] : List UInt8) (tText most)).1.toArray⟩ ∧ Mod [b] w w' ∧ Rdr w' 91 b (s.take ([] : List UInt8) (tText most)).2 A n c) := by
  have h0 := h
  obtain ⟨hb, hr, ho, hl, hp, hla, hbig, hcap⟩ := h
  refine ret_T (n := 92) Try.func71 rfl rfl ?_
  by_cases he : s.err = 0
  · cases hx : num0 (s.b.drop s.pos) with
    | ok x =>
      obtain ⟨x, k⟩ := x
      have hlt := num0_ok hx
      rw [List.length_drop] at hlt
      by_cases hm : most < 0
      · rw [take_err he (tText_no hx (.inl hm))]
        repeat (first | refine T_seq ?_ | refine T_region ?_ | refine T_region_q TE.mixed (by kernel_rfl) ?_ | refine T_cond_false rfl ?_ | refine T_skip ?_ | refine TL_ne_f (hk := ?_) | refine TL_nil ?_ | refine TL_move (hk := ?_) | refine TL_assign (hk := ?_) | refine TL_load TE (hk := ?_) | refine TL_fieldAddr TE (hk := ?_) | refine TL_nilCheck (hk := ?_) | refine TL_slice_lo TE (hk := ?_))
        refine TL_call_q TE rfl rfl rfl (numq hr hp hcap hbig hx) ?_
        repeat (first | refine TL_move (hk := ?_) | refine TL_assign (hk := ?_) | refine TL_extract (hk := ?_))
        refine TL_nil_q ?_; intro w1 e1
        repeat (first | refine T_seq ?_ | refine T_region ?_ | refine T_region_q TE.mixed (by kernel_rfl) ?_ | refine T_cond_true rfl ?_ | refine TL_lt_t (hk := ?_) | refine TL_eq_t (hk := ?_) | refine TL_eq_f (hk := ?_) | refine TL_nil ?_ | refine TL_move (hk := ?_) | refine TL_assign (hk := ?_) | refine TL_yes (hk := ?_) | refine TL_no (hk := ?_) | refine TL_pick_t (hk := ?_) | refine TL_pick_f (hk := ?_))
        refine TL_nil_q ?_; intro w2 e2
        repeat (first | refine T_seq ?_ | refine T_region ?_ | refine T_cond_true rfl ?_ | refine T_cond_false rfl ?_ | refine T_skip ?_ | refine TL_ne_t (hk := ?_) | refine TL_nil ?_ | refine TL_move (hk := ?_))
        refine TL_call TE (hc := fails_c b s A n c 1 w2 (h0.ext (e1.ext e2))) (hk := ?_)
        rintro _ w3 ⟨rfl, m3, h3⟩
        repeat (first | refine T_seq ?_ | refine T_region ?_ | refine TL_nil ?_ | refine TL_assign (hk := ?_))
        exact T_ret1 rfl rfl ⟨rfl, (Ext.mod (e1.ext e2)).trans m3, h3⟩
      by_cases hg : most < (x : Int)
      · rw [take_err he (tText_no hx (.inr hg))]
        repeat (first | refine T_seq ?_ | refine T_region ?_ | refine T_region_q TE.mixed (by kernel_rfl) ?_ | refine T_cond_false rfl ?_ | refine T_skip ?_ | refine TL_ne_f (hk := ?_) | refine TL_nil ?_ | refine TL_move (hk := ?_) | refine TL_assign (hk := ?_) | refine TL_load TE (hk := ?_) | refine TL_fieldAddr TE (hk := ?_) | refine TL_nilCheck (hk := ?_) | refine TL_slice_lo TE (hk := ?_))
        refine TL_call_q TE rfl rfl rfl (numq hr hp hcap hbig hx) ?_
        repeat (first | refine TL_move (hk := ?_) | refine TL_assign (hk := ?_) | refine TL_extract (hk := ?_))
        refine TL_nil_q ?_; intro w1 e1
        repeat (first | refine T_seq ?_ | refine T_region ?_ | refine T_region_q TE.mixed (by kernel_rfl) ?_ | refine T_cond_true rfl ?_ | refine TL_lt_f (hk := ?_) | refine TL_gt_t (hk := ?_) | refine TL_eq_t (hk := ?_) | refine TL_eq_f (hk := ?_) | refine TL_nil ?_ | refine TL_move (hk := ?_) | refine TL_assign (hk := ?_) | refine TL_yes (hk := ?_) | refine TL_no (hk := ?_) | refine TL_pick_t (hk := ?_) | refine TL_pick_f (hk := ?_) | refine TL_conv TE (hk := ?_))
        refine TL_nil_q ?_; intro w2 e2
        repeat (first | refine T_seq ?_ | refine T_region ?_ | refine T_cond_true rfl ?_ | refine T_cond_false rfl ?_ | refine T_skip ?_ | refine TL_ne_t (hk := ?_) | refine TL_nil ?_ | refine TL_move (hk := ?_))
        refine TL_call TE (hc := fails_c b s A n c 1 w2 (h0.ext (e1.ext e2))) (hk := ?_)
        rintro _ w3 ⟨rfl, m3, h3⟩
        repeat (first | refine T_seq ?_ | refine T_region ?_ | refine TL_nil ?_ | refine TL_assign (hk := ?_))
        exact T_ret1 rfl rfl ⟨rfl, (Ext.mod (e1.ext e2)).trans m3, h3⟩
      by_cases hs : n - s.pos < k + x
      · rw [take_err he (tText_short hx (by omega) (by omega) (by rw [List.length_drop]; omega))]
        repeat (first | refine T_seq ?_ | refine T_region ?_ | refine T_region_q TE.mixed (by kernel_rfl) ?_ | refine T_cond_false rfl ?_ | refine T_skip ?_ | refine TL_ne_f (hk := ?_) | refine TL_nil ?_ | refine TL_move (hk := ?_) | refine TL_assign (hk := ?_) | refine TL_load TE (hk := ?_) | refine TL_fieldAddr TE (hk := ?_) | refine TL_nilCheck (hk := ?_) | refine TL_slice_lo TE (hk := ?_))
        refine TL_call_q TE rfl rfl rfl (numq hr hp hcap hbig hx) ?_
        repeat (first | refine TL_move (hk := ?_) | refine TL_assign (hk := ?_) | refine TL_extract (hk := ?_))
        refine TL_nil_q ?_; intro w1 e1
        repeat (first | refine T_seq ?_ | refine T_region ?_ | refine T_region_q TE.mixed (by kernel_rfl) ?_ | refine T_cond_false rfl ?_ | refine T_skip ?_ | refine TL_sub (hk := ?_) | refine TL_lt_t (hk := ?_) | refine TL_lt_f (hk := ?_) | refine TL_gt_f (hk := ?_) | refine TL_eq_t (hk := ?_) | refine TL_nil ?_ | refine TL_move (hk := ?_) | refine TL_load TE (hk := ?_) | refine TL_fieldAddr TE (hk := ?_) | refine TL_len TE (hk := ?_) | refine TL_yes (hk := ?_) | refine TL_pick_t (hk := ?_) | refine TL_pick_f (hk := ?_) | refine TL_nilCheck (hk := ?_) | refine TL_conv TE (hk := ?_))
        refine TL_nil_q ?_; intro w2 e2
        repeat (first | refine T_seq ?_ | refine T_region ?_ | refine T_cond_true rfl ?_ | refine TL_ne_t (hk := ?_) | refine TL_nil ?_ | refine TL_move (hk := ?_) | refine TL_assign (hk := ?_))
        refine TL_call TE (hc := fails_c b s A n c 3 w2 (h0.ext (e1.ext e2))) (hk := ?_)
        rintro _ w3 ⟨rfl, m3, h3⟩
        repeat (first | refine T_seq ?_ | refine T_region ?_ | refine TL_nil ?_ | refine TL_assign (hk := ?_))
        exact T_ret1 rfl rfl ⟨rfl, (Ext.mod (e1.ext e2)).trans m3, h3⟩
      · rw [take_ok he (tText_ok hx (by omega) (by omega) (by rw [List.length_drop]; omega))]
        have hmid : ∀ w', Ext w w' → Rd w' (cutA A c (s.pos + k) 1) (s.pos + k + x - (s.pos + k)) 1 (bv ((s.b.drop (s.pos + k)).take (s.pos + k + x - (s.pos + k)))) := fun w' e => Rd.mid1 (hr.ext e) (by omega) (by omega) hcap
        repeat (first | refine T_seq ?_ | refine T_region ?_ | refine T_region_q TE.mixed (by kernel_rfl) ?_ | refine T_cond_false rfl ?_ | refine T_skip ?_ | refine TL_ne_f (hk := ?_) | refine TL_nil ?_ | refine TL_move (hk := ?_) | refine TL_assign (hk := ?_) | refine TL_load TE (hk := ?_) | refine TL_fieldAddr TE (hk := ?_) | refine TL_nilCheck (hk := ?_) | refine TL_slice_lo TE (hk := ?_))
        refine TL_call_q TE rfl rfl rfl (numq hr hp hcap hbig hx) ?_
        repeat (first | refine TL_move (hk := ?_) | refine TL_assign (hk := ?_) | refine TL_extract (hk := ?_))
        refine TL_nil_q ?_; intro w1 e1
        repeat (first | refine T_seq ?_ | refine T_region ?_ | refine T_region_q TE.mixed (by kernel_rfl) ?_ | refine T_cond_false rfl ?_ | refine T_skip ?_ | refine TL_sub (hk := ?_) | refine TL_lt_f (hk := ?_) | refine TL_gt_f (hk := ?_) | refine TL_eq_t (hk := ?_) | refine TL_nil ?_ | refine TL_move (hk := ?_) | refine TL_load TE (hk := ?_) | refine TL_fieldAddr TE (hk := ?_) | refine TL_len TE (hk := ?_) | refine TL_yes (hk := ?_) | refine TL_pick_t (hk := ?_) | refine TL_pick_f (hk := ?_) | refine TL_nilCheck (hk := ?_) | refine TL_conv TE (hk := ?_))
        refine TL_nil_q ?_; intro w2 e2
        have hm2 := hmid w2 (e1.ext e2)
        repeat (first | refine T_seq ?_ | refine T_region ?_ | refine T_region_q TE.mixed (by kernel_rfl) ?_ | refine T_cond_false rfl ?_ | refine T_skip ?_ | refine TL_add (hk := ?_) | refine TL_ne_f (hk := ?_) | refine TL_nil ?_ | refine TL_move (hk := ?_) | refine TL_assign (hk := ?_) | refine TL_load TE (hk := ?_) | refine TL_fieldAddr TE (hk := ?_) | refine TL_nilCheck (hk := ?_) | refine TL_slice_lh TE (hk := ?_) | refine TL_conv TE (hk := ?_) | refine TL_conv_bs TE (hk := ?_))
        refine TL_nil_q ?_; intro w4 e4
        repeat (first | refine T_seq ?_ | refine T_region ?_ | refine TL_add (hk := ?_) | refine TL_move (hk := ?_) | refine TL_conv TE (hk := ?_))
        refine TL_call TE (hc := took_c b s A n c (k + x) rfl w4 (h0.ext ((e1.ext e2).ext e4)) (by omega)) (hk := ?_)
        rintro _ w3 ⟨rfl, m3, h3⟩
        repeat (first | refine T_seq ?_ | refine T_region ?_ | refine TL_nil ?_ | refine TL_move (hk := ?_) | refine TL_assign (hk := ?_))
        refine T_ret1 rfl rfl ⟨?_, (Ext.mod ((e1.ext e2).ext e4)).trans m3, h3⟩
        simp only [ofL, List.drop_drop]
        rw [show s.pos + k + x - (s.pos + k) = x by omega]
    | error e =>
      have hne : ¬ e = 0 := num0_err hx
      rw [take_err he (tText_err hx)]
      repeat (first | refine T_seq ?_ | refine T_region ?_ | refine T_region_q TE.mixed (by kernel_rfl) ?_ | refine T_cond_false rfl ?_ | refine T_skip ?_ | refine TL_ne_f (hk := ?_) | refine TL_nil ?_ | refine TL_move (hk := ?_) | refine TL_assign (hk := ?_) | refine TL_load TE (hk := ?_) | refine TL_fieldAddr TE (hk := ?_) | refine TL_nilCheck (hk := ?_) | refine TL_slice_lo TE (hk := ?_))
      refine TL_call_q TE rfl rfl rfl (numq hr hp hcap hbig hx) ?_
      repeat (first | refine TL_move (hk := ?_) | refine TL_assign (hk := ?_) | refine TL_extract (hk := ?_))
      refine TL_nil_q ?_; intro w1 e1
      repeat (first | refine T_seq ?_ | refine T_region ?_ | refine T_region_q TE.mixed (by kernel_rfl) ?_ | refine T_cond_false rfl ?_ | refine T_skip ?_ | refine TL_eq_f (hk := ?_) | refine TL_nil ?_ | refine TL_move (hk := ?_) | refine TL_no (hk := ?_) | refine TL_pick_f (hk := ?_))
      refine TL_nil_q ?_; intro w2 e2
      repeat (first | refine T_seq ?_ | refine T_region ?_ | refine T_cond_true rfl ?_ | refine T_cond_false rfl ?_ | refine T_skip ?_ | refine TL_ne_t (hk := ?_) | refine TL_nil ?_ | refine TL_move (hk := ?_))
      refine TL_call TE (hc := fails_c b s A n c e w2 (h0.ext (e1.ext e2))) (hk := ?_)
      rintro _ w3 ⟨rfl, m3, h3⟩
      repeat (first | refine T_seq ?_ | refine T_region ?_ | refine TL_nil ?_ | refine TL_assign (hk := ?_))
      exact T_ret1 rfl rfl ⟨rfl, (Ext.mod (e1.ext e2)).trans m3, h3⟩
  · rw [take_no he]
    repeat (first | refine T_seq ?_ | refine T_region ?_ | refine T_cond_true rfl ?_ | refine TL_ne_t (hk := ?_) | refine TL_nil ?_ | refine TL_move (hk := ?_) | refine TL_assign (hk := ?_) | refine TL_load TE (hk := ?_) | refine TL_fieldAddr TE (hk := ?_) | refine TL_nilCheck (hk := ?_))
    exact T_ret1 rfl rfl ⟨rfl, Mod.refl _ _, h0⟩






































































end Go.Proofs.Ytfplmpfdhiagaaa

namespace Go.Proofs.Ytfplmpfdhiagaaa
open Go.RowKit Go.Proofs.Eng Go.Proofs.Foot Go.Proofs.Codec
set_option linter.unusedSimpArgs false
set_option linter.unusedVariables false
attribute [local irreducible] T TL LV TH TA
theorem and1' (u : Nat) : u &&& 1 = u % 2 := Nat.and_one_is_mod u
theorem and2' (u : Nat) (h : u ≤ 3) : u &&& 2 = 0 ↔ u < 2 := by
  rcases (by omega : u = 0 ∨ u = 1 ∨ u = 2 ∨ u = 3) with rfl | rfl | rfl | rfl <;> decide
theorem take_zero {α : Type} {s : RS} {z : α} {t : List UInt8 → Except Int (α × Nat)} (h : ¬ s.err = 0) : s.take z t = (z, s) := by unfold RS.take; rw [if_neg h]
theorem fail_zero {s : RS} {e : Int} (h : ¬ s.err = 0) : s.fail e = s := by unfold RS.fail; rw [if_neg (fun q => h q.1)]
theorem fail_err {s : RS} {e : Int} (h : s.err = 0) (he : ¬ e = 0) : (s.fail e).err = e := by unfold RS.fail; rw [if_pos ⟨h, he⟩]
theorem take_err0 {α : Type} {s : RS} {z : α} {t : List UInt8 → Except Int (α × Nat)} (h : ¬ (s.take z t).2.err = 0) (hs : s.err = 0) : (s.take z t).1 = z := by
  unfold RS.take at h ⊢
  rw [if_pos hs] at h ⊢
  cases hq : t (s.b.drop s.pos) with
  | ok p => rw [hq] at h; exact absurd hs h
  | error e => rfl
theorem gRise_err {g : GS} (h : ¬ (gText g).2.err = 0) : gRise g = (gText g).2 := by
  have h1 : gKey g = (gText g).2 := by unfold gKey; split <;> first | rfl | exact fail_zero h
  unfold gRise
  rw [h1]
  split
  · exact fail_zero h
  · rfl
theorem gEnd_of_rise {g : GS} (h : ¬ (gRise g).err = 0) : gEnd g = gRise g := by
  have h1 : gUse g = (0, gRise g) := take_zero h
  unfold gEnd
  rw [h1]
  split
  · exact fail_zero h
  · rfl
theorem gEnd_of_use {g : GS} (h : ¬ (gUse g).2.err = 0) : gEnd g = (gUse g).2 := by
  unfold gEnd
  split
  · exact fail_zero h
  · rfl
theorem gStep_err {g : GS} (h : ¬ g.s.err = 0) : (gStep g).s = g.s := by
  have h1 : gText g = ([], g.s) := take_zero h
  have h2 : gRise g = g.s := by
    have := gRise_err (g := g) (by rw [h1]; exact h)
    rw [this, h1]
  show gEnd g = g.s
  rw [gEnd_of_rise (by rw [h2]; exact h), h2]
theorem gIter_err {g0 : GS} {i : Nat} (h : ¬ (gIter i g0).s.err = 0) : ∀ j, (gIter (i + j) g0).s = (gIter i g0).s
  | 0 => rfl
  | j + 1 => by
    have ih := gIter_err h j
    show (gStep (gIter (i + j) g0)).s = _
    rw [gStep_err (by rw [ih]; exact h), ih]
theorem getF_err {b : List UInt8} {i : Nat} (hi : i ≤ (gInit b).1) (h : ¬ (gIter i ⟨(gInit b).2, [], [], []⟩).s.err = 0) : getF b = ((([], []), 0), (gIter i ⟨(gInit b).2, [], [], []⟩).s.err) := by
  have e : (gAll b).s = (gIter i ⟨(gInit b).2, [], [], []⟩).s := by
    unfold gAll
    have := gIter_err h ((gInit b).1 - i)
    rw [show i + ((gInit b).1 - i) = (gInit b).1 by omega] at this
    exact this
  unfold getF
  rw [e, if_neg h]
theorem RCount_s (b : Nat) (s : RS) (A : Option Addr) (n c : Nat) (w : World) (h : Rdr w 91 b s A n c) :
    Ret Try.prog 70 [ptr b, .int .i64 64] w (fun v w' => v = .int .i64 (((s.take (0 : Nat) (tLim 64 6)).1 : Nat) : Int) ∧ Mod [b] w w' ∧ Rdr w' 91 b (s.take (0 : Nat) (tLim 64 6)).2 A n c) :=
  RCount_c b s A n c 64 (by decide) w h
theorem RText_s (b : Nat) (s : RS) (A : Option Addr) (n c : Nat) (w : World) (h : Rdr w 91 b s A n c) :
    Ret Try.prog 71 [ptr b, .int .i64 32] w (fun v w' => v = .string (ofL (s.take ([] : List UInt8) (tText 32)).1) ∧ Mod [b] w w' ∧ Rdr w' 91 b (s.take ([] : List UInt8) (tText 32)).2 A n c) :=
  RText_c b s A n c 32 (by decide) w h
theorem RByte_s (b : Nat) (s : RS) (A : Option Addr) (n c : Nat) (w : World) (h : Rdr w 91 b s A n c) :
    Ret Try.prog 72 [ptr b] w (fun v w' => v = .int .u8 (((s.take (0 : Nat) tByte).1 : Nat) : Int) ∧ Mod [b] w w' ∧ Rdr w' 91 b (s.take (0 : Nat) tByte).2 A n c) :=
  RByte_c b s A n c w h
theorem RNew_l (A : Option Addr) (n c : Nat) (l : List UInt8) (w : World) (h : Rd w A n 1 (bv l)) (hn : n ≤ 7036874417) :
    Ret Try.prog 69 [.slice A n c] w (fun v w' => ∃ b A' n' c', v = ptr b ∧ Ext w w' ∧ w.heap.size ≤ b ∧ Hi A' w.heap.size ∧ Lo A' w'.heap.size ∧ Rdr w' 91 b ⟨l, 0, 0, 0, 0⟩ A' n' c') := by
  refine ret_T (n := 8) Try.func69 rfl rfl ?_
  repeat (first | refine T_seq ?_ | refine T_region ?_ | refine TL_nil ?_ | refine TL_assign (hk := ?_))
  refine TL_buildSlice TE (hk := ?_); intro b0 w0 e0 h0 h0' k0
  have o0 : Own w0 w.heap.size 5 1 (some ⟨b0, 0, none⟩) 0 0 [] := Own.of_blk k0 h0 rfl (by decide)
  have s0 := e0.size
  repeat (refine TL_move (hk := ?_))
  refine TL_append TE (hk := ?_); intro A1 c1 w1 o1 m1 n1
  have e1 : Ext w w1 := e0.own m1 o0.hi
  repeat (refine TL_build TE (hk := ?_))
  refine TL_box (hk := ?_); intro b w2 e2 h1 h2 k
  repeat (first | refine TL_nil ?_ | refine TL_assign (hk := ?_))
  have hs := e1.size
  refine T_ret1 rfl rfl ⟨b, A1, 0 + n, c1, rfl, e1.ext e2, by omega, o1.hi, o1.lo.mono e2.size, ?_⟩
  exact ⟨k, (o1.be e2).rd, Off.lo o1.lo h1, by have := h.1; simpa using this, Nat.zero_le _, Nat.zero_le _, by simpa using hn, o1.cap.1⟩
theorem RGet_c (B : Option Addr) (nb cb : Nat) (b : List UInt8) (w : World) (hb : Rd w B nb 1 (bv b)) (hnb : nb ≤ 200000) :
    Ret Try.prog 19 [.slice B nb cb] w (fun v w' => ∃ u, v = .tuple #[u, .int .i64 ((getF b).1.2 : Nat), .int .i64 (getF b).2] ∧ Ext w w' ∧ FootO w' w.heap.size 9 u (getF b).1.1) := by
  have hlb := hb.1
  simp only [bv_length, Nat.mul_one] at hlb
  refine ret_T (n := 105) Try.func19 rfl rfl ?_
  repeat (first | refine T_seq ?_ | refine T_region ?_)
  refine TL_alloc TE (hk := ?_); intro b2 w2 e2 h2 h2' k2
  have z2 := e2.size
  repeat (first | refine T_seq ?_ | refine T_region ?_ | refine TL_nil ?_ | refine TL_move (hk := ?_) | refine TL_assign (hk := ?_))
  refine TL_call TE (hc := RNew_l B nb cb b _ (hb.be e2) (by omega)) (hk := ?_)
  rintro _ w3 ⟨bR, A3, n3, c3, rfl, e3, hbR, hi3, lo3, rr⟩
  have z3 := e3.size
  have lR := rr.blk.lt
  have hn3 : b.length = n3 := rr.len
  have k23 := k2.be e3
  have e03 := e2.ext e3
  clear k2
  repeat (first | refine T_seq ?_ | refine T_region ?_ | refine TL_nil ?_ | refine TL_move (hk := ?_) | refine TL_assign (hk := ?_))
  refine TL_call TE (hc := RCount_s bR _ A3 n3 c3 w3 rr) (hk := ?_)
  rintro _ w4 ⟨rfl, m4, rr4⟩
  obtain ⟨c0, hc0⟩ : ∃ c0, (RS.mk b 0 0 0 0).take (0 : Nat) (tLim 64 6) = c0 := ⟨_, rfl⟩
  have hgi : gInit b = c0 := hc0
  have hg64 := gInit_le b
  rw [hgi] at hg64
  rw [hc0] at rr4
  rw [hc0]
  have z4 := m4.size
  have e04 : Ext w w4 := Mod.step e03 m4 (by simp; omega)
  have k24 := k23.bm m4 (by simp; omega)
  obtain ⟨n0, hn0⟩ : ∃ n0, c0.1 = n0 := ⟨_, rfl⟩
  rw [hn0] at hg64 ⊢
  clear k23 rr
  repeat (first | refine T_seq ?_ | refine T_region ?_ | refine TL_nil ?_ | refine TL_assign (hk := ?_))
  refine TL_alloc TE (hk := ?_); intro b6 w5 e5 h6 h6' k65
  have z5 := e5.size
  have e05 := e04.ext e5
  have k25 := k24.be e5
  have rr5 := rr4.ext e5
  have I0 : GInv 91 w w5 w5 bR b6 c0.2 A3 n3 c3 (none, 0, 0) (none, 0, 0) [] [] := ⟨e05, Mod.refl _ _, rr5, k65, Own.nil _ _ _ _, Own.nil _ _ _ _, off_none _, off_none _, by omega, by omega, by omega, by omega, by omega, lo3.mono (by omega), Off.lo lo3 (by omega)⟩
  have h25 : b2 < w3.heap.size := by omega
  have k2m : ∀ w', Eng.Mod [bR, b6] w5 w' → Blk w' b2 28 [.slice none 0 0, .slice none 0 0] := fun w' m => k25.mod m (by simp; omega)
  clear k24 rr4 hb
  repeat (first | refine T_seq ?_ | refine T_region ?_ | refine T_block ?_ | refine TL_nil ?_ | refine TL_assign (hk := ?_))
  refine T_loop (ι := (GS × Nat) × (Option Addr × Nat × Nat) × (Option Addr × Nat × Nat)) (fun i => [(9, .int .i64 (i.1.2 : Int)), (6, .int .i64 (n0 : Int)), (8, .string (ofL i.1.1.last)), (7, .pointer (some ⟨b6, 0, none⟩)), (5, ptr bR), (2, .pointer (some ⟨b2, 0, none⟩)), (0, .slice B nb cb)])
    (fun i w' => i.1.2 ≤ n0 ∧ i.1.1 = gIter i.1.2 ⟨c0.2, [], [], []⟩ ∧ GInv 91 w w5 w' bR b6 i.1.1.s A3 n3 c3 i.2.1 i.2.2 i.1.1.rd i.1.1.wr ∧ i.2.1.2.1 ≤ i.1.2 ∧ i.2.2.2.1 ≤ i.1.2) (fun i => n0 - i.1.2) ((⟨c0.2, [], [], []⟩, 0), (none, 0, 0), (none, 0, 0)) (.c rfl (.c rfl (.c rfl (.c rfl (.c rfl (.c rfl (.c rfl (.n))))))))
    ⟨Nat.zero_le _, rfl, I0, Nat.zero_le _, Nat.zero_le _⟩ ?_
  rintro ⟨⟨g, i⟩, x, y⟩ w6 ⟨hi, hg, I6, hnr, hnw⟩ ih
  simp only at hi hg I6 hnr hnw ih ⊢
  have kR6 := I6.rdr.blk
  have hstepI : i < n0 → ¬ (gStep g).s.err = 0 → getF b = ((([], []), 0), (gStep g).s.err) := fun h1 h2 => by
    have e : gStep g = gIter (i + 1) ⟨(gInit b).2, [], [], []⟩ := by rw [hgi]; show _ = gStep (gIter i _); rw [← hg]
    rw [e] at h2 ⊢
    exact getF_err (by rw [hgi, hn0]; omega) h2
  by_cases hgo : i < n0 ∧ g.s.err = 0
  · obtain ⟨hlt, hE0⟩ := hgo
    repeat (first | refine T_seq ?_ | refine T_region ?_ | refine T_cond_true rfl ?_ | refine T_block ?_ | refine T_skip ?_ | refine TL_lt_t (hk := ?_) | refine TL_eq_t (hk := ?_) | refine TL_nil ?_ | refine TL_move (hk := ?_) | refine TL_load TE (hk := ?_) | refine TL_fieldAddr TE (hk := ?_) | refine TL_yes (hk := ?_) | refine TL_pick_t (hk := ?_) | refine TL_nilCheck (hk := ?_))
    refine TL_call TE (hc := RText_s bR _ A3 n3 c3 w6 I6.rdr) (hk := ?_)
    rintro _ w7 ⟨rfl, m7, rr7⟩
    have I7 := I6.step m7 rr7
    obtain ⟨p, hp⟩ : ∃ p, g.s.take ([] : List UInt8) (tText 32) = p := ⟨_, rfl⟩
    have hgt : gText g = p := hp
    have hp32 := gText_le g
    have hu256 := gUse_lt g
    have hp0 : ¬ p.2.err = 0 → p.1 = [] := fun h => by rw [← hp] at h ⊢; exact take_err0 h hE0
    rw [hgt] at hp32
    rw [hp] at I7
    rw [hp]
    clear I6 kR6 rr7
    have kR7 := I7.rdr.blk
    have k27 := k2m _ I7.mod
    repeat (first | refine TL_nil ?_ | refine TL_assign (hk := ?_))
    refine T_seq ?_
    refine T_join (ι := Unit) (fun _ => [(10, .string (ofL p.1)), (8, .string (ofL g.last)), (9, .int .i64 (i : Int)), (6, .int .i64 (n0 : Int)), (7, .pointer (some ⟨b6, 0, none⟩)), (5, ptr bR), (2, .pointer (some ⟨b2, 0, none⟩)), (0, .slice B nb cb)])
      (fun _ w' => w' = w7 ∧ (p.2.err = 0 → validT p.1 = true)) (fun kk join => ?_) ?_
    · by_cases hpe : p.2.err = 0
      · repeat (first | refine T_seq ?_ | refine T_region ?_ | refine TL_eq_t (hk := ?_) | refine TL_move (hk := ?_) | refine TL_load TE (hk := ?_) | refine TL_fieldAddr TE (hk := ?_) | refine TL_yes (hk := ?_) | refine TL_nilCheck (hk := ?_))
        refine TL_call TE (hc := RValid_c p.1 (by omega) _) (hk := ?_)
        rintro _ _ ⟨rfl, rfl⟩
        by_cases hv : validT p.1 = true
        · rw [hv]
          repeat (first | refine T_cond_false rfl ?_ | refine T_skip ?_ | refine TL_nil ?_ | refine TL_yes (hk := ?_) | refine TL_pick_t (hk := ?_) | refine TL_not (hk := ?_))
          exact T.sub (join () _ ⟨rfl, fun _ => hv⟩) (.c rfl (.c rfl (.c rfl (.c rfl (.c rfl (.c rfl (.c rfl (.c rfl (.n)))))))))
        · have hv' : validT p.1 = false := by simpa using hv
          rw [hv']
          have hk30 : (gKey g).err = 30 := by unfold gKey; rw [hgt, if_neg hv]; exact fail_err hpe (by decide)
          have hr30 : (gRise g).err = 30 := by
            unfold gRise
            split
            · rw [fail_zero (by rw [hk30]; decide)]; exact hk30
            · exact hk30
          have hs30 : (gStep g).s.err = 30 := by
            show (gEnd g).err = 30
            rw [gEnd_of_rise (by rw [hr30]; decide), hr30]
          have hF := hstepI hlt (by rw [hs30]; decide)
          rw [hs30] at hF
          repeat (first | refine T_seq ?_ | refine T_region ?_ | refine T_cond_true rfl ?_ | refine TL_nil ?_ | refine TL_yes (hk := ?_) | refine TL_pick_t (hk := ?_) | refine TL_not (hk := ?_) | refine TL_build TE (hk := ?_))
          refine TL_storea TE (hk := ?_); intro wz mz sz kz
          repeat (first | refine TL_nil ?_ | refine TL_assign (hk := ?_))
          refine T_retA3 TE (vs := [.slice none 0 0, .slice none 0 0]) (o := 0) rfl rfl rfl rfl rfl rfl kz rfl (Nat.succ_pos _) ⟨.agg #[.slice none 0 0, .slice none 0 0], ?_, Mod.step I7.ext mz (by simp; omega), ?_⟩
          · rw [hF]; rfl
          · rw [hF]; exact FootO.nil _ _ _
      · repeat (first | refine T_seq ?_ | refine T_region ?_ | refine T_cond_false rfl ?_ | refine T_skip ?_ | refine TL_eq_f (hk := ?_) | refine TL_nil ?_ | refine TL_move (hk := ?_) | refine TL_load TE (hk := ?_) | refine TL_fieldAddr TE (hk := ?_) | refine TL_no (hk := ?_) | refine TL_pick_f (hk := ?_) | refine TL_nilCheck (hk := ?_))
        exact T.sub (join () _ ⟨rfl, fun h => absurd h hpe⟩) (.c rfl (.c rfl (.c rfl (.c rfl (.c rfl (.c rfl (.c rfl (.c rfl (.n)))))))))
    rintro _ w7 ⟨rfl, hval⟩
    have hgk : gKey g = p.2 := by
      unfold gKey
      rw [hgt]
      split
      · rfl
      · rename_i hv
        exact fail_zero fun h => hv (hval h)
    --
    refine T_seq ?_
    refine T_join (ι := Unit) (fun _ => [(10, .string (ofL p.1)), (8, .string (ofL g.last)), (9, .int .i64 (i : Int)), (6, .int .i64 (n0 : Int)), (7, .pointer (some ⟨b6, 0, none⟩)), (5, ptr bR), (2, .pointer (some ⟨b2, 0, none⟩)), (0, .slice B nb cb)])
      (fun _ w' => w' = w7 ∧ gRise g = p.2) (fun kk join => ?_) ?_
    · by_cases hpe : p.2.err = 0
      · by_cases hi0 : 0 < i
        · by_cases hle : p.1 ≤ g.last
          · have hr31 : (gRise g).err = 31 := by
              unfold gRise
              rw [hgt, if_pos hle, hgk]
              exact fail_err hpe (by decide)
            have hs31 : (gStep g).s.err = 31 := by
              show (gEnd g).err = 31
              rw [gEnd_of_rise (by rw [hr31]; decide), hr31]
            have hF := hstepI hlt (by rw [hs31]; decide)
            rw [hs31] at hF
            repeat (first | refine T_seq ?_ | refine T_region ?_ | refine T_cond_true rfl ?_ | refine TL_gt_t (hk := ?_) | refine TL_eq_t (hk := ?_) | refine TL_sle_t (hk := ?_) | refine TL_nil ?_ | refine TL_move (hk := ?_) | refine TL_load TE (hk := ?_) | refine TL_fieldAddr TE (hk := ?_) | refine TL_yes (hk := ?_) | refine TL_pick_t (hk := ?_) | refine TL_nilCheck (hk := ?_) | refine TL_build TE (hk := ?_))
            refine TL_storea TE (hk := ?_); intro wz mz sz kz
            repeat (first | refine TL_nil ?_ | refine TL_assign (hk := ?_))
            refine T_retA3 TE (vs := [.slice none 0 0, .slice none 0 0]) (o := 0) rfl rfl rfl rfl rfl rfl kz rfl (Nat.succ_pos _) ⟨.agg #[.slice none 0 0, .slice none 0 0], ?_, Mod.step I7.ext mz (by simp; omega), ?_⟩
            · rw [hF]; rfl
            · rw [hF]; exact FootO.nil _ _ _
          · have hr : gRise g = p.2 := by unfold gRise; rw [hgt, if_neg hle, hgk]
            repeat (first | refine T_seq ?_ | refine T_region ?_ | refine T_cond_false rfl ?_ | refine T_skip ?_ | refine TL_gt_t (hk := ?_) | refine TL_eq_t (hk := ?_) | refine TL_sle_f (hk := ?_) | refine TL_nil ?_ | refine TL_move (hk := ?_) | refine TL_load TE (hk := ?_) | refine TL_fieldAddr TE (hk := ?_) | refine TL_yes (hk := ?_) | refine TL_pick_t (hk := ?_) | refine TL_nilCheck (hk := ?_))
            exact T.sub (join () _ ⟨rfl, hr⟩) (.c rfl (.c rfl (.c rfl (.c rfl (.c rfl (.c rfl (.c rfl (.c rfl (.n)))))))))
        · have hlast : g.last = [] := by
            have : i = 0 := by omega
            rw [hg, this]
            rfl
          have hr : gRise g = p.2 := by
            unfold gRise
            rw [hgt, hgk, if_neg]
            intro hle
            rw [hlast] at hle
            have hne : p.1 = [] := by
              rcases (le_iff_lt_or p.1 []).1 hle with h | h
              · exact absurd h (List.not_lt_nil _)
              · exact h
            have := hval hpe
            rw [hne] at this
            exact absurd this (by decide)
          repeat (first | refine T_seq ?_ | refine T_region ?_ | refine T_cond_false rfl ?_ | refine T_skip ?_ | refine TL_gt_f (hk := ?_) | refine TL_eq_t (hk := ?_) | refine TL_nil ?_ | refine TL_move (hk := ?_) | refine TL_load TE (hk := ?_) | refine TL_fieldAddr TE (hk := ?_) | refine TL_yes (hk := ?_) | refine TL_no (hk := ?_) | refine TL_pick_t (hk := ?_) | refine TL_pick_f (hk := ?_) | refine TL_nilCheck (hk := ?_))
          exact T.sub (join () _ ⟨rfl, hr⟩) (.c rfl (.c rfl (.c rfl (.c rfl (.c rfl (.c rfl (.c rfl (.c rfl (.n)))))))))
      · have hr : gRise g = p.2 := by rw [gRise_err (by rw [hgt]; exact hpe), hgt]
        repeat (first | refine T_seq ?_ | refine T_region ?_ | refine T_cond_false rfl ?_ | refine T_skip ?_ | refine TL_eq_f (hk := ?_) | refine TL_nil ?_ | refine TL_move (hk := ?_) | refine TL_load TE (hk := ?_) | refine TL_fieldAddr TE (hk := ?_) | refine TL_no (hk := ?_) | refine TL_pick_f (hk := ?_) | refine TL_nilCheck (hk := ?_))
        exact T.sub (join () _ ⟨rfl, hr⟩) (.c rfl (.c rfl (.c rfl (.c rfl (.c rfl (.c rfl (.c rfl (.c rfl (.n)))))))))
    rintro _ w7 ⟨rfl, hgr⟩
    rw [← hgr] at I7
    repeat (first | refine T_seq ?_ | refine T_region ?_ | refine TL_nil ?_ | refine TL_move (hk := ?_) | refine TL_assign (hk := ?_))
    refine TL_call TE (hc := RByte_s bR _ A3 n3 c3 _ I7.rdr) (hk := ?_)
    rintro _ w10 ⟨rfl, m10, rr10⟩
    have I10 := I7.step m10 rr10
    obtain ⟨q, hq⟩ : ∃ q, (gRise g).take (0 : Nat) tByte = q := ⟨_, rfl⟩
    have hgu : gUse g = q := hq
    rw [hgu] at hu256
    rw [hq] at I10
    rw [hq]
    have hq0 : ¬ q.2.err = 0 → q.1 = 0 := fun h => by
      by_cases he : (gRise g).err = 0
      · rw [← hq] at h ⊢; exact take_err0 h he
      · rw [← hq, take_zero he]
    obtain ⟨u, hu⟩ : ∃ u, q.1 = u := ⟨_, rfl⟩
    rw [hu] at hu256 hq0 ⊢
    clear I7 rr10 kR7 k27
    have kR10 := I10.rdr.blk
    have k210 := k2m _ I10.mod
    repeat (first | refine TL_nil ?_ | refine TL_assign (hk := ?_))
    refine T_seq ?_
    refine T_join (ι := Unit) (fun _ => [(11, .int .u8 (u : Int)), (10, .string (ofL p.1)), (8, .string (ofL p.1)), (9, .int .i64 (i : Int)), (6, .int .i64 (n0 : Int)), (7, .pointer (some ⟨b6, 0, none⟩)), (5, ptr bR), (2, .pointer (some ⟨b2, 0, none⟩)), (0, .slice B nb cb)])
      (fun _ w' => w' = w10 ∧ gEnd g = q.2 ∧ u ≤ 3) (fun kk join => ?_) ?_
    · by_cases hqe : q.2.err = 0
      · by_cases hv : u < 1
        · have hs31 : (gStep g).s.err = 31 := by
            show (gEnd g).err = 31
            unfold gEnd
            rw [hgu, hu, if_pos (.inl hv)]
            exact fail_err hqe (by decide)
          have hF := hstepI hlt (by rw [hs31]; decide)
          rw [hs31] at hF
          repeat (first | refine T_seq ?_ | refine T_region ?_ | refine T_cond_true rfl ?_ | refine TL_lt_t (hk := ?_) | refine TL_eq_t (hk := ?_) | refine TL_nil ?_ | refine TL_move (hk := ?_) | refine TL_load TE (hk := ?_) | refine TL_fieldAddr TE (hk := ?_) | refine TL_yes (hk := ?_) | refine TL_no (hk := ?_) | refine TL_pick_t (hk := ?_) | refine TL_nilCheck (hk := ?_) | refine TL_build TE (hk := ?_))
          refine TL_storea TE (hk := ?_); intro wz mz sz kz
          repeat (first | refine TL_nil ?_ | refine TL_assign (hk := ?_))
          refine T_retA3 TE (vs := [.slice none 0 0, .slice none 0 0]) (o := 0) rfl rfl rfl rfl rfl rfl kz rfl (Nat.succ_pos _) ⟨.agg #[.slice none 0 0, .slice none 0 0], ?_, Mod.step I10.ext mz (by simp; omega), ?_⟩
          · rw [hF]; rfl
          · rw [hF]; exact FootO.nil _ _ _
        · by_cases hv3 : 3 < u
          · have hs31 : (gStep g).s.err = 31 := by
              show (gEnd g).err = 31
              unfold gEnd
              rw [hgu, hu, if_pos (.inr hv3)]
              exact fail_err hqe (by decide)
            have hF := hstepI hlt (by rw [hs31]; decide)
            rw [hs31] at hF
            repeat (first | refine T_seq ?_ | refine T_region ?_ | refine T_cond_true rfl ?_ | refine TL_lt_f (hk := ?_) | refine TL_gt_t (hk := ?_) | refine TL_eq_t (hk := ?_) | refine TL_nil ?_ | refine TL_move (hk := ?_) | refine TL_load TE (hk := ?_) | refine TL_fieldAddr TE (hk := ?_) | refine TL_yes (hk := ?_) | refine TL_pick_t (hk := ?_) | refine TL_pick_f (hk := ?_) | refine TL_nilCheck (hk := ?_) | refine TL_build TE (hk := ?_))
            refine TL_storea TE (hk := ?_); intro wz mz sz kz
            repeat (first | refine TL_nil ?_ | refine TL_assign (hk := ?_))
            refine T_retA3 TE (vs := [.slice none 0 0, .slice none 0 0]) (o := 0) rfl rfl rfl rfl rfl rfl kz rfl (Nat.succ_pos _) ⟨.agg #[.slice none 0 0, .slice none 0 0], ?_, Mod.step I10.ext mz (by simp; omega), ?_⟩
            · rw [hF]; rfl
            · rw [hF]; exact FootO.nil _ _ _
          · have hge : gEnd g = q.2 := by unfold gEnd; rw [hgu, hu, if_neg (by omega)]
            repeat (first | refine T_seq ?_ | refine T_region ?_ | refine T_cond_false rfl ?_ | refine T_skip ?_ | refine TL_lt_f (hk := ?_) | refine TL_gt_f (hk := ?_) | refine TL_eq_t (hk := ?_) | refine TL_nil ?_ | refine TL_move (hk := ?_) | refine TL_load TE (hk := ?_) | refine TL_fieldAddr TE (hk := ?_) | refine TL_yes (hk := ?_) | refine TL_pick_t (hk := ?_) | refine TL_pick_f (hk := ?_) | refine TL_nilCheck (hk := ?_))
            exact T.sub (join () _ ⟨rfl, hge, by omega⟩) (.c rfl (.c rfl (.c rfl (.c rfl (.c rfl (.c rfl (.c rfl (.c rfl (.c rfl (.n))))))))))
      · have hu0 := hq0 hqe
        have hge : gEnd g = q.2 := by rw [gEnd_of_use (by rw [hgu]; exact hqe), hgu]
        repeat (first | refine T_seq ?_ | refine T_region ?_ | refine T_cond_false rfl ?_ | refine T_skip ?_ | refine TL_eq_f (hk := ?_) | refine TL_nil ?_ | refine TL_move (hk := ?_) | refine TL_load TE (hk := ?_) | refine TL_fieldAddr TE (hk := ?_) | refine TL_no (hk := ?_) | refine TL_pick_f (hk := ?_) | refine TL_nilCheck (hk := ?_))
        exact T.sub (join () _ ⟨rfl, hge, by omega⟩) (.c rfl (.c rfl (.c rfl (.c rfl (.c rfl (.c rfl (.c rfl (.c rfl (.c rfl (.n))))))))))
    rintro _ w10 ⟨rfl, hge, hu3⟩
    have I11 := I10
    rw [← hge] at I11
    clear I10 kR10 k210
    repeat (first | refine T_seq ?_ | refine T_region ?_ | refine TL_rem (hk := ?_) | refine TL_move (hk := ?_))
    refine TL_eq_d (hk := ?_)
    repeat (refine TL_nil ?_)
    refine T_join (ι := Option Addr × Nat × Nat) (fun _ => [(11, .int .u8 (u : Int)), (10, .string (ofL p.1)), (8, .string (ofL p.1)), (9, .int .i64 (i : Int)), (6, .int .i64 (n0 : Int)), (7, .pointer (some ⟨b6, 0, none⟩)), (5, ptr bR), (2, .pointer (some ⟨b2, 0, none⟩)), (0, .slice B nb cb)])
      (fun x' w' => GInv 91 w w5 w' bR b6 (gEnd g) A3 n3 c3 x' y (if u &&& 1 = 0 then g.rd else g.rd ++ [p.1]) g.wr ∧ x'.2.1 ≤ i + 1) (fun kk join => ?_) ?_
    · by_cases hv : u &&& 1 = 0
      · rw [if_pos hv] at join
        rw [show decide (((u : Nat) : Int) % 2 = 1) = false from decide_eq_false (by rw [and1'] at hv; omega)]
        repeat (first | refine T_cond_false rfl ?_ | refine T_skip ?_)
        exact T.sub (join x _ ⟨I11, by omega⟩) (.c rfl (.c rfl (.c rfl (.c rfl (.c rfl (.c rfl (.c rfl (.c rfl (.c rfl (.n))))))))))
      · rw [if_neg hv] at join
        rw [show decide (((u : Nat) : Int) % 2 = 1) = true from decide_eq_true (by rw [and1'] at hv; omega)]
        have k6 := I11.blk
        have o1 := I11.own1
        repeat (first | refine T_region ?_ | refine T_cond_true rfl ?_ | refine TL_move (hk := ?_) | refine TL_load TE (hk := ?_) | refine TL_fieldAddr TE (hk := ?_))
        refine TL_buildSlice TE (hk := ?_); intro b12 w12 e12 h12 h12' k12
        replace k12 : Blk w12 b12 9 [.string (ofL p.1)] := k12
        have z12 := e12.size
        have o12 := o1.be e12
        have z11 := I11.mod.size
        refine TL_append TE (hk := ?_); intro A13 c13 w13 o13 m13 n13
        have J12 := I11.ext2 e12
        have h65 := I11.h65
        have hRR := I11.hR5
        have hne := I11.hne
        have h6 := I11.h6
        have z13 := m13.size
        have k13 := J12.blk.mod m13 (hi_not o12.hi h65)
        have rr13 := J12.rdr.mod m13 (hi_not o12.hi hRR) (Off.lohi J12.hA o12.hi)
        have own2 := J12.own2.mod m13 J12.off1
        have e13 : Ext w w13 := J12.ext.own m13 (Hi.mono o12.hi (by have := e05.size; omega))
        have mm13 : Eng.Mod [bR, b6] w5 w13 := Mod.step J12.mod m13 (fun z hz => .inr (by
          cases hx : x.1 with
          | none => rw [hx] at hz; simp [blkL] at hz
          | some ad => rw [hx] at hz; simp [blkL] at hz; rw [hz]; exact o12.hi ad hx))
        have noff : Off y.1 (blkL A13) := by
          intro ad had hm
          cases A13 with
          | none => simp [blkL] at hm
          | some a2 =>
            simp [blkL] at hm
            rcases n13 a2 rfl with h | h
            · exact J12.off1 ad had (by rw [h]; simp [blkL, hm])
            · have := J12.own2.lo ad had; omega
        have noff2 : Off A13 (blkL y.1) := by
          intro ad had hm
          cases hy : y.1 with
          | none => rw [hy] at hm; simp [blkL] at hm
          | some a2 =>
            rw [hy] at hm
            simp [blkL] at hm
            rcases n13 ad had with h | h
            · exact J12.off2 ad h (by rw [hy]; simp [blkL, hm])
            · have := J12.own2.lo a2 hy; omega
        clear k6 o1 k12 I11
        repeat (refine TL_fieldAddr TE (hk := ?_))
        refine TL_store TE (hk := ?_); intro w14 m14 z14 k14
        repeat (refine TL_nil ?_)
        refine T.sub (join (A13, x.2.1 + 1, c13) _ ⟨⟨Mod.step e13 m14 (by simp; omega), Mod.step mm13 m14 (by simp), rr13.mod m14 (by simp; omega) J12.hA6, k14, ?_, own2.mod m14 (Off.hi own2.hi (by omega)), noff, noff2, J12.hR, J12.hR5, J12.h6, J12.h65, J12.hne, J12.hA, J12.hA6⟩, by show x.2.1 + 1 ≤ i + 1; omega⟩) (.c rfl (.c rfl (.c rfl (.c rfl (.c rfl (.c rfl (.c rfl (.c rfl (.c rfl (.n))))))))))
        rw [sv_append]
        exact o13.mod m14 (Off.hi o13.hi (by omega))
    rintro x' w12 ⟨I12, hnx⟩
    obtain ⟨rd', hrd⟩ : ∃ rd', (if u &&& 1 = 0 then g.rd else g.rd ++ [p.1]) = rd' := ⟨_, rfl⟩
    rw [hrd] at I12
    repeat (first | refine T_seq ?_ | refine T_region ?_ | refine TL_move (hk := ?_))
    refine TL_ge_d (hk := ?_)
    repeat (refine TL_nil ?_)
    refine T_join (ι := Option Addr × Nat × Nat) (fun _ => [(11, .int .u8 (u : Int)), (10, .string (ofL p.1)), (8, .string (ofL p.1)), (9, .int .i64 (i : Int)), (6, .int .i64 (n0 : Int)), (7, .pointer (some ⟨b6, 0, none⟩)), (5, ptr bR), (2, .pointer (some ⟨b2, 0, none⟩)), (0, .slice B nb cb)])
      (fun y' w' => GInv 91 w w5 w' bR b6 (gEnd g) A3 n3 c3 x' y' rd' (if u &&& 2 = 0 then g.wr else g.wr ++ [p.1]) ∧ y'.2.1 ≤ i + 1) (fun kk join => ?_) ?_
    · by_cases hv : u &&& 2 = 0
      · rw [if_pos hv] at join
        rw [show decide ((2 : Int) ≤ ((u : Nat) : Int)) = false from decide_eq_false (by have := and2' u hu3; omega)]
        repeat (first | refine T_cond_false rfl ?_ | refine T_skip ?_)
        exact T.sub (join y _ ⟨I12, by omega⟩) (.c rfl (.c rfl (.c rfl (.c rfl (.c rfl (.c rfl (.c rfl (.c rfl (.c rfl (.n))))))))))
      · rw [if_neg hv] at join
        rw [show decide ((2 : Int) ≤ ((u : Nat) : Int)) = true from decide_eq_true (by have := and2' u hu3; omega)]
        have k6 := I12.blk
        have o1 := I12.own2
        repeat (first | refine T_region ?_ | refine T_cond_true rfl ?_ | refine TL_move (hk := ?_) | refine TL_load TE (hk := ?_) | refine TL_fieldAddr TE (hk := ?_))
        refine TL_buildSlice TE (hk := ?_); intro b12 w12 e12 h12 h12' k12
        replace k12 : Blk w12 b12 9 [.string (ofL p.1)] := k12
        have z12 := e12.size
        have o12 := o1.be e12
        have z11 := I12.mod.size
        refine TL_append TE (hk := ?_); intro A13 c13 w13 o13 m13 n13
        have J12 := I12.ext2 e12
        have h65 := I12.h65
        have hRR := I12.hR5
        have hne := I12.hne
        have h6 := I12.h6
        have z13 := m13.size
        have k13 := J12.blk.mod m13 (hi_not o12.hi h65)
        have rr13 := J12.rdr.mod m13 (hi_not o12.hi hRR) (Off.lohi J12.hA o12.hi)
        have own1 := J12.own1.mod m13 J12.off2
        have e13 : Ext w w13 := J12.ext.own m13 (Hi.mono o12.hi (by have := e05.size; omega))
        have mm13 : Eng.Mod [bR, b6] w5 w13 := Mod.step J12.mod m13 (fun z hz => .inr (by
          cases hx : y.1 with
          | none => rw [hx] at hz; simp [blkL] at hz
          | some ad => rw [hx] at hz; simp [blkL] at hz; rw [hz]; exact o12.hi ad hx))
        have noff : Off x'.1 (blkL A13) := by
          intro ad had hm
          cases A13 with
          | none => simp [blkL] at hm
          | some a2 =>
            simp [blkL] at hm
            rcases n13 a2 rfl with h | h
            · exact J12.off2 ad had (by rw [h]; simp [blkL, hm])
            · have := J12.own1.lo ad had; omega
        have noff2 : Off A13 (blkL x'.1) := by
          intro ad had hm
          cases hy : x'.1 with
          | none => rw [hy] at hm; simp [blkL] at hm
          | some a2 =>
            rw [hy] at hm
            simp [blkL] at hm
            rcases n13 ad had with h | h
            · exact J12.off1 ad h (by rw [hy]; simp [blkL, hm])
            · have := J12.own1.lo a2 hy; omega
        clear k6 o1 k12 I12
        repeat (refine TL_fieldAddr TE (hk := ?_))
        refine TL_store TE (hk := ?_); intro w14 m14 z14 k14
        repeat (refine TL_nil ?_)
        refine T.sub (join (A13, y.2.1 + 1, c13) _ ⟨⟨Mod.step e13 m14 (by simp; omega), Mod.step mm13 m14 (by simp), rr13.mod m14 (by simp; omega) J12.hA6, k14, own1.mod m14 (Off.hi own1.hi (by omega)), ?_, noff2, noff, J12.hR, J12.hR5, J12.h6, J12.h65, J12.hne, J12.hA, J12.hA6⟩, by show y.2.1 + 1 ≤ i + 1; omega⟩) (.c rfl (.c rfl (.c rfl (.c rfl (.c rfl (.c rfl (.c rfl (.c rfl (.c rfl (.n))))))))))
        rw [sv_append]
        exact o13.mod m14 (Off.hi o13.hi (by omega))
    rintro y' w13 ⟨I13, hny⟩
    obtain ⟨wr', hwr⟩ : ∃ wr', (if u &&& 2 = 0 then g.wr else g.wr ++ [p.1]) = wr' := ⟨_, rfl⟩
    rw [hwr] at I13
    have hstep : gStep g = ⟨gEnd g, p.1, rd', wr'⟩ := by unfold gStep; rw [hgt, hgu, hu, hrd, hwr]
    repeat (first | refine T_region ?_ | refine T_inBlock ?_ | refine TL_add (hk := ?_) | refine TL_nil ?_ | refine TL_move (hk := ?_) | refine TL_assign (hk := ?_))
    refine ih ((⟨gEnd g, p.1, rd', wr'⟩, i + 1), x', y') _ _ (by simp only; omega) ⟨by show i + 1 ≤ n0; omega, ?_, I13, hnx, hny⟩ (.c rfl (.c rfl (.c rfl (.c rfl (.c rfl (.c rfl (.c rfl (.n))))))))
    show _ = gStep (gIter i _)
    rw [← hg, hstep]
  · have k26 := k2m _ I6.mod
    by_cases he : g.s.err = 0
    · have hin : i = n0 := by omega
      have hall : gAll b = g := by unfold gAll; rw [hgi, hn0, ← hin]; exact hg.symm
      have hrest : b.length - g.s.rest = g.s.pos := by
        have h1 := I6.rdr.len
        have h2 := I6.rdr.pos
        unfold RS.rest
        rw [if_pos he]
        omega
      have hf : getF b = (((g.rd, g.wr), g.s.pos), 0) := by unfold getF; rw [hall, if_pos he, hrest]
      rw [hf]
      repeat (first | refine T_seq ?_ | refine T_region ?_ | refine T_cond_false rfl ?_ | refine T_skip ?_ | refine T_exit rfl ?_ | refine TL_lt_f (hk := ?_) | refine TL_ne_f (hk := ?_) | refine TL_nil ?_ | refine TL_move (hk := ?_) | refine TL_load TE (hk := ?_) | refine TL_fieldAddr TE (hk := ?_) | refine TL_no (hk := ?_) | refine TL_pick_f (hk := ?_) | refine TL_nilCheck (hk := ?_))
      refine T_region_any TE.mixed [b2] ?_; intro w8 e8 z8
      have I8 := I6.ext2 e8
      have k28 := k26.ext e8
      have z6 := I6.mod.size
      have h62 : b6 ∉ [b2] := by simp; omega
      have hR2 : bR ∉ [b2] := by simp; omega
      have kR8 := I8.rdr.blk
      refine TA_take 0 rfl (by kernel_rfl) (by kernel_rfl) (by kernel_rfl) ?_
      refine TLP_loadb TE (cs := [.slice x.1 x.2.1 x.2.2, .slice y.1 y.2.1 y.2.2]) (o := 0) (hb := I8.blk) (hD := h62) (hk := ?_)
      refine TL_nil_p ?_
      (refine TA_take 1 rfl (by kernel_rfl) (by kernel_rfl) (by kernel_rfl) ?_; repeat (first | refine TL_move (hk := ?_) | refine TLP_load TE (hk := ?_) | refine TL_fieldAddr TE (hk := ?_) | refine TL_nilCheck (hk := ?_)); refine TL_nil_p ?_); (refine TA_take 2 rfl (by kernel_rfl) (by kernel_rfl) (by kernel_rfl) ?_; repeat (first | refine TL_move (hk := ?_) | refine TLP_load TE (hk := ?_) | refine TL_fieldAddr TE (hk := ?_) | refine TL_nilCheck (hk := ?_)); refine TL_nil_p ?_); (refine TA_take 3 rfl (by kernel_rfl) (by kernel_rfl) (by kernel_rfl) ?_; repeat (first | refine TL_move (hk := ?_) | refine TLP_load TE (hk := ?_) | refine TL_fieldAddr TE (hk := ?_) | refine TL_nilCheck (hk := ?_)); refine TL_nil_p ?_); (refine TA_take 4 rfl (by kernel_rfl) (by kernel_rfl) (by kernel_rfl) ?_; repeat (first | refine TL_move (hk := ?_) | refine TLP_load TE (hk := ?_) | refine TL_fieldAddr TE (hk := ?_) | refine TL_nilCheck (hk := ?_)); refine TL_nil_p ?_)
      refine TA_one 5 rfl (by kernel_rfl) (by kernel_rfl) ?_
      refine TL_storea TE (hf := rfl) (hq := fun w' h _ => h) (hk := ?_); intro w10 m10 z10 k10
      refine TL_nil_p ?_
      (refine TA_take 6 rfl (by kernel_rfl) (by kernel_rfl) (by kernel_rfl) ?_; repeat (refine TL_assign (hk := ?_)); refine TL_nil_p ?_); (refine TA_take 7 rfl (by kernel_rfl) (by kernel_rfl) (by kernel_rfl) ?_; repeat (refine TL_assign (hk := ?_)); refine TL_nil_p ?_)
      refine TA_done (by kernel_rfl) ?_
      --
      refine T_retA3 TE (vs := [.slice x.1 x.2.1 x.2.2, .slice y.1 y.2.1 y.2.2]) (o := 0) rfl rfl rfl rfl rfl rfl k10 rfl (Nat.succ_pos _) ⟨.agg #[.slice x.1 x.2.1 x.2.2, .slice y.1 y.2.1 y.2.2], rfl, Mod.step I8.ext m10 (by simp; omega), x.1, x.2.1, x.2.2, y.1, y.2.1, y.2.2, rfl, ?_, ?_, I8.off1⟩
      · exact (I8.own1.mod m10 (Off.hi I8.own1.hi (by omega))).weaken (by have := e05.size; omega)
      · exact (I8.own2.mod m10 (Off.hi I8.own2.hi (by omega))).weaken (by have := e05.size; omega)
    · have hf : getF b = ((([], []), 0), g.s.err) := by
        have e : g = gIter i ⟨(gInit b).2, [], [], []⟩ := by rw [hgi]; exact hg
        have h2 := he
        rw [e] at h2 ⊢
        exact getF_err (by rw [hgi, hn0]; exact hi) h2
      rw [hf]
      have z6 := I6.mod.size
      by_cases hlt : i < n0
      · repeat (first | refine T_seq ?_ | refine T_region ?_ | refine T_cond_true rfl ?_ | refine T_cond_false rfl ?_ | refine T_exit rfl ?_ | refine TL_lt_t (hk := ?_) | refine TL_eq_f (hk := ?_) | refine TL_ne_t (hk := ?_) | refine TL_nil ?_ | refine TL_move (hk := ?_) | refine TL_load TE (hk := ?_) | refine TL_fieldAddr TE (hk := ?_) | refine TL_yes (hk := ?_) | refine TL_pick_t (hk := ?_) | refine TL_nilCheck (hk := ?_))
        refine T_region_any TE.mixed [b2] ?_; intro w8 e8 z8
        have I8 := I6.ext2 e8
        have k28 := k26.ext e8
        have hR2 : bR ∉ [b2] := by simp; omega
        have kR8 := I8.rdr.blk
        (refine TA_take 0 rfl (by kernel_rfl) (by kernel_rfl) (by kernel_rfl) ?_; repeat (first | refine TL_move (hk := ?_) | refine TLP_load TE (hk := ?_) | refine TL_fieldAddr TE (hk := ?_) | refine TL_nilCheck (hk := ?_) | refine TL_build TE (hk := ?_)); refine TL_nil_p ?_); (refine TA_take 1 rfl (by kernel_rfl) (by kernel_rfl) (by kernel_rfl) ?_; repeat (first | refine TL_move (hk := ?_) | refine TLP_load TE (hk := ?_) | refine TL_fieldAddr TE (hk := ?_) | refine TL_nilCheck (hk := ?_) | refine TL_build TE (hk := ?_)); refine TL_nil_p ?_); (refine TA_take 2 rfl (by kernel_rfl) (by kernel_rfl) (by kernel_rfl) ?_; repeat (first | refine TL_move (hk := ?_) | refine TLP_load TE (hk := ?_) | refine TL_fieldAddr TE (hk := ?_) | refine TL_nilCheck (hk := ?_) | refine TL_build TE (hk := ?_)); refine TL_nil_p ?_); (refine TA_take 3 rfl (by kernel_rfl) (by kernel_rfl) (by kernel_rfl) ?_; repeat (first | refine TL_move (hk := ?_) | refine TLP_load TE (hk := ?_) | refine TL_fieldAddr TE (hk := ?_) | refine TL_nilCheck (hk := ?_) | refine TL_build TE (hk := ?_)); refine TL_nil_p ?_); (refine TA_take 4 rfl (by kernel_rfl) (by kernel_rfl) (by kernel_rfl) ?_; repeat (first | refine TL_move (hk := ?_) | refine TLP_load TE (hk := ?_) | refine TL_fieldAddr TE (hk := ?_) | refine TL_nilCheck (hk := ?_) | refine TL_build TE (hk := ?_)); refine TL_nil_p ?_)
        refine TA_one 5 rfl (by kernel_rfl) (by kernel_rfl) ?_
        refine TL_storea TE (hf := rfl) (hq := fun w' h _ => h) (hk := ?_); intro w10 m10 z10 k10
        refine TL_nil_p ?_
        (refine TA_take 6 rfl (by kernel_rfl) (by kernel_rfl) (by kernel_rfl) ?_; repeat (refine TL_assign (hk := ?_)); refine TL_nil_p ?_); (refine TA_take 7 rfl (by kernel_rfl) (by kernel_rfl) (by kernel_rfl) ?_; repeat (refine TL_assign (hk := ?_)); refine TL_nil_p ?_)
        refine TA_done (by kernel_rfl) ?_
        --
        exact T_retA3 TE (vs := [.slice none 0 0, .slice none 0 0]) (o := 0) rfl rfl rfl rfl rfl rfl k10 rfl (Nat.succ_pos _) ⟨.agg #[.slice none 0 0, .slice none 0 0], rfl, Mod.step I8.ext m10 (by simp; omega), FootO.nil _ _ _⟩
      · repeat (first | refine T_seq ?_ | refine T_region ?_ | refine T_cond_true rfl ?_ | refine T_cond_false rfl ?_ | refine T_exit rfl ?_ | refine TL_lt_f (hk := ?_) | refine TL_ne_t (hk := ?_) | refine TL_nil ?_ | refine TL_move (hk := ?_) | refine TL_load TE (hk := ?_) | refine TL_fieldAddr TE (hk := ?_) | refine TL_no (hk := ?_) | refine TL_pick_f (hk := ?_) | refine TL_nilCheck (hk := ?_))
        refine T_region_any TE.mixed [b2] ?_; intro w8 e8 z8
        have I8 := I6.ext2 e8
        have k28 := k26.ext e8
        have hR2 : bR ∉ [b2] := by simp; omega
        have kR8 := I8.rdr.blk
        (refine TA_take 0 rfl (by kernel_rfl) (by kernel_rfl) (by kernel_rfl) ?_; repeat (first | refine TL_move (hk := ?_) | refine TLP_load TE (hk := ?_) | refine TL_fieldAddr TE (hk := ?_) | refine TL_nilCheck (hk := ?_) | refine TL_build TE (hk := ?_)); refine TL_nil_p ?_); (refine TA_take 1 rfl (by kernel_rfl) (by kernel_rfl) (by kernel_rfl) ?_; repeat (first | refine TL_move (hk := ?_) | refine TLP_load TE (hk := ?_) | refine TL_fieldAddr TE (hk := ?_) | refine TL_nilCheck (hk := ?_) | refine TL_build TE (hk := ?_)); refine TL_nil_p ?_); (refine TA_take 2 rfl (by kernel_rfl) (by kernel_rfl) (by kernel_rfl) ?_; repeat (first | refine TL_move (hk := ?_) | refine TLP_load TE (hk := ?_) | refine TL_fieldAddr TE (hk := ?_) | refine TL_nilCheck (hk := ?_) | refine TL_build TE (hk := ?_)); refine TL_nil_p ?_); (refine TA_take 3 rfl (by kernel_rfl) (by kernel_rfl) (by kernel_rfl) ?_; repeat (first | refine TL_move (hk := ?_) | refine TLP_load TE (hk := ?_) | refine TL_fieldAddr TE (hk := ?_) | refine TL_nilCheck (hk := ?_) | refine TL_build TE (hk := ?_)); refine TL_nil_p ?_); (refine TA_take 4 rfl (by kernel_rfl) (by kernel_rfl) (by kernel_rfl) ?_; repeat (first | refine TL_move (hk := ?_) | refine TLP_load TE (hk := ?_) | refine TL_fieldAddr TE (hk := ?_) | refine TL_nilCheck (hk := ?_) | refine TL_build TE (hk := ?_)); refine TL_nil_p ?_)
        refine TA_one 5 rfl (by kernel_rfl) (by kernel_rfl) ?_
        refine TL_storea TE (hf := rfl) (hq := fun w' h _ => h) (hk := ?_); intro w10 m10 z10 k10
        refine TL_nil_p ?_
        (refine TA_take 6 rfl (by kernel_rfl) (by kernel_rfl) (by kernel_rfl) ?_; repeat (refine TL_assign (hk := ?_)); refine TL_nil_p ?_); (refine TA_take 7 rfl (by kernel_rfl) (by kernel_rfl) (by kernel_rfl) ?_; repeat (refine TL_assign (hk := ?_)); refine TL_nil_p ?_)
        refine TA_done (by kernel_rfl) ?_
        --
        exact T_retA3 TE (vs := [.slice none 0 0, .slice none 0 0]) (o := 0) rfl rfl rfl rfl rfl rfl k10 rfl (Nat.succ_pos _) ⟨.agg #[.slice none 0 0, .slice none 0 0], rfl, Mod.step I8.ext m10 (by simp; omega), FootO.nil _ _ _⟩
end Go.Proofs.Ytfplmpfdhiagaaa

/- Two structs that are compared. -/
namespace Go.Proofs.Eng
open Go.RowKit
set_option linter.unusedSimpArgs false
set_option linter.unusedVariables false
set_option linter.unusedSectionVars false
section
variable {q : Qm} {P : Program} {fn : Func} {R : Ending → World → Prop} {M : Md} {n : Nat} {st : Slots} {k : List Item} {w : World} {ops rest : List Oper}
  {d : Nat} {ty : TypeId} {ps : String} {af : Array Edge} {X Y : Operand} {t t2 : TypeId} {xs ys : Array Value} {r : Bool}
end
end Go.Proofs.Eng

namespace Go.Proofs.Ytfplmpfdhiagaaa
open Go.RowKit Go.Proofs.Eng Go.Proofs.Foot Go.Proofs.Codec
set_option linter.unusedSimpArgs false
set_option linter.unusedVariables false
attribute [local irreducible] T TL LV TH TA
theorem num_c3 (z : Int) (w : World) : Ret Try.prog 12 [.int .i64 z] w (fun v w' => v = .int .i64 z ∧ w' = w) := by
  refine ret_T (n := 4) Try.func12 rfl rfl ?_
  repeat (first | refine T_seq ?_ | refine T_region ?_ | refine TL_nil ?_ | refine TL_move (hk := ?_) | refine TL_assign (hk := ?_))
  exact T_ret1 rfl rfl ⟨rfl, rfl⟩
theorem long_c3 (A B : Option Addr) (n c m d : Nat) (w : World) (hn : n ≤ 9223372036854775807) (hm : m ≤ 9223372036854775807) (hnm : n + m ≤ 9223372036854775807) : Ret Try.prog 14 [.agg #[.slice A n c, .slice B m d]] w (fun v w' => v = .bool (decide (300 < n + m)) ∧ Ext w w') := by
  refine ret_T (n := 11) Try.func14 rfl rfl ?_
  repeat (first | refine T_seq ?_ | refine T_region ?_)
  refine TL_box (hk := ?_); intro b1 w1 e1 h1 h1' k1
  by_cases h : 300 < n + m
  · repeat (first | refine T_seq ?_ | refine T_region ?_ | refine TL_add (hk := ?_) | refine TL_gt_t (hk := ?_) | refine TL_nil ?_ | refine TL_assign (hk := ?_) | refine TL_load TE (hk := ?_) | refine TL_fieldAddr TE (hk := ?_) | refine TL_len TE (hk := ?_))
    exact T_ret1 rfl rfl ⟨by rw [decide_eq_true h], e1⟩
  · repeat (first | refine T_seq ?_ | refine T_region ?_ | refine TL_add (hk := ?_) | refine TL_gt_f (hk := ?_) | refine TL_nil ?_ | refine TL_assign (hk := ?_) | refine TL_load TE (hk := ?_) | refine TL_fieldAddr TE (hk := ?_) | refine TL_len TE (hk := ?_))
    exact T_ret1 rfl rfl ⟨by rw [decide_eq_false h], e1⟩
def behind : Tx := [98, 101, 104, 105, 110, 100]
/-- A footprint in lists of its own, with a text more behind each. -/
def GivenO (w : World) (base : Nat) (v : Value) (r k : List Tx) : Prop :=
  ∃ A c B d, v = .agg #[.slice A r.length c, .slice B k.length d] ∧ Own w base 9 1 A (r.length + 1) c (sv (r ++ [behind])) ∧ Own w base 9 1 B (k.length + 1) d (sv (k ++ [behind]))
theorem own_c3 (A B : Option Addr) (n c m d : Nat) (r k : List Tx) (w : World) (h : Rd w A n 1 (sv r)) (g : Rd w B m 1 (sv k)) (hn : n ≤ 50000) (hm : m ≤ 50000) :
    Ret Try.prog 15 [.agg #[.slice A n c, .slice B m d]] w (fun v w' => GivenO w' w.heap.size v r k ∧ Ext w w') := by
  have hr : r.length = n := by simpa using h.1
  have hk : k.length = m := by simpa using g.1
  have onr := sv_one r
  have onk := sv_one k
  have onb := sv_one [behind]
  refine ret_T (n := 28) Try.func15 rfl rfl ?_
  repeat (first | refine T_seq ?_ | refine T_region ?_)
  refine TL_box (hk := ?_); intro b1 w1 e1 h1 h1' k1
  refine TL_alloc TE (hk := ?_); intro b2 w2 e2 h2 h2' k2
  repeat (first | refine T_seq ?_ | refine T_region ?_ | refine TL_nil ?_)
  have e02 := e1.ext e2
  have k12 := k1.be e2
  have hA2 := h.be e02
  have hB2 := g.be e02
  have z1 := e1.size
  have z2 := e2.size
  clear k1 h g
  refine TL_buildSlice TE (hk := ?_); intro b3 w3 e3 h3 h3' k3
  have z3 := e3.size
  have o3 : Own w3 w2.heap.size 9 1 (some ⟨b3, 0, none⟩) 0 0 [] := Own.of_blk k3 h3 rfl (by decide)
  have k13 := k12.be e3
  have hA3 := hA2.be e3
  repeat (first | refine TL_load TE (hk := ?_) | refine TL_fieldAddr TE (hk := ?_))
  refine TL_append TE (hk := ?_); intro A4 c4 w4 o4 m4 n4
  have e24 : Ext w2 w4 := e3.own m4 o3.hi
  have z4 := m4.size
  clear k13 hA3 k3 o3
  --
  refine TL_buildSlice TE (hk := ?_); intro b5 w5 e5 h5 h5' k5
  replace k5 : Blk w5 b5 9 (sv [behind]) := k5
  have o45 := o4.be e5
  have z5 := e5.size
  refine TL_append TE (hk := ?_); intro A6 c6 w6 o6 m6 n6
  have e26 : Ext w2 w6 := (e24.ext e5).own m6 o45.hi
  have z6 := m6.size
  have k16 := k12.be e26
  have hB6 := hB2.be e26
  have k26 := k2.be e26
  clear k12 k2 hA2 hB2 o4 o45 k5
  repeat (first | refine T_seq ?_ | refine T_region ?_ | refine TL_nil ?_ | refine TL_assign (hk := ?_))
  refine TL_buildSlice TE (hk := ?_); intro b7 w7 e7 h7 h7' k7
  have z7 := e7.size
  have o7 : Own w7 w6.heap.size 9 1 (some ⟨b7, 0, none⟩) 0 0 [] := Own.of_blk k7 h7 rfl (by decide)
  have k17 := k16.be e7
  have hB7 := hB6.be e7
  repeat (first | refine TL_load TE (hk := ?_) | refine TL_fieldAddr TE (hk := ?_))
  refine TL_append TE (hk := ?_); intro A8 c8 w8 o8 m8 n8
  have e68 : Ext w6 w8 := e7.own m8 o7.hi
  have z8 := m8.size
  clear k17 hB7 k7 o7
  --
  refine TL_buildSlice TE (hk := ?_); intro b9 w9 e9 h9 h9' k9
  replace k9 : Blk w9 b9 9 (sv [behind]) := k9
  have o89 := o8.be e9
  have z9 := e9.size
  refine TL_append TE (hk := ?_); intro A10 c10 w10 o10 m10 n10
  have e610 : Ext w6 w10 := (e68.ext e9).own m10 o89.hi
  have o610 := o6.be e610
  have k110 := k16.be e610
  have k210 := k26.be e610
  clear o6 o8 o89 k9 k16 k26
  repeat (first | refine T_seq ?_ | refine TL_nil ?_ | refine TL_assign (hk := ?_))
  refine T_region_any TE.mixed [b2] ?_; intro w11 e11 z11
  have k111 := k110.be e11
  have k211 := k210.be e11
  have oA := o610.be e11
  have oB := o10.be e11
  have hb12 : b1 ≠ b2 := by omega
  have hb12' : b1 ∉ [b2] := by simp; omega
  have z10 := e610.size
  have cA := oA.cap
  have cB := oB.cap
  clear k110 k210 o610 o10
  (refine TA_take 0 rfl (by kernel_rfl) (by kernel_rfl) (by kernel_rfl) ?_; repeat (first | refine TL_move (hk := ?_) | refine TLP_load TE (hk := ?_) | refine TL_fieldAddr TE (hk := ?_) | refine TL_len TE (hk := ?_) | refine TL_slice_hi TE (hk := ?_) | refine TL_build TE (hk := ?_)); refine TL_nil_p ?_); (refine TA_take 1 rfl (by kernel_rfl) (by kernel_rfl) (by kernel_rfl) ?_; repeat (first | refine TL_move (hk := ?_) | refine TLP_load TE (hk := ?_) | refine TL_fieldAddr TE (hk := ?_) | refine TL_len TE (hk := ?_) | refine TL_slice_hi TE (hk := ?_) | refine TL_build TE (hk := ?_)); refine TL_nil_p ?_); (refine TA_take 2 rfl (by kernel_rfl) (by kernel_rfl) (by kernel_rfl) ?_; repeat (first | refine TL_move (hk := ?_) | refine TLP_load TE (hk := ?_) | refine TL_fieldAddr TE (hk := ?_) | refine TL_len TE (hk := ?_) | refine TL_slice_hi TE (hk := ?_) | refine TL_build TE (hk := ?_)); refine TL_nil_p ?_); (refine TA_take 3 rfl (by kernel_rfl) (by kernel_rfl) (by kernel_rfl) ?_; repeat (first | refine TL_move (hk := ?_) | refine TLP_load TE (hk := ?_) | refine TL_fieldAddr TE (hk := ?_) | refine TL_len TE (hk := ?_) | refine TL_slice_hi TE (hk := ?_) | refine TL_build TE (hk := ?_)); refine TL_nil_p ?_); (refine TA_take 4 rfl (by kernel_rfl) (by kernel_rfl) (by kernel_rfl) ?_; repeat (first | refine TL_move (hk := ?_) | refine TLP_load TE (hk := ?_) | refine TL_fieldAddr TE (hk := ?_) | refine TL_len TE (hk := ?_) | refine TL_slice_hi TE (hk := ?_) | refine TL_build TE (hk := ?_)); refine TL_nil_p ?_); (refine TA_take 5 rfl (by kernel_rfl) (by kernel_rfl) (by kernel_rfl) ?_; repeat (first | refine TL_move (hk := ?_) | refine TLP_load TE (hk := ?_) | refine TL_fieldAddr TE (hk := ?_) | refine TL_len TE (hk := ?_) | refine TL_slice_hi TE (hk := ?_) | refine TL_build TE (hk := ?_)); refine TL_nil_p ?_); (refine TA_take 6 rfl (by kernel_rfl) (by kernel_rfl) (by kernel_rfl) ?_; repeat (first | refine TL_move (hk := ?_) | refine TLP_load TE (hk := ?_) | refine TL_fieldAddr TE (hk := ?_) | refine TL_len TE (hk := ?_) | refine TL_slice_hi TE (hk := ?_) | refine TL_build TE (hk := ?_)); refine TL_nil_p ?_); (refine TA_take 7 rfl (by kernel_rfl) (by kernel_rfl) (by kernel_rfl) ?_; repeat (first | refine TL_move (hk := ?_) | refine TLP_load TE (hk := ?_) | refine TL_fieldAddr TE (hk := ?_) | refine TL_len TE (hk := ?_) | refine TL_slice_hi TE (hk := ?_) | refine TL_build TE (hk := ?_)); refine TL_nil_p ?_); (refine TA_take 8 rfl (by kernel_rfl) (by kernel_rfl) (by kernel_rfl) ?_; repeat (first | refine TL_move (hk := ?_) | refine TLP_load TE (hk := ?_) | refine TL_fieldAddr TE (hk := ?_) | refine TL_len TE (hk := ?_) | refine TL_slice_hi TE (hk := ?_) | refine TL_build TE (hk := ?_)); refine TL_nil_p ?_); (refine TA_take 9 rfl (by kernel_rfl) (by kernel_rfl) (by kernel_rfl) ?_; repeat (first | refine TL_move (hk := ?_) | refine TLP_load TE (hk := ?_) | refine TL_fieldAddr TE (hk := ?_) | refine TL_len TE (hk := ?_) | refine TL_slice_hi TE (hk := ?_) | refine TL_build TE (hk := ?_)); refine TL_nil_p ?_); (refine TA_take 10 rfl (by kernel_rfl) (by kernel_rfl) (by kernel_rfl) ?_; repeat (first | refine TL_move (hk := ?_) | refine TLP_load TE (hk := ?_) | refine TL_fieldAddr TE (hk := ?_) | refine TL_len TE (hk := ?_) | refine TL_slice_hi TE (hk := ?_) | refine TL_build TE (hk := ?_)); refine TL_nil_p ?_)
  refine TA_one 11 rfl (by kernel_rfl) (by kernel_rfl) ?_
  refine TL_storea TE (hf := rfl) (hq := fun w' h _ => h) (hk := ?_); intro w12 m12 z12 k12
  refine TL_nil_p ?_
  refine TA_done (by kernel_rfl) ?_
  --
  have e012 : Ext w w12 := Mod.step (((e02.ext e26).ext e610).ext e11) m12 (by simp; omega)
  have oA12 := oA.mod m12 (Off.hi oA.hi (by omega))
  have oB12 := oB.mod m12 (Off.hi oB.hi (by omega))
  refine T_retA1 TE (vs := [.slice A6 n c6, .slice A10 m c10]) (o := 0) rfl rfl rfl rfl k12 rfl (Nat.succ_pos _) ⟨⟨A6, c6, A10, c10, by rw [hr, hk], ?_, ?_⟩, e012⟩
  · have := oA12.weaken (base' := w.heap.size) (by omega)
    rw [hr, sv_append]
    simpa using this
  · have := oB12.weaken (base' := w.heap.size) (by omega)
    rw [hk, sv_append]
    simpa using this
end Go.Proofs.Ytfplmpfdhiagaaa

namespace Go.Proofs.Ytfplmpfdhiagaaa
open Go.RowKit Go.Proofs.Eng Go.Proofs.Foot Go.Proofs.Codec
set_option linter.unusedSimpArgs false
set_option linter.unusedVariables false
attribute [local irreducible] T TL LV TH TA
theorem last_behind (r : List Tx) (n : Nat) (h : r.length = n) : ofL ((r ++ [behind]).getD n []) = ⟨#[98, 101, 104, 105, 110, 100]⟩ := by
  subst h
  rw [List.getD_eq_getElem?_getD, List.getElem?_append_right (Nat.le_refl _)]
  simp [behind, ofL]
theorem take_behind {w : World} {A : Option Addr} {r : List Tx} {n : Nat} (h : Rd w A (n + 1) 1 (sv (r ++ [behind]))) (hn : r.length = n) : Rd w A n 1 (sv r) := by
  have := h.take (h := n) (by omega)
  rw [sv_append, Nat.mul_one, List.take_append_of_le_length (by simp [hn]), List.take_of_length_le (by simp [hn])] at this
  exact this
theorem kept_c3 (A B A0 B0 : Option Addr) (n m c d c0 d0 : Nat) (r k : List Tx) (w : World) (h : Rd w A (n + 1) 1 (sv (r ++ [behind]))) (g : Rd w B (m + 1) 1 (sv (k ++ [behind]))) (hc : n + 1 ≤ c) (hd : m + 1 ≤ d) (h0 : Rd w A0 n 1 (sv r)) (g0 : Rd w B0 m 1 (sv k)) (hn : n ≤ 50000) (hm : m ≤ 50000) :
    Ret Try.prog 21 [.agg #[.slice A n c, .slice B m d], .agg #[.slice A0 n c0, .slice B0 m d0]] w (fun v w' => v = .bool true ∧ Ext w w') := by
  have hr : r.length = n := by simpa using h0.1
  have hk : k.length = m := by simpa using g0.1
  have lr := last_behind r n hr
  have lk := last_behind k m hk
  refine ret_T (n := 42) Try.func21 rfl rfl ?_
  repeat (first | refine T_seq ?_ | refine T_region ?_)
  refine TL_box (hk := ?_); intro b1 w1 e1 h1 h1' k1
  refine TL_box (hk := ?_); intro b2 w2 e2 h2 h2' k2
  have k12 := k1.be e2
  have e02 := e1.ext e2
  clear k1
  repeat (first | refine T_seq ?_ | refine T_region ?_ | refine TL_add (hk := ?_) | refine TL_nil ?_ | refine TL_assign (hk := ?_) | refine TL_load TE (hk := ?_) | refine TL_fieldAddr TE (hk := ?_) | refine TL_len TE (hk := ?_) | refine TL_slice_hi TE (hk := ?_))
  refine TL_loadb TE (cs := [.slice A n c, .slice B m d]) (o := 0) rfl rfl k12 rfl rfl (Nat.succ_pos _) (hk := ?_)
  refine TL_loadb TE (cs := [.slice A0 n c0, .slice B0 m d0]) (o := 0) rfl rfl k2 rfl rfl (Nat.succ_pos _) (hk := ?_)
  refine TL_call TE (hc := Same_c A B A0 B0 n m n m c d c0 d0 r k r k w2 ((take_behind h hr).be e02) ((take_behind g hk).be e02) (h0.be e02) (g0.be e02) (by omega) (by omega) (by omega) (by omega)) (hk := ?_)
  rintro _ w3 ⟨rfl, e3⟩
  have e03 := e02.ext e3
  have k13 := k12.be e3
  have k23 := k2.be e3
  have h3 := h.be e03
  have g3 := g.be e03
  clear k12 k2 h g h0 g0
  rw [show decide (r = r ∧ k = k) = true by simp]
  repeat (first | refine TL_seq_t (hk := ?_) | refine TL_nil ?_ | refine TL_move (hk := ?_) | refine TL_assign (hk := ?_) | refine TL_load TE (hk := ?_) | refine TL_fieldAddr TE (hk := ?_) | refine TL_indexAddr1n TE (hk := ?_) | refine TL_len TE (hk := ?_) | refine TL_yes (hk := ?_) | refine TL_pick_t (hk := ?_) | refine TL_load_s TE (hk := ?_))
  exact T_ret1 rfl rfl ⟨rfl, e03⟩
end Go.Proofs.Ytfplmpfdhiagaaa

namespace Go.Proofs.Ytfplmpfdhiagaaa
open Go.RowKit Go.Proofs.Eng Go.Proofs.Foot Go.Proofs.Codec
set_option linter.unusedSimpArgs false
set_option linter.unusedVariables false
attribute [local irreducible] T TL LV TH TA
abbrev tA : Tx := [97]
abbrev tB : Tx := [98]
theorem live_norm : normF [tB, tA, tB] [tA] = (([tA, tB], [tA]), 0) := by rw [norm_eq]; decide +kernel
theorem live_is : isNorm [tA, tB] [tA] = true := by
  have : normF [tA, tB] [tA] = (([tA, tB], [tA]), 0) := by rw [norm_eq]; decide +kernel
  unfold isNorm
  rw [this]
  decide
theorem live_put : putB (ofM [tA, tB] [tA]) = [2, 1, 97, 3, 1, 98, 1] := by
  unfold putB
  rw [keys3]
  have : setT ([tA, tB] ++ [tA]) = [tA, tB] := by decide +kernel
  rw [this]
  unfold bodyB entryB
  have h1 : bitsM (ofM [tA, tB] [tA]) tA = 3 := by decide +kernel
  have h2 : bitsM (ofM [tA, tB] [tA]) tB = 1 := by decide +kernel
  simp only [List.map_cons, List.map_nil, h1, h2, List.length_cons, List.length_nil, encU_lt (n := 0 + 1 + 1) (by decide), encU_lt (n := 0 + 1) (by decide)]
  decide
theorem live_get : getF [2, 1, 97, 3, 1, 98, 1] = ((([tA, tB], [tA]), 7), 0) := by decide +kernel
theorem short_of {l : List Tx} (h : (l.all fun x => Nat.ble x.length 32) = true) : Short l := fun i hi => by
  have h1 := List.all_eq_true.1 h (l.getD i []) (getD_mem hi)
  have := Nat.le_of_ble_eq_true h1
  omega
theorem live_c3 (w : World) : Ret Try.prog 13 [] w (fun v w' => v = .bool true ∧ Ext w w') := by
  refine ret_T (n := 74) Try.func13 rfl rfl ?_
  repeat (first | refine T_seq ?_ | refine T_region ?_ | refine TL_nil ?_ | refine TL_assign (hk := ?_))
  refine TL_buildSlice TE (hk := ?_); intro b1 w1 e1 h1 h1' k1
  replace k1 : Blk w1 b1 9 (sv [tB, tA, tB]) := k1
  refine TL_buildSlice TE (hk := ?_); intro b2 w2 e2 h2 h2' k2
  replace k2 : Blk w2 b2 9 (sv [tA]) := k2
  have e02 := e1.ext e2
  repeat (refine TL_build TE (hk := ?_))
  refine TL_call TE (hc := Norm_c (some ⟨b1, 0, none⟩) (some ⟨b2, 0, none⟩) 3 3 1 1 [tB, tA, tB] [tA] w2 (Rd.blk (k1.be e2) rfl) (Rd.blk k2 rfl) (by omega) (by omega) (short_of rfl) (short_of rfl)) (hk := ?_)
  rw [live_norm]
  rintro _ w3 ⟨_, rfl, e3, A, n, c, B, m, d, rfl, oA, oB, off⟩
  have hn : n = 2 := by have := oA.len; simpa using this.symm
  have hm : m = 1 := by have := oB.len; simpa using this.symm
  subst hn hm
  repeat (first | refine TL_move (hk := ?_) | refine TL_extract (hk := ?_))
  refine TL_alloc TE (hk := ?_); intro b4 w4 e4 h4 h4' k4
  --
  refine TL_storea TE (hk := ?_); intro w5 m5 z5 k5
  have z1 := e1.size
  have z2 := e2.size
  have z3 := e3.size
  have z4 := e4.size
  have e05 : Ext w w5 := Mod.step ((e02.ext e3).ext e4) m5 (by simp; omega)
  have oA5 := (oA.be e4).mod m5 (Off.lo oA.lo (by omega))
  have oB5 := (oB.be e4).mod m5 (Off.lo oB.lo (by omega))
  clear oA oB k1 k2 k4
  repeat (first | refine T_seq ?_ | refine T_region ?_ | refine TL_nil ?_ | refine TL_move (hk := ?_) | refine TL_assign (hk := ?_))
  refine TL_call TE (hc := num_c3 0 _) (hk := ?_)
  rintro _ _ ⟨rfl, rfl⟩
  repeat (first | refine TL_ne_f (hk := ?_) | refine TL_move (hk := ?_) | refine TL_yes (hk := ?_))
  refine TL_loadb TE (cs := [.slice A 2 c, .slice B 1 d]) (o := 0) rfl rfl k5 rfl rfl (Nat.succ_pos _) (hk := ?_)
  repeat (refine TL_yes (hk := ?_))
  refine TL_buildSlice TE (hk := ?_); intro b6 w6 e6 h6 h6' k6
  replace k6 : Blk w6 b6 9 (sv [tA, tB]) := k6
  repeat (refine TL_yes (hk := ?_))
  refine TL_buildSlice TE (hk := ?_); intro b7 w7 e7 h7 h7' k7
  replace k7 : Blk w7 b7 9 (sv [tA]) := k7
  have e57 := e6.ext e7
  repeat (first | refine TL_yes (hk := ?_) | refine TL_build TE (hk := ?_))
  refine TL_call TE (hc := Same_c A B (some ⟨b6, 0, none⟩) (some ⟨b7, 0, none⟩) 2 1 2 1 c d 2 1 [tA, tB] [tA] [tA, tB] [tA] w7 (oA5.rd.be e57) (oB5.rd.be e57) (Rd.blk (k6.be e7) rfl) (Rd.blk k7 rfl) (by omega) (by omega) (by omega) (by omega)) (hk := ?_)
  rintro _ w8 ⟨rfl, e8⟩
  have e58 := e57.ext e8
  have k58 := k5.be e58
  have oA8 := oA5.be e58
  have oB8 := oB5.be e58
  have e08 := e05.ext e58
  clear k5 oA5 oB5 k6 k7
  rw [show decide ([tA, tB] = [tA, tB] ∧ [tA] = [tA]) = true by decide]
  repeat (first | refine T_seq ?_ | refine T_region ?_ | refine T_cond_false rfl ?_ | refine T_skip ?_ | refine TL_nil ?_ | refine TL_yes (hk := ?_) | refine TL_pick_f (hk := ?_) | refine TL_not (hk := ?_))
  refine TL_loadb TE (cs := [.slice A 2 c, .slice B 1 d]) (o := 0) rfl rfl k58 rfl rfl (Nat.succ_pos _) (hk := ?_)
  refine TL_call TE (hc := Put_c none A B 0 0 2 c 1 d [] [tA, tB] [tA] w8 (Rd.nil _ _ _) oA8.rd oB8.rd (by omega) (by omega) (by omega) (short_of rfl) (short_of rfl)) (hk := ?_)
  rw [if_pos live_is, if_pos live_is, live_put]
  rintro _ w9 ⟨Q, nq, cq, rfl, e9, oQ⟩
  have hnq : nq = 7 := by have := oQ.len; simpa using this.symm
  subst hnq
  repeat (first | refine T_seq ?_ | refine T_region ?_ | refine TL_nil ?_ | refine TL_move (hk := ?_) | refine TL_assign (hk := ?_) | refine TL_extract (hk := ?_))
  refine TL_call TE (hc := Get_c Q 7 cq [2, 1, 97, 3, 1, 98, 1] w9 oQ.rd (by omega)) (hk := ?_)
  rw [live_get]
  rintro _ w10 ⟨_, rfl, e10, A2, n2, c2, B2, m2, d2, rfl, oA2, oB2, off2⟩
  have hn2 : n2 = 2 := by have := oA2.len; simpa using this.symm
  have hm2 : m2 = 1 := by have := oB2.len; simpa using this.symm
  subst hn2 hm2
  have h77 : ((((([tA, tB], [tA]), 7), 0) : ((List Tx × List Tx) × Nat) × Int).fst.snd : Int) = 7 := rfl
  have e810 := e9.ext e10
  have z8 := e08.size
  have z9 := e9.size
  have z10 := e10.size
  have k510 := k58.be e810
  have oA10 := oA8.be e810
  have oB10 := oB8.be e810
  have e010 := e08.ext e810
  clear k58 oA8 oB8 oQ
  repeat (first | refine TL_move (hk := ?_) | refine TL_extract (hk := ?_))
  refine TL_alloc TE (hk := ?_); intro b11 w11 e11 h11 h11' k11
  --
  refine TL_storea TE (hk := ?_); intro w12 m12 z12 k12
  have z11 := e11.size
  have e1012 : Ext w10 w12 := Mod.step e11 m12 (by simp; omega)
  have oA12 := oA10.be e1012
  have oB12 := oB10.be e1012
  have k512 := k510.be e1012
  have o2A := oA2.be e1012
  have o2B := oB2.be e1012
  clear oA10 oB10 k510 oA2 oB2 k11
  repeat (first | refine T_seq ?_ | refine T_region ?_ | refine TL_nil ?_ | refine TL_move (hk := ?_) | refine TL_assign (hk := ?_))
  refine TL_call TE (hc := num_c3 0 _) (hk := ?_)
  rintro _ _ ⟨rfl, rfl⟩
  repeat (first | refine TL_eq_t (hk := ?_) | refine TL_move (hk := ?_) | refine TL_yes (hk := ?_))
  refine TL_call TE (hc := num_c3 0 _) (hk := ?_)
  rintro _ _ ⟨rfl, rfl⟩
  repeat (first | refine TL_eq_t (hk := ?_) | refine TL_move (hk := ?_) | refine TL_yes (hk := ?_) | refine TL_pick_t (hk := ?_))
  refine TL_loadb TE (cs := [.slice A2 2 c2, .slice B2 1 d2]) (o := 0) rfl rfl k12 rfl rfl (Nat.succ_pos _) (hk := ?_)
  repeat (refine TL_yes (hk := ?_))
  refine TL_loadb TE (cs := [.slice A 2 c, .slice B 1 d]) (o := 0) rfl rfl k512 rfl rfl (Nat.succ_pos _) (hk := ?_)
  repeat (refine TL_yes (hk := ?_))
  refine TL_call TE (hc := Same_c A2 B2 A B 2 1 2 1 c2 d2 c d [tA, tB] [tA] [tA, tB] [tA] _ o2A.rd o2B.rd oA12.rd oB12.rd (by omega) (by omega) (by omega) (by omega)) (hk := ?_)
  rintro _ w13 ⟨rfl, e13⟩
  rw [show decide ([tA, tB] = [tA, tB] ∧ [tA] = [tA]) = true by decide]
  have k513 := k512.be e13
  have oA13 := oA12.be e13
  have oB13 := oB12.be e13
  have e013 := (e010.ext e1012).ext e13
  clear k512 oA12 oB12 o2A o2B k12
  repeat (first | refine TL_move (hk := ?_) | refine TL_yes (hk := ?_) | refine TL_pick_t (hk := ?_))
  refine TL_loadb TE (cs := [.slice A 2 c, .slice B 1 d]) (o := 0) rfl rfl k513 rfl rfl (Nat.succ_pos _) (hk := ?_)
  repeat (refine TL_yes (hk := ?_))
  refine TL_buildSlice TE (hk := ?_); intro b14 w14 e14 h14 h14' k14
  replace k14 : Blk w14 b14 9 (sv [tA]) := k14
  repeat (first | refine TL_yes (hk := ?_) | refine TL_build TE (hk := ?_))
  refine TL_call TE (hc := Clash_c A B (some ⟨b14, 0, none⟩) none 2 1 1 0 c d 1 0 [tA, tB] [tA] [tA] [] _ (oA13.rd.be e14) (oB13.rd.be e14) (Rd.blk k14 rfl) (Rd.nil _ _ _) (by omega) (by omega) (by omega) (by omega)) (hk := ?_)
  rintro _ w15 ⟨rfl, e15⟩
  rw [show (ofM [tA, tB] [tA]).any (clash1 (ofM [tA] [])) = true by decide +kernel]
  have e1315 := e14.ext e15
  have k515 := k513.be e1315
  have oA15 := oA13.be e1315
  have oB15 := oB13.be e1315
  have e015 := e013.ext e1315
  clear k513 oA13 oB13 k14
  repeat (first | refine TL_move (hk := ?_) | refine TL_yes (hk := ?_) | refine TL_pick_t (hk := ?_))
  refine TL_loadb TE (cs := [.slice A 2 c, .slice B 1 d]) (o := 0) rfl rfl k515 rfl rfl (Nat.succ_pos _) (hk := ?_)
  repeat (refine TL_yes (hk := ?_))
  refine TL_buildSlice TE (hk := ?_); intro b16 w16 e16 h16 h16' k16
  replace k16 : Blk w16 b16 9 (sv [tB]) := k16
  repeat (first | refine TL_yes (hk := ?_) | refine TL_build TE (hk := ?_))
  refine TL_call TE (hc := Clash_c A B (some ⟨b16, 0, none⟩) none 2 1 1 0 c d 1 0 [tA, tB] [tA] [tB] [] _ (oA15.rd.be e16) (oB15.rd.be e16) (Rd.blk k16 rfl) (Rd.nil _ _ _) (by omega) (by omega) (by omega) (by omega)) (hk := ?_)
  rintro _ w17 ⟨rfl, e17⟩
  rw [show (ofM [tA, tB] [tA]).any (clash1 (ofM [tB] [])) = false by decide +kernel]
  have e017 := e015.ext (e16.ext e17)
  clear k515 oA15 oB15 k16
  repeat (first | refine TL_move (hk := ?_) | refine TL_yes (hk := ?_) | refine TL_pick_t (hk := ?_) | refine TL_not (hk := ?_))
  refine TL_call TE (hc := Valid_c tA (by decide) _) (hk := ?_)
  rintro _ _ ⟨rfl, rfl⟩
  rw [show validT tA = true by decide]
  repeat (first | refine TL_move (hk := ?_) | refine TL_yes (hk := ?_) | refine TL_pick_t (hk := ?_))
  refine TL_call TE (hc := Hash_c tA (by decide) _) (hk := ?_)
  rintro _ _ ⟨rfl, rfl⟩
  rw [show hashT tA = 12638187200555641996 by decide +kernel]
  repeat (first | refine TL_eq_t (hk := ?_) | refine TL_nil ?_ | refine TL_assign (hk := ?_) | refine TL_yes (hk := ?_) | refine TL_pick_t (hk := ?_))
  exact T_ret1 rfl rfl ⟨rfl, e017⟩
end Go.Proofs.Ytfplmpfdhiagaaa

/- What an argument that reads as data looks like, when each row and text of it lies within the reach. -/
namespace Go.Proofs.Eng
open Go.RowKit Go.WideShapes
set_option linter.unusedSimpArgs false
set_option linter.unusedVariables false
/-- Bytes of a type, at least. -/
def Ty.wt : Ty → Nat
  | .int _ => 1
  | .bool => 1
  | .str => 16
  | .slice _ => 24
  | .unit => 0
  | .cons a b => a.wt + b.wt
  | .struct p => p.wt
  | .array n e => n * e.wt
def FitS (w : World) : Ty → List Value → Prop
  | .int k, cs => ∃ n, cs = [.int k n] ∧ Fits k n
  | .bool, cs => ∃ b, cs = [.bool b]
  | .str, cs => ∃ s : ByteArray, cs = [.string s] ∧ s.size ≤ 140737488351232
  | .slice e, cs => ∃ (A : Option Addr) (n c : Nat) (xs : List (List Value)), cs = [.slice A n c] ∧ n ≤ c ∧ c ≤ maxLen ∧ c * e.wt ≤ 140737488351232 ∧ xs.length = n ∧ Rd w A n e.size xs.flatten ∧ ∀ x ∈ xs, x.length = e.size ∧ FitS w e x
  | .unit, cs => cs = []
  | .cons a b, cs => ∃ x y, cs = x ++ y ∧ x.length = a.size ∧ FitS w a x ∧ FitS w b y
  | .struct p, cs => FitS w p cs
  | .array n e, cs => ∃ xs : List (List Value), cs = xs.flatten ∧ xs.length = n ∧ ∀ x ∈ xs, x.length = e.size ∧ FitS w e x
def tyW {P : Program} (E : Env P) : Ty → Where → Bool
  | .slice e, .at t => match E.und t with
    | some (.slice u) => match E.inf u with
      | some (_, b, _) => Nat.ble e.wt b && tyW E e (.at u)
      | none => false
    | _ => false
  | .array n e, .at t => match E.und t with
    | some (.array m u) => tyW E e (.at u)
    | _ => false
  | .struct p, .at t => match E.fld t with
    | some fl => tyW E p (.from 0 fl)
    | none => false
  | .cons a b, .from off ((o, t) :: fl) => tyW E a (.at t) && tyW E b (.from (off + a.size) fl)
  | _, _ => true
section
variable {H : Type} {enc : TypeId × Value → H} {P : Program} {w : World} {base : Nat} {held : Bool}
theorem weightsAll_mem {e : TypeId} : ∀ {l : List (DataW H)} {d : DataW H}, d ∈ l → ∀ k ∈ d.weights P e, k ∈ DataW.weightsAll P e l
  | a :: l, d, h, k, hk => by
    simp only [DataW.weightsAll, List.mem_append]
    rcases List.mem_cons.1 h with rfl | h
    · exact .inl hk
    · exact .inr (weightsAll_mem h k hk)
theorem fits_of_trod (E : Env P) : ∀ (ty : Ty),
    (∀ t, tyOk E ty (.at t) = true → tyW E ty (.at t) = true → ∀ fuel cs x, DataW.trod enc P w base (fun _ => true) held fuel t cs = some x → (∀ k ∈ x.1.weights P t, k ≤ reachBytes) → FitS w ty cs) ∧
    (∀ off fl, tyOk E ty (.from off fl) = true → tyW E ty (.from off fl) = true → ∀ (cs : List Value) (ys : List (DataW H × List MemPlace)), cs.length = off + ty.size → ys.length = fl.length →
      (∀ (i : Nat) (o : Nat) (t : TypeId) y, fl[i]? = some (o, t) → ys[i]? = some y → ∃ n, DataW.trod enc P w base (fun _ => true) held n t ((cs.drop o).take (P.cellsOf t)) = some y) →
      (∀ k ∈ DataW.weightsEach P (fl.map (·.2)) (ys.map (·.1)), k ≤ reachBytes) → FitS w ty (cs.drop off)) := by
  intro ty
  induction ty with
  | int k =>
    refine ⟨fun t h _ fuel cs x hd _ => ?_, fun _ _ h => by simp [tyOk] at h⟩
    obtain ⟨n, h1, h3, h2⟩ := DataW.trod_int (und_int h) hd
    exact ⟨n, h1, fits_of_wf h2⟩
  | bool =>
    refine ⟨fun t h _ fuel cs x hd _ => ?_, fun _ _ h => by simp [tyOk] at h⟩
    obtain ⟨b, h1, h3⟩ := DataW.trod_bool (und_bool h) hd
    exact ⟨b, h1⟩
  | str =>
    refine ⟨fun t h _ fuel cs x hd hw => ?_, fun _ _ h => by simp [tyOk] at h⟩
    obtain ⟨s, h1, h3, h2⟩ := DataW.trod_string (und_str h) hd
    rw [h3] at hw
    have := hw s.data.toList.length (by simp [DataW.weights])
    refine ⟨s, h1, ?_⟩
    simpa [reachBytes] using this
  | slice e ih =>
    refine ⟨fun t h hW fuel cs x hd hw => ?_, fun _ _ h => by simp [tyOk] at h⟩
    simp only [tyOk] at h
    simp only [tyW] at hW
    split at h
    · rename_i u hu
      simp only [Bool.and_eq_true] at h
      obtain ⟨⟨h1, h2⟩, h3⟩ := h
      rw [hu] at hW
      simp only at hW
      split at hW
      · rename_i s' by_ z' hinf
        simp only [Bool.and_eq_true] at hW
        obtain ⟨hW1, hW2⟩ := hW
        have hW1 := Nat.le_of_ble_eq_true hW1
        have hsz := sizeIs_ok h2
        have h0 : 0 < e.size := by simpa [Nat.blt_eq] using h3
        have hund := E.und_ok _ _ hu
        have hbytes : P.bytesOf u = by_ := by
          obtain ⟨i, i1, i2, i3, i4⟩ := E.inf_ok _ _ _ _ hinf
          simp [Program.bytesOf, i1, i3]
        rcases DataW.trod_slice hund hd with ⟨rfl, hx⟩ | ⟨a, len, cap, elems, rest, n, _, rfl, hx, hb, hl, hm, hlen, hel, hsp, _⟩
        · exact ⟨none, 0, 0, [], rfl, Nat.le_refl _, by decide, by simp, rfl, Rd.nil _ _ _, by simp⟩
        · have hrest := (hsp rfl).1
          rw [hx] at hw
          simp only [DataW.weights, hund, List.length_map, hbytes] at hw
          have hcap := hw _ (List.mem_cons_self ..)
          rw [hlen, hrest] at hcap
          have hcap2 : cap * e.wt ≤ 140737488351232 := by
            have e1 : len + (cap - len) = cap := by omega
            rw [e1] at hcap
            have := Nat.mul_le_mul_left cap hW1
            simp only [reachBytes] at hcap
            omega
          rw [hsz] at hel
          have hget : ∀ i, i < len → ∃ y z, w.cells? base (a.add (i * e.size)) e.size = some y ∧ elems[i]? = some z ∧ DataW.trod enc P w base (fun _ => true) held n u y = some z := fun i hi => by
            have h4 := hel i hi
            rw [List.getElem?_eq_getElem (by omega)] at h4
            cases hc : w.cells? base (a.add (i * e.size)) e.size with
            | none => rw [hc] at h4; simp at h4
            | some y => rw [hc] at h4; simp at h4; exact ⟨y, _, rfl, List.getElem?_eq_getElem (by omega), h4⟩
          have hsome : ∀ (i : Nat) (x : List Value), ((List.range len).map fun i => (w.cells? base (a.add (i * e.size)) e.size).getD [])[i]? = some x → w.cells? base (a.add (i * e.size)) e.size = some x ∧ x.length = e.size ∧ FitS w e x := fun i x hx => by
            have hi : i < len := by have := (List.getElem?_eq_some_iff.1 hx).1; simpa using this
            obtain ⟨y, z, hy, hz, ht⟩ := hget i hi
            rw [List.getElem?_map, List.getElem?_range hi] at hx
            simp only [Option.map_some, hy, Option.getD_some, Option.some.injEq] at hx
            subst hx
            refine ⟨hy, (World.cells?_some hy).2.1, ih.1 u h1 hW2 n y z ht fun k hk => hw k (List.mem_cons_of_mem _ (List.mem_append_left _ ?_))⟩
            exact weightsAll_mem (List.mem_map_of_mem (List.mem_of_getElem? hz)) k hk
          have hmem : ∀ x ∈ (List.range len).map (fun i => (w.cells? base (a.add (i * e.size)) e.size).getD []), x.length = e.size ∧ FitS w e x := fun x hx => by
            obtain ⟨i, hi⟩ := List.getElem?_of_mem hx
            exact (hsome i x hi).2
          exact ⟨some a, len, cap, _, rfl, hl, hm, hcap2, by simp, rows_read h0 (by simp) (fun i x hx => (hsome i x hx).1) (fun x hx => (hmem x hx).1), hmem⟩
      · cases hW
    · cases h
  | unit =>
    refine ⟨fun t h => by simp [tyOk] at h, fun off fl h _ cs ys hl _ _ _ => ?_⟩
    show cs.drop off = []
    exact List.drop_of_length_le (by simp only [Ty.size] at hl; omega)
  | cons a b iha ihb =>
    refine ⟨fun t h => by simp [tyOk] at h, fun off fl h hW cs ys hl hyl hf hw => ?_⟩
    cases fl with
    | nil => simp [tyOk] at h
    | cons p fl =>
      cases ys with
      | nil => simp at hyl
      | cons y ys =>
        obtain ⟨o, t⟩ := p
        simp only [tyOk, Bool.and_eq_true] at h
        simp only [tyW, Bool.and_eq_true] at hW
        obtain ⟨⟨⟨h1, h2⟩, h3⟩, h4⟩ := h
        have ho := Nat.eq_of_beq_eq_true h1
        subst ho
        simp only [Ty.size] at hl
        have hsz := sizeIs_ok h3
        obtain ⟨n, hx⟩ := hf 0 o t y rfl rfl
        rw [hsz] at hx
        simp only [List.map_cons, DataW.weightsEach, List.mem_append] at hw
        refine ⟨(cs.drop o).take a.size, cs.drop (o + a.size), ?_, by simp; omega, iha.1 t h2 hW.1 n _ y hx (fun k hk => hw k (.inl hk)), ?_⟩
        · rw [← List.drop_drop, List.take_append_drop]
        · exact ihb.2 (o + a.size) fl h4 hW.2 cs ys (by omega) (by simpa using hyl) (fun i o' t' y' h' g' => hf (i + 1) o' t' y' (by simpa using h') (by simpa using g')) (fun k hk => hw k (.inr hk))
  | struct p ih =>
    refine ⟨fun t h hW fuel cs x hd hw => ?_, fun _ _ h => by simp [tyOk] at h⟩
    simp only [tyOk] at h
    simp only [tyW] at hW
    split at h
    · rename_i fl hfl
      rw [hfl] at hW
      simp only [Bool.and_eq_true] at h
      obtain ⟨h1, h2⟩ := h
      obtain ⟨fs, hu, hmap⟩ := E.fld_ok _ _ hfl
      obtain ⟨xs, n, _, hx, hl, hxl, hfs⟩ := DataW.trod_struct hu hd
      rw [sizeIs_ok h2] at hl
      have e9 : fl.map (·.2) = fs.toList.map (·.type) := by rw [← hmap]; simp
      have := ih.2 0 fl h1 hW cs xs (by omega) (by rw [hxl, ← hmap]; simp) (fun i o t y h' g' => by
        rw [← hmap, List.getElem?_map] at h'
        cases hf : fs.toList[i]? with
        | none => rw [hf] at h'; cases h'
        | some f =>
          rw [hf] at h'
          cases h'
          have hf' : fs[i]? = some f := by simpa using hf
          have h5 := hfs i f hf'
          rw [g'] at h5
          exact ⟨n, h5⟩) (fun k hk => hw k (by rw [hx]; simp only [DataW.weights, hu]; rw [← e9]; exact hk))
      simpa [FitS] using this
    · cases h
  | array n e ih =>
    refine ⟨fun t h hW fuel cs x hd hw => ?_, fun _ _ h => by simp [tyOk] at h⟩
    simp only [tyOk] at h
    simp only [tyW] at hW
    split at h
    · rename_i m u hu
      rw [hu] at hW
      simp only [Bool.and_eq_true] at h
      obtain ⟨⟨⟨h1, h2⟩, h3⟩, h4⟩ := h
      have hm := Nat.eq_of_beq_eq_true h1
      subst hm
      have hund := E.und_ok _ _ hu
      obtain ⟨xs, q, _, hx, hl, hxl, hel⟩ := DataW.trod_array hund hd
      rw [sizeIs_ok h4] at hl
      rw [sizeIs_ok h3] at hel
      refine ⟨(List.range m).map fun i => (cs.drop (i * e.size)).take e.size, (take_drop_chunks m cs hl).symm, by simp, fun y hy => ?_⟩
      obtain ⟨i, hi, rfl⟩ := List.mem_map.1 hy
      have hi' : i < m := by simpa using hi
      have h5 := hel i hi'
      cases ht : DataW.trod enc P w base (fun _ => true) held q u ((cs.drop (i * e.size)).take e.size) with
      | none => rw [ht] at h5; rw [List.getElem?_eq_getElem (by omega)] at h5; cases h5
      | some z =>
        refine ⟨?_, ih.1 u h2 hW q _ _ ht fun k hk => hw k ?_⟩
        · have : (i + 1) * e.size ≤ m * e.size := Nat.mul_le_mul_right _ hi'
          rw [Nat.succ_mul] at this
          simp; omega
        · rw [hx]
          simp only [DataW.weights, hund]
          rw [ht] at h5
          exact weightsAll_mem (List.mem_map_of_mem (List.mem_of_getElem? h5.symm)) k hk
    · cases h
/-- An argument that reads as data, each row and text of it within the reach. -/
def ReadsS (P : Program) (w : World) (base : Nat) (t : TypeId) (v : Value) : Prop :=
  ∃ (H : Type) (enc : TypeId × Value → H) (d : DataW H) (ps : List MemPlace), DataW.Trod enc P w 0 (fun _ => true) true t v d ps ∧ Value.okWide P w .any base t v ∧ ∀ k ∈ d.weights P t, k ≤ reachBytes
theorem ReadsS.fit {t : TypeId} {v : Value} (E : Env P) (h : ReadsS P w base t v) (ty : Ty) (hok : tyOk E ty (.at t) = true) (hW : tyW E ty (.at t) = true) : FitS w ty v.cells.toList := by
  obtain ⟨H, enc, d, ps, ⟨fuel, hf⟩, _, hm⟩ := h
  exact (fits_of_trod E ty).1 t hok hW fuel _ _ hf hm
theorem ReadsS.slice {t e : TypeId} {v : Value} (E : Env P) (h : ReadsS P w base t v) (ht : E.und t = some (.slice e)) : ∃ A n c, v = .slice A n c := by
  obtain ⟨_, _, _, _, _, hv, _⟩ := h
  exact okWide_slice (E.und_ok _ _ ht) hv
theorem FitS.fit : ∀ {ty : Ty} {cs : List Value}, FitS w ty cs → Fit w ty cs
  | .int _, _, h => h
  | .bool, _, h => h
  | .str, _, ⟨s, h1, h2⟩ => ⟨s, h1, by unfold maxLen; omega⟩
  | .slice _, _, ⟨A, n, c, xs, h1, h2, h3, _, h5, h6, h7⟩ => ⟨A, n, c, xs, h1, h2, h3, h5, h6, fun x hx => ⟨(h7 x hx).1, FitS.fit (h7 x hx).2⟩⟩
  | .unit, _, h => h
  | .cons _ _, _, ⟨x, y, h1, h2, h3, h4⟩ => ⟨x, y, h1, h2, FitS.fit h3, FitS.fit h4⟩
  | .struct p, _, h => FitS.fit (ty := p) h
  | .array _ _, _, ⟨xs, h1, h2, h3⟩ => ⟨xs, h1, h2, fun x hx => ⟨(h3 x hx).1, FitS.fit (h3 x hx).2⟩⟩
theorem FitS.bytes {A : Option Addr} {n c : Nat} (h : FitS w (.slice (.int .u8)) [.slice A n c]) : ∃ l, Rd w A n 1 (bv l) ∧ n ≤ c ∧ c ≤ 140737488351232 := by
  obtain ⟨l, h1, h2, _⟩ := Fit.bytes h.fit
  obtain ⟨A', n', c', xs, hv, _, _, h3, _⟩ := h
  cases hv
  exact ⟨l, h1, h2, by simpa [Ty.wt] using h3⟩
theorem bytes_inS {H : Type} {enc : TypeId × Value → H} (E : Env P) {t : TypeId} {A : Option Addr} {n c : Nat} {d : DataW H} {ps : List MemPlace} (hok : tyOk E (.slice (.int .u8)) (.at t) = true) (hW : tyW E (.slice (.int .u8)) (.at t) = true)
    (h : DataW.Trod enc P w 0 (fun _ => true) true t (.slice A n c) d ps) (hw : ∀ k ∈ d.weights P t, k ≤ reachBytes) : ∃ l, Rd w A n 1 (bv l) ∧ n ≤ c ∧ c ≤ 140737488351232 := by
  obtain ⟨fuel, hf⟩ := h
  exact FitS.bytes ((fits_of_trod E _).1 t hok hW fuel _ _ hf hw)
theorem each_one {H : Type} {P : Program} {t : TypeId} {ts : List TypeId} {d : DataW H} {ds : List (DataW H)} (h : ∀ k ∈ DataW.weightsEach P (t :: ts) (d :: ds), k ≤ reachBytes) : (∀ k ∈ d.weights P t, k ≤ reachBytes) ∧ ∀ k ∈ DataW.weightsEach P ts ds, k ≤ reachBytes :=
  ⟨fun k hk => h k (by simp only [DataW.weightsEach, List.mem_append]; exact .inl hk), fun k hk => h k (by simp only [DataW.weightsEach, List.mem_append]; exact .inr hk)⟩
end
end Go.Proofs.Eng

namespace Go.Proofs.Ytfplmpfdhiagaaa
open Go.RowKit Go.Proofs.Eng Go.Proofs.Foot Go.Proofs.Codec
set_option linter.unusedSimpArgs false
set_option linter.unusedVariables false
attribute [local irreducible] T TL LV TH TA
/-- A slice of texts, out of an argument. -/
theorem texts_in {w : World} {A : Option Addr} {n c : Nat} (h : FitS w (.slice .str) [.slice A n c]) : ∃ l : List Tx, Rd w A n 1 (sv l) ∧ n ≤ c ∧ n ≤ 8796093021952 ∧ ∀ t ∈ l, t.length ≤ 140737488351232 := by
  obtain ⟨A', n', c', xs, hv, h1, h2, h3, h4, h5, h6⟩ := h
  cases hv
  refine ⟨xs.map fun x => match x with | [.string s] => s.data.toList | _ => [], ?_, h1, by simp only [Ty.wt] at h3; omega, fun t ht => ?_⟩
  · have e : sv (xs.map fun x => match x with | [.string s] => s.data.toList | _ => []) = xs.flatten := by
      clear h4 h5
      induction xs with
      | nil => rfl
      | cons x t ih =>
        obtain ⟨_, s, rfl, hs⟩ := h6 x (by simp)
        have := ih (fun y hy => h6 y (by simp [hy]))
        simp only [sv, List.map_cons, List.flatten_cons] at this ⊢
        rw [this]
        rfl
    rw [e]
    exact h5
  · obtain ⟨x, hx, rfl⟩ := List.mem_map.1 ht
    obtain ⟨_, s, rfl, hs⟩ := h6 x hx
    exact hs
abbrev tyFoot : Ty := .struct (.cons (.slice .str) (.cons (.slice .str) .unit))
theorem short_mem {l : List Tx} (h : ∀ t ∈ l, t.length ≤ 140737488351232) : Short l := fun i hi => by
  have := h _ (getD_mem hi); omega
theorem agg_two {v a b : Value} (h : v.cells.toList = [a, b]) : v = .agg #[a, b] := by
  cases v with
  | agg cs =>
    have e : cs.toList = [a, b] := h
    congr
    exact Array.toList_inj.1 (by simpa using e)
  | _ => simp [Value.cells] at h
theorem foot_in {w : World} {base : Nat} {v : Value} (h : ReadsS Try.prog w base 28 v) :
    ∃ A n c B m d r k, v = .agg #[.slice A n c, .slice B m d] ∧ Rd w A n 1 (sv r) ∧ Rd w B m 1 (sv k) ∧ n ≤ 8796093021952 ∧ m ≤ 8796093021952 ∧ Short r ∧ Short k := by
  obtain ⟨x, y, h1, h2, hx, u, z, h3, h4, hy, hz⟩ := h.fit TE tyFoot (by decide +kernel) (by decide +kernel)
  have hz : z = [] := hz
  subst hz
  simp only [List.append_nil] at h3
  subst h3
  obtain ⟨A, n, c, xs, e1, r1⟩ := hx
  obtain ⟨B, m, d, ys, e2, r2⟩ := hy
  subst e1 e2
  obtain ⟨r, hr, _, hn, sr⟩ := texts_in ⟨A, n, c, xs, rfl, r1⟩
  obtain ⟨k, hk, _, hm, sk⟩ := texts_in ⟨B, m, d, ys, rfl, r2⟩
  exact ⟨A, n, c, B, m, d, r, k, agg_two h1, hr, hk, hn, hm, short_mem sr, short_mem sk⟩
end Go.Proofs.Ytfplmpfdhiagaaa

namespace Go.Proofs.Ytfplmpfdhiagaaa
open Go.RowKit Go.Proofs.Eng Go.Proofs.Foot Go.Proofs.Codec
set_option linter.unusedSimpArgs false
set_option linter.unusedVariables false set_option maxRecDepth 10000
attribute [local irreducible] T TL LV TH TA
theorem gStep_rd (g : GS) : (gStep g).rd.length ≤ g.rd.length + 1 ∧ (gStep g).wr.length ≤ g.wr.length + 1 := by
  unfold gStep
  constructor <;> (simp only; split <;> simp)
theorem gIter_rd (g : GS) : ∀ n, (gIter n g).rd.length ≤ g.rd.length + n ∧ (gIter n g).wr.length ≤ g.wr.length + n
  | 0 => ⟨Nat.le_refl _, Nat.le_refl _⟩
  | n + 1 => by
    have h1 := gIter_rd g n
    have h2 := gStep_rd (gIter n g)
    show (gStep (gIter n g)).rd.length ≤ _ ∧ (gStep (gIter n g)).wr.length ≤ _
    omega
theorem getF_len (b : List UInt8) : (getF b).1.1.1.length ≤ 64 ∧ (getF b).1.1.2.length ≤ 64 := by
  have h1 := gInit_le b
  have h2 := gIter_rd ⟨(gInit b).2, [], [], []⟩ (gInit b).1
  unfold getF
  split
  · show (gAll b).rd.length ≤ 64 ∧ (gAll b).wr.length ≤ 64
    unfold gAll
    simp only [List.length_nil] at h2
    omega
  · simp
theorem head98 {w : World} {A : Option Addr} {n : Nat} {l : List UInt8} (h : Rd w A (n + 2) 1 (bv (l ++ [9, 8]))) (hl : l.length = n) : Rd w A n 1 (bv l) := by
  have h2 := h.take (h := n) (by omega)
  have e : (bv (l ++ [9, 8])).take (n * 1) = bv l := by rw [bv_append, Nat.mul_one, ← hl]; simp
  rw [e] at h2
  exact h2
theorem gb98 {n : Nat} {l : List UInt8} (hl : l.length = n) : gb (l ++ [9, 8]) n = 9 := by
  subst hl
  simp [gb]
theorem putE (p : Bool) (l : List UInt8) : ∃ q, (if p = true then bv l else []) = bv q := by
  cases p
  · exact ⟨[], rfl⟩
  · exact ⟨l, rfl⟩
theorem FootBytes_c (A : Option Addr) (n c : Nat) (l : List UInt8) (v : Value) (B : Option Addr) (m d : Nat) (l2 : List UInt8) (w : World) {base : Nat} (hA : Rd w A n 1 (bv l)) (hnc : n ≤ c) (hcm : c ≤ 140737488351232) (hv : ReadsS Try.prog w base 28 v) (hB : Rd w B m 1 (bv l2)) (hmd : m ≤ d) (hdm : d ≤ 140737488351232) :
    Ret Try.prog 4 [.slice A n c, v, .slice B m d] w (fun v w' => v = .bool true ∧ Ext w w') := by
  obtain ⟨X, nx, cx, Y, ny, cy, r, k, rfl, hX, hY, hnx, hny, sr, sk⟩ := foot_in hv
  have hll : l.length = n := by simpa using hA.1
  have hll2 : l2.length = m := by simpa using hB.1
  have hlr : r.length = nx := by simpa using hX.1
  have hlk : k.length = ny := by simpa using hY.1
  refine ret_T (n := 141) Try.func4 rfl rfl ?_
  repeat (first | refine T_seq ?_ | refine T_region ?_)
  refine TL_box (hk := ?_); intro b1 w1 e1 h1 h1' k1
  have z1 := e1.size
  repeat (first | refine T_seq ?_ | refine T_region ?_ | refine TL_nil ?_ | refine TL_assign (hk := ?_))
  refine TL_loadb TE (cs := [.slice X nx cx, .slice Y ny cy]) (o := 0) rfl rfl k1 rfl rfl (Nat.succ_pos _) (hk := ?_)
  refine TL_call TE (hc := long_c3 X Y nx cx ny cy _ (by omega) (by omega) (by omega)) (hk := ?_)
  rintro _ w2 ⟨rfl, e2⟩
  have z2 := e2.size
  have e02 := e1.ext e2
  have k12 := k1.be e2
  clear k1
  by_cases hbig : 300 < nx + ny
  · rw [decide_eq_true hbig]
    repeat (first | refine T_seq ?_ | refine T_region ?_ | refine T_cond_true rfl ?_ | refine TL_nil ?_ | refine TL_move (hk := ?_) | refine TL_no (hk := ?_) | refine TL_pick_t (hk := ?_))
    refine TL_call TE (hc := live_c3 _) (hk := ?_)
    rintro _ w3 ⟨rfl, e3⟩
    repeat (first | refine TL_nil ?_ | refine TL_assign (hk := ?_))
    exact T_ret1 rfl rfl ⟨rfl, e02.ext e3⟩
  rw [decide_eq_false hbig]
  by_cases hbig1 : 100000 < m
  · repeat (first | refine T_seq ?_ | refine T_region ?_ | refine T_cond_true rfl ?_ | refine TL_gt_t (hk := ?_) | refine TL_nil ?_ | refine TL_move (hk := ?_) | refine TL_len TE (hk := ?_) | refine TL_yes (hk := ?_) | refine TL_no (hk := ?_) | refine TL_pick_t (hk := ?_) | refine TL_pick_f (hk := ?_))
    refine TL_call TE (hc := live_c3 _) (hk := ?_)
    rintro _ w3 ⟨rfl, e3⟩
    repeat (first | refine TL_nil ?_ | refine TL_assign (hk := ?_))
    exact T_ret1 rfl rfl ⟨rfl, e02.ext e3⟩
  by_cases hbig2 : 100000 < n
  · repeat (first | refine T_seq ?_ | refine T_region ?_ | refine T_cond_true rfl ?_ | refine TL_gt_t (hk := ?_) | refine TL_gt_f (hk := ?_) | refine TL_nil ?_ | refine TL_move (hk := ?_) | refine TL_len TE (hk := ?_) | refine TL_yes (hk := ?_) | refine TL_pick_f (hk := ?_))
    refine TL_call TE (hc := live_c3 _) (hk := ?_)
    rintro _ w3 ⟨rfl, e3⟩
    repeat (first | refine TL_nil ?_ | refine TL_assign (hk := ?_))
    exact T_ret1 rfl rfl ⟨rfl, e02.ext e3⟩
  have hX2 := hX.be e02
  have hY2 := hY.be e02
  have hA2 := hA.be e02
  have hB2 := hB.be e02
  clear hA hB hX hY
  repeat (first | refine T_seq ?_ | refine T_region ?_ | refine T_cond_false rfl ?_ | refine T_skip ?_ | refine TL_gt_f (hk := ?_) | refine TL_nil ?_ | refine TL_move (hk := ?_) | refine TL_len TE (hk := ?_) | refine TL_yes (hk := ?_) | refine TL_pick_f (hk := ?_))
  refine TL_loadb TE (cs := [.slice X nx cx, .slice Y ny cy]) (o := 0) rfl rfl k12 rfl rfl (Nat.succ_pos _) (hk := ?_)
  refine TL_call TE (hc := own_c3 X Y nx cx ny cy r k _ hX2 hY2 (by omega) (by omega)) (hk := ?_)
  rintro _ w3 ⟨⟨GA, gc, GB, gd, rfl, oGA, oGB⟩, e3⟩
  rw [hlr] at oGA
  rw [hlk] at oGB
  rw [hlr, hlk]
  have z3 := e3.size
  have cGA := oGA.cap
  have cGB := oGB.cap
  --
  refine TL_alloc TE (hk := ?_); intro b3 w4 e4 h3 h3' k3
  --
  refine TL_storea TE (hk := ?_); intro w5 m5 z5 k35
  have z4 := e4.size
  have e35 : Ext w3 w5 := Mod.step e4 m5 (by simp; omega)
  have e25 := e3.ext e35
  have oGA5 := oGA.be e35
  have oGB5 := oGB.be e35
  have k15 := k12.be e25
  have hA5 := hA2.be e25
  have hB5 := hB2.be e25
  have hX5 := hX2.be e25
  have hY5 := hY2.be e25
  have e05 := e02.ext e25
  clear oGA oGB k12 hA2 hB2 hX2 hY2 k3
  -- the bytes ahead, two behind
  repeat (first | refine T_seq ?_ | refine T_region ?_ | refine TL_nil ?_)
  refine TL_buildSlice TE (hk := ?_); intro b6 w6 e6 h6 h6' k6
  have o6 : Own w6 w5.heap.size 5 1 (some ⟨b6, 0, none⟩) 0 0 [] := Own.of_blk k6 h6 rfl (by decide)
  have hA6 := hA5.be e6
  repeat (refine TL_move (hk := ?_))
  refine TL_append TE (hk := ?_); intro F1 c1 w7 o7 m7 n7
  have e57 : Ext w5 w7 := e6.own m7 o6.hi
  have z57 := e57.size
  rw [List.nil_append] at o7
  --
  refine TL_buildSlice TE (hk := ?_); intro b8 w8 e8 h8 h8' k8
  replace k8 : Blk w8 b8 5 (bv [9, 8]) := k8
  have o78 := o7.be e8
  have z8 := e8.size
  have r8 : Rd w8 (some ⟨b8, 0, none⟩) 2 1 (bv [9, 8]) := Rd.blk k8 rfl
  clear hA6 o6 o7 k6
  --
  refine TL_append TE (hk := ?_); intro F cf w9 o9 m9 n9
  have e59 : Ext w5 w9 := (e57.ext e8).own m9 o78.hi
  rw [← bv_append] at o9
  have cF := o9.cap
  rw [show 0 + n + 2 = n + 2 by omega] at o9 cF
  rw [show 0 + n + 2 = n + 2 by omega]
  clear o78 r8 k8
  have rF := head98 o9.rd hll
  have k39 := k35.be e59
  have z59 := e59.size
  repeat (first | refine T_seq ?_ | refine TL_nil ?_ | refine TL_assign (hk := ?_))
  refine T_region_any TE.mixed [] ?_; intro w10 e10 z10
  have e510 := e59.ext e10
  have k310 := k39.be e10
  have oGA10 := oGA5.be e510
  have oGB10 := oGB5.be e510
  (refine TA_take 0 rfl (by kernel_rfl) (by kernel_rfl) (by kernel_rfl) ?_; (repeat (first | refine TL_move (hk := ?_) | refine TL_len TE (hk := ?_) | refine TL_slice_hi TE (hk := ?_))); refine TL_nil_p ?_); (refine TA_take 1 rfl (by kernel_rfl) (by kernel_rfl) (by kernel_rfl) ?_; (repeat (first | refine TL_move (hk := ?_) | refine TL_len TE (hk := ?_) | refine TL_slice_hi TE (hk := ?_))); refine TL_nil_p ?_); (refine TA_take 2 rfl (by kernel_rfl) (by kernel_rfl) (by kernel_rfl) ?_; (repeat (first | refine TL_move (hk := ?_) | refine TL_len TE (hk := ?_) | refine TL_slice_hi TE (hk := ?_))); refine TL_nil_p ?_); (refine TA_take 3 rfl (by kernel_rfl) (by kernel_rfl) (by kernel_rfl) ?_; (repeat (first | refine TL_move (hk := ?_) | refine TL_len TE (hk := ?_) | refine TL_slice_hi TE (hk := ?_))); refine TL_nil_p ?_)
  (refine TA_take 4 rfl (by kernel_rfl) (by kernel_rfl) (by kernel_rfl) ?_; (try refine TL_yes (hk := ?_)); refine TLP_loadb TE (cs := [.slice GA nx gc, .slice GB ny gd]) (o := 0) (hb := k310) (hD := by first | (simp; done) | (simp; omega)) (hk := ?_); refine TL_nil_p ?_)
  refine TA_one 5 rfl (by kernel_rfl) (by kernel_rfl) ?_; (try refine TL_yes (hk := ?_)); refine TL_call TE (hc := Put_c F GA GB n cf nx gc ny gd l r k _ (rF.be e10) (take_behind oGA10.rd hlr) (take_behind oGB10.rd hlk) (by omega) (by omega) (by omega) sr sk) (hq := fun v w' h => by obtain ⟨_, _, _, _, e, _⟩ := h; exact e) (hk := ?_)
  rintro _ w11 ⟨P, np, cp, rfl, e11, oP⟩
  refine TL_nil_p ?_
  (refine TA_take 6 rfl (by kernel_rfl) (by kernel_rfl) (by kernel_rfl) ?_; (repeat (first | refine TL_move (hk := ?_) | refine TL_assign (hk := ?_) | refine TL_extract (hk := ?_))); refine TL_nil_p ?_); (refine TA_take 7 rfl (by kernel_rfl) (by kernel_rfl) (by kernel_rfl) ?_; (repeat (first | refine TL_move (hk := ?_) | refine TL_assign (hk := ?_) | refine TL_extract (hk := ?_))); refine TL_nil_p ?_); (refine TA_take 8 rfl (by kernel_rfl) (by kernel_rfl) (by kernel_rfl) ?_; (repeat (first | refine TL_move (hk := ?_) | refine TL_assign (hk := ?_) | refine TL_extract (hk := ?_))); refine TL_nil_p ?_); (refine TA_take 9 rfl (by kernel_rfl) (by kernel_rfl) (by kernel_rfl) ?_; (repeat (first | refine TL_move (hk := ?_) | refine TL_assign (hk := ?_) | refine TL_extract (hk := ?_))); refine TL_nil_p ?_); (refine TA_take 10 rfl (by kernel_rfl) (by kernel_rfl) (by kernel_rfl) ?_; (repeat (first | refine TL_move (hk := ?_) | refine TL_assign (hk := ?_) | refine TL_extract (hk := ?_))); refine TL_nil_p ?_)
  refine TA_done (by kernel_rfl) ?_
  have e511 := e510.ext e11
  have k111 := k15.be e511
  have hX11 := hX5.be e511
  have hY11 := hY5.be e511
  have hA11 := hA5.be e511
  clear k310 oGA10 oGB10 k39
  repeat (first | refine T_seq ?_ | refine T_region ?_ | refine TL_move (hk := ?_))
  refine TL_loadb TE (cs := [.slice X nx cx, .slice Y ny cy]) (o := 0) rfl rfl k111 rfl rfl (Nat.succ_pos _) (hk := ?_)
  refine TL_call TE (hc := RPut_c A X Y n c nx cx ny cy l r k _ hA11 hX11 hY11 (by omega) (by omega) (by omega) sr sk) (hk := ?_)
  rintro _ w12 ⟨Q, nq, cq, rfl, e12, oQ⟩
  have e512 := e511.ext e12
  obtain ⟨pl, hpl⟩ := putE (isNorm r k) (l ++ putB (ofM r k))
  rw [hpl] at oP oQ
  have oP12 := oP.be e12
  have hB12 := hB5.be e512
  have oF12 := ((o9.be e10).be e11).be e12
  clear oP k111 hX11 hY11 hA11
  -- the other bytes, two behind
  repeat (first | refine T_seq ?_ | refine T_region ?_ | refine TL_nil ?_ | refine TL_move (hk := ?_) | refine TL_assign (hk := ?_) | refine TL_extract (hk := ?_))
  refine TL_buildSlice TE (hk := ?_); intro b13 w13 e13 h13 h13' k13
  have o13 : Own w13 w12.heap.size 5 1 (some ⟨b13, 0, none⟩) 0 0 [] := Own.of_blk k13 h13 rfl (by decide)
  have hB13 := hB12.be e13
  repeat (refine TL_move (hk := ?_))
  refine TL_append TE (hk := ?_); intro G1 c14 w14 o14 m14 n14
  have e1214 : Ext w12 w14 := e13.own m14 o13.hi
  have z1214 := e1214.size
  rw [List.nil_append] at o14
  --
  refine TL_buildSlice TE (hk := ?_); intro b15 w15 e15 h15 h15' k15b
  replace k15b : Blk w15 b15 5 (bv [9, 8]) := k15b
  have o145 := o14.be e15
  have z15 := e15.size
  have r15 : Rd w15 (some ⟨b15, 0, none⟩) 2 1 (bv [9, 8]) := Rd.blk k15b rfl
  clear hB13 o13 o14 k13
  --
  refine TL_append TE (hk := ?_); intro G cg w16 o16 m16 n16
  have e1216 : Ext w12 w16 := (e1214.ext e15).own m16 o145.hi
  rw [← bv_append] at o16
  have cG := o16.cap
  rw [show 0 + m + 2 = m + 2 by omega] at o16 cG
  rw [show 0 + m + 2 = m + 2 by omega]
  clear o145 r15 k15b
  have rG := head98 o16.rd hll2
  have loG := o16.lo
  have hiG := o16.hi
  have z1216 := e1216.size
  have hgl := getF_len l2
  repeat (first | refine T_seq ?_ | refine T_region ?_ | refine TL_nil ?_ | refine TL_move (hk := ?_) | refine TL_assign (hk := ?_) | refine TL_len TE (hk := ?_) | refine TL_slice_hi TE (hk := ?_))
  refine TL_call TE (hc := Get_c G m cg l2 _ rG (by omega)) (hk := ?_)
  rintro _ w17 ⟨_, rfl, e17, XA, xn, xc, XB, xm, xd, rfl, oXA, oXB, offX⟩
  have z17 := e17.size
  repeat (first | refine TL_move (hk := ?_) | refine TL_extract (hk := ?_))
  refine TL_alloc TE (hk := ?_); intro b18 w18 e18 h18 h18' k18
  --
  refine TL_storea TE (hk := ?_); intro w19 m19 z19 kx
  have z18 := e18.size
  have e1719 : Ext w17 w19 := Mod.step e18 m19 (by simp; omega)
  have e1619 := e17.ext e1719
  have oXA19 := oXA.be e1719
  have oXB19 := oXB.be e1719
  have hB19 := hB12.be (e1216.ext e1619)
  clear k18 oXA oXB hB12
  repeat (first | refine T_seq ?_ | refine T_region ?_ | refine TL_nil ?_ | refine TL_move (hk := ?_) | refine TL_assign (hk := ?_))
  refine TL_call TE (hc := RGet_c B m d l2 _ hB19 (by omega)) (hk := ?_)
  rintro _ w20 ⟨_, rfl, e20, YA, yn, yc, YB, ym, yd, rfl, oYA, oYB, offY⟩
  have z20 := e20.size
  repeat (first | refine TL_move (hk := ?_) | refine TL_extract (hk := ?_))
  refine TL_alloc TE (hk := ?_); intro b21 w21 e21 h21 h21' k21
  --
  refine TL_storea TE (hk := ?_); intro w22 m22 z22 ky
  have z21 := e21.size
  have e2022 : Ext w20 w22 := Mod.step e21 m22 (by simp; omega)
  have e1922 := e20.ext e2022
  have e1622 := e1619.ext e1922
  have e1222 := e1216.ext e1622
  have e522 := e512.ext e1222
  have lXA := oXA19.len
  have lXB := oXB19.len
  have lYA := oYA.len
  have lYB := oYB.len
  rw [sv_length] at lXA lXB lYA lYB
  have oYA22 := oYA.be e2022
  have oYB22 := oYB.be e2022
  have oXA22 := oXA19.be e1922
  have oXB22 := oXB19.be e1922
  have kx22 := kx.be e1922
  have rP := (oP12.be e1222).rd
  have rQ := (oQ.be e1222).rd
  have oF22 := oF12.be e1222
  have oG22 := o16.be e1622
  have k322 := k35.be e522
  have k122 := k15.be e522
  have hiXA := oXA19.hi
  have hiXB := oXB19.hi
  have hiYA := oYA.hi
  have hiYB := oYB.hi
  have g1 := gb98 hll
  have g2 := gb98 hll2
  obtain ⟨en, hen⟩ : ∃ en : Int, (if isNorm r k = true then 0 else 31) = en := ⟨_, rfl⟩
  rw [hen]
  obtain ⟨gv, hgv⟩ : ∃ gv, getF l2 = gv := ⟨_, rfl⟩
  rw [hgv] at oXA22 oXB22 oYA22 oYB22 lXA lXB lYA lYB hgl ⊢
  clear k21 oXA19 oXB19 oYA oYB oP12 oQ hB19 kx oF12 o16 rG rF
  repeat (first | refine T_seq ?_ | refine T_region ?_ | refine TL_nil ?_ | refine TL_move (hk := ?_) | refine TL_assign (hk := ?_))
  refine TL_call TE (hc := num_c3 en _) (hk := ?_)
  rintro _ w22 ⟨rfl, rfl⟩
  repeat (first | refine TL_ne_f (hk := ?_) | refine TL_sne_f (hk := ?_) | refine TL_move (hk := ?_) | refine TL_yes (hk := ?_) | refine TL_pick_f (hk := ?_) | refine TL_conv_bs TE (hk := ?_))
  refine TL_call TE (hc := num_c3 gv.2 _) (hk := ?_)
  rintro _ w22 ⟨rfl, rfl⟩
  repeat (first | refine TL_ne_f (hk := ?_) | refine TL_move (hk := ?_) | refine TL_yes (hk := ?_) | refine TL_pick_f (hk := ?_))
  refine TL_loadb TE (cs := [.slice XA xn xc, .slice XB xm xd]) (o := 0) rfl rfl kx22 rfl rfl (Nat.succ_pos _) (hk := ?_)
  repeat (refine TL_yes (hk := ?_))
  refine TL_loadb TE (cs := [.slice YA yn yc, .slice YB ym yd]) (o := 0) rfl rfl ky rfl rfl (Nat.succ_pos _) (hk := ?_)
  repeat (refine TL_yes (hk := ?_))
  refine TL_call TE (hc := Same_c XA XB YA YB xn xm yn ym xc xd yc yd _ _ _ _ _ oXA22.rd oXB22.rd oYA22.rd oYB22.rd (by omega) (by omega) (by omega) (by omega)) (hk := ?_)
  rintro _ w23 ⟨rfl, e23⟩
  rw [show decide (gv.1.1.1 = gv.1.1.1 ∧ gv.1.1.2 = gv.1.1.2) = true by simp]
  have k323 := k322.be e23
  have k123 := k122.be e23
  have oF23 := oF22.be e23
  have oG23 := oG22.be e23
  clear oF22 oG22 rP rQ k322 k122
  repeat (first | refine TL_move (hk := ?_) | refine TL_yes (hk := ?_) | refine TL_pick_f (hk := ?_) | refine TL_not (hk := ?_))
  refine TL_loadb TE (cs := [.slice GA nx gc, .slice GB ny gd]) (o := 0) rfl rfl k323 rfl rfl (Nat.succ_pos _) (hk := ?_)
  repeat (refine TL_yes (hk := ?_))
  refine TL_loadb TE (cs := [.slice X nx cx, .slice Y ny cy]) (o := 0) rfl rfl k123 rfl rfl (Nat.succ_pos _) (hk := ?_)
  repeat (refine TL_yes (hk := ?_))
  refine TL_call TE (hc := kept_c3 GA GB X Y nx ny gc gd cx cy r k _ (oGA5.be (e522.ext e23)).rd (oGB5.be (e522.ext e23)).rd cGA.1 cGB.1 (hX5.be (e522.ext e23)) (hY5.be (e522.ext e23)) (by omega) (by omega)) (hk := ?_)
  rintro _ w24 ⟨rfl, e24⟩
  have oF24 := oF23.be e24
  have oG24 := oG23.be e24
  clear oF23 oG23 k323 k123
  repeat (first | refine T_seq ?_ | refine T_region ?_ | refine T_cond_false rfl ?_ | refine T_block ?_ | refine T_skip ?_ | refine TL_ne_f (hk := ?_) | refine TL_nil ?_ | refine TL_move (hk := ?_) | refine TL_assign (hk := ?_) | (refine TL_load_b TE (hk := ?_); intro _) | refine TL_indexAddr1n TE (hk := ?_) | refine TL_len TE (hk := ?_) | refine TL_yes (hk := ?_) | refine TL_pick_f (hk := ?_) | refine TL_not (hk := ?_))
  have e2224 := e23.ext e24
  clear oF24
  refine T_loop (ι := Nat × List Value) (fun i => [(20, .int .i64 (i.1 : Int)), (13, .slice G (m + 2) cg), (14, ptr b18), (17, ptr b21)])
    (fun i w' => i.1 ≤ m + 2 ∧ Own w' w12.heap.size 5 1 G (m + 2) cg i.2 ∧ Mod (blkL G) w24 w') (fun i => m + 2 - i.1) (0, _) (.c rfl (.c rfl (.c rfl (.c rfl (.n))))) ⟨by simp, oG24, Mod.refl _ _⟩ ?_
  rintro ⟨i, ys⟩ w25 ⟨hi, o25, m25⟩ ih
  simp only at hi o25 m25 ih ⊢
  have hyl := o25.len
  by_cases hin : i < m + 2
  · repeat (first | refine T_seq ?_ | refine T_region ?_ | refine T_cond_true rfl ?_ | refine T_block ?_ | refine T_skip ?_ | refine TL_lt_t (hk := ?_) | refine TL_nil ?_ | refine TL_move (hk := ?_) | refine TL_indexAddr1n TE (hk := ?_) | refine TL_len TE (hk := ?_))
    refine TL_store_own TE (hk := ?_); intro w26 m26 s26 o26
    repeat (first | refine T_region ?_ | refine T_inBlock ?_ | refine TL_add (hk := ?_) | refine TL_nil ?_ | refine TL_move (hk := ?_) | refine TL_assign (hk := ?_))
    exact ih (i + 1, _) w26 _ (by simp only; omega) ⟨by simp only; omega, o26, m25.trans m26⟩ (.c rfl (.c rfl (.c rfl (.c rfl (.n)))))
  have : i = m + 2 := by omega
  subst this
  clear ih
  have hG : ∀ Q, Hi Q w16.heap.size → Off Q (blkL G) := fun Q hQ ad had hm => by
    have h1 := hQ ad had
    cases G with
    | none => simp [blkL] at hm
    | some a => simp [blkL] at hm; have := loG a rfl; omega
  have hGb : ∀ b, w16.heap.size ≤ b → b ∉ blkL G := fun b hb hm => by
    cases G with
    | none => simp [blkL] at hm
    | some a => simp [blkL] at hm; have := loG a rfl; omega
  have kx25 := (kx22.be e2224).mod m25 (hGb _ (by omega))
  have ky25 := (ky.be e2224).mod m25 (hGb _ (by omega))
  have oXA25 := (oXA22.be e2224).mod m25 (hG _ hiXA)
  have oXB25 := (oXB22.be e2224).mod m25 (hG _ hiXB)
  have oYA25 := (oYA22.be e2224).mod m25 (hG _ (hiYA.mono (by omega)))
  have oYB25 := (oYB22.be e2224).mod m25 (hG _ (hiYB.mono (by omega)))
  have e1224 := e1222.ext e2224
  have e025 : Ext w w25 := (e05.ext e512).ext (e1224.own m25 hiG)
  clear o25 m25 kx22 ky
  repeat (first | refine T_seq ?_ | refine T_region ?_ | refine T_cond_false rfl ?_ | refine T_exit rfl ?_ | refine TL_lt_f (hk := ?_) | refine TL_nil ?_ | refine TL_move (hk := ?_) | refine TL_len TE (hk := ?_))
  refine TL_loadb TE (cs := [.slice XA xn xc, .slice XB xm xd]) (o := 0) rfl rfl kx25 rfl rfl (Nat.succ_pos _) (hk := ?_)
  refine TL_loadb TE (cs := [.slice YA yn yc, .slice YB ym yd]) (o := 0) rfl rfl ky25 rfl rfl (Nat.succ_pos _) (hk := ?_)
  refine TL_call TE (hc := Same_c XA XB YA YB xn xm yn ym xc xd yc yd _ _ _ _ _ oXA25.rd oXB25.rd oYA25.rd oYB25.rd (by omega) (by omega) (by omega) (by omega)) (hk := ?_)
  rintro _ w26 ⟨rfl, e26⟩
  rw [show decide (gv.1.1.1 = gv.1.1.1 ∧ gv.1.1.2 = gv.1.1.2) = true by simp]
  repeat (first | refine TL_move (hk := ?_) | refine TL_yes (hk := ?_))
  refine TL_call TE (hc := live_c3 _) (hk := ?_)
  rintro _ w27 ⟨rfl, e27⟩
  repeat (first | refine TL_nil ?_ | refine TL_assign (hk := ?_) | refine TL_pick_t (hk := ?_))
  exact T_ret1 rfl rfl ⟨rfl, (e025.ext e26).ext e27⟩
end Go.Proofs.Ytfplmpfdhiagaaa
