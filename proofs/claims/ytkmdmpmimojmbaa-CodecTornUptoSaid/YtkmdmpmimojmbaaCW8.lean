import Derived.Test.YtkmdmpmimojmbaaCW7
import Derived.Test.YtkmdmpmimojmbaaEng6
namespace Go.Proofs.Ytkmdmpmimojmbaa
open Go.RowKit Go.Proofs.Eng Go.Proofs.Codec
set_option linter.unusedSimpArgs false
set_option linter.unusedVariables false
attribute [local irreducible] T TL LV TH
set_option maxHeartbeats 1000000
theorem st_params (args : List Value) (n m : Nat) : ∀ a : Act, a.tmps = args.toArray ++ Array.replicate (n - args.length) undef → ∀ i v, Eng.look (params 0 args) i = some v → a.tmps.getD i undef = v := by
  intro a ha i v hv
  obtain ⟨_, hi⟩ := look_params args 0 i v hv
  have h1 : args[i]? = some v := by simpa using hi
  have h2 : i < args.length := (List.getElem?_eq_some_iff.1 h1).1
  rw [ha, Array.getD_eq_getD_getElem?, Array.getElem?_append_left (by simpa using h2)]
  simp [h1]
theorem Rd.mod0 {w w' : World} {A : Option Addr} {n s : Nat} {xs : List Value} {S : List Nat} (h : Rd w A n s xs) (hm : Mod S w w') (hS : 0 < n → Off A S) : Rd w' A n s xs := by
  rcases Nat.eq_zero_or_pos n with rfl | hn
  · exact ⟨h.1, fun hn => by omega⟩
  · exact h.mod hm (hS hn)
theorem Rd.offNew {w : World} {A : Option Addr} {n s x : Nat} {xs : List Value} (h : Rd w A n s xs) (hx : w.heap.size ≤ x) (hn : 0 < n) : Off A [x] := by
  obtain ⟨b, off, rfl, hb, _⟩ := h.2 (by omega)
  intro ad e hq
  cases e
  simp only [List.mem_singleton] at hq
  omega
theorem take_ok {α : Type} {s : RS} {z0 v : α} {k : Nat} {t : List UInt8 → Except Int (α × Nat)} (he : s.err = 0) (h : t (s.b.drop s.pos) = .ok (v, k)) : s.take z0 t = (v, { s with pos := s.pos + k, last := s.pos }) := by
  unfold RS.take; rw [if_pos he, h]
theorem take_err {α : Type} {s : RS} {z0 : α} {e : Int} {t : List UInt8 → Except Int (α × Nat)} (he : s.err = 0) (h : t (s.b.drop s.pos) = .error e) : s.take z0 t = (z0, { s with err := e, spot := s.pos }) := by
  unfold RS.take; rw [if_pos he, h]
theorem rdd0_uint64 (w : World) (x y z : Nat) : CallsD Try.prog 66 #[ptr x, ptr y, ptr z] .returning w (fun e u w' => u = .returning ∧ e = .returned (.tuple #[]) ∧ w' = w) := by
  refine callsD_recover (n := 32) (args := [ptr x, ptr y, ptr z]) (st := params 0 [ptr x, ptr y, ptr z]) Try.func66 rfl rfl (st_params _ _ 0) rfl (.inl ⟨rfl, rfl, rfl⟩) ?_
  repeat (first | refine T_seq ?_ | refine T_region ?_ | refine T_cond_false rfl ?_ | refine T_skip ?_ | refine TL_ine_f TE (hk := ?_) | refine TL_nil ?_ | refine TL_move (hk := ?_) | refine TL_assign (hk := ?_))
  refine T_end0' rfl ⟨rfl, rfl⟩
theorem rdd1_uint64 (b : Nat) (s : RS) (A : Option Addr) (n c : Nat) (e : Int) (w : World) (x y z : Nat) (tx ty tz : TypeId) (p : Nat) (v0 : Value) (h : Rdr w 76 b s A n c) (hx : Blk w x tx [.int .i64 (p : Int)]) (hy : Blk w y ty [v0]) (hz : Blk w z tz [ptr b])
    (hyb : y ≠ b) (hxb : x ≠ b) (hzb : z ≠ b) (hxy : x ≠ y) (hzy : z ≠ y) (hyA : 0 < n → Off A [y]) (hp : p ≤ n) :
    CallsD Try.prog 66 #[ptr x, ptr y, ptr z] (.panicking (gave e)) w (fun e' u w' => u = .panicking [{ v := .iface 82 (.agg #[.int .i64 e]), recovered := true }] ∧ e' = .returned (.tuple #[]) ∧ Mod [y, b] w w' ∧ Rdr w' 76 b { s with pos := p, err := e, spot := p } A n c ∧ Blk w' y ty [.int .u64 0]) := by
  refine callsD_recover (n := 32) (args := [ptr x, ptr y, ptr z]) (st := params 0 [ptr x, ptr y, ptr z]) Try.func66 rfl rfl (st_params _ _ 0) rfl (.inr ⟨_, _, rfl, rfl, rfl⟩) ?_
  obtain ⟨hb, hr, ho, hl, hpp, hla, hbig, hcap⟩ := h
  repeat (first | refine T_seq ?_ | refine T_region ?_ | refine T_cond_true rfl ?_ | refine TL_ine_t TE (hk := ?_) | refine TL_nil ?_ | refine TL_move (hk := ?_) | refine TL_assign (hk := ?_) | refine TL_extract (hk := ?_) | refine TL_assert_t TE (hk := ?_))
  refine TL_alloc TE (hk := ?_); intro g w1 e1 g1 g2 kg
  --
  refine TL_store1 TE rfl rfl rfl rfl rfl (by exact kg) (by decide) (hk := ?_); intro w2 m2 s2 k2
  have e2 : Ext w w2 := Mod.step e1 m2 (fun y hy => .inr (by simp only [List.mem_singleton] at hy; omega))
  repeat (first | refine T_seq ?_ | refine T_region ?_ | refine T_cond_false rfl ?_ | refine T_skip ?_ | refine TL_nil ?_ | refine TL_move (hk := ?_) | refine TL_assign (hk := ?_) | refine TL_not (hk := ?_))
  have hxl := hx.be e2
  have hzl := hz.be e2
  have hyl := hy.be e2
  have hbl := hb.be e2
  refine T_region_h TE (fun w' => Blk w' x tx [.int .i64 (p : Int)] ∧ Blk w' z tz [ptr b] ∧ Blk w' g 82 [.int .i64 e]) (fun w3 e3 s3 => ⟨⟨hxl.be e3, hzl.be e3, k2.be e3⟩, ?_⟩)
  have hx3 := hxl.be e3
  have hz3 := hzl.be e3
  have hy3 := hyl.be e3
  have hb3 := hbl.be e3
  have hg3 := k2.be e3
  refine TH_load 0 TE rfl (by kernel_rfl) (by kernel_rfl) (by kernel_rfl) rfl rfl rfl rfl (by rintro w' ⟨h1, h2, h3⟩; first | exact h1 | exact h2 | exact h3) (by exact rfl) ?_; refine TH_load 1 TE rfl (by kernel_rfl) (by kernel_rfl) (by kernel_rfl) rfl rfl rfl rfl (by rintro w' ⟨h1, h2, h3⟩; first | exact h1 | exact h2 | exact h3) (by exact rfl) ?_; refine TH_load 2 TE rfl (by kernel_rfl) (by kernel_rfl) (by kernel_rfl) rfl rfl rfl rfl (by rintro w' ⟨h1, h2, h3⟩; first | exact h1 | exact h2 | exact h3) (by exact rfl) ?_
  refine TH_move 3 rfl (by kernel_rfl) (by kernel_rfl) (by kernel_rfl) rfl rfl ?_
  refine TH_load 4 TE rfl (by kernel_rfl) (by kernel_rfl) (by kernel_rfl) rfl rfl rfl rfl (by rintro w' ⟨h1, h2, h3⟩; first | exact h1 | exact h2 | exact h3) (by exact rfl) ?_
  refine TH_fieldAddr 5 TE rfl (by kernel_rfl) (by kernel_rfl) (by kernel_rfl) rfl rfl rfl rfl rfl rfl ?_
  refine TH_load 6 TE rfl (by kernel_rfl) (by kernel_rfl) (by kernel_rfl) rfl rfl rfl rfl (by rintro w' ⟨h1, h2, h3⟩; first | exact h1 | exact h2 | exact h3) (by exact rfl) ?_; refine TH_load 7 TE rfl (by kernel_rfl) (by kernel_rfl) (by kernel_rfl) rfl rfl rfl rfl (by rintro w' ⟨h1, h2, h3⟩; first | exact h1 | exact h2 | exact h3) (by exact rfl) ?_
  have yg : y < g := Nat.lt_of_lt_of_le hy.lt g1
  have bg : b < g := Nat.lt_of_lt_of_le hb.lt g1
  refine TH_store 8 TE rfl (by kernel_rfl) rfl rfl rfl rfl (by focus ((repeat (first | assumption | (apply Own.rd; assumption) | (apply Rd.blk; assumption; exact rfl) | (apply Blk.be; assumption) | (apply Rd.be; assumption) | (apply Own.be; assumption) | (apply Blk.bm; assumption; focus (first | assumption | (simp only [List.mem_cons, List.not_mem_nil, or_false]; omega))) | (apply Rd.bm; assumption; focus assumption) | (apply Own.bm; assumption; focus assumption))); done)) (by first | decide | (simp; done) | (simp; omega)) ?_; intro w4 m4 s4 k4
  have hx4 := hx3.mod m4 (by simpa using hxy)
  have hz4 := hz3.mod m4 (by simpa using hzy)
  have hg4 := hg3.mod m4 (by simp; omega)
  have hb4 := hb3.mod m4 (by simpa using Ne.symm hyb)
  refine ⟨⟨hx4, hz4, hg4⟩, ?_⟩
  refine TH_nilCheck 9 rfl (by kernel_rfl) (by kernel_rfl) (by kernel_rfl) rfl rfl ?_
  refine TH_fieldAddr 10 TE rfl (by kernel_rfl) (by kernel_rfl) (by kernel_rfl) rfl rfl rfl rfl rfl rfl ?_
  refine TH_store 11 TE rfl (by kernel_rfl) rfl rfl rfl rfl (by focus ((repeat (first | assumption | (apply Own.rd; assumption) | (apply Rd.blk; assumption; exact rfl) | (apply Blk.be; assumption) | (apply Rd.be; assumption) | (apply Own.be; assumption) | (apply Blk.bm; assumption; focus (first | assumption | (simp only [List.mem_cons, List.not_mem_nil, or_false]; omega))) | (apply Rd.bm; assumption; focus assumption) | (apply Own.bm; assumption; focus assumption))); done)) (by first | decide | (simp; done) | (simp; omega)) ?_; intro w5 m5 s5 k5
  have hx5 := hx4.mod m5 (by simpa using hxb)
  have hz5 := hz4.mod m5 (by simpa using hzb)
  have hg5 := hg4.mod m5 (by simp; omega)
  have hy5 := k4.mod m5 (by simpa using hyb)
  refine ⟨⟨hx5, hz5, hg5⟩, ?_⟩
  refine TH_nilCheck 12 rfl (by kernel_rfl) (by kernel_rfl) (by kernel_rfl) rfl rfl ?_
  refine TH_fieldAddr 13 TE rfl (by kernel_rfl) (by kernel_rfl) (by kernel_rfl) rfl rfl rfl rfl rfl rfl ?_
  refine TH_store 14 TE rfl (by kernel_rfl) rfl rfl rfl rfl (by focus ((repeat (first | assumption | (apply Own.rd; assumption) | (apply Rd.blk; assumption; exact rfl) | (apply Blk.be; assumption) | (apply Rd.be; assumption) | (apply Own.be; assumption) | (apply Blk.bm; assumption; focus (first | assumption | (simp only [List.mem_cons, List.not_mem_nil, or_false]; omega))) | (apply Rd.bm; assumption; focus assumption) | (apply Own.bm; assumption; focus assumption))); done)) (by first | decide | (simp; done) | (simp; omega)) ?_; intro w6 m6 s6 k6
  have hx6 := hx5.mod m6 (by simpa using hxb)
  have hz6 := hz5.mod m6 (by simpa using hzb)
  have hg6 := hg5.mod m6 (by simp; omega)
  have hy6 := hy5.mod m6 (by simpa using hyb)
  refine ⟨⟨hx6, hz6, hg6⟩, ?_⟩
  refine TH_nilCheck 15 rfl (by kernel_rfl) (by kernel_rfl) (by kernel_rfl) rfl rfl ?_
  refine TH_fieldAddr 16 TE rfl (by kernel_rfl) (by kernel_rfl) (by kernel_rfl) rfl rfl rfl rfl rfl rfl ?_
  refine TH_store 17 TE rfl (by kernel_rfl) rfl rfl rfl rfl (by focus ((repeat (first | assumption | (apply Own.rd; assumption) | (apply Rd.blk; assumption; exact rfl) | (apply Blk.be; assumption) | (apply Rd.be; assumption) | (apply Own.be; assumption) | (apply Blk.bm; assumption; focus (first | assumption | (simp only [List.mem_cons, List.not_mem_nil, or_false]; omega))) | (apply Rd.bm; assumption; focus assumption) | (apply Own.bm; assumption; focus assumption))); done)) (by first | decide | (simp; done) | (simp; omega)) ?_; intro w7 m7 s7 k7
  have hx7 := hx6.mod m7 (by simpa using hxb)
  have hz7 := hz6.mod m7 (by simpa using hzb)
  have hg7 := hg6.mod m7 (by simp; omega)
  have hy7 := hy6.mod m7 (by simpa using hyb)
  refine ⟨⟨hx7, hz7, hg7⟩, ?_⟩
  refine TH_done (by kernel_rfl) ?_
  have hm : Mod [y, b] w w7 := by
    have a1 : Mod [y, b] w w3 := Ext.mod (Mod.ext e2 e3)
    have a2 := a1.step m4 (fun q hq => .inl (by simp only [List.mem_cons, List.not_mem_nil, or_false] at hq ⊢; omega))
    have a3 := a2.step m5 (fun q hq => .inl (by simp only [List.mem_cons, List.not_mem_nil, or_false] at hq ⊢; omega))
    have a4 := a3.step m6 (fun q hq => .inl (by simp only [List.mem_cons, List.not_mem_nil, or_false] at hq ⊢; omega))
    exact a4.step m7 (fun q hq => .inl (by simp only [List.mem_cons, List.not_mem_nil, or_false] at hq ⊢; omega))
  refine T_end0' rfl ⟨rfl, hm, ⟨k7, Rd.mod0 hr hm ?_, ho, hl, hp, hla, hbig, hcap⟩, hy7⟩
  intro hn0 ad ea hq
  simp only [List.mem_cons, List.not_mem_nil, or_false] at hq
  rcases hq with hq | hq
  · exact hyA hn0 ad ea (by simpa using hq)
  · exact ho ad ea (by simpa using hq)
theorem rd_uint64 {α : Type} (b : Nat) (s : RS) (A : Option Addr) (n c : Nat) (w : World) (g : Nat) (fst cap : List Value) (V : α → Value) (z0 : α) (hV : V z0 = .int .u64 0) (hV1 : ∀ x, (V x).oneCell' = true) (t : List UInt8 → Except Int (α × Nat)) (hE : TE.fn g = true) (h : Rdr w 76 b s A n c)
    (hc : ∀ w', Ext w w' → Calls Try.prog g (fst ++ cap).toArray w' (Took w' b s A n c V (t (s.b.drop s.pos)))) :
    Ret Try.prog 46 [ptr b, .func (.func g) fst.toArray cap.toArray] w (fun v w' => v = V (s.take z0 t).1 ∧ Mod [b] w w' ∧ Rdr w' 76 b (s.take z0 t).2 A n c) := by
  have h0 := h
  obtain ⟨hb, hr, ho, hl, hpp, hla, hbig, hcap⟩ := h
  refine ret_T (n := 28) Try.func46 rfl rfl ?_
  repeat (first | refine T_seq ?_ | refine T_region ?_)
  refine TL_box (hk := ?_); intro x1 w1 e1 g1 g1' k1
  --
  refine TL_alloc TE (hk := ?_); intro x2 w2 e2 g2 g2' k2
  have e02 : Ext w w2 := e1.ext e2
  have hb2 := hb.be e02
  have k12 : Blk w2 x1 _ [ptr b] := k1.be e2
  have k22 : Blk w2 x2 _ [.int .u64 0] := k2
  have lb := hb.lt
  have ls1 := e1.size
  by_cases he : s.err = 0
  · rw [he] at hb2
    repeat (first | refine T_seq ?_ | refine T_region ?_ | refine T_cond_false rfl ?_ | refine T_skip ?_ | refine TL_ne_f (hk := ?_) | refine TL_pnil_f TE (hk := ?_) | refine TL_nil ?_ | refine TL_move (hk := ?_) | refine TL_load TE (hk := ?_) | refine TL_fieldAddr TE (hk := ?_) | refine TL_yes (hk := ?_) | refine TL_pick_f (hk := ?_) | refine TL_nilCheck (hk := ?_))
    refine TL_alloc TE (hk := ?_); intro x3 w3 e3 g3 g3' k3
    --
    refine TL_store TE (hk := ?_); intro w4 m4 s4 k4
    have e34 : Ext w2 w4 := Mod.step e3 m4 (fun y hy => .inr (by simp only [List.mem_singleton] at hy; omega))
    have e04 : Ext w w4 := e02.ext e34
    have k14 := k12.be e34
    have k24 := k22.be e34
    have k34 : Blk w4 x3 _ [.int .i64 (s.pos : Int)] := k4
    have hc4 := hc w4 e04
    have l12 : x1 < x2 := by omega
    have ls2 := e2.size
    have l23 : x2 < x3 := by omega
    repeat (first | refine T_seq ?_ | refine T_region ?_ | refine TL_nil ?_ | refine TL_makeFunc (hk := ?_))
    refine TL_defer rfl rfl rfl ?_
    repeat (first | refine T_seq ?_ | refine T_region ?_ | refine TL_nil ?_ | refine TL_move (hk := ?_))
    refine TL_callc TE (fst := fst) (cap := cap) (vs := []) rfl rfl hE rfl (by simpa using hc4) ?_ ?_ (fun _ h => h)
    · rintro _ w5 ⟨x, k, hx, rfl, m5, h5⟩
      rw [take_ok he hx]
      have k15 := k14.mod m5 (by simp; omega)
      have k25 := k24.mod m5 (by simp; omega)
      have k35 := k34.mod m5 (by simp; omega)
      obtain ⟨hb5, hr5, _, _, hp5, _, _, _⟩ := h5
      simp only at hb5 hr5 hp5
      refine TL_store TE rfl rfl (hV1 x) rfl (by exact k25) (by decide) (hk := ?_); intro w6 m6 s6 k6
      have k16 := k15.mod m6 (by simp; omega)
      have k36 := k35.mod m6 (by simp; omega)
      have hb6 := hb5.mod m6 (by simp; omega)
      have hr6 := Rd.mod0 hr5 m6 (Rd.offNew hr (by omega))
      repeat (first | refine T_seq ?_ | refine T_region ?_ | refine TL_nil ?_ | refine TL_load TE (hk := ?_) | refine TL_fieldAddr TE (hk := ?_) | refine TL_nilCheck (hk := ?_))
      refine TL_store TE (hk := ?_); intro w7 m7 s7 k7
      have k17 := k16.mod m7 (by simp; omega)
      have k37 := k36.mod m7 (by simp; omega)
      have k27 : Blk w7 x2 _ [V x] := k6.mod m7 (by simp; omega)
      have hr7 := hr6.mod m7 ho
      repeat (first | refine T_seq ?_ | refine T_region ?_ | refine TL_nil ?_ | refine TL_load TE (hk := ?_))
      refine TL_store TE rfl rfl (hV1 x) rfl (by exact k27) (by simp) (hk := ?_); intro w8 m8 s8 k8
      have hb8 := k7.mod m8 (by simp; omega)
      have hr8 := Rd.mod0 hr7 m8 (Rd.offNew hr (by omega))
      have hm : Mod [b] w w8 := by
        have a1 : Mod [b] w w5 := (Ext.mod e04).trans m5
        have a2 := a1.step m6 (fun q hq => .inr (by simp only [List.mem_singleton] at hq; omega))
        have a3 := a2.trans m7
        exact a3.step m8 (fun q hq => .inr (by simp only [List.mem_singleton] at hq; omega))
      repeat (refine TL_nil ?_)
      refine T_leave ?_
      refine LV_defer TE (args := []) (cap := [ptr x3, ptr x2, ptr x1]) rfl (by simp) (rdd0_uint64 w8 x3 x2 x1) ?_ ?_ ?_
      · rintro v u' w9 ⟨rfl, hv, rfl⟩
        refine LV_ret rfl (res1c TE rfl rfl rfl rfl k8 rfl) ?_
        exact ⟨rfl, hm, ⟨hb8, hr8, ho, hl, hp5, hpp, hbig, hcap⟩⟩
      · rintro ch u' w9 ⟨_, hv, _⟩; cases hv
      · rintro u' w9 ⟨_, hv, _⟩; cases hv
    · rintro ch w5 ⟨e, p, hx, rfl, m5, h5⟩
      rw [take_err he hx]
      have k15 := k14.mod m5 (by simp; omega)
      have k25 := k24.mod m5 (by simp; omega)
      have k35 := k34.mod m5 (by simp; omega)
      refine LV_defer TE (args := []) (cap := [ptr x3, ptr x2, ptr x1]) rfl (by simp) (rdd1_uint64 b _ A n c e w5 x3 x2 x1 _ _ _ s.pos _ h5 k35 k25 k15 (by omega) (by omega) (by omega) (by omega) (by omega) (Rd.offNew hr (by omega)) hpp) ?_ ?_ ?_
      · rintro v u' w9 ⟨rfl, hv, m9, h9, k9⟩
        refine LV_ret rfl (res1c TE rfl rfl rfl rfl k9 rfl) ?_
        refine ⟨hV.symm, ?_, h9⟩
        exact ((Ext.mod e04).trans m5).step m9 (fun q hq => by simp only [List.mem_cons, List.not_mem_nil, or_false] at hq ⊢; omega)
      · rintro ch u' w9 ⟨_, hv, _⟩; cases hv
      · rintro u' w9 ⟨_, hv, _⟩; cases hv
  · have hs0 : s.take z0 t = (z0, s) := by unfold RS.take; rw [if_neg he]
    rw [hs0]
    repeat (first | refine T_seq ?_ | refine T_region ?_ | refine T_cond_true rfl ?_ | refine TL_ne_t (hk := ?_) | refine TL_pnil_f TE (hk := ?_) | refine TL_nil ?_ | refine TL_move (hk := ?_) | refine TL_load TE (hk := ?_) | refine TL_fieldAddr TE (hk := ?_) | refine TL_yes (hk := ?_) | refine TL_pick_f (hk := ?_) | refine TL_nilCheck (hk := ?_))
    refine TL_store TE (hk := ?_); intro w3 m3 s3 k3
    have hm : Ext w w3 := Mod.step e02 m3 (fun y hy => .inr (by simp only [List.mem_singleton] at hy; omega))
    repeat (refine TL_nil ?_)
    exact T_ret1c TE rfl rfl rfl rfl k3 rfl ⟨hV.symm, Ext.mod hm, h0.ext hm⟩
theorem rdd0_int64 (w : World) (x y z : Nat) : CallsD Try.prog 67 #[ptr x, ptr y, ptr z] .returning w (fun e u w' => u = .returning ∧ e = .returned (.tuple #[]) ∧ w' = w) := by
  refine callsD_recover (n := 32) (args := [ptr x, ptr y, ptr z]) (st := params 0 [ptr x, ptr y, ptr z]) Try.func67 rfl rfl (st_params _ _ 0) rfl (.inl ⟨rfl, rfl, rfl⟩) ?_
  repeat (first | refine T_seq ?_ | refine T_region ?_ | refine T_cond_false rfl ?_ | refine T_skip ?_ | refine TL_ine_f TE (hk := ?_) | refine TL_nil ?_ | refine TL_move (hk := ?_) | refine TL_assign (hk := ?_))
  refine T_end0' rfl ⟨rfl, rfl⟩
theorem rdd1_int64 (b : Nat) (s : RS) (A : Option Addr) (n c : Nat) (e : Int) (w : World) (x y z : Nat) (tx ty tz : TypeId) (p : Nat) (v0 : Value) (h : Rdr w 76 b s A n c) (hx : Blk w x tx [.int .i64 (p : Int)]) (hy : Blk w y ty [v0]) (hz : Blk w z tz [ptr b])
    (hyb : y ≠ b) (hxb : x ≠ b) (hzb : z ≠ b) (hxy : x ≠ y) (hzy : z ≠ y) (hyA : 0 < n → Off A [y]) (hp : p ≤ n) :
    CallsD Try.prog 67 #[ptr x, ptr y, ptr z] (.panicking (gave e)) w (fun e' u w' => u = .panicking [{ v := .iface 82 (.agg #[.int .i64 e]), recovered := true }] ∧ e' = .returned (.tuple #[]) ∧ Mod [y, b] w w' ∧ Rdr w' 76 b { s with pos := p, err := e, spot := p } A n c ∧ Blk w' y ty [.int .i64 0]) := by
  refine callsD_recover (n := 32) (args := [ptr x, ptr y, ptr z]) (st := params 0 [ptr x, ptr y, ptr z]) Try.func67 rfl rfl (st_params _ _ 0) rfl (.inr ⟨_, _, rfl, rfl, rfl⟩) ?_
  obtain ⟨hb, hr, ho, hl, hpp, hla, hbig, hcap⟩ := h
  repeat (first | refine T_seq ?_ | refine T_region ?_ | refine T_cond_true rfl ?_ | refine TL_ine_t TE (hk := ?_) | refine TL_nil ?_ | refine TL_move (hk := ?_) | refine TL_assign (hk := ?_) | refine TL_extract (hk := ?_) | refine TL_assert_t TE (hk := ?_))
  refine TL_alloc TE (hk := ?_); intro g w1 e1 g1 g2 kg
  --
  refine TL_store1 TE rfl rfl rfl rfl rfl (by exact kg) (by decide) (hk := ?_); intro w2 m2 s2 k2
  have e2 : Ext w w2 := Mod.step e1 m2 (fun y hy => .inr (by simp only [List.mem_singleton] at hy; omega))
  repeat (first | refine T_seq ?_ | refine T_region ?_ | refine T_cond_false rfl ?_ | refine T_skip ?_ | refine TL_nil ?_ | refine TL_move (hk := ?_) | refine TL_assign (hk := ?_) | refine TL_not (hk := ?_))
  have hxl := hx.be e2
  have hzl := hz.be e2
  have hyl := hy.be e2
  have hbl := hb.be e2
  refine T_region_h TE (fun w' => Blk w' x tx [.int .i64 (p : Int)] ∧ Blk w' z tz [ptr b] ∧ Blk w' g 82 [.int .i64 e]) (fun w3 e3 s3 => ⟨⟨hxl.be e3, hzl.be e3, k2.be e3⟩, ?_⟩)
  have hx3 := hxl.be e3
  have hz3 := hzl.be e3
  have hy3 := hyl.be e3
  have hb3 := hbl.be e3
  have hg3 := k2.be e3
  refine TH_load 0 TE rfl (by kernel_rfl) (by kernel_rfl) (by kernel_rfl) rfl rfl rfl rfl (by rintro w' ⟨h1, h2, h3⟩; first | exact h1 | exact h2 | exact h3) (by exact rfl) ?_; refine TH_load 1 TE rfl (by kernel_rfl) (by kernel_rfl) (by kernel_rfl) rfl rfl rfl rfl (by rintro w' ⟨h1, h2, h3⟩; first | exact h1 | exact h2 | exact h3) (by exact rfl) ?_; refine TH_load 2 TE rfl (by kernel_rfl) (by kernel_rfl) (by kernel_rfl) rfl rfl rfl rfl (by rintro w' ⟨h1, h2, h3⟩; first | exact h1 | exact h2 | exact h3) (by exact rfl) ?_
  refine TH_move 3 rfl (by kernel_rfl) (by kernel_rfl) (by kernel_rfl) rfl rfl ?_
  refine TH_load 4 TE rfl (by kernel_rfl) (by kernel_rfl) (by kernel_rfl) rfl rfl rfl rfl (by rintro w' ⟨h1, h2, h3⟩; first | exact h1 | exact h2 | exact h3) (by exact rfl) ?_
  refine TH_fieldAddr 5 TE rfl (by kernel_rfl) (by kernel_rfl) (by kernel_rfl) rfl rfl rfl rfl rfl rfl ?_
  refine TH_load 6 TE rfl (by kernel_rfl) (by kernel_rfl) (by kernel_rfl) rfl rfl rfl rfl (by rintro w' ⟨h1, h2, h3⟩; first | exact h1 | exact h2 | exact h3) (by exact rfl) ?_; refine TH_load 7 TE rfl (by kernel_rfl) (by kernel_rfl) (by kernel_rfl) rfl rfl rfl rfl (by rintro w' ⟨h1, h2, h3⟩; first | exact h1 | exact h2 | exact h3) (by exact rfl) ?_
  have yg : y < g := Nat.lt_of_lt_of_le hy.lt g1
  have bg : b < g := Nat.lt_of_lt_of_le hb.lt g1
  refine TH_store 8 TE rfl (by kernel_rfl) rfl rfl rfl rfl (by focus ((repeat (first | assumption | (apply Own.rd; assumption) | (apply Rd.blk; assumption; exact rfl) | (apply Blk.be; assumption) | (apply Rd.be; assumption) | (apply Own.be; assumption) | (apply Blk.bm; assumption; focus (first | assumption | (simp only [List.mem_cons, List.not_mem_nil, or_false]; omega))) | (apply Rd.bm; assumption; focus assumption) | (apply Own.bm; assumption; focus assumption))); done)) (by first | decide | (simp; done) | (simp; omega)) ?_; intro w4 m4 s4 k4
  have hx4 := hx3.mod m4 (by simpa using hxy)
  have hz4 := hz3.mod m4 (by simpa using hzy)
  have hg4 := hg3.mod m4 (by simp; omega)
  have hb4 := hb3.mod m4 (by simpa using Ne.symm hyb)
  refine ⟨⟨hx4, hz4, hg4⟩, ?_⟩
  refine TH_nilCheck 9 rfl (by kernel_rfl) (by kernel_rfl) (by kernel_rfl) rfl rfl ?_
  refine TH_fieldAddr 10 TE rfl (by kernel_rfl) (by kernel_rfl) (by kernel_rfl) rfl rfl rfl rfl rfl rfl ?_
  refine TH_store 11 TE rfl (by kernel_rfl) rfl rfl rfl rfl (by focus ((repeat (first | assumption | (apply Own.rd; assumption) | (apply Rd.blk; assumption; exact rfl) | (apply Blk.be; assumption) | (apply Rd.be; assumption) | (apply Own.be; assumption) | (apply Blk.bm; assumption; focus (first | assumption | (simp only [List.mem_cons, List.not_mem_nil, or_false]; omega))) | (apply Rd.bm; assumption; focus assumption) | (apply Own.bm; assumption; focus assumption))); done)) (by first | decide | (simp; done) | (simp; omega)) ?_; intro w5 m5 s5 k5
  have hx5 := hx4.mod m5 (by simpa using hxb)
  have hz5 := hz4.mod m5 (by simpa using hzb)
  have hg5 := hg4.mod m5 (by simp; omega)
  have hy5 := k4.mod m5 (by simpa using hyb)
  refine ⟨⟨hx5, hz5, hg5⟩, ?_⟩
  refine TH_nilCheck 12 rfl (by kernel_rfl) (by kernel_rfl) (by kernel_rfl) rfl rfl ?_
  refine TH_fieldAddr 13 TE rfl (by kernel_rfl) (by kernel_rfl) (by kernel_rfl) rfl rfl rfl rfl rfl rfl ?_
  refine TH_store 14 TE rfl (by kernel_rfl) rfl rfl rfl rfl (by focus ((repeat (first | assumption | (apply Own.rd; assumption) | (apply Rd.blk; assumption; exact rfl) | (apply Blk.be; assumption) | (apply Rd.be; assumption) | (apply Own.be; assumption) | (apply Blk.bm; assumption; focus (first | assumption | (simp only [List.mem_cons, List.not_mem_nil, or_false]; omega))) | (apply Rd.bm; assumption; focus assumption) | (apply Own.bm; assumption; focus assumption))); done)) (by first | decide | (simp; done) | (simp; omega)) ?_; intro w6 m6 s6 k6
  have hx6 := hx5.mod m6 (by simpa using hxb)
  have hz6 := hz5.mod m6 (by simpa using hzb)
  have hg6 := hg5.mod m6 (by simp; omega)
  have hy6 := hy5.mod m6 (by simpa using hyb)
  refine ⟨⟨hx6, hz6, hg6⟩, ?_⟩
  refine TH_nilCheck 15 rfl (by kernel_rfl) (by kernel_rfl) (by kernel_rfl) rfl rfl ?_
  refine TH_fieldAddr 16 TE rfl (by kernel_rfl) (by kernel_rfl) (by kernel_rfl) rfl rfl rfl rfl rfl rfl ?_
  refine TH_store 17 TE rfl (by kernel_rfl) rfl rfl rfl rfl (by focus ((repeat (first | assumption | (apply Own.rd; assumption) | (apply Rd.blk; assumption; exact rfl) | (apply Blk.be; assumption) | (apply Rd.be; assumption) | (apply Own.be; assumption) | (apply Blk.bm; assumption; focus (first | assumption | (simp only [List.mem_cons, List.not_mem_nil, or_false]; omega))) | (apply Rd.bm; assumption; focus assumption) | (apply Own.bm; assumption; focus assumption))); done)) (by first | decide | (simp; done) | (simp; omega)) ?_; intro w7 m7 s7 k7
  have hx7 := hx6.mod m7 (by simpa using hxb)
  have hz7 := hz6.mod m7 (by simpa using hzb)
  have hg7 := hg6.mod m7 (by simp; omega)
  have hy7 := hy6.mod m7 (by simpa using hyb)
  refine ⟨⟨hx7, hz7, hg7⟩, ?_⟩
  refine TH_done (by kernel_rfl) ?_
  have hm : Mod [y, b] w w7 := by
    have a1 : Mod [y, b] w w3 := Ext.mod (Mod.ext e2 e3)
    have a2 := a1.step m4 (fun q hq => .inl (by simp only [List.mem_cons, List.not_mem_nil, or_false] at hq ⊢; omega))
    have a3 := a2.step m5 (fun q hq => .inl (by simp only [List.mem_cons, List.not_mem_nil, or_false] at hq ⊢; omega))
    have a4 := a3.step m6 (fun q hq => .inl (by simp only [List.mem_cons, List.not_mem_nil, or_false] at hq ⊢; omega))
    exact a4.step m7 (fun q hq => .inl (by simp only [List.mem_cons, List.not_mem_nil, or_false] at hq ⊢; omega))
  refine T_end0' rfl ⟨rfl, hm, ⟨k7, Rd.mod0 hr hm ?_, ho, hl, hp, hla, hbig, hcap⟩, hy7⟩
  intro hn0 ad ea hq
  simp only [List.mem_cons, List.not_mem_nil, or_false] at hq
  rcases hq with hq | hq
  · exact hyA hn0 ad ea (by simpa using hq)
  · exact ho ad ea (by simpa using hq)
theorem rd_int64 {α : Type} (b : Nat) (s : RS) (A : Option Addr) (n c : Nat) (w : World) (g : Nat) (fst cap : List Value) (V : α → Value) (z0 : α) (hV : V z0 = .int .i64 0) (hV1 : ∀ x, (V x).oneCell' = true) (t : List UInt8 → Except Int (α × Nat)) (hE : TE.fn g = true) (h : Rdr w 76 b s A n c)
    (hc : ∀ w', Ext w w' → Calls Try.prog g (fst ++ cap).toArray w' (Took w' b s A n c V (t (s.b.drop s.pos)))) :
    Ret Try.prog 48 [ptr b, .func (.func g) fst.toArray cap.toArray] w (fun v w' => v = V (s.take z0 t).1 ∧ Mod [b] w w' ∧ Rdr w' 76 b (s.take z0 t).2 A n c) := by
  have h0 := h
  obtain ⟨hb, hr, ho, hl, hpp, hla, hbig, hcap⟩ := h
  refine ret_T (n := 28) Try.func48 rfl rfl ?_
  repeat (first | refine T_seq ?_ | refine T_region ?_)
  refine TL_box (hk := ?_); intro x1 w1 e1 g1 g1' k1
  --
  refine TL_alloc TE (hk := ?_); intro x2 w2 e2 g2 g2' k2
  have e02 : Ext w w2 := e1.ext e2
  have hb2 := hb.be e02
  have k12 : Blk w2 x1 _ [ptr b] := k1.be e2
  have k22 : Blk w2 x2 _ [.int .i64 0] := k2
  have lb := hb.lt
  have ls1 := e1.size
  by_cases he : s.err = 0
  · rw [he] at hb2
    repeat (first | refine T_seq ?_ | refine T_region ?_ | refine T_cond_false rfl ?_ | refine T_skip ?_ | refine TL_ne_f (hk := ?_) | refine TL_pnil_f TE (hk := ?_) | refine TL_nil ?_ | refine TL_move (hk := ?_) | refine TL_load TE (hk := ?_) | refine TL_fieldAddr TE (hk := ?_) | refine TL_yes (hk := ?_) | refine TL_pick_f (hk := ?_) | refine TL_nilCheck (hk := ?_))
    refine TL_alloc TE (hk := ?_); intro x3 w3 e3 g3 g3' k3
    --
    refine TL_store TE (hk := ?_); intro w4 m4 s4 k4
    have e34 : Ext w2 w4 := Mod.step e3 m4 (fun y hy => .inr (by simp only [List.mem_singleton] at hy; omega))
    have e04 : Ext w w4 := e02.ext e34
    have k14 := k12.be e34
    have k24 := k22.be e34
    have k34 : Blk w4 x3 _ [.int .i64 (s.pos : Int)] := k4
    have hc4 := hc w4 e04
    have l12 : x1 < x2 := by omega
    have ls2 := e2.size
    have l23 : x2 < x3 := by omega
    repeat (first | refine T_seq ?_ | refine T_region ?_ | refine TL_nil ?_ | refine TL_makeFunc (hk := ?_))
    refine TL_defer rfl rfl rfl ?_
    repeat (first | refine T_seq ?_ | refine T_region ?_ | refine TL_nil ?_ | refine TL_move (hk := ?_))
    refine TL_callc TE (fst := fst) (cap := cap) (vs := []) rfl rfl hE rfl (by simpa using hc4) ?_ ?_ (fun _ h => h)
    · rintro _ w5 ⟨x, k, hx, rfl, m5, h5⟩
      rw [take_ok he hx]
      have k15 := k14.mod m5 (by simp; omega)
      have k25 := k24.mod m5 (by simp; omega)
      have k35 := k34.mod m5 (by simp; omega)
      obtain ⟨hb5, hr5, _, _, hp5, _, _, _⟩ := h5
      simp only at hb5 hr5 hp5
      refine TL_store TE rfl rfl (hV1 x) rfl (by exact k25) (by decide) (hk := ?_); intro w6 m6 s6 k6
      have k16 := k15.mod m6 (by simp; omega)
      have k36 := k35.mod m6 (by simp; omega)
      have hb6 := hb5.mod m6 (by simp; omega)
      have hr6 := Rd.mod0 hr5 m6 (Rd.offNew hr (by omega))
      repeat (first | refine T_seq ?_ | refine T_region ?_ | refine TL_nil ?_ | refine TL_load TE (hk := ?_) | refine TL_fieldAddr TE (hk := ?_) | refine TL_nilCheck (hk := ?_))
      refine TL_store TE (hk := ?_); intro w7 m7 s7 k7
      have k17 := k16.mod m7 (by simp; omega)
      have k37 := k36.mod m7 (by simp; omega)
      have k27 : Blk w7 x2 _ [V x] := k6.mod m7 (by simp; omega)
      have hr7 := hr6.mod m7 ho
      repeat (first | refine T_seq ?_ | refine T_region ?_ | refine TL_nil ?_ | refine TL_load TE (hk := ?_))
      refine TL_store TE rfl rfl (hV1 x) rfl (by exact k27) (by simp) (hk := ?_); intro w8 m8 s8 k8
      have hb8 := k7.mod m8 (by simp; omega)
      have hr8 := Rd.mod0 hr7 m8 (Rd.offNew hr (by omega))
      have hm : Mod [b] w w8 := by
        have a1 : Mod [b] w w5 := (Ext.mod e04).trans m5
        have a2 := a1.step m6 (fun q hq => .inr (by simp only [List.mem_singleton] at hq; omega))
        have a3 := a2.trans m7
        exact a3.step m8 (fun q hq => .inr (by simp only [List.mem_singleton] at hq; omega))
      repeat (refine TL_nil ?_)
      refine T_leave ?_
      refine LV_defer TE (args := []) (cap := [ptr x3, ptr x2, ptr x1]) rfl (by simp) (rdd0_int64 w8 x3 x2 x1) ?_ ?_ ?_
      · rintro v u' w9 ⟨rfl, hv, rfl⟩
        refine LV_ret rfl (res1c TE rfl rfl rfl rfl k8 rfl) ?_
        exact ⟨rfl, hm, ⟨hb8, hr8, ho, hl, hp5, hpp, hbig, hcap⟩⟩
      · rintro ch u' w9 ⟨_, hv, _⟩; cases hv
      · rintro u' w9 ⟨_, hv, _⟩; cases hv
    · rintro ch w5 ⟨e, p, hx, rfl, m5, h5⟩
      rw [take_err he hx]
      have k15 := k14.mod m5 (by simp; omega)
      have k25 := k24.mod m5 (by simp; omega)
      have k35 := k34.mod m5 (by simp; omega)
      refine LV_defer TE (args := []) (cap := [ptr x3, ptr x2, ptr x1]) rfl (by simp) (rdd1_int64 b _ A n c e w5 x3 x2 x1 _ _ _ s.pos _ h5 k35 k25 k15 (by omega) (by omega) (by omega) (by omega) (by omega) (Rd.offNew hr (by omega)) hpp) ?_ ?_ ?_
      · rintro v u' w9 ⟨rfl, hv, m9, h9, k9⟩
        refine LV_ret rfl (res1c TE rfl rfl rfl rfl k9 rfl) ?_
        refine ⟨hV.symm, ?_, h9⟩
        exact ((Ext.mod e04).trans m5).step m9 (fun q hq => by simp only [List.mem_cons, List.not_mem_nil, or_false] at hq ⊢; omega)
      · rintro ch u' w9 ⟨_, hv, _⟩; cases hv
      · rintro u' w9 ⟨_, hv, _⟩; cases hv
  · have hs0 : s.take z0 t = (z0, s) := by unfold RS.take; rw [if_neg he]
    rw [hs0]
    repeat (first | refine T_seq ?_ | refine T_region ?_ | refine T_cond_true rfl ?_ | refine TL_ne_t (hk := ?_) | refine TL_pnil_f TE (hk := ?_) | refine TL_nil ?_ | refine TL_move (hk := ?_) | refine TL_load TE (hk := ?_) | refine TL_fieldAddr TE (hk := ?_) | refine TL_yes (hk := ?_) | refine TL_pick_f (hk := ?_) | refine TL_nilCheck (hk := ?_))
    refine TL_store TE (hk := ?_); intro w3 m3 s3 k3
    have hm : Ext w w3 := Mod.step e02 m3 (fun y hy => .inr (by simp only [List.mem_singleton] at hy; omega))
    repeat (refine TL_nil ?_)
    exact T_ret1c TE rfl rfl rfl rfl k3 rfl ⟨hV.symm, Ext.mod hm, h0.ext hm⟩
theorem rdd0_string (w : World) (x y z : Nat) : CallsD Try.prog 68 #[ptr x, ptr y, ptr z] .returning w (fun e u w' => u = .returning ∧ e = .returned (.tuple #[]) ∧ w' = w) := by
  refine callsD_recover (n := 32) (args := [ptr x, ptr y, ptr z]) (st := params 0 [ptr x, ptr y, ptr z]) Try.func68 rfl rfl (st_params _ _ 0) rfl (.inl ⟨rfl, rfl, rfl⟩) ?_
  repeat (first | refine T_seq ?_ | refine T_region ?_ | refine T_cond_false rfl ?_ | refine T_skip ?_ | refine TL_ine_f TE (hk := ?_) | refine TL_nil ?_ | refine TL_move (hk := ?_) | refine TL_assign (hk := ?_))
  refine T_end0' rfl ⟨rfl, rfl⟩
theorem rdd1_string (b : Nat) (s : RS) (A : Option Addr) (n c : Nat) (e : Int) (w : World) (x y z : Nat) (tx ty tz : TypeId) (p : Nat) (v0 : Value) (h : Rdr w 76 b s A n c) (hx : Blk w x tx [.int .i64 (p : Int)]) (hy : Blk w y ty [v0]) (hz : Blk w z tz [ptr b])
    (hyb : y ≠ b) (hxb : x ≠ b) (hzb : z ≠ b) (hxy : x ≠ y) (hzy : z ≠ y) (hyA : 0 < n → Off A [y]) (hp : p ≤ n) :
    CallsD Try.prog 68 #[ptr x, ptr y, ptr z] (.panicking (gave e)) w (fun e' u w' => u = .panicking [{ v := .iface 82 (.agg #[.int .i64 e]), recovered := true }] ∧ e' = .returned (.tuple #[]) ∧ Mod [y, b] w w' ∧ Rdr w' 76 b { s with pos := p, err := e, spot := p } A n c ∧ Blk w' y ty [.string ⟨#[]⟩]) := by
  refine callsD_recover (n := 32) (args := [ptr x, ptr y, ptr z]) (st := params 0 [ptr x, ptr y, ptr z]) Try.func68 rfl rfl (st_params _ _ 0) rfl (.inr ⟨_, _, rfl, rfl, rfl⟩) ?_
  obtain ⟨hb, hr, ho, hl, hpp, hla, hbig, hcap⟩ := h
  repeat (first | refine T_seq ?_ | refine T_region ?_ | refine T_cond_true rfl ?_ | refine TL_ine_t TE (hk := ?_) | refine TL_nil ?_ | refine TL_move (hk := ?_) | refine TL_assign (hk := ?_) | refine TL_extract (hk := ?_) | refine TL_assert_t TE (hk := ?_))
  refine TL_alloc TE (hk := ?_); intro g w1 e1 g1 g2 kg
  --
  refine TL_store1 TE rfl rfl rfl rfl rfl (by exact kg) (by decide) (hk := ?_); intro w2 m2 s2 k2
  have e2 : Ext w w2 := Mod.step e1 m2 (fun y hy => .inr (by simp only [List.mem_singleton] at hy; omega))
  repeat (first | refine T_seq ?_ | refine T_region ?_ | refine T_cond_false rfl ?_ | refine T_skip ?_ | refine TL_nil ?_ | refine TL_move (hk := ?_) | refine TL_assign (hk := ?_) | refine TL_not (hk := ?_))
  have hxl := hx.be e2
  have hzl := hz.be e2
  have hyl := hy.be e2
  have hbl := hb.be e2
  refine T_region_h TE (fun w' => Blk w' x tx [.int .i64 (p : Int)] ∧ Blk w' z tz [ptr b] ∧ Blk w' g 82 [.int .i64 e]) (fun w3 e3 s3 => ⟨⟨hxl.be e3, hzl.be e3, k2.be e3⟩, ?_⟩)
  have hx3 := hxl.be e3
  have hz3 := hzl.be e3
  have hy3 := hyl.be e3
  have hb3 := hbl.be e3
  have hg3 := k2.be e3
  refine TH_load 0 TE rfl (by kernel_rfl) (by kernel_rfl) (by kernel_rfl) rfl rfl rfl rfl (by rintro w' ⟨h1, h2, h3⟩; first | exact h1 | exact h2 | exact h3) (by exact rfl) ?_; refine TH_load 1 TE rfl (by kernel_rfl) (by kernel_rfl) (by kernel_rfl) rfl rfl rfl rfl (by rintro w' ⟨h1, h2, h3⟩; first | exact h1 | exact h2 | exact h3) (by exact rfl) ?_; refine TH_load 2 TE rfl (by kernel_rfl) (by kernel_rfl) (by kernel_rfl) rfl rfl rfl rfl (by rintro w' ⟨h1, h2, h3⟩; first | exact h1 | exact h2 | exact h3) (by exact rfl) ?_
  refine TH_move 3 rfl (by kernel_rfl) (by kernel_rfl) (by kernel_rfl) rfl rfl ?_
  refine TH_load 4 TE rfl (by kernel_rfl) (by kernel_rfl) (by kernel_rfl) rfl rfl rfl rfl (by rintro w' ⟨h1, h2, h3⟩; first | exact h1 | exact h2 | exact h3) (by exact rfl) ?_
  refine TH_fieldAddr 5 TE rfl (by kernel_rfl) (by kernel_rfl) (by kernel_rfl) rfl rfl rfl rfl rfl rfl ?_
  refine TH_load 6 TE rfl (by kernel_rfl) (by kernel_rfl) (by kernel_rfl) rfl rfl rfl rfl (by rintro w' ⟨h1, h2, h3⟩; first | exact h1 | exact h2 | exact h3) (by exact rfl) ?_; refine TH_load 7 TE rfl (by kernel_rfl) (by kernel_rfl) (by kernel_rfl) rfl rfl rfl rfl (by rintro w' ⟨h1, h2, h3⟩; first | exact h1 | exact h2 | exact h3) (by exact rfl) ?_
  have yg : y < g := Nat.lt_of_lt_of_le hy.lt g1
  have bg : b < g := Nat.lt_of_lt_of_le hb.lt g1
  refine TH_store 8 TE rfl (by kernel_rfl) rfl rfl rfl rfl (by focus ((repeat (first | assumption | (apply Own.rd; assumption) | (apply Rd.blk; assumption; exact rfl) | (apply Blk.be; assumption) | (apply Rd.be; assumption) | (apply Own.be; assumption) | (apply Blk.bm; assumption; focus (first | assumption | (simp only [List.mem_cons, List.not_mem_nil, or_false]; omega))) | (apply Rd.bm; assumption; focus assumption) | (apply Own.bm; assumption; focus assumption))); done)) (by first | decide | (simp; done) | (simp; omega)) ?_; intro w4 m4 s4 k4
  have hx4 := hx3.mod m4 (by simpa using hxy)
  have hz4 := hz3.mod m4 (by simpa using hzy)
  have hg4 := hg3.mod m4 (by simp; omega)
  have hb4 := hb3.mod m4 (by simpa using Ne.symm hyb)
  refine ⟨⟨hx4, hz4, hg4⟩, ?_⟩
  refine TH_nilCheck 9 rfl (by kernel_rfl) (by kernel_rfl) (by kernel_rfl) rfl rfl ?_
  refine TH_fieldAddr 10 TE rfl (by kernel_rfl) (by kernel_rfl) (by kernel_rfl) rfl rfl rfl rfl rfl rfl ?_
  refine TH_store 11 TE rfl (by kernel_rfl) rfl rfl rfl rfl (by focus ((repeat (first | assumption | (apply Own.rd; assumption) | (apply Rd.blk; assumption; exact rfl) | (apply Blk.be; assumption) | (apply Rd.be; assumption) | (apply Own.be; assumption) | (apply Blk.bm; assumption; focus (first | assumption | (simp only [List.mem_cons, List.not_mem_nil, or_false]; omega))) | (apply Rd.bm; assumption; focus assumption) | (apply Own.bm; assumption; focus assumption))); done)) (by first | decide | (simp; done) | (simp; omega)) ?_; intro w5 m5 s5 k5
  have hx5 := hx4.mod m5 (by simpa using hxb)
  have hz5 := hz4.mod m5 (by simpa using hzb)
  have hg5 := hg4.mod m5 (by simp; omega)
  have hy5 := k4.mod m5 (by simpa using hyb)
  refine ⟨⟨hx5, hz5, hg5⟩, ?_⟩
  refine TH_nilCheck 12 rfl (by kernel_rfl) (by kernel_rfl) (by kernel_rfl) rfl rfl ?_
  refine TH_fieldAddr 13 TE rfl (by kernel_rfl) (by kernel_rfl) (by kernel_rfl) rfl rfl rfl rfl rfl rfl ?_
  refine TH_store 14 TE rfl (by kernel_rfl) rfl rfl rfl rfl (by focus ((repeat (first | assumption | (apply Own.rd; assumption) | (apply Rd.blk; assumption; exact rfl) | (apply Blk.be; assumption) | (apply Rd.be; assumption) | (apply Own.be; assumption) | (apply Blk.bm; assumption; focus (first | assumption | (simp only [List.mem_cons, List.not_mem_nil, or_false]; omega))) | (apply Rd.bm; assumption; focus assumption) | (apply Own.bm; assumption; focus assumption))); done)) (by first | decide | (simp; done) | (simp; omega)) ?_; intro w6 m6 s6 k6
  have hx6 := hx5.mod m6 (by simpa using hxb)
  have hz6 := hz5.mod m6 (by simpa using hzb)
  have hg6 := hg5.mod m6 (by simp; omega)
  have hy6 := hy5.mod m6 (by simpa using hyb)
  refine ⟨⟨hx6, hz6, hg6⟩, ?_⟩
  refine TH_nilCheck 15 rfl (by kernel_rfl) (by kernel_rfl) (by kernel_rfl) rfl rfl ?_
  refine TH_fieldAddr 16 TE rfl (by kernel_rfl) (by kernel_rfl) (by kernel_rfl) rfl rfl rfl rfl rfl rfl ?_
  refine TH_store 17 TE rfl (by kernel_rfl) rfl rfl rfl rfl (by focus ((repeat (first | assumption | (apply Own.rd; assumption) | (apply Rd.blk; assumption; exact rfl) | (apply Blk.be; assumption) | (apply Rd.be; assumption) | (apply Own.be; assumption) | (apply Blk.bm; assumption; focus (first | assumption | (simp only [List.mem_cons, List.not_mem_nil, or_false]; omega))) | (apply Rd.bm; assumption; focus assumption) | (apply Own.bm; assumption; focus assumption))); done)) (by first | decide | (simp; done) | (simp; omega)) ?_; intro w7 m7 s7 k7
  have hx7 := hx6.mod m7 (by simpa using hxb)
  have hz7 := hz6.mod m7 (by simpa using hzb)
  have hg7 := hg6.mod m7 (by simp; omega)
  have hy7 := hy6.mod m7 (by simpa using hyb)
  refine ⟨⟨hx7, hz7, hg7⟩, ?_⟩
  refine TH_done (by kernel_rfl) ?_
  have hm : Mod [y, b] w w7 := by
    have a1 : Mod [y, b] w w3 := Ext.mod (Mod.ext e2 e3)
    have a2 := a1.step m4 (fun q hq => .inl (by simp only [List.mem_cons, List.not_mem_nil, or_false] at hq ⊢; omega))
    have a3 := a2.step m5 (fun q hq => .inl (by simp only [List.mem_cons, List.not_mem_nil, or_false] at hq ⊢; omega))
    have a4 := a3.step m6 (fun q hq => .inl (by simp only [List.mem_cons, List.not_mem_nil, or_false] at hq ⊢; omega))
    exact a4.step m7 (fun q hq => .inl (by simp only [List.mem_cons, List.not_mem_nil, or_false] at hq ⊢; omega))
  refine T_end0' rfl ⟨rfl, hm, ⟨k7, Rd.mod0 hr hm ?_, ho, hl, hp, hla, hbig, hcap⟩, hy7⟩
  intro hn0 ad ea hq
  simp only [List.mem_cons, List.not_mem_nil, or_false] at hq
  rcases hq with hq | hq
  · exact hyA hn0 ad ea (by simpa using hq)
  · exact ho ad ea (by simpa using hq)
theorem rd_string {α : Type} (b : Nat) (s : RS) (A : Option Addr) (n c : Nat) (w : World) (g : Nat) (fst cap : List Value) (V : α → Value) (z0 : α) (hV : V z0 = .string ⟨#[]⟩) (hV1 : ∀ x, (V x).oneCell' = true) (t : List UInt8 → Except Int (α × Nat)) (hE : TE.fn g = true) (h : Rdr w 76 b s A n c)
    (hc : ∀ w', Ext w w' → Calls Try.prog g (fst ++ cap).toArray w' (Took w' b s A n c V (t (s.b.drop s.pos)))) :
    Ret Try.prog 50 [ptr b, .func (.func g) fst.toArray cap.toArray] w (fun v w' => v = V (s.take z0 t).1 ∧ Mod [b] w w' ∧ Rdr w' 76 b (s.take z0 t).2 A n c) := by
  have h0 := h
  obtain ⟨hb, hr, ho, hl, hpp, hla, hbig, hcap⟩ := h
  refine ret_T (n := 28) Try.func50 rfl rfl ?_
  repeat (first | refine T_seq ?_ | refine T_region ?_)
  refine TL_box (hk := ?_); intro x1 w1 e1 g1 g1' k1
  --
  refine TL_alloc TE (hk := ?_); intro x2 w2 e2 g2 g2' k2
  have e02 : Ext w w2 := e1.ext e2
  have hb2 := hb.be e02
  have k12 : Blk w2 x1 _ [ptr b] := k1.be e2
  have k22 : Blk w2 x2 _ [.string ⟨#[]⟩] := k2
  have lb := hb.lt
  have ls1 := e1.size
  by_cases he : s.err = 0
  · rw [he] at hb2
    repeat (first | refine T_seq ?_ | refine T_region ?_ | refine T_cond_false rfl ?_ | refine T_skip ?_ | refine TL_ne_f (hk := ?_) | refine TL_pnil_f TE (hk := ?_) | refine TL_nil ?_ | refine TL_move (hk := ?_) | refine TL_load TE (hk := ?_) | refine TL_fieldAddr TE (hk := ?_) | refine TL_yes (hk := ?_) | refine TL_pick_f (hk := ?_) | refine TL_nilCheck (hk := ?_))
    refine TL_alloc TE (hk := ?_); intro x3 w3 e3 g3 g3' k3
    --
    refine TL_store TE (hk := ?_); intro w4 m4 s4 k4
    have e34 : Ext w2 w4 := Mod.step e3 m4 (fun y hy => .inr (by simp only [List.mem_singleton] at hy; omega))
    have e04 : Ext w w4 := e02.ext e34
    have k14 := k12.be e34
    have k24 := k22.be e34
    have k34 : Blk w4 x3 _ [.int .i64 (s.pos : Int)] := k4
    have hc4 := hc w4 e04
    have l12 : x1 < x2 := by omega
    have ls2 := e2.size
    have l23 : x2 < x3 := by omega
    repeat (first | refine T_seq ?_ | refine T_region ?_ | refine TL_nil ?_ | refine TL_makeFunc (hk := ?_))
    refine TL_defer rfl rfl rfl ?_
    repeat (first | refine T_seq ?_ | refine T_region ?_ | refine TL_nil ?_ | refine TL_move (hk := ?_))
    refine TL_callc TE (fst := fst) (cap := cap) (vs := []) rfl rfl hE rfl (by simpa using hc4) ?_ ?_ (fun _ h => h)
    · rintro _ w5 ⟨x, k, hx, rfl, m5, h5⟩
      rw [take_ok he hx]
      have k15 := k14.mod m5 (by simp; omega)
      have k25 := k24.mod m5 (by simp; omega)
      have k35 := k34.mod m5 (by simp; omega)
      obtain ⟨hb5, hr5, _, _, hp5, _, _, _⟩ := h5
      simp only at hb5 hr5 hp5
      refine TL_store TE rfl rfl (hV1 x) rfl (by exact k25) (by decide) (hk := ?_); intro w6 m6 s6 k6
      have k16 := k15.mod m6 (by simp; omega)
      have k36 := k35.mod m6 (by simp; omega)
      have hb6 := hb5.mod m6 (by simp; omega)
      have hr6 := Rd.mod0 hr5 m6 (Rd.offNew hr (by omega))
      repeat (first | refine T_seq ?_ | refine T_region ?_ | refine TL_nil ?_ | refine TL_load TE (hk := ?_) | refine TL_fieldAddr TE (hk := ?_) | refine TL_nilCheck (hk := ?_))
      refine TL_store TE (hk := ?_); intro w7 m7 s7 k7
      have k17 := k16.mod m7 (by simp; omega)
      have k37 := k36.mod m7 (by simp; omega)
      have k27 : Blk w7 x2 _ [V x] := k6.mod m7 (by simp; omega)
      have hr7 := hr6.mod m7 ho
      repeat (first | refine T_seq ?_ | refine T_region ?_ | refine TL_nil ?_ | refine TL_load TE (hk := ?_))
      refine TL_store TE rfl rfl (hV1 x) rfl (by exact k27) (by simp) (hk := ?_); intro w8 m8 s8 k8
      have hb8 := k7.mod m8 (by simp; omega)
      have hr8 := Rd.mod0 hr7 m8 (Rd.offNew hr (by omega))
      have hm : Mod [b] w w8 := by
        have a1 : Mod [b] w w5 := (Ext.mod e04).trans m5
        have a2 := a1.step m6 (fun q hq => .inr (by simp only [List.mem_singleton] at hq; omega))
        have a3 := a2.trans m7
        exact a3.step m8 (fun q hq => .inr (by simp only [List.mem_singleton] at hq; omega))
      repeat (refine TL_nil ?_)
      refine T_leave ?_
      refine LV_defer TE (args := []) (cap := [ptr x3, ptr x2, ptr x1]) rfl (by simp) (rdd0_string w8 x3 x2 x1) ?_ ?_ ?_
      · rintro v u' w9 ⟨rfl, hv, rfl⟩
        refine LV_ret rfl (res1c TE rfl rfl rfl rfl k8 rfl) ?_
        exact ⟨rfl, hm, ⟨hb8, hr8, ho, hl, hp5, hpp, hbig, hcap⟩⟩
      · rintro ch u' w9 ⟨_, hv, _⟩; cases hv
      · rintro u' w9 ⟨_, hv, _⟩; cases hv
    · rintro ch w5 ⟨e, p, hx, rfl, m5, h5⟩
      rw [take_err he hx]
      have k15 := k14.mod m5 (by simp; omega)
      have k25 := k24.mod m5 (by simp; omega)
      have k35 := k34.mod m5 (by simp; omega)
      refine LV_defer TE (args := []) (cap := [ptr x3, ptr x2, ptr x1]) rfl (by simp) (rdd1_string b _ A n c e w5 x3 x2 x1 _ _ _ s.pos _ h5 k35 k25 k15 (by omega) (by omega) (by omega) (by omega) (by omega) (Rd.offNew hr (by omega)) hpp) ?_ ?_ ?_
      · rintro v u' w9 ⟨rfl, hv, m9, h9, k9⟩
        refine LV_ret rfl (res1c TE rfl rfl rfl rfl k9 rfl) ?_
        refine ⟨hV.symm, ?_, h9⟩
        exact ((Ext.mod e04).trans m5).step m9 (fun q hq => by simp only [List.mem_cons, List.not_mem_nil, or_false] at hq ⊢; omega)
      · rintro ch u' w9 ⟨_, hv, _⟩; cases hv
      · rintro u' w9 ⟨_, hv, _⟩; cases hv
  · have hs0 : s.take z0 t = (z0, s) := by unfold RS.take; rw [if_neg he]
    rw [hs0]
    repeat (first | refine T_seq ?_ | refine T_region ?_ | refine T_cond_true rfl ?_ | refine TL_ne_t (hk := ?_) | refine TL_pnil_f TE (hk := ?_) | refine TL_nil ?_ | refine TL_move (hk := ?_) | refine TL_load TE (hk := ?_) | refine TL_fieldAddr TE (hk := ?_) | refine TL_yes (hk := ?_) | refine TL_pick_f (hk := ?_) | refine TL_nilCheck (hk := ?_))
    refine TL_store TE (hk := ?_); intro w3 m3 s3 k3
    have hm : Ext w w3 := Mod.step e02 m3 (fun y hy => .inr (by simp only [List.mem_singleton] at hy; omega))
    repeat (refine TL_nil ?_)
    exact T_ret1c TE rfl rfl rfl rfl k3 rfl ⟨hV.symm, Ext.mod hm, h0.ext hm⟩
theorem rdd0_byte (w : World) (x y z : Nat) : CallsD Try.prog 72 #[ptr x, ptr y, ptr z] .returning w (fun e u w' => u = .returning ∧ e = .returned (.tuple #[]) ∧ w' = w) := by
  refine callsD_recover (n := 32) (args := [ptr x, ptr y, ptr z]) (st := params 0 [ptr x, ptr y, ptr z]) Try.func72 rfl rfl (st_params _ _ 0) rfl (.inl ⟨rfl, rfl, rfl⟩) ?_
  repeat (first | refine T_seq ?_ | refine T_region ?_ | refine T_cond_false rfl ?_ | refine T_skip ?_ | refine TL_ine_f TE (hk := ?_) | refine TL_nil ?_ | refine TL_move (hk := ?_) | refine TL_assign (hk := ?_))
  refine T_end0' rfl ⟨rfl, rfl⟩
theorem rdd1_byte (b : Nat) (s : RS) (A : Option Addr) (n c : Nat) (e : Int) (w : World) (x y z : Nat) (tx ty tz : TypeId) (p : Nat) (v0 : Value) (h : Rdr w 76 b s A n c) (hx : Blk w x tx [.int .i64 (p : Int)]) (hy : Blk w y ty [v0]) (hz : Blk w z tz [ptr b])
    (hyb : y ≠ b) (hxb : x ≠ b) (hzb : z ≠ b) (hxy : x ≠ y) (hzy : z ≠ y) (hyA : 0 < n → Off A [y]) (hp : p ≤ n) :
    CallsD Try.prog 72 #[ptr x, ptr y, ptr z] (.panicking (gave e)) w (fun e' u w' => u = .panicking [{ v := .iface 82 (.agg #[.int .i64 e]), recovered := true }] ∧ e' = .returned (.tuple #[]) ∧ Mod [y, b] w w' ∧ Rdr w' 76 b { s with pos := p, err := e, spot := p } A n c ∧ Blk w' y ty [.int .u8 0]) := by
  refine callsD_recover (n := 32) (args := [ptr x, ptr y, ptr z]) (st := params 0 [ptr x, ptr y, ptr z]) Try.func72 rfl rfl (st_params _ _ 0) rfl (.inr ⟨_, _, rfl, rfl, rfl⟩) ?_
  obtain ⟨hb, hr, ho, hl, hpp, hla, hbig, hcap⟩ := h
  repeat (first | refine T_seq ?_ | refine T_region ?_ | refine T_cond_true rfl ?_ | refine TL_ine_t TE (hk := ?_) | refine TL_nil ?_ | refine TL_move (hk := ?_) | refine TL_assign (hk := ?_) | refine TL_extract (hk := ?_) | refine TL_assert_t TE (hk := ?_))
  refine TL_alloc TE (hk := ?_); intro g w1 e1 g1 g2 kg
  --
  refine TL_store1 TE rfl rfl rfl rfl rfl (by exact kg) (by decide) (hk := ?_); intro w2 m2 s2 k2
  have e2 : Ext w w2 := Mod.step e1 m2 (fun y hy => .inr (by simp only [List.mem_singleton] at hy; omega))
  repeat (first | refine T_seq ?_ | refine T_region ?_ | refine T_cond_false rfl ?_ | refine T_skip ?_ | refine TL_nil ?_ | refine TL_move (hk := ?_) | refine TL_assign (hk := ?_) | refine TL_not (hk := ?_))
  have hxl := hx.be e2
  have hzl := hz.be e2
  have hyl := hy.be e2
  have hbl := hb.be e2
  refine T_region_h TE (fun w' => Blk w' x tx [.int .i64 (p : Int)] ∧ Blk w' z tz [ptr b] ∧ Blk w' g 82 [.int .i64 e]) (fun w3 e3 s3 => ⟨⟨hxl.be e3, hzl.be e3, k2.be e3⟩, ?_⟩)
  have hx3 := hxl.be e3
  have hz3 := hzl.be e3
  have hy3 := hyl.be e3
  have hb3 := hbl.be e3
  have hg3 := k2.be e3
  refine TH_load 0 TE rfl (by kernel_rfl) (by kernel_rfl) (by kernel_rfl) rfl rfl rfl rfl (by rintro w' ⟨h1, h2, h3⟩; first | exact h1 | exact h2 | exact h3) (by exact rfl) ?_; refine TH_load 1 TE rfl (by kernel_rfl) (by kernel_rfl) (by kernel_rfl) rfl rfl rfl rfl (by rintro w' ⟨h1, h2, h3⟩; first | exact h1 | exact h2 | exact h3) (by exact rfl) ?_; refine TH_load 2 TE rfl (by kernel_rfl) (by kernel_rfl) (by kernel_rfl) rfl rfl rfl rfl (by rintro w' ⟨h1, h2, h3⟩; first | exact h1 | exact h2 | exact h3) (by exact rfl) ?_
  refine TH_move 3 rfl (by kernel_rfl) (by kernel_rfl) (by kernel_rfl) rfl rfl ?_
  refine TH_load 4 TE rfl (by kernel_rfl) (by kernel_rfl) (by kernel_rfl) rfl rfl rfl rfl (by rintro w' ⟨h1, h2, h3⟩; first | exact h1 | exact h2 | exact h3) (by exact rfl) ?_
  refine TH_fieldAddr 5 TE rfl (by kernel_rfl) (by kernel_rfl) (by kernel_rfl) rfl rfl rfl rfl rfl rfl ?_
  refine TH_load 6 TE rfl (by kernel_rfl) (by kernel_rfl) (by kernel_rfl) rfl rfl rfl rfl (by rintro w' ⟨h1, h2, h3⟩; first | exact h1 | exact h2 | exact h3) (by exact rfl) ?_; refine TH_load 7 TE rfl (by kernel_rfl) (by kernel_rfl) (by kernel_rfl) rfl rfl rfl rfl (by rintro w' ⟨h1, h2, h3⟩; first | exact h1 | exact h2 | exact h3) (by exact rfl) ?_
  have yg : y < g := Nat.lt_of_lt_of_le hy.lt g1
  have bg : b < g := Nat.lt_of_lt_of_le hb.lt g1
  refine TH_store 8 TE rfl (by kernel_rfl) rfl rfl rfl rfl (by focus ((repeat (first | assumption | (apply Own.rd; assumption) | (apply Rd.blk; assumption; exact rfl) | (apply Blk.be; assumption) | (apply Rd.be; assumption) | (apply Own.be; assumption) | (apply Blk.bm; assumption; focus (first | assumption | (simp only [List.mem_cons, List.not_mem_nil, or_false]; omega))) | (apply Rd.bm; assumption; focus assumption) | (apply Own.bm; assumption; focus assumption))); done)) (by first | decide | (simp; done) | (simp; omega)) ?_; intro w4 m4 s4 k4
  have hx4 := hx3.mod m4 (by simpa using hxy)
  have hz4 := hz3.mod m4 (by simpa using hzy)
  have hg4 := hg3.mod m4 (by simp; omega)
  have hb4 := hb3.mod m4 (by simpa using Ne.symm hyb)
  refine ⟨⟨hx4, hz4, hg4⟩, ?_⟩
  refine TH_nilCheck 9 rfl (by kernel_rfl) (by kernel_rfl) (by kernel_rfl) rfl rfl ?_
  refine TH_fieldAddr 10 TE rfl (by kernel_rfl) (by kernel_rfl) (by kernel_rfl) rfl rfl rfl rfl rfl rfl ?_
  refine TH_store 11 TE rfl (by kernel_rfl) rfl rfl rfl rfl (by focus ((repeat (first | assumption | (apply Own.rd; assumption) | (apply Rd.blk; assumption; exact rfl) | (apply Blk.be; assumption) | (apply Rd.be; assumption) | (apply Own.be; assumption) | (apply Blk.bm; assumption; focus (first | assumption | (simp only [List.mem_cons, List.not_mem_nil, or_false]; omega))) | (apply Rd.bm; assumption; focus assumption) | (apply Own.bm; assumption; focus assumption))); done)) (by first | decide | (simp; done) | (simp; omega)) ?_; intro w5 m5 s5 k5
  have hx5 := hx4.mod m5 (by simpa using hxb)
  have hz5 := hz4.mod m5 (by simpa using hzb)
  have hg5 := hg4.mod m5 (by simp; omega)
  have hy5 := k4.mod m5 (by simpa using hyb)
  refine ⟨⟨hx5, hz5, hg5⟩, ?_⟩
  refine TH_nilCheck 12 rfl (by kernel_rfl) (by kernel_rfl) (by kernel_rfl) rfl rfl ?_
  refine TH_fieldAddr 13 TE rfl (by kernel_rfl) (by kernel_rfl) (by kernel_rfl) rfl rfl rfl rfl rfl rfl ?_
  refine TH_store 14 TE rfl (by kernel_rfl) rfl rfl rfl rfl (by focus ((repeat (first | assumption | (apply Own.rd; assumption) | (apply Rd.blk; assumption; exact rfl) | (apply Blk.be; assumption) | (apply Rd.be; assumption) | (apply Own.be; assumption) | (apply Blk.bm; assumption; focus (first | assumption | (simp only [List.mem_cons, List.not_mem_nil, or_false]; omega))) | (apply Rd.bm; assumption; focus assumption) | (apply Own.bm; assumption; focus assumption))); done)) (by first | decide | (simp; done) | (simp; omega)) ?_; intro w6 m6 s6 k6
  have hx6 := hx5.mod m6 (by simpa using hxb)
  have hz6 := hz5.mod m6 (by simpa using hzb)
  have hg6 := hg5.mod m6 (by simp; omega)
  have hy6 := hy5.mod m6 (by simpa using hyb)
  refine ⟨⟨hx6, hz6, hg6⟩, ?_⟩
  refine TH_nilCheck 15 rfl (by kernel_rfl) (by kernel_rfl) (by kernel_rfl) rfl rfl ?_
  refine TH_fieldAddr 16 TE rfl (by kernel_rfl) (by kernel_rfl) (by kernel_rfl) rfl rfl rfl rfl rfl rfl ?_
  refine TH_store 17 TE rfl (by kernel_rfl) rfl rfl rfl rfl (by focus ((repeat (first | assumption | (apply Own.rd; assumption) | (apply Rd.blk; assumption; exact rfl) | (apply Blk.be; assumption) | (apply Rd.be; assumption) | (apply Own.be; assumption) | (apply Blk.bm; assumption; focus (first | assumption | (simp only [List.mem_cons, List.not_mem_nil, or_false]; omega))) | (apply Rd.bm; assumption; focus assumption) | (apply Own.bm; assumption; focus assumption))); done)) (by first | decide | (simp; done) | (simp; omega)) ?_; intro w7 m7 s7 k7
  have hx7 := hx6.mod m7 (by simpa using hxb)
  have hz7 := hz6.mod m7 (by simpa using hzb)
  have hg7 := hg6.mod m7 (by simp; omega)
  have hy7 := hy6.mod m7 (by simpa using hyb)
  refine ⟨⟨hx7, hz7, hg7⟩, ?_⟩
  refine TH_done (by kernel_rfl) ?_
  have hm : Mod [y, b] w w7 := by
    have a1 : Mod [y, b] w w3 := Ext.mod (Mod.ext e2 e3)
    have a2 := a1.step m4 (fun q hq => .inl (by simp only [List.mem_cons, List.not_mem_nil, or_false] at hq ⊢; omega))
    have a3 := a2.step m5 (fun q hq => .inl (by simp only [List.mem_cons, List.not_mem_nil, or_false] at hq ⊢; omega))
    have a4 := a3.step m6 (fun q hq => .inl (by simp only [List.mem_cons, List.not_mem_nil, or_false] at hq ⊢; omega))
    exact a4.step m7 (fun q hq => .inl (by simp only [List.mem_cons, List.not_mem_nil, or_false] at hq ⊢; omega))
  refine T_end0' rfl ⟨rfl, hm, ⟨k7, Rd.mod0 hr hm ?_, ho, hl, hp, hla, hbig, hcap⟩, hy7⟩
  intro hn0 ad ea hq
  simp only [List.mem_cons, List.not_mem_nil, or_false] at hq
  rcases hq with hq | hq
  · exact hyA hn0 ad ea (by simpa using hq)
  · exact ho ad ea (by simpa using hq)
theorem rd_byte {α : Type} (b : Nat) (s : RS) (A : Option Addr) (n c : Nat) (w : World) (g : Nat) (fst cap : List Value) (V : α → Value) (z0 : α) (hV : V z0 = .int .u8 0) (hV1 : ∀ x, (V x).oneCell' = true) (t : List UInt8 → Except Int (α × Nat)) (hE : TE.fn g = true) (h : Rdr w 76 b s A n c)
    (hc : ∀ w', Ext w w' → Calls Try.prog g (fst ++ cap).toArray w' (Took w' b s A n c V (t (s.b.drop s.pos)))) :
    Ret Try.prog 62 [ptr b, .func (.func g) fst.toArray cap.toArray] w (fun v w' => v = V (s.take z0 t).1 ∧ Mod [b] w w' ∧ Rdr w' 76 b (s.take z0 t).2 A n c) := by
  have h0 := h
  obtain ⟨hb, hr, ho, hl, hpp, hla, hbig, hcap⟩ := h
  refine ret_T (n := 28) Try.func62 rfl rfl ?_
  repeat (first | refine T_seq ?_ | refine T_region ?_)
  refine TL_box (hk := ?_); intro x1 w1 e1 g1 g1' k1
  --
  refine TL_alloc TE (hk := ?_); intro x2 w2 e2 g2 g2' k2
  have e02 : Ext w w2 := e1.ext e2
  have hb2 := hb.be e02
  have k12 : Blk w2 x1 _ [ptr b] := k1.be e2
  have k22 : Blk w2 x2 _ [.int .u8 0] := k2
  have lb := hb.lt
  have ls1 := e1.size
  by_cases he : s.err = 0
  · rw [he] at hb2
    repeat (first | refine T_seq ?_ | refine T_region ?_ | refine T_cond_false rfl ?_ | refine T_skip ?_ | refine TL_ne_f (hk := ?_) | refine TL_pnil_f TE (hk := ?_) | refine TL_nil ?_ | refine TL_move (hk := ?_) | refine TL_load TE (hk := ?_) | refine TL_fieldAddr TE (hk := ?_) | refine TL_yes (hk := ?_) | refine TL_pick_f (hk := ?_) | refine TL_nilCheck (hk := ?_))
    refine TL_alloc TE (hk := ?_); intro x3 w3 e3 g3 g3' k3
    --
    refine TL_store TE (hk := ?_); intro w4 m4 s4 k4
    have e34 : Ext w2 w4 := Mod.step e3 m4 (fun y hy => .inr (by simp only [List.mem_singleton] at hy; omega))
    have e04 : Ext w w4 := e02.ext e34
    have k14 := k12.be e34
    have k24 := k22.be e34
    have k34 : Blk w4 x3 _ [.int .i64 (s.pos : Int)] := k4
    have hc4 := hc w4 e04
    have l12 : x1 < x2 := by omega
    have ls2 := e2.size
    have l23 : x2 < x3 := by omega
    repeat (first | refine T_seq ?_ | refine T_region ?_ | refine TL_nil ?_ | refine TL_makeFunc (hk := ?_))
    refine TL_defer rfl rfl rfl ?_
    repeat (first | refine T_seq ?_ | refine T_region ?_ | refine TL_nil ?_ | refine TL_move (hk := ?_))
    refine TL_callc TE (fst := fst) (cap := cap) (vs := []) rfl rfl hE rfl (by simpa using hc4) ?_ ?_ (fun _ h => h)
    · rintro _ w5 ⟨x, k, hx, rfl, m5, h5⟩
      rw [take_ok he hx]
      have k15 := k14.mod m5 (by simp; omega)
      have k25 := k24.mod m5 (by simp; omega)
      have k35 := k34.mod m5 (by simp; omega)
      obtain ⟨hb5, hr5, _, _, hp5, _, _, _⟩ := h5
      simp only at hb5 hr5 hp5
      refine TL_store TE rfl rfl (hV1 x) rfl (by exact k25) (by decide) (hk := ?_); intro w6 m6 s6 k6
      have k16 := k15.mod m6 (by simp; omega)
      have k36 := k35.mod m6 (by simp; omega)
      have hb6 := hb5.mod m6 (by simp; omega)
      have hr6 := Rd.mod0 hr5 m6 (Rd.offNew hr (by omega))
      repeat (first | refine T_seq ?_ | refine T_region ?_ | refine TL_nil ?_ | refine TL_load TE (hk := ?_) | refine TL_fieldAddr TE (hk := ?_) | refine TL_nilCheck (hk := ?_))
      refine TL_store TE (hk := ?_); intro w7 m7 s7 k7
      have k17 := k16.mod m7 (by simp; omega)
      have k37 := k36.mod m7 (by simp; omega)
      have k27 : Blk w7 x2 _ [V x] := k6.mod m7 (by simp; omega)
      have hr7 := hr6.mod m7 ho
      repeat (first | refine T_seq ?_ | refine T_region ?_ | refine TL_nil ?_ | refine TL_load TE (hk := ?_))
      refine TL_store TE rfl rfl (hV1 x) rfl (by exact k27) (by simp) (hk := ?_); intro w8 m8 s8 k8
      have hb8 := k7.mod m8 (by simp; omega)
      have hr8 := Rd.mod0 hr7 m8 (Rd.offNew hr (by omega))
      have hm : Mod [b] w w8 := by
        have a1 : Mod [b] w w5 := (Ext.mod e04).trans m5
        have a2 := a1.step m6 (fun q hq => .inr (by simp only [List.mem_singleton] at hq; omega))
        have a3 := a2.trans m7
        exact a3.step m8 (fun q hq => .inr (by simp only [List.mem_singleton] at hq; omega))
      repeat (refine TL_nil ?_)
      refine T_leave ?_
      refine LV_defer TE (args := []) (cap := [ptr x3, ptr x2, ptr x1]) rfl (by simp) (rdd0_byte w8 x3 x2 x1) ?_ ?_ ?_
      · rintro v u' w9 ⟨rfl, hv, rfl⟩
        refine LV_ret rfl (res1c TE rfl rfl rfl rfl k8 rfl) ?_
        exact ⟨rfl, hm, ⟨hb8, hr8, ho, hl, hp5, hpp, hbig, hcap⟩⟩
      · rintro ch u' w9 ⟨_, hv, _⟩; cases hv
      · rintro u' w9 ⟨_, hv, _⟩; cases hv
    · rintro ch w5 ⟨e, p, hx, rfl, m5, h5⟩
      rw [take_err he hx]
      have k15 := k14.mod m5 (by simp; omega)
      have k25 := k24.mod m5 (by simp; omega)
      have k35 := k34.mod m5 (by simp; omega)
      refine LV_defer TE (args := []) (cap := [ptr x3, ptr x2, ptr x1]) rfl (by simp) (rdd1_byte b _ A n c e w5 x3 x2 x1 _ _ _ s.pos _ h5 k35 k25 k15 (by omega) (by omega) (by omega) (by omega) (by omega) (Rd.offNew hr (by omega)) hpp) ?_ ?_ ?_
      · rintro v u' w9 ⟨rfl, hv, m9, h9, k9⟩
        refine LV_ret rfl (res1c TE rfl rfl rfl rfl k9 rfl) ?_
        refine ⟨hV.symm, ?_, h9⟩
        exact ((Ext.mod e04).trans m5).step m9 (fun q hq => by simp only [List.mem_cons, List.not_mem_nil, or_false] at hq ⊢; omega)
      · rintro ch u' w9 ⟨_, hv, _⟩; cases hv
      · rintro u' w9 ⟨_, hv, _⟩; cases hv
  · have hs0 : s.take z0 t = (z0, s) := by unfold RS.take; rw [if_neg he]
    rw [hs0]
    repeat (first | refine T_seq ?_ | refine T_region ?_ | refine T_cond_true rfl ?_ | refine TL_ne_t (hk := ?_) | refine TL_pnil_f TE (hk := ?_) | refine TL_nil ?_ | refine TL_move (hk := ?_) | refine TL_load TE (hk := ?_) | refine TL_fieldAddr TE (hk := ?_) | refine TL_yes (hk := ?_) | refine TL_pick_f (hk := ?_) | refine TL_nilCheck (hk := ?_))
    refine TL_store TE (hk := ?_); intro w3 m3 s3 k3
    have hm : Ext w w3 := Mod.step e02 m3 (fun y hy => .inr (by simp only [List.mem_singleton] at hy; omega))
    repeat (refine TL_nil ?_)
    exact T_ret1c TE rfl rfl rfl rfl k3 rfl ⟨hV.symm, Ext.mod hm, h0.ext hm⟩
theorem rdd0_int (w : World) (x y z : Nat) : CallsD Try.prog 73 #[ptr x, ptr y, ptr z] .returning w (fun e u w' => u = .returning ∧ e = .returned (.tuple #[]) ∧ w' = w) := by
  refine callsD_recover (n := 32) (args := [ptr x, ptr y, ptr z]) (st := params 0 [ptr x, ptr y, ptr z]) Try.func73 rfl rfl (st_params _ _ 0) rfl (.inl ⟨rfl, rfl, rfl⟩) ?_
  repeat (first | refine T_seq ?_ | refine T_region ?_ | refine T_cond_false rfl ?_ | refine T_skip ?_ | refine TL_ine_f TE (hk := ?_) | refine TL_nil ?_ | refine TL_move (hk := ?_) | refine TL_assign (hk := ?_))
  refine T_end0' rfl ⟨rfl, rfl⟩
theorem rdd1_int (b : Nat) (s : RS) (A : Option Addr) (n c : Nat) (e : Int) (w : World) (x y z : Nat) (tx ty tz : TypeId) (p : Nat) (v0 : Value) (h : Rdr w 76 b s A n c) (hx : Blk w x tx [.int .i64 (p : Int)]) (hy : Blk w y ty [v0]) (hz : Blk w z tz [ptr b])
    (hyb : y ≠ b) (hxb : x ≠ b) (hzb : z ≠ b) (hxy : x ≠ y) (hzy : z ≠ y) (hyA : 0 < n → Off A [y]) (hp : p ≤ n) :
    CallsD Try.prog 73 #[ptr x, ptr y, ptr z] (.panicking (gave e)) w (fun e' u w' => u = .panicking [{ v := .iface 82 (.agg #[.int .i64 e]), recovered := true }] ∧ e' = .returned (.tuple #[]) ∧ Mod [y, b] w w' ∧ Rdr w' 76 b { s with pos := p, err := e, spot := p } A n c ∧ Blk w' y ty [.int .i64 0]) := by
  refine callsD_recover (n := 32) (args := [ptr x, ptr y, ptr z]) (st := params 0 [ptr x, ptr y, ptr z]) Try.func73 rfl rfl (st_params _ _ 0) rfl (.inr ⟨_, _, rfl, rfl, rfl⟩) ?_
  obtain ⟨hb, hr, ho, hl, hpp, hla, hbig, hcap⟩ := h
  repeat (first | refine T_seq ?_ | refine T_region ?_ | refine T_cond_true rfl ?_ | refine TL_ine_t TE (hk := ?_) | refine TL_nil ?_ | refine TL_move (hk := ?_) | refine TL_assign (hk := ?_) | refine TL_extract (hk := ?_) | refine TL_assert_t TE (hk := ?_))
  refine TL_alloc TE (hk := ?_); intro g w1 e1 g1 g2 kg
  --
  refine TL_store1 TE rfl rfl rfl rfl rfl (by exact kg) (by decide) (hk := ?_); intro w2 m2 s2 k2
  have e2 : Ext w w2 := Mod.step e1 m2 (fun y hy => .inr (by simp only [List.mem_singleton] at hy; omega))
  repeat (first | refine T_seq ?_ | refine T_region ?_ | refine T_cond_false rfl ?_ | refine T_skip ?_ | refine TL_nil ?_ | refine TL_move (hk := ?_) | refine TL_assign (hk := ?_) | refine TL_not (hk := ?_))
  have hxl := hx.be e2
  have hzl := hz.be e2
  have hyl := hy.be e2
  have hbl := hb.be e2
  refine T_region_h TE (fun w' => Blk w' x tx [.int .i64 (p : Int)] ∧ Blk w' z tz [ptr b] ∧ Blk w' g 82 [.int .i64 e]) (fun w3 e3 s3 => ⟨⟨hxl.be e3, hzl.be e3, k2.be e3⟩, ?_⟩)
  have hx3 := hxl.be e3
  have hz3 := hzl.be e3
  have hy3 := hyl.be e3
  have hb3 := hbl.be e3
  have hg3 := k2.be e3
  refine TH_load 0 TE rfl (by kernel_rfl) (by kernel_rfl) (by kernel_rfl) rfl rfl rfl rfl (by rintro w' ⟨h1, h2, h3⟩; first | exact h1 | exact h2 | exact h3) (by exact rfl) ?_; refine TH_load 1 TE rfl (by kernel_rfl) (by kernel_rfl) (by kernel_rfl) rfl rfl rfl rfl (by rintro w' ⟨h1, h2, h3⟩; first | exact h1 | exact h2 | exact h3) (by exact rfl) ?_; refine TH_load 2 TE rfl (by kernel_rfl) (by kernel_rfl) (by kernel_rfl) rfl rfl rfl rfl (by rintro w' ⟨h1, h2, h3⟩; first | exact h1 | exact h2 | exact h3) (by exact rfl) ?_
  refine TH_move 3 rfl (by kernel_rfl) (by kernel_rfl) (by kernel_rfl) rfl rfl ?_
  refine TH_load 4 TE rfl (by kernel_rfl) (by kernel_rfl) (by kernel_rfl) rfl rfl rfl rfl (by rintro w' ⟨h1, h2, h3⟩; first | exact h1 | exact h2 | exact h3) (by exact rfl) ?_
  refine TH_fieldAddr 5 TE rfl (by kernel_rfl) (by kernel_rfl) (by kernel_rfl) rfl rfl rfl rfl rfl rfl ?_
  refine TH_load 6 TE rfl (by kernel_rfl) (by kernel_rfl) (by kernel_rfl) rfl rfl rfl rfl (by rintro w' ⟨h1, h2, h3⟩; first | exact h1 | exact h2 | exact h3) (by exact rfl) ?_; refine TH_load 7 TE rfl (by kernel_rfl) (by kernel_rfl) (by kernel_rfl) rfl rfl rfl rfl (by rintro w' ⟨h1, h2, h3⟩; first | exact h1 | exact h2 | exact h3) (by exact rfl) ?_
  have yg : y < g := Nat.lt_of_lt_of_le hy.lt g1
  have bg : b < g := Nat.lt_of_lt_of_le hb.lt g1
  refine TH_store 8 TE rfl (by kernel_rfl) rfl rfl rfl rfl (by focus ((repeat (first | assumption | (apply Own.rd; assumption) | (apply Rd.blk; assumption; exact rfl) | (apply Blk.be; assumption) | (apply Rd.be; assumption) | (apply Own.be; assumption) | (apply Blk.bm; assumption; focus (first | assumption | (simp only [List.mem_cons, List.not_mem_nil, or_false]; omega))) | (apply Rd.bm; assumption; focus assumption) | (apply Own.bm; assumption; focus assumption))); done)) (by first | decide | (simp; done) | (simp; omega)) ?_; intro w4 m4 s4 k4
  have hx4 := hx3.mod m4 (by simpa using hxy)
  have hz4 := hz3.mod m4 (by simpa using hzy)
  have hg4 := hg3.mod m4 (by simp; omega)
  have hb4 := hb3.mod m4 (by simpa using Ne.symm hyb)
  refine ⟨⟨hx4, hz4, hg4⟩, ?_⟩
  refine TH_nilCheck 9 rfl (by kernel_rfl) (by kernel_rfl) (by kernel_rfl) rfl rfl ?_
  refine TH_fieldAddr 10 TE rfl (by kernel_rfl) (by kernel_rfl) (by kernel_rfl) rfl rfl rfl rfl rfl rfl ?_
  refine TH_store 11 TE rfl (by kernel_rfl) rfl rfl rfl rfl (by focus ((repeat (first | assumption | (apply Own.rd; assumption) | (apply Rd.blk; assumption; exact rfl) | (apply Blk.be; assumption) | (apply Rd.be; assumption) | (apply Own.be; assumption) | (apply Blk.bm; assumption; focus (first | assumption | (simp only [List.mem_cons, List.not_mem_nil, or_false]; omega))) | (apply Rd.bm; assumption; focus assumption) | (apply Own.bm; assumption; focus assumption))); done)) (by first | decide | (simp; done) | (simp; omega)) ?_; intro w5 m5 s5 k5
  have hx5 := hx4.mod m5 (by simpa using hxb)
  have hz5 := hz4.mod m5 (by simpa using hzb)
  have hg5 := hg4.mod m5 (by simp; omega)
  have hy5 := k4.mod m5 (by simpa using hyb)
  refine ⟨⟨hx5, hz5, hg5⟩, ?_⟩
  refine TH_nilCheck 12 rfl (by kernel_rfl) (by kernel_rfl) (by kernel_rfl) rfl rfl ?_
  refine TH_fieldAddr 13 TE rfl (by kernel_rfl) (by kernel_rfl) (by kernel_rfl) rfl rfl rfl rfl rfl rfl ?_
  refine TH_store 14 TE rfl (by kernel_rfl) rfl rfl rfl rfl (by focus ((repeat (first | assumption | (apply Own.rd; assumption) | (apply Rd.blk; assumption; exact rfl) | (apply Blk.be; assumption) | (apply Rd.be; assumption) | (apply Own.be; assumption) | (apply Blk.bm; assumption; focus (first | assumption | (simp only [List.mem_cons, List.not_mem_nil, or_false]; omega))) | (apply Rd.bm; assumption; focus assumption) | (apply Own.bm; assumption; focus assumption))); done)) (by first | decide | (simp; done) | (simp; omega)) ?_; intro w6 m6 s6 k6
  have hx6 := hx5.mod m6 (by simpa using hxb)
  have hz6 := hz5.mod m6 (by simpa using hzb)
  have hg6 := hg5.mod m6 (by simp; omega)
  have hy6 := hy5.mod m6 (by simpa using hyb)
  refine ⟨⟨hx6, hz6, hg6⟩, ?_⟩
  refine TH_nilCheck 15 rfl (by kernel_rfl) (by kernel_rfl) (by kernel_rfl) rfl rfl ?_
  refine TH_fieldAddr 16 TE rfl (by kernel_rfl) (by kernel_rfl) (by kernel_rfl) rfl rfl rfl rfl rfl rfl ?_
  refine TH_store 17 TE rfl (by kernel_rfl) rfl rfl rfl rfl (by focus ((repeat (first | assumption | (apply Own.rd; assumption) | (apply Rd.blk; assumption; exact rfl) | (apply Blk.be; assumption) | (apply Rd.be; assumption) | (apply Own.be; assumption) | (apply Blk.bm; assumption; focus (first | assumption | (simp only [List.mem_cons, List.not_mem_nil, or_false]; omega))) | (apply Rd.bm; assumption; focus assumption) | (apply Own.bm; assumption; focus assumption))); done)) (by first | decide | (simp; done) | (simp; omega)) ?_; intro w7 m7 s7 k7
  have hx7 := hx6.mod m7 (by simpa using hxb)
  have hz7 := hz6.mod m7 (by simpa using hzb)
  have hg7 := hg6.mod m7 (by simp; omega)
  have hy7 := hy6.mod m7 (by simpa using hyb)
  refine ⟨⟨hx7, hz7, hg7⟩, ?_⟩
  refine TH_done (by kernel_rfl) ?_
  have hm : Mod [y, b] w w7 := by
    have a1 : Mod [y, b] w w3 := Ext.mod (Mod.ext e2 e3)
    have a2 := a1.step m4 (fun q hq => .inl (by simp only [List.mem_cons, List.not_mem_nil, or_false] at hq ⊢; omega))
    have a3 := a2.step m5 (fun q hq => .inl (by simp only [List.mem_cons, List.not_mem_nil, or_false] at hq ⊢; omega))
    have a4 := a3.step m6 (fun q hq => .inl (by simp only [List.mem_cons, List.not_mem_nil, or_false] at hq ⊢; omega))
    exact a4.step m7 (fun q hq => .inl (by simp only [List.mem_cons, List.not_mem_nil, or_false] at hq ⊢; omega))
  refine T_end0' rfl ⟨rfl, hm, ⟨k7, Rd.mod0 hr hm ?_, ho, hl, hp, hla, hbig, hcap⟩, hy7⟩
  intro hn0 ad ea hq
  simp only [List.mem_cons, List.not_mem_nil, or_false] at hq
  rcases hq with hq | hq
  · exact hyA hn0 ad ea (by simpa using hq)
  · exact ho ad ea (by simpa using hq)
theorem rd_int {α : Type} (b : Nat) (s : RS) (A : Option Addr) (n c : Nat) (w : World) (g : Nat) (fst cap : List Value) (V : α → Value) (z0 : α) (hV : V z0 = .int .i64 0) (hV1 : ∀ x, (V x).oneCell' = true) (t : List UInt8 → Except Int (α × Nat)) (hE : TE.fn g = true) (h : Rdr w 76 b s A n c)
    (hc : ∀ w', Ext w w' → Calls Try.prog g (fst ++ cap).toArray w' (Took w' b s A n c V (t (s.b.drop s.pos)))) :
    Ret Try.prog 64 [ptr b, .func (.func g) fst.toArray cap.toArray] w (fun v w' => v = V (s.take z0 t).1 ∧ Mod [b] w w' ∧ Rdr w' 76 b (s.take z0 t).2 A n c) := by
  have h0 := h
  obtain ⟨hb, hr, ho, hl, hpp, hla, hbig, hcap⟩ := h
  refine ret_T (n := 28) Try.func64 rfl rfl ?_
  repeat (first | refine T_seq ?_ | refine T_region ?_)
  refine TL_box (hk := ?_); intro x1 w1 e1 g1 g1' k1
  --
  refine TL_alloc TE (hk := ?_); intro x2 w2 e2 g2 g2' k2
  have e02 : Ext w w2 := e1.ext e2
  have hb2 := hb.be e02
  have k12 : Blk w2 x1 _ [ptr b] := k1.be e2
  have k22 : Blk w2 x2 _ [.int .i64 0] := k2
  have lb := hb.lt
  have ls1 := e1.size
  by_cases he : s.err = 0
  · rw [he] at hb2
    repeat (first | refine T_seq ?_ | refine T_region ?_ | refine T_cond_false rfl ?_ | refine T_skip ?_ | refine TL_ne_f (hk := ?_) | refine TL_pnil_f TE (hk := ?_) | refine TL_nil ?_ | refine TL_move (hk := ?_) | refine TL_load TE (hk := ?_) | refine TL_fieldAddr TE (hk := ?_) | refine TL_yes (hk := ?_) | refine TL_pick_f (hk := ?_) | refine TL_nilCheck (hk := ?_))
    refine TL_alloc TE (hk := ?_); intro x3 w3 e3 g3 g3' k3
    --
    refine TL_store TE (hk := ?_); intro w4 m4 s4 k4
    have e34 : Ext w2 w4 := Mod.step e3 m4 (fun y hy => .inr (by simp only [List.mem_singleton] at hy; omega))
    have e04 : Ext w w4 := e02.ext e34
    have k14 := k12.be e34
    have k24 := k22.be e34
    have k34 : Blk w4 x3 _ [.int .i64 (s.pos : Int)] := k4
    have hc4 := hc w4 e04
    have l12 : x1 < x2 := by omega
    have ls2 := e2.size
    have l23 : x2 < x3 := by omega
    repeat (first | refine T_seq ?_ | refine T_region ?_ | refine TL_nil ?_ | refine TL_makeFunc (hk := ?_))
    refine TL_defer rfl rfl rfl ?_
    repeat (first | refine T_seq ?_ | refine T_region ?_ | refine TL_nil ?_ | refine TL_move (hk := ?_))
    refine TL_callc TE (fst := fst) (cap := cap) (vs := []) rfl rfl hE rfl (by simpa using hc4) ?_ ?_ (fun _ h => h)
    · rintro _ w5 ⟨x, k, hx, rfl, m5, h5⟩
      rw [take_ok he hx]
      have k15 := k14.mod m5 (by simp; omega)
      have k25 := k24.mod m5 (by simp; omega)
      have k35 := k34.mod m5 (by simp; omega)
      obtain ⟨hb5, hr5, _, _, hp5, _, _, _⟩ := h5
      simp only at hb5 hr5 hp5
      refine TL_store TE rfl rfl (hV1 x) rfl (by exact k25) (by decide) (hk := ?_); intro w6 m6 s6 k6
      have k16 := k15.mod m6 (by simp; omega)
      have k36 := k35.mod m6 (by simp; omega)
      have hb6 := hb5.mod m6 (by simp; omega)
      have hr6 := Rd.mod0 hr5 m6 (Rd.offNew hr (by omega))
      repeat (first | refine T_seq ?_ | refine T_region ?_ | refine TL_nil ?_ | refine TL_load TE (hk := ?_) | refine TL_fieldAddr TE (hk := ?_) | refine TL_nilCheck (hk := ?_))
      refine TL_store TE (hk := ?_); intro w7 m7 s7 k7
      have k17 := k16.mod m7 (by simp; omega)
      have k37 := k36.mod m7 (by simp; omega)
      have k27 : Blk w7 x2 _ [V x] := k6.mod m7 (by simp; omega)
      have hr7 := hr6.mod m7 ho
      repeat (first | refine T_seq ?_ | refine T_region ?_ | refine TL_nil ?_ | refine TL_load TE (hk := ?_))
      refine TL_store TE rfl rfl (hV1 x) rfl (by exact k27) (by simp) (hk := ?_); intro w8 m8 s8 k8
      have hb8 := k7.mod m8 (by simp; omega)
      have hr8 := Rd.mod0 hr7 m8 (Rd.offNew hr (by omega))
      have hm : Mod [b] w w8 := by
        have a1 : Mod [b] w w5 := (Ext.mod e04).trans m5
        have a2 := a1.step m6 (fun q hq => .inr (by simp only [List.mem_singleton] at hq; omega))
        have a3 := a2.trans m7
        exact a3.step m8 (fun q hq => .inr (by simp only [List.mem_singleton] at hq; omega))
      repeat (refine TL_nil ?_)
      refine T_leave ?_
      refine LV_defer TE (args := []) (cap := [ptr x3, ptr x2, ptr x1]) rfl (by simp) (rdd0_int w8 x3 x2 x1) ?_ ?_ ?_
      · rintro v u' w9 ⟨rfl, hv, rfl⟩
        refine LV_ret rfl (res1c TE rfl rfl rfl rfl k8 rfl) ?_
        exact ⟨rfl, hm, ⟨hb8, hr8, ho, hl, hp5, hpp, hbig, hcap⟩⟩
      · rintro ch u' w9 ⟨_, hv, _⟩; cases hv
      · rintro u' w9 ⟨_, hv, _⟩; cases hv
    · rintro ch w5 ⟨e, p, hx, rfl, m5, h5⟩
      rw [take_err he hx]
      have k15 := k14.mod m5 (by simp; omega)
      have k25 := k24.mod m5 (by simp; omega)
      have k35 := k34.mod m5 (by simp; omega)
      refine LV_defer TE (args := []) (cap := [ptr x3, ptr x2, ptr x1]) rfl (by simp) (rdd1_int b _ A n c e w5 x3 x2 x1 _ _ _ s.pos _ h5 k35 k25 k15 (by omega) (by omega) (by omega) (by omega) (by omega) (Rd.offNew hr (by omega)) hpp) ?_ ?_ ?_
      · rintro v u' w9 ⟨rfl, hv, m9, h9, k9⟩
        refine LV_ret rfl (res1c TE rfl rfl rfl rfl k9 rfl) ?_
        refine ⟨hV.symm, ?_, h9⟩
        exact ((Ext.mod e04).trans m5).step m9 (fun q hq => by simp only [List.mem_cons, List.not_mem_nil, or_false] at hq ⊢; omega)
      · rintro ch u' w9 ⟨_, hv, _⟩; cases hv
      · rintro u' w9 ⟨_, hv, _⟩; cases hv
  · have hs0 : s.take z0 t = (z0, s) := by unfold RS.take; rw [if_neg he]
    rw [hs0]
    repeat (first | refine T_seq ?_ | refine T_region ?_ | refine T_cond_true rfl ?_ | refine TL_ne_t (hk := ?_) | refine TL_pnil_f TE (hk := ?_) | refine TL_nil ?_ | refine TL_move (hk := ?_) | refine TL_load TE (hk := ?_) | refine TL_fieldAddr TE (hk := ?_) | refine TL_yes (hk := ?_) | refine TL_pick_f (hk := ?_) | refine TL_nilCheck (hk := ?_))
    refine TL_store TE (hk := ?_); intro w3 m3 s3 k3
    have hm : Ext w w3 := Mod.step e02 m3 (fun y hy => .inr (by simp only [List.mem_singleton] at hy; omega))
    repeat (refine TL_nil ?_)
    exact T_ret1c TE rfl rfl rfl rfl k3 rfl ⟨hV.symm, Ext.mod hm, h0.ext hm⟩
end Go.Proofs.Ytkmdmpmimojmbaa
