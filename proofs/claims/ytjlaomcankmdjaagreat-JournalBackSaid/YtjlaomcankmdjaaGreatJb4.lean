import Derived.Test.YtjlaomcankmdjaaGreatJb3
import Derived.RangeFuncSeq
import Derived.RangeFuncLeaves
import Derived.Lib.ConvBytes
/- Parts: PW1 PW2 PMem PW3 PW4 PW5 PW6 PW7 FW19 CW13 FW20 FW21 VW7 VW8 VW9 EngR Eng39 CW14 PW8 PW9 CLaw1 JLaw1 FLaw2 FLaw3 FLaw4 JLaw2. -/
set_option linter.unusedSimpArgs false
set_option linter.unusedVariables false
set_option linter.unusedSectionVars false
namespace Go.Proofs.YtjlaomcankmdjaaGreat
open Go.RowKit Go.Proofs.Eng Go.Proofs.Codec Go.Proofs.Foot Go.Proofs.Journal
set_option linter.unusedVariables false set_option maxRecDepth 10000
attribute [local irreducible] T TL LV TH TA
set_option maxHeartbeats 1600000
theorem veV_one (v : VE) : ∀ u ∈ veV v, u.oneCell' = true := by
  intro u hu
  simp only [veV, List.mem_cons, List.not_mem_nil, or_false] at hu
  rcases hu with rfl | rfl | rfl <;> rfl
theorem VClone_c (A : Option Addr) (n c : Nat) (l : List VE) (w : World) (h : Rd w A n 3 (rowV veV l)) (hn : n ≤ 100000000) :
    Ret Tryz.prog 91 [.slice A n c] w (fun v w' => ∃ x : SL, v = sL x ∧ Ext w w' ∧ Own w' w.heap.size 161 3 x.1 x.2.1 x.2.2 (rowV veV l)) := by
  cases A with
  | none =>
    obtain ⟨rfl, hl⟩ := Rd.none h
    have hl0 : l = [] := by
      have := rowV_len veV_len l
      rw [hl] at this
      exact List.length_eq_zero_iff.1 (by simp at this; omega)
    subst hl0
    refine ret_T (n := 8) Tryz.func91 rfl rfl ?_
    repeat (first | refine T_seq ?_ | refine T_region ?_ | refine T_cond_true rfl ?_ | refine TL_nil_t TE (hk := ?_) | refine TL_nil ?_ | refine TL_move (hk := ?_) | refine TL_assign (hk := ?_))
    exact T_ret1 rfl rfl ⟨(none, 0, 0), rfl, Mod.refl _ _, Own.nil _ _ _ _⟩
  | some ad =>
    have hone := rowV_one veV_one l
    refine ret_T (n := 8) Tryz.func91 rfl rfl ?_
    repeat (first | refine T_seq ?_ | refine T_region ?_ | refine T_cond_false rfl ?_ | refine T_skip ?_ | refine TL_nil_f TE (hk := ?_) | refine TL_nil ?_ | refine TL_move (hk := ?_) | refine TL_assign (hk := ?_))
    refine TL_buildSlice0 TE (hk := ?_); intro b1 w1 e1 h1 h1' k1
    have o1 : Own w1 w.heap.size 161 3 (some ⟨b1, 0, none⟩) 0 0 [] := Own.of_blk k1 h1 rfl (by decide)
    have h2 := h.be e1
    repeat (refine TL_move (hk := ?_))
    refine TL_append TE (hk := ?_); intro A2 c2 w2 o2 m2 n2
    rw [List.nil_append] at o2
    repeat (first | refine TL_nil ?_ | refine TL_assign (hk := ?_))
    exact T_ret1 rfl rfl ⟨(A2, 0 + n, c2), rfl, Mod.own e1 m2 o1.hi, o2⟩
theorem TClone_c (A : Option Addr) (n c : Nat) (l : List (List UInt8)) (w : World) (h : Rd w A n 1 (sv l)) (hn : n ≤ 100000000) :
    Ret Tryz.prog 92 [.slice A n c] w (fun v w' => ∃ x : SL, v = sL x ∧ Ext w w' ∧ Own w' w.heap.size 9 1 x.1 x.2.1 x.2.2 (sv l)) := by
  cases A with
  | none =>
    obtain ⟨rfl, hl⟩ := Rd.none h
    rw [hl]
    refine ret_T (n := 8) Tryz.func92 rfl rfl ?_
    repeat (first | refine T_seq ?_ | refine T_region ?_ | refine T_cond_true rfl ?_ | refine TL_nil_t TE (hk := ?_) | refine TL_nil ?_ | refine TL_move (hk := ?_) | refine TL_assign (hk := ?_))
    exact T_ret1 rfl rfl ⟨(none, 0, 0), rfl, Mod.refl _ _, Own.nil _ _ _ _⟩
  | some ad =>
    have hone := sv_one l
    refine ret_T (n := 8) Tryz.func92 rfl rfl ?_
    repeat (first | refine T_seq ?_ | refine T_region ?_ | refine T_cond_false rfl ?_ | refine T_skip ?_ | refine TL_nil_f TE (hk := ?_) | refine TL_nil ?_ | refine TL_move (hk := ?_) | refine TL_assign (hk := ?_))
    refine TL_buildSlice0 TE (hk := ?_); intro b1 w1 e1 h1 h1' k1
    have o1 : Own w1 w.heap.size 9 1 (some ⟨b1, 0, none⟩) 0 0 [] := Own.of_blk k1 h1 rfl (by decide)
    have h2 := h.be e1
    repeat (refine TL_move (hk := ?_))
    refine TL_append TE (hk := ?_); intro A2 c2 w2 o2 m2 n2
    rw [List.nil_append] at o2
    repeat (first | refine TL_nil ?_ | refine TL_assign (hk := ?_))
    exact T_ret1 rfl rfl ⟨(A2, 0 + n, c2), rfl, Mod.own e1 m2 o1.hi, o2⟩
theorem same_c (A B C D : Option Addr) (n m p q c d e f : Nat) (l k l2 k2 : List (List UInt8)) (w : World) (hA : Rd w A n 1 (sv l)) (hB : Rd w B m 1 (sv k)) (hC : Rd w C p 1 (sv l2)) (hD : Rd w D q 1 (sv k2)) (hn : n ≤ 10000000) (hm : m ≤ 10000000) (hp : p ≤ 10000000) (hq : q ≤ 10000000) :
    Ret Tryz.prog 161 [.agg #[.slice A n c, .slice B m d], .agg #[.slice C p e, .slice D q f]] w (fun v w' => v = .bool (decide (l = l2 ∧ k = k2)) ∧ Ext w w') := by
  refine ret_T (n := 17) Tryz.func161 rfl rfl ?_
  repeat (first | refine T_seq ?_ | refine T_region ?_)
  refine TL_box (hk := ?_); intro b1 w1 e1 h1 h1' k1
  replace k1 : Blk w1 b1 43 [.slice A n c, .slice B m d] := k1
  --
  refine TL_box (hk := ?_); intro b2 w2 e2 h2 h2' k2
  replace k2 : Blk w2 b2 43 [.slice C p e, .slice D q f] := k2
  have k12 := k1.be e2
  have e02 := e1.ext e2
  clear k1
  repeat (first | refine T_seq ?_ | refine T_region ?_ | refine TL_nil ?_ | refine TL_assign (hk := ?_) | refine TL_load TE (hk := ?_) | refine TL_fieldAddr TE (hk := ?_))
  refine TL_call TE (hc := Equals_c A C n p c e l l2 w2 (hA.be e02) (hC.be e02) hn hp) (hk := ?_)
  rintro _ w3 ⟨rfl, e3⟩
  have k13 := k12.be e3
  have k23 := k2.be e3
  have e03 := e02.ext e3
  clear k12 k2
  by_cases c1 : l = l2
  · rw [decide_eq_true c1]
    repeat (first | refine TL_move (hk := ?_) | refine TL_load TE (hk := ?_) | refine TL_fieldAddr TE (hk := ?_) | refine TL_yes (hk := ?_))
    refine TL_call TE (hc := Equals_c B D m q d f k k2 w3 (hB.be e03) (hD.be e03) hm hq) (hk := ?_)
    rintro _ w4 ⟨rfl, e4⟩
    repeat (first | refine TL_nil ?_ | refine TL_assign (hk := ?_) | refine TL_pick_t (hk := ?_))
    exact T_ret1 rfl rfl ⟨by rw [show decide (l = l2 ∧ k = k2) = decide (k = k2) by simp [c1]], e03.ext e4⟩
  · rw [decide_eq_false c1]
    repeat (first | refine TL_nil ?_ | refine TL_move (hk := ?_) | refine TL_assign (hk := ?_) | refine TL_no (hk := ?_) | refine TL_pick_f (hk := ?_))
    exact T_ret1 rfl rfl ⟨by rw [decide_eq_false (fun z => c1 z.1)], e03⟩
theorem snormal_c (A B : Option Addr) (n c m d : Nat) (r k : List (List UInt8)) (w : World) (h : Rd w A n 1 (sv r)) (g : Rd w B m 1 (sv k)) (hn : n ≤ 1048576) (hm : m ≤ 1048576) (sr : Short r) (sk : Short k) :
    Ret Tryz.prog 118 [.agg #[.slice A n c, .slice B m d]] w (fun v w' => v = .bool (normB r k) ∧ Ext w w') := by
  unfold normB
  refine ret_T (n := 17) Tryz.func118 rfl rfl ?_
  repeat (first | refine T_seq ?_ | refine T_region ?_)
  refine TL_box (hk := ?_); intro b1 w1 e1 h1 h1' k1
  replace k1 : Blk w1 b1 43 [.slice A n c, .slice B m d] := k1
  repeat (first | refine T_seq ?_ | refine T_region ?_ | refine TL_nil ?_ | refine TL_assign (hk := ?_))
  refine TL_loadb TE (cs := [.slice A n c, .slice B m d]) (o := 0) rfl rfl k1 rfl rfl (Nat.succ_pos _) (hk := ?_)
  --
  refine TL_call TE (hc := Norm_c A B n c m d r k w1 (h.be e1) (g.be e1) hn hm sr sk) (hk := ?_)
  rintro _ w2 ⟨u, rfl, e2, A1, n1, c1, B1, m1, d1, rfl, oA, oB, _⟩
  have k2 := k1.be e2
  clear k1
  repeat (first | refine TL_move (hk := ?_) | refine TL_extract (hk := ?_))
  refine TL_alloc TE (hk := ?_); intro b3 w3 e3 h3 h3' k3
  --
  refine TL_storea TE (hk := ?_); intro w4 m4 z4 k4
  replace k4 : Blk w4 b3 43 [.slice A1 n1 c1, .slice B1 m1 d1] := k4
  have z2 := e2.size
  have z3 := e3.size
  have e24 : Ext w2 w4 := Mod.step e3 m4 (by simp; omega)
  have e04 := (e1.ext e2).ext e24
  have k24 := k2.be e24
  have rA := (oA.be e24).rd
  have rB := (oB.be e24).rd
  have lA := oA.len
  have lB := oB.len
  have hl1 := (normF_len r k).1
  have hl2 := (normF_len r k).2
  rw [sv_length] at lA lB
  clear k2 k3 m4
  by_cases q0 : (normF r k).2 = 0
  · rw [q0]
    repeat (first | refine T_seq ?_ | refine T_region ?_ | refine TL_eq_t (hk := ?_) | refine TL_nil ?_ | refine TL_move (hk := ?_) | refine TL_assign (hk := ?_) | refine TL_yes (hk := ?_))
    refine TL_loadb TE (cs := [.slice A n c, .slice B m d]) (o := 0) rfl rfl k24 rfl rfl (Nat.succ_pos _) (hk := ?_)
    repeat (refine TL_yes (hk := ?_))
    refine TL_loadb TE (cs := [.slice A1 n1 c1, .slice B1 m1 d1]) (o := 0) rfl rfl k4 rfl rfl (Nat.succ_pos _) (hk := ?_)
    repeat (refine TL_yes (hk := ?_))
    refine TL_call TE (hc := same_c A B A1 B1 n m n1 m1 c d c1 d1 r k _ _ w4 (h.be e04) (g.be e04) rA rB (by omega) (by omega) (by omega) (by omega)) (hk := ?_)
    rintro _ w5 ⟨rfl, e5⟩
    repeat (first | refine TL_nil ?_ | refine TL_assign (hk := ?_) | refine TL_pick_t (hk := ?_))
    have hd : decide (r = (normF r k).1.1 ∧ k = (normF r k).1.2) = decide ((0 : Int) = 0 ∧ (normF r k).1.1 = r ∧ (normF r k).1.2 = k) := by
      rw [decide_eq_decide]
      exact ⟨fun z => ⟨rfl, z.1.symm, z.2.symm⟩, fun z => ⟨z.2.1.symm, z.2.2.symm⟩⟩
    exact T_ret1 rfl rfl ⟨congrArg Value.bool hd, e04.ext e5⟩
  · have hrg : True := trivial
    rw [decide_eq_false (fun z => q0 z.1)]
    repeat (first | refine T_seq ?_ | refine T_region ?_ | refine TL_eq_f (hk := ?_) | refine TL_nil ?_ | refine TL_move (hk := ?_) | refine TL_assign (hk := ?_) | refine TL_no (hk := ?_) | refine TL_pick_f (hk := ?_))
    exact T_ret1 rfl rfl ⟨rfl, e04⟩
end Go.Proofs.YtjlaomcankmdjaaGreat

namespace Go.Proofs.YtjlaomcankmdjaaGreat
open Go.RowKit Go.Proofs.Eng Go.Proofs.Codec Go.Proofs.Foot Go.Proofs.Journal
set_option linter.unusedVariables false set_option maxRecDepth 10000
attribute [local irreducible] T TL LV TH TA
set_option maxHeartbeats 1600000
structure PM where
  p : PE
  a : SL
  b : SL
  c : SL
def pmV (x : PM) : List Value := [.int .i64 x.p.q.cl, .int .u64 (x.p.q.tk : Int), .string (ofL x.p.q.nm), sL x.a, .int .i64 x.p.how, sL x.b, sL x.c]
abbrev pA (x : PM) : Value := .agg #[.int .i64 x.p.q.cl, .int .u64 (x.p.q.tk : Int), .string (ofL x.p.q.nm), sL x.a, .int .i64 x.p.how, sL x.b, sL x.c]
structure PFit (p : PE) : Prop where
  q : RFit p.q
  how : -9223372036854775808 ≤ p.how ∧ p.how ≤ 9223372036854775807
  na : p.q.ar.length ≤ 1048576
  nb : p.rd.length ≤ 1048576
  nc : p.wr.length ≤ 1048576
  sr : Short p.rd
  sk : Short p.wr
structure PLies (w : World) (x : PM) : Prop where
  ra : Rd w x.a.1 x.a.2.1 3 (rowV veV x.p.q.ar)
  rb : Rd w x.b.1 x.b.2.1 1 (sv x.p.rd)
  rc : Rd w x.c.1 x.c.2.1 1 (sv x.p.wr)
structure POwn (w : World) (base : Nat) (x : PM) : Prop where
  ra : Own w base 161 3 x.a.1 x.a.2.1 x.a.2.2 (rowV veV x.p.q.ar)
  rb : Own w base 9 1 x.b.1 x.b.2.1 x.b.2.2 (sv x.p.rd)
  rc : Own w base 9 1 x.c.1 x.c.2.1 x.c.2.2 (sv x.p.wr)
section
variable {w w' : World} {base base' : Nat} {x : PM}
theorem PLies.len (X : PLies w x) : x.p.q.ar.length = x.a.2.1 ∧ x.p.rd.length = x.b.2.1 ∧ x.p.wr.length = x.c.2.1 := by
  have h1 := X.ra.1
  have h2 := X.rb.1
  have h3 := X.rc.1
  rw [rowV_len veV_len] at h1
  rw [sv_length] at h2 h3
  omega
theorem PLies.be (X : PLies w x) (e : Ext w w') : PLies w' x := ⟨X.ra.be e, X.rb.be e, X.rc.be e⟩
theorem POwn.lies (X : POwn w base x) : PLies w x := ⟨X.ra.rd, X.rb.rd, X.rc.rd⟩
theorem POwn.be (X : POwn w base x) (e : Ext w w') : POwn w' base x := ⟨X.ra.be e, X.rb.be e, X.rc.be e⟩
theorem POwn.weaken (X : POwn w base x) (h : base' ≤ base) : POwn w base' x := ⟨Own.weaken X.ra h, Own.weaken X.rb h, Own.weaken X.rc h⟩
end
theorem pown_c (x : PM) (w : World) (X : PLies w x) (F : PFit x.p) : Ret Tryz.prog 110 [pA x] w (fun v w' => ∃ x', v = pA x' ∧ x'.p = x.p ∧ Ext w w' ∧ POwn w' w.heap.size x') := by
  obtain ⟨l1, l2, l3⟩ := X.len
  have na := F.na
  have nb := F.nb
  have nc := F.nc
  refine ret_T (n := 22) Tryz.func110 rfl rfl ?_
  repeat (first | refine T_seq ?_ | refine T_region ?_)
  refine TL_box (hk := ?_); intro b1 w1 e1 h1 h1' k1
  replace k1 : Blk w1 b1 45 (pmV x) := k1
  unfold pmV at k1
  --
  refine TL_alloc TE (hk := ?_); intro b2 w2 e2 h2 h2' k2
  have k12 := k1.be e2
  have e02 := e1.ext e2
  have z1 := e1.size
  have z2 := e2.size
  clear k1
  repeat (first | refine T_seq ?_ | refine T_region ?_ | refine TL_nil ?_ | refine TL_load TE (hk := ?_) | refine TL_fieldAddr TE (hk := ?_))
  refine TL_call TE (hc := VClone_c x.a.1 x.a.2.1 x.a.2.2 x.p.q.ar w2 (X.ra.be e02) (by omega)) (hk := ?_)
  rintro _ w3 ⟨a, rfl, e3, oa⟩
  have k13 := k12.be e3
  have k23 := k2.be e3
  have z3 := e3.size
  clear k12 k2
  repeat (refine TL_fieldAddr TE (hk := ?_))
  refine TL_store TE (hk := ?_); intro w4 m4 z4 k4
  replace k4 : Blk w4 b1 45 [.int .i64 x.p.q.cl, .int .u64 (x.p.q.tk : Int), .string (ofL x.p.q.nm), sL a, .int .i64 x.p.how, sL x.b, sL x.c] := k4
  have k24 := k23.mod m4 (by simp; omega)
  have e04 : Ext w w4 := (e02.ext e3).step m4 (fun u hu => .inr (by rw [List.mem_singleton.1 hu]; omega))
  have oa4 : Own w4 w2.heap.size 161 3 a.1 a.2.1 a.2.2 (rowV veV x.p.q.ar) := oa.modL m4 (fun u hu q => by have := (oa.bl u hu).1; rw [List.mem_singleton] at q; omega)
  clear k13 k23
  repeat (first | refine T_seq ?_ | refine T_region ?_ | refine TL_nil ?_ | refine TL_load TE (hk := ?_) | refine TL_fieldAddr TE (hk := ?_))
  refine TL_call TE (hc := TClone_c x.b.1 x.b.2.1 x.b.2.2 x.p.rd w4 (X.rb.be e04) (by omega)) (hk := ?_)
  rintro _ w5 ⟨b, rfl, e5, ob⟩
  have k15 := k4.be e5
  have k25 := k24.be e5
  have oa5 := oa4.be e5
  have z5 := e5.size
  clear k4 k24
  repeat (refine TL_fieldAddr TE (hk := ?_))
  refine TL_store TE (hk := ?_); intro w6 m6 z6 k6
  replace k6 : Blk w6 b1 45 [.int .i64 x.p.q.cl, .int .u64 (x.p.q.tk : Int), .string (ofL x.p.q.nm), sL a, .int .i64 x.p.how, sL b, sL x.c] := k6
  have k26 := k25.mod m6 (by simp; omega)
  have e06 : Ext w w6 := (e04.ext e5).step m6 (fun u hu => .inr (by rw [List.mem_singleton.1 hu]; omega))
  have oa6 : Own w6 w2.heap.size 161 3 a.1 a.2.1 a.2.2 (rowV veV x.p.q.ar) := oa5.modL m6 (fun u hu q => by have := (oa.bl u hu).1; rw [List.mem_singleton] at q; omega)
  have ob6 : Own w6 w4.heap.size 9 1 b.1 b.2.1 b.2.2 (sv x.p.rd) := ob.modL m6 (fun u hu q => by have := (ob.bl u hu).1; rw [List.mem_singleton] at q; omega)
  clear k15 k25
  repeat (first | refine T_seq ?_ | refine T_region ?_ | refine TL_nil ?_ | refine TL_load TE (hk := ?_) | refine TL_fieldAddr TE (hk := ?_))
  refine TL_call TE (hc := TClone_c x.c.1 x.c.2.1 x.c.2.2 x.p.wr w6 (X.rc.be e06) (by omega)) (hk := ?_)
  rintro _ w7 ⟨c, rfl, e7, oc⟩
  have k17 := k6.be e7
  have k27 := k26.be e7
  have oa7 := oa6.be e7
  have ob7 := ob6.be e7
  have z7 := e7.size
  clear k6 k26
  repeat (refine TL_fieldAddr TE (hk := ?_))
  refine TL_store TE (hk := ?_); intro w8 m8 z8 k8
  replace k8 : Blk w8 b1 45 [.int .i64 x.p.q.cl, .int .u64 (x.p.q.tk : Int), .string (ofL x.p.q.nm), sL a, .int .i64 x.p.how, sL b, sL c] := k8
  have k28 := k27.mod m8 (by simp; omega)
  have e08 : Ext w w8 := (e06.ext e7).step m8 (fun u hu => .inr (by rw [List.mem_singleton.1 hu]; omega))
  have oa8 : Own w8 w2.heap.size 161 3 a.1 a.2.1 a.2.2 (rowV veV x.p.q.ar) := oa7.modL m8 (fun u hu q => by have := (oa.bl u hu).1; rw [List.mem_singleton] at q; omega)
  have ob8 : Own w8 w4.heap.size 9 1 b.1 b.2.1 b.2.2 (sv x.p.rd) := ob7.modL m8 (fun u hu q => by have := (ob.bl u hu).1; rw [List.mem_singleton] at q; omega)
  have oc8 : Own w8 w6.heap.size 9 1 c.1 c.2.1 c.2.2 (sv x.p.wr) := oc.modL m8 (fun u hu q => by have := (oc.bl u hu).1; rw [List.mem_singleton] at q; omega)
  clear k17 k27
  repeat (first | refine T_seq ?_ | refine T_region ?_ | refine TL_nil ?_)
  refine TL_loadb TE (cs := [.int .i64 x.p.q.cl, .int .u64 (x.p.q.tk : Int), .string (ofL x.p.q.nm), sL a, .int .i64 x.p.how, sL b, sL c]) (o := 0) rfl rfl k8 rfl rfl (Nat.succ_pos _) (hk := ?_)
  --
  refine TL_storea TE (hk := ?_); intro w9 m9 z9 k9
  have d9 : ∀ u, w2.heap.size ≤ u → u ∉ [b2] := fun u hu q => by rw [List.mem_singleton] at q; omega
  repeat (refine TL_nil ?_)
  refine T_retA1 TE (vs := [.int .i64 x.p.q.cl, .int .u64 (x.p.q.tk : Int), .string (ofL x.p.q.nm), sL a, .int .i64 x.p.how, sL b, sL c]) (o := 0) rfl rfl rfl rfl k9 rfl (Nat.succ_pos _) ⟨⟨x.p, a, b, c⟩, rfl, rfl, e08.step m9 (fun u hu => .inr (by rw [List.mem_singleton.1 hu]; omega)), ⟨Own.weaken (oa8.modL m9 (fun u hu => d9 u (oa.bl u hu).1)) (by omega), Own.weaken (ob8.modL m9 (fun u hu => d9 u (by have := (ob.bl u hu).1; omega))) (by omega), Own.weaken (oc8.modL m9 (fun u hu => d9 u (by have := (oc.bl u hu).1; omega))) (by omega)⟩⟩
theorem Right_c (x : PM) (w : World) (X : PLies w x) (F : PFit x.p) : Ret Tryz.prog 88 [pA x] w (fun v w' => v = .int .i64 (rightP x.p : Int) ∧ Ext w w') := by
  obtain ⟨l1, l2, l3⟩ := X.len
  have na := F.na
  have nb := F.nb
  have nc := F.nc
  have hh := F.how
  unfold rightP
  refine ret_T (n := 26) Tryz.func88 rfl rfl ?_
  repeat (first | refine T_seq ?_ | refine T_region ?_)
  refine TL_box (hk := ?_); intro b1 w1 e1 h1 h1' k1
  replace k1 : Blk w1 b1 45 (pmV x) := k1
  unfold pmV at k1
  have rn : Rd w1 none 0 1 (bv []) := (Own.nil w1 w1.heap.size 5 1).rd
  repeat (first | refine T_seq ?_ | refine T_region ?_ | refine TL_nil ?_ | refine TL_assign (hk := ?_) | refine TL_fieldAddr TE (hk := ?_))
  refine TL_loadb TE (cs := [.int .i64 x.p.q.cl, .int .u64 (x.p.q.tk : Int), .string (ofL x.p.q.nm), sL x.a]) (o := 0) rfl rfl k1 rfl rfl (Nat.succ_pos _) (hk := ?_)
  --
  refine TL_call TE (hc := RqPut_c x.p.q none x.a.1 0 0 x.a.2.1 x.a.2.2 [] w1 F.q rn (X.ra.be e1) (by omega) (by omega)) (hk := ?_)
  rintro _ w2 ⟨A2, n2, c2, rfl, e2, o2⟩
  have k2 := k1.be e2
  have e02 := e1.ext e2
  clear k1
  by_cases hc : checkR x.p.q = 0
  · have hp : (putR [] x.p.q).2 = 0 := by unfold putR; rw [if_neg (by omega)]
    rw [hp, if_neg (by omega)]
    by_cases h1 : x.p.how = 1
    · rw [if_neg (by omega)]
      repeat (first | refine T_seq ?_ | refine T_region ?_ | refine T_cond_false rfl ?_ | refine T_skip ?_ | refine TL_ne_f (hk := ?_) | refine TL_nil ?_ | refine TL_move (hk := ?_) | refine TL_assign (hk := ?_) | refine TL_load TE (hk := ?_) | refine TL_fieldAddr TE (hk := ?_) | refine TL_no (hk := ?_) | refine TL_pick_f (hk := ?_) | refine TL_extract (hk := ?_))
      refine TL_loadb TE (cs := [sL x.b, sL x.c]) (o := 5) rfl rfl k2 rfl rfl (Nat.succ_pos _) (hk := ?_)
      --
      refine TL_call TE (hc := snormal_c x.b.1 x.c.1 x.b.2.1 x.b.2.2 x.c.2.1 x.c.2.2 x.p.rd x.p.wr w2 (X.rb.be e02) (X.rc.be e02) (by omega) (by omega) F.sr F.sk) (hk := ?_)
      rintro _ w3 ⟨rfl, e3⟩
      cases hn : normB x.p.rd x.p.wr with
      | true =>
        rw [if_neg (by simp)]
        repeat (first | refine T_seq ?_ | refine T_region ?_ | refine T_cond_false rfl ?_ | refine T_skip ?_ | refine TL_nil ?_ | refine TL_assign (hk := ?_) | refine TL_not (hk := ?_))
        exact T_ret1 rfl rfl ⟨rfl, e02.ext e3⟩
      | false =>
        rw [if_pos rfl]
        repeat (first | refine T_seq ?_ | refine T_region ?_ | refine T_cond_true rfl ?_ | refine TL_nil ?_ | refine TL_assign (hk := ?_) | refine TL_not (hk := ?_))
        exact T_ret1 rfl rfl ⟨rfl, e02.ext e3⟩
    · by_cases h2 : x.p.how = 2
      · rw [if_neg (by omega)]
        repeat (first | refine T_seq ?_ | refine T_region ?_ | refine T_cond_false rfl ?_ | refine T_skip ?_ | refine TL_ne_t (hk := ?_) | refine TL_ne_f (hk := ?_) | refine TL_nil ?_ | refine TL_move (hk := ?_) | refine TL_assign (hk := ?_) | refine TL_load TE (hk := ?_) | refine TL_fieldAddr TE (hk := ?_) | refine TL_yes (hk := ?_) | refine TL_pick_t (hk := ?_) | refine TL_extract (hk := ?_))
        refine TL_loadb TE (cs := [sL x.b, sL x.c]) (o := 5) rfl rfl k2 rfl rfl (Nat.succ_pos _) (hk := ?_)
        --
        refine TL_call TE (hc := snormal_c x.b.1 x.c.1 x.b.2.1 x.b.2.2 x.c.2.1 x.c.2.2 x.p.rd x.p.wr w2 (X.rb.be e02) (X.rc.be e02) (by omega) (by omega) F.sr F.sk) (hk := ?_)
        rintro _ w3 ⟨rfl, e3⟩
        cases hn : normB x.p.rd x.p.wr with
        | true =>
          rw [if_neg (by simp)]
          repeat (first | refine T_seq ?_ | refine T_region ?_ | refine T_cond_false rfl ?_ | refine T_skip ?_ | refine TL_nil ?_ | refine TL_assign (hk := ?_) | refine TL_not (hk := ?_))
          exact T_ret1 rfl rfl ⟨rfl, e02.ext e3⟩
        | false =>
          rw [if_pos rfl]
          repeat (first | refine T_seq ?_ | refine T_region ?_ | refine T_cond_true rfl ?_ | refine TL_nil ?_ | refine TL_assign (hk := ?_) | refine TL_not (hk := ?_))
          exact T_ret1 rfl rfl ⟨rfl, e02.ext e3⟩
      · rw [if_pos ⟨h1, h2⟩]
        repeat (first | refine T_seq ?_ | refine T_region ?_ | refine T_cond_true rfl ?_ | refine T_cond_false rfl ?_ | refine T_skip ?_ | refine TL_ne_t (hk := ?_) | refine TL_ne_f (hk := ?_) | refine TL_nil ?_ | refine TL_move (hk := ?_) | refine TL_assign (hk := ?_) | refine TL_load TE (hk := ?_) | refine TL_fieldAddr TE (hk := ?_) | refine TL_yes (hk := ?_) | refine TL_pick_t (hk := ?_) | refine TL_extract (hk := ?_))
        exact T_ret1 rfl rfl ⟨rfl, e02⟩
  · have hp : (putR [] x.p.q).2 = checkR x.p.q := by unfold putR; rw [if_pos hc]
    have hc' : ¬ ((checkR x.p.q : Nat) : Int) = 0 := by omega
    rw [hp, if_pos hc]
    repeat (first | refine T_seq ?_ | refine T_region ?_ | refine T_cond_true rfl ?_ | refine TL_ne_t (hk := ?_) | refine TL_nil ?_ | refine TL_move (hk := ?_) | refine TL_assign (hk := ?_) | refine TL_extract (hk := ?_))
    exact T_ret1 rfl rfl ⟨rfl, e02⟩
end Go.Proofs.YtjlaomcankmdjaaGreat

namespace Go.Proofs.YtjlaomcankmdjaaGreat
open Go.RowKit Go.Proofs.Eng Go.Proofs.Codec Go.Proofs.Foot Go.Proofs.Journal
set_option linter.unusedVariables false set_option maxRecDepth 10000
attribute [local irreducible] T TL LV TH TA
structure EM where
  sq : Int
  ep : Int
  m : PM
def emV (x : EM) : List Value := [.int .i64 x.sq, .int .i64 x.ep] ++ pmV x.m
theorem emV_len (x : EM) : (emV x).length = 9 := rfl
theorem emV_one (x : EM) : ∀ u ∈ emV x, u.oneCell' = true := by
  intro u hu
  simp only [emV, pmV, List.cons_append, List.nil_append, List.mem_cons, List.not_mem_nil, or_false] at hu
  rcases hu with rfl | rfl | rfl | rfl | rfl | rfl | rfl | rfl | rfl <;> rfl
def emE (x : EM) : EE := ⟨x.sq, x.ep, x.m.p⟩
def em0 : EM := ⟨0, 0, ⟨⟨⟨0, 0, [], []⟩, 0, [], []⟩, (none, 0, 0), (none, 0, 0), (none, 0, 0)⟩⟩
def pmB (x : PM) : List Nat := blkL x.a.1 ++ (blkL x.b.1 ++ blkL x.c.1)
theorem PLies.mod {w w' : World} {x : PM} {S : List Nat} (X : PLies w x) (m : Eng.Mod S w w') (h : ∀ b ∈ pmB x, b ∉ S) : PLies w' x :=
  ⟨X.ra.mod m (off_ofL fun b hb => h b (List.mem_append_left _ hb)), X.rb.mod m (off_ofL fun b hb => h b (List.mem_append_right _ (List.mem_append_left _ hb))), X.rc.mod m (off_ofL fun b hb => h b (List.mem_append_right _ (List.mem_append_right _ hb)))⟩
theorem POwn.bl {w : World} {base : Nat} {x : PM} (X : POwn w base x) : ∀ b ∈ pmB x, base ≤ b ∧ b < w.heap.size := fun b hb => by
  rcases List.mem_append.1 hb with q | q
  · exact X.ra.bl b q
  · rcases List.mem_append.1 q with q | q
    · exact X.rb.bl b q
    · exact X.rc.bl b q
structure LogM (w : World) (base lg : Nat) (sl : SL) (es : List EM) (g : Nat → Nat) (L : LE) : Prop where
  blk : Blk w lg 139 [sL sl, .int .i64 L.ep]
  ow : Own w base 47 9 sl.1 sl.2.1 sl.2.2 (rowV emV es)
  ee : es.map emE = L.l
  ek : ∀ z ∈ es, PLies w z.m ∧ PFit z.m.p ∧ ∀ b ∈ pmB z.m, g b = 6
  g1 : g lg = 4
  g2 : ∀ b ∈ blkL sl.1, g b = 5
  old : ∀ b, g b ≠ 0 → base ≤ b ∧ b < w.heap.size
section
variable {w w' w1 w2 w3 : World} {base lg : Nat} {sl sl' : SL} {es : List EM} {g g' : Nat → Nat} {L : LE} {Z : List Nat}
theorem LogM.len (D : LogM w base lg sl es g L) : L.l.length = sl.2.1 ∧ es.length = L.l.length := by
  have h1 := D.ow.len
  rw [rowV_len emV_len] at h1
  have h2 := congrArg List.length D.ee
  rw [List.length_map] at h2
  omega
theorem LogM.mod (D : LogM w base lg sl es g L) (m : Eng.Mod Z w w') (hZ : ∀ b ∈ Z, g b = 0) : LogM w' base lg sl es g L :=
  have nin : ∀ b c, g b = c + 1 → b ∉ Z := fun b c e q => by rw [hZ b q] at e; cases e
  { D with
    blk := D.blk.mod m (nin _ _ D.g1)
    ow := D.ow.modL m (fun b hb => nin b _ (D.g2 b hb))
    ek := fun z hz => ⟨(D.ek z hz).1.mod m (fun b hb => nin b _ ((D.ek z hz).2.2 b hb)), (D.ek z hz).2⟩
    old := fun b hb => by have := D.old b hb; have := m.size; omega }
theorem LogM.ext (D : LogM w base lg sl es g L) (e : Ext w w') : LogM w' base lg sl es g L := D.mod e (fun b hb => by cases hb)
theorem LogM.tn (D : LogM w base lg sl es g L) {o o' : Nat → Nat} (t : Tn o o' w w') (hd : ∀ b, o b = 0 ∨ g b = 0) : LogM w' base lg sl es g L ∧ ∀ b, o' b = 0 ∨ g b = 0 := by
  obtain ⟨⟨S, m1, s1⟩, n1, z1⟩ := t
  refine ⟨D.mod m1 (fun b hb => (hd b).resolve_left (s1 b hb)), fun b => ?_⟩
  by_cases q : o' b = 0
  · exact .inl q
  · right
    rcases n1 b q with h1 | h1
    · exact (hd b).resolve_left h1
    · by_cases y : g b = 0
      · exact y
      · have := (D.old b y).2; omega
theorem LogM.at (D : LogM w base lg sl es g L) {i : Nat} (hi : i < L.l.length) : emE (es.getD i em0) = L.l.getD i (emE em0) := by
  have hl := D.len.2
  rw [← D.ee, List.getD_eq_getElem?_getD, List.getD_eq_getElem?_getD, List.getElem?_map, List.getElem?_eq_getElem (by omega)]
  rfl
theorem LogM.setE (D : LogM w base lg sl es g L) {ep : Int} (m : Eng.Mod [lg] w w') (hb : Blk w' lg 139 [sL sl, .int .i64 ep]) : LogM w' base lg sl es g { L with ep := ep } ∧ Tn g g w w' := by
  have nin : ∀ b c, g b = c → c ≠ 4 → b ∉ [lg] := fun b c e k q => by rw [List.mem_singleton.1 q, D.g1] at e; omega
  exact ⟨{ D with
    blk := hb
    ow := D.ow.modL m (fun b hb => nin b _ (D.g2 b hb) (by decide))
    ek := fun z hz => ⟨(D.ek z hz).1.mod m (fun b hb => nin b _ ((D.ek z hz).2.2 b hb) (by decide)), (D.ek z hz).2⟩
    old := fun b hb => by have := D.old b hb; have := m.size; omega }, ⟨_, m, fun b hb => by rw [List.mem_singleton.1 hb, D.g1]; decide⟩, fun b hb => .inl hb, m.size⟩
theorem LogM.push (D : LogM w base lg sl es g L) {z : EM} (e1 : Ext w w1) (X : POwn w1 w.heap.size z.m) (F : PFit z.m.p) (m2 : Eng.Mod (blkL sl.1) w1 w2) (ho : Own w2 base 47 9 sl'.1 sl'.2.1 sl'.2.2 (rowV emV (es ++ [z]))) (hn : Near sl.1 sl'.1 w1) (m3 : Eng.Mod [lg] w2 w3) (hb : Blk w3 lg 139 [sL sl', .int .i64 L.ep]) :
    ∃ g', LogM w3 base lg sl' (es ++ [z]) g' { L with l := L.l ++ [emE z] } ∧ Tn g g' w w3 := by
  have z1 := e1.size
  have z2 := m2.size
  have z3 := m3.size
  have hz : ∀ b, w.heap.size ≤ b → g b = 0 := fun b hb => by
    by_cases q : g b = 0
    · exact q
    · have := (D.old b q).2; omega
  have hbs : base ≤ w.heap.size := by have := D.old lg (by rw [D.g1]; decide); omega
  have hn' : ∀ b ∈ blkL sl'.1, b ∈ blkL sl.1 ∨ w1.heap.size ≤ b := fun b hb => Near.mem hn b hb
  have M : Eng.Mod (lg :: blkL sl.1) w w3 := ((e1.mono (S' := lg :: blkL sl.1) (fun b hb => by cases hb)).step m2 (fun b hb => .inl (List.mem_cons_of_mem _ hb))).step m3 (fun b hb => .inl (by rw [List.mem_singleton.1 hb]; exact List.mem_cons_self))
  have M13 : Eng.Mod (lg :: blkL sl.1) w1 w3 := (m2.mono (S' := lg :: blkL sl.1) (fun b hb => .inl (List.mem_cons_of_mem _ hb))).step m3 (fun b hb => .inl (by rw [List.mem_singleton.1 hb]; exact List.mem_cons_self))
  have hS : ∀ b ∈ lg :: blkL sl.1, g b = 4 ∨ g b = 5 := fun b hb => by
    rcases List.mem_cons.1 hb with rfl | hb
    · exact .inl D.g1
    · exact .inr (D.g2 b hb)
  obtain ⟨g', hg'⟩ : ∃ g' : Nat → Nat, g' = fun b => if b ∈ pmB z.m then 6 else if b ∈ blkL sl'.1 then 5 else g b := ⟨_, rfl⟩
  have kF : ∀ b ∈ pmB z.m, g' b = 6 := fun b hb => by rw [hg']; exact if_pos hb
  have hF := X.bl
  have kL : ∀ b ∈ blkL sl'.1, g' b = 5 := fun b hb => by
    have q : b ∉ pmB z.m := fun q => by
      have h1 := hF b q
      rcases hn' b hb with y | y
      · have := D.g2 b y; have := hz b h1.1; omega
      · omega
    rw [hg']; simp only; rw [if_neg q, if_pos hb]
  have keep : ∀ b, g b ≠ 0 → g' b = g b := fun b hb => by
    have q : b ∉ pmB z.m := fun q => hb (hz b (hF b q).1)
    rw [hg']; simp only; rw [if_neg q]
    by_cases q2 : b ∈ blkL sl'.1
    · rw [if_pos q2]
      rcases hn' b q2 with y | y
      · exact (D.g2 b y).symm
      · exact absurd (hz b (by omega)) hb
    · rw [if_neg q2]
  have kp : ∀ {b k}, g b = k + 1 → g' b = k + 1 := fun {b k} e => by rw [keep b (by omega), e]
  have hnz : ∀ b, g' b ≠ 0 → g b ≠ 0 ∨ b ∈ pmB z.m ∨ b ∈ blkL sl'.1 := fun b hb => by
    by_cases q : b ∈ pmB z.m
    · exact .inr (.inl q)
    · by_cases q2 : b ∈ blkL sl'.1
      · exact .inr (.inr q2)
      · rw [hg'] at hb; simp only at hb; rw [if_neg q, if_neg q2] at hb; exact .inl hb
  have hyL : ∀ b ∈ blkL sl'.1, b ∉ [lg] := fun b hb q => by
    rw [List.mem_singleton] at q
    have h3 := D.g1
    rcases hn' b hb with y | y
    · have := D.g2 b y; rw [q] at this; omega
    · have := hz b (by omega); rw [q] at this; omega
  refine ⟨g', { D with
    blk := hb
    ow := ho.modL m3 hyL
    ee := by rw [List.map_append, D.ee]; rfl
    ek := fun u hu => ?_
    g1 := kp D.g1
    g2 := kL
    old := fun b hb => ?_ }, ⟨⟨_, M, fun b hb => by rcases hS b hb with y | y <;> omega⟩, fun b hb => ?_, by omega⟩⟩
  · rcases List.mem_append.1 hu with q | q
    · have h := D.ek u q
      exact ⟨h.1.mod M (fun b hb e => by have := h.2.2 b hb; rcases hS b e with y | y <;> omega), h.2.1, fun b hb => kp (h.2.2 b hb)⟩
    · rw [List.mem_singleton.1 q]
      exact ⟨X.lies.mod M13 (fun b hb e => by have := hz b (hF b hb).1; rcases hS b e with y | y <;> omega), F, kF⟩
  · rcases hnz b hb with q | q | q
    · have := D.old b q; omega
    · have := hF b q; omega
    · have := ho.bl b q; omega
  · rcases hnz b hb with q | q | q
    · exact .inl q
    · exact .inr (hF b q).1
    · rcases hn' b q with y | y
      · left; rw [D.g2 b y]; decide
      · exact .inr (by omega)
end
end Go.Proofs.YtjlaomcankmdjaaGreat

namespace Go.Proofs.YtjlaomcankmdjaaGreat
open Go.RowKit Go.Proofs.Eng Go.Proofs.Codec Go.Proofs.Foot Go.Proofs.Journal
set_option linter.unusedVariables false set_option maxRecDepth 10000
attribute [local irreducible] T TL LV TH TA
set_option maxHeartbeats 1600000
section
variable {base lg : Nat} {sl : SL} {es : List EM} {g : Nat → Nat} {L : LE}
theorem LLen_c (w : World) (D : LogM w base lg sl es g L) : Ret Tryz.prog 52 [pB lg] w (fun v w' => v = .int .i64 (L.l.length : Int) ∧ w' = w) := by
  have hb := D.blk
  rw [D.len.1]
  refine ret_T (n := 10) Tryz.func52 rfl rfl ?_
  repeat (first | refine T_seq ?_ | refine T_region ?_ | refine T_cond_false rfl ?_ | refine T_skip ?_ | refine TL_pnil_f TE (hk := ?_) | refine TL_nil ?_ | refine TL_move (hk := ?_) | refine TL_assign (hk := ?_) | refine TL_load TE (hk := ?_) | refine TL_fieldAddr TE (hk := ?_) | refine TL_len TE (hk := ?_) | refine TL_nilCheck (hk := ?_))
  exact T_ret1 rfl rfl ⟨rfl, rfl⟩
theorem LNew_c (w : World) : Ret Tryz.prog 50 [] w (fun v w' => ∃ lg g, v = pB lg ∧ Ext w w' ∧ LogM w' w.heap.size lg (none, 0, 0) [] g ⟨[], 0⟩) := by
  refine ret_T (n := 3) Tryz.func50 rfl rfl ?_
  repeat (first | refine T_seq ?_ | refine T_region ?_ | refine TL_nil ?_ | refine TL_assign (hk := ?_) | refine TL_build TE (hk := ?_))
  refine TL_box (hk := ?_); intro b1 w1 e1 h1 h1' k1
  repeat (first | refine TL_nil ?_ | refine TL_assign (hk := ?_))
  exact T_ret1 rfl rfl ⟨b1, fun b => if b = b1 then 4 else 0, rfl, e1, ⟨k1, Own.nil _ _ _ _, rfl, fun z hz => (by cases hz), if_pos rfl, fun b hb => (by cases hb), fun b hb => by
    by_cases q : b = b1
    · rw [q]; exact ⟨h1, k1.lt⟩
    · rw [if_neg q] at hb; exact absurd rfl hb⟩⟩
end
end Go.Proofs.YtjlaomcankmdjaaGreat

namespace Go.Proofs.YtjlaomcankmdjaaGreat
open Go.RowKit Go.Proofs.Eng Go.Proofs.Codec Go.Proofs.Foot Go.Proofs.Journal
set_option linter.unusedVariables false set_option maxRecDepth 10000
attribute [local irreducible] T TL LV TH TA
set_option maxHeartbeats 3200000
def pm0 : PM := ⟨pe0, (none, 0, 0), (none, 0, 0), (none, 0, 0)⟩
theorem pmV_len (x : PM) : (pmV x).length = 7 := rfl
theorem map_at (xs : List PM) (i : Nat) : (xs.map (·.p)).getD i pe0 = (xs.getD i pm0).p := by
  rw [List.getD_eq_getElem?_getD, List.getD_eq_getElem?_getD, List.getElem?_map]
  cases xs[i]? <;> rfl
theorem in_at {xs : List PM} {i : Nat} (h : i < xs.length) : xs.getD i pm0 ∈ xs := by
  rw [List.getD_eq_getElem?_getD, List.getElem?_eq_getElem h]; exact List.getElem_mem _
section
variable {base lg : Nat} {sl : SL} {es : List EM} {g : Nat → Nat} {L : LE}
theorem LAppend_c (ep : Int) (A : Option Addr) (n c : Nat) (xs : List PM) (w : World) (D : LogM w base lg sl es g L) (hp : Rd w A n 7 (rowV pmV xs)) (hx : ∀ x ∈ xs, PLies w x ∧ PFit x.p) (hA : ∀ b ∈ blkL A, g b = 0) (hB : ∀ x ∈ xs, ∀ b ∈ pmB x, g b = 0) (hn : n ≤ 1000000) (hl : L.l.length ≤ 65536) :
    Ret Tryz.prog 63 [pB lg, .int .i64 ep, .slice A n c] w (fun v w' => v = .tuple #[.int .i64 (appL L ep (xs.map (·.p))).2.1, .int .i64 ((appL L ep (xs.map (·.p))).2.2.1 : Int), .int .i64 ((appL L ep (xs.map (·.p))).2.2.2 : Int)] ∧ ∃ sl' es' g', LogM w' base lg sl' es' g' (appL L ep (xs.map (·.p))).1 ∧ Tn g g' w w') := by
  have hxl : xs.length = n := by have := hp.1; rw [rowV_len pmV_len] at this; omega
  have hml : (xs.map (·.p)).length = n := by rw [List.length_map]; exact hxl
  have hb := D.blk
  obtain ⟨hl1, hl2⟩ := D.len
  unfold appL
  refine ret_T (n := 88) Tryz.func63 rfl rfl ?_
  by_cases c1 : ep < L.ep
  · rw [if_pos (.inl c1)]
    repeat (first | refine T_seq ?_ | refine T_region ?_ | refine T_cond_true rfl ?_ | refine T_cond_false rfl ?_ | refine T_block ?_ | refine TL_lt_t (hk := ?_) | refine TL_pnil_f TE (hk := ?_) | refine TL_nil ?_ | refine TL_move (hk := ?_) | refine TL_assign (hk := ?_) | refine TL_load TE (hk := ?_) | refine TL_fieldAddr TE (hk := ?_) | refine TL_no (hk := ?_) | refine TL_pick_t (hk := ?_) | refine TL_nilCheck (hk := ?_))
    exact T_ret3 rfl rfl rfl rfl ⟨rfl, sl, es, g, D, Tn.refl _ _⟩
  by_cases c2 : ep < 0
  · rw [if_pos (.inr c2)]
    repeat (first | refine T_seq ?_ | refine T_region ?_ | refine T_cond_true rfl ?_ | refine T_cond_false rfl ?_ | refine T_block ?_ | refine TL_lt_t (hk := ?_) | refine TL_lt_f (hk := ?_) | refine TL_pnil_f TE (hk := ?_) | refine TL_nil ?_ | refine TL_move (hk := ?_) | refine TL_assign (hk := ?_) | refine TL_load TE (hk := ?_) | refine TL_fieldAddr TE (hk := ?_) | refine TL_yes (hk := ?_) | refine TL_pick_f (hk := ?_) | refine TL_nilCheck (hk := ?_))
    exact T_ret3 rfl rfl rfl rfl ⟨rfl, sl, es, g, D, Tn.refl _ _⟩
  rw [if_neg (fun q => q.elim c1 c2)]
  by_cases c3 : 65536 < L.l.length + (xs.map (·.p)).length
  · rw [if_pos c3]
    have c3' : (65536 : Int) < (sl.2.1 : Int) + (n : Int) := by omega
    repeat (first | refine T_seq ?_ | refine T_region ?_ | refine T_cond_true rfl ?_ | refine T_cond_false rfl ?_ | refine T_block ?_ | refine TL_add (hk := ?_) | refine TL_lt_f (hk := ?_) | refine TL_gt_t (hk := ?_) | refine TL_pnil_f TE (hk := ?_) | refine TL_nil ?_ | refine TL_move (hk := ?_) | refine TL_assign (hk := ?_) | refine TL_load TE (hk := ?_) | refine TL_fieldAddr TE (hk := ?_) | refine TL_len TE (hk := ?_) | refine TL_yes (hk := ?_) | refine TL_pick_f (hk := ?_) | refine TL_nilCheck (hk := ?_))
    exact T_ret3 rfl rfl rfl rfl ⟨rfl, sl, es, g, D, Tn.refl _ _⟩
  rw [if_neg c3]
  have c3' : ¬ (65536 : Int) < (sl.2.1 : Int) + (n : Int) := by omega
  repeat (first | refine T_seq ?_ | refine T_region ?_ | refine T_cond_false rfl ?_ | refine T_block ?_ | refine T_inBlock ?_ | refine T_skip ?_ | refine TL_add (hk := ?_) | refine TL_lt_f (hk := ?_) | refine TL_gt_f (hk := ?_) | refine TL_pnil_f TE (hk := ?_) | refine TL_nil ?_ | refine TL_move (hk := ?_) | refine TL_assign (hk := ?_) | refine TL_load TE (hk := ?_) | refine TL_fieldAddr TE (hk := ?_) | refine TL_len TE (hk := ?_) | refine TL_yes (hk := ?_) | refine TL_pick_f (hk := ?_) | refine TL_nilCheck (hk := ?_))
  refine T_loop (ι := Nat) (fun i => [(41, .int .i64 (i : Int)), (40, .int .i64 (n : Int)), (39, .slice A n c), (0, pB lg), (1, .int .i64 ep), (2, .slice A n c)]) (fun i w' => i ≤ n ∧ Ext w w' ∧ ∀ j, j < i → rightP ((xs.map (·.p)).getD j pe0) = 0) (fun i => n - i) 0 (.c rfl (.c rfl (.c rfl (.c rfl (.c rfl (.c rfl (.n))))))) ⟨Nat.zero_le _, Mod.refl _ _, fun j hj => by omega⟩ ?_
  rintro i w1 ⟨hi, e1, h0⟩ ih
  have hp1 := hp.be e1
  by_cases hlt : i < n
  · have hAn : A ≠ none := by obtain ⟨_, _, hq, _⟩ := hp1.2 (by omega); rw [hq]; simp
    have t1 := rowV_elem pmV_len xs i pm0 (by omega)
    obtain ⟨hX, hF⟩ := hx _ (in_at (i := i) (by omega))
    have hma := map_at xs i
    generalize xs.getD i pm0 = x at t1 hX hF hma
    repeat (first | refine T_seq ?_ | refine T_region ?_ | refine T_cond_true rfl ?_ | refine T_block ?_ | refine T_skip ?_ | refine TL_lt_t (hk := ?_) | refine TL_nil ?_ | refine TL_move (hk := ?_) | refine TL_indexAddrn TE (hk := ?_))
    refine TL_loada TE (cs := pmV x) (hx := rfl) (ht := rfl) (hi := rfl) (hr := hp1) (hc := t1) (h0 := Nat.succ_pos _) (hk := ?_)
    --
    refine TL_alloc TE (hk := ?_); intro b2 w2 e2 h2 h2' k2
    repeat (refine TL_assign (hk := ?_))
    refine TL_storea TE (hk := ?_); intro w3 m3 z3 k3
    have z2 := e2.size
    have e13 : Ext w1 w3 := Mod.step e2 m3 (by simp; omega)
    replace k3 : Blk w3 b2 45 (pmV x) := k3
    unfold pmV at k3
    repeat (first | refine T_seq ?_ | refine T_region ?_ | refine TL_nil ?_)
    refine TL_loadb TE (cs := [.int .i64 x.p.q.cl, .int .u64 (x.p.q.tk : Int), .string (ofL x.p.q.nm), sL x.a, .int .i64 x.p.how, sL x.b, sL x.c]) (o := 0) rfl rfl k3 rfl rfl (Nat.succ_pos _) (hk := ?_)
    --
    refine TL_call TE (hc := Right_c x w3 (hX.be (e1.ext e13)) hF) (hk := ?_)
    rintro _ w4 ⟨rfl, e4⟩
    have e14 := (e1.ext e13).ext e4
    by_cases hr : rightP x.p = 0
    · have hr' : ((rightP x.p : Nat) : Int) = 0 := by omega
      repeat (first | refine T_seq ?_ | refine T_region ?_ | refine T_cond_false rfl ?_ | refine T_inBlock ?_ | refine T_skip ?_ | refine TL_add (hk := ?_) | refine TL_ne_f (hk := ?_) | refine TL_nil ?_ | refine TL_move (hk := ?_) | refine TL_assign (hk := ?_))
      exact ih (i + 1) _ _ (by omega) ⟨by omega, e14, fun j hj => by
        by_cases q : j = i
        · rw [q, hma]; exact hr
        · exact h0 j (by omega)⟩ (.c rfl (.c rfl (.c rfl (.c rfl (.c rfl (.c rfl (.n)))))))
    · have hr' : ¬ ((rightP x.p : Nat) : Int) = 0 := by omega
      have hfi := first_at (xs.map (·.p)) 0 i (by omega) h0 (by rw [hma]; exact hr)
      rw [hma, Nat.zero_add] at hfi
      rw [hfi]
      repeat (first | refine T_seq ?_ | refine T_region ?_ | refine T_cond_true rfl ?_ | refine TL_ne_t (hk := ?_) | refine TL_nil ?_ | refine TL_move (hk := ?_) | refine TL_assign (hk := ?_))
      exact T_ret3 rfl rfl rfl rfl ⟨rfl, sl, es, g, D.ext e14, Tn.ext e14⟩
  · clear ih
    have hin : i = n := by omega
    subst hin
    rw [first_no (xs.map (·.p)) 0 (fun j hj => h0 j (by omega))]
    simp only
    have D1 := D.ext e1
    have hb1 := D1.blk
    have hAdd0 : addK L ep (xs.map (·.p)) 0 = L := by unfold addK; simp
    have hlen0 : (sl.2.1 : Int) = (L.l.length : Int) := by omega
    repeat (first | refine T_seq ?_ | refine T_region ?_ | refine T_cond_false rfl ?_ | refine T_block ?_ | refine T_exit rfl ?_ | refine TL_lt_f (hk := ?_) | refine TL_nil ?_ | refine TL_move (hk := ?_) | refine TL_assign (hk := ?_) | refine TL_load TE (hk := ?_) | refine TL_fieldAddr TE (hk := ?_) | refine TL_len TE (hk := ?_) | refine TL_nilCheck (hk := ?_))
    rw [hlen0]
    refine T_loop (ι := Nat) (fun j => [(60, .int .i64 (j : Int)), (59, .int .i64 (i : Int)), (58, .slice A i c), (12, .int .i64 (L.l.length : Int)), (0, pB lg), (1, .int .i64 ep)]) (fun j w' => j ≤ i ∧ ∃ sl' es' g', LogM w' base lg sl' es' g' (addK L ep (xs.map (·.p)) j) ∧ Tn g g' w w') (fun j => i - j) 0 (.c rfl (.c rfl (.c rfl (.c rfl (.c rfl (.c rfl (.n))))))) ⟨Nat.zero_le _, sl, es, g, by rw [hAdd0]; exact D1, Tn.ext e1⟩ ?_
    clear D1 hb1 hp1 hb
    rintro j w2 ⟨hj, sl2, es2, g2, D2, t2⟩ ih
    have hb2 := D2.blk
    have hl3 := D2.len.1
    rw [addK_len] at hl3
    have m2 : ∃ S, Eng.Mod S w w2 ∧ ∀ b ∈ S, g b ≠ 0 := t2.1
    obtain ⟨S2, mS, hS⟩ := m2
    have hp2 := hp.mod mS (off_ofL fun u hu q => hS u q (hA u hu))
    have hep2 : (addK L ep (xs.map (·.p)) j).ep = L.ep := rfl
    by_cases hlt2 : j < i
    · have hAn : A ≠ none := by obtain ⟨_, _, hq, _⟩ := hp2.2 (by omega); rw [hq]; simp
      have t1 := rowV_elem pmV_len xs j pm0 (by omega)
      have hmem := in_at (xs := xs) (i := j) (by omega)
      obtain ⟨hX, hF⟩ := hx _ hmem
      have hXB := hB _ hmem
      have hma := map_at xs j
      have hsu := addK_succ L ep (xs.map (·.p)) j
      rw [hma] at hsu
      generalize xs.getD j pm0 = x at t1 hX hF hma hsu hXB
      have hX2 := hX.mod mS (fun b hb q => hS b q (hXB b hb))
      have hbs : base ≤ w2.heap.size := by have := D2.old lg (by rw [D2.g1]; decide); omega
      repeat (first | refine T_seq ?_ | refine T_region ?_ | refine T_cond_true rfl ?_ | refine T_block ?_ | refine T_skip ?_ | refine TL_lt_t (hk := ?_) | refine TL_nil ?_ | refine TL_indexAddrn TE (hk := ?_))
      refine TL_loada TE (cs := pmV x) (hx := rfl) (ht := rfl) (hi := rfl) (hr := hp2) (hc := t1) (h0 := Nat.succ_pos _) (hk := ?_)
      --
      refine TL_alloc TE (hk := ?_); intro b3 w3 e3 h3 h3' k3
      --
      refine TL_storea TE (hk := ?_); intro w4 m4 z4 k4
      have z3 := e3.size
      have e24 : Ext w2 w4 := Mod.step e3 m4 (by simp; omega)
      replace k4 : Blk w4 b3 45 (pmV x) := k4
      unfold pmV at k4
      have D4 := D2.ext e24
      have hb4 := D4.blk
      have hX4 := hX2.be e24
      have h3D : b3 ∉ blkL sl2.1 := fun q => by have := (D2.ow.bl b3 q).2; omega
      have hgD : lg ∉ blkL sl2.1 := fun q => by have := D2.g2 lg q; have := D2.g1; omega
      repeat (refine TL_nil ?_)
      refine T_region_anyz TE.mixed (blkL sl2.1) (some 18) ?_; intro w5 e5 z5
      have D5 := D4.ext e5
      have hb5 := D5.blk
      have k5 := k4.be e5
      have zz5 := e5.size
      (refine TA_take 0 rfl (by kernel_rfl) (by kernel_rfl) (by kernel_rfl) ?_; (repeat (first | refine TL_move (hk := ?_) | refine TLP_load TE (hk := ?_) | refine TL_fieldAddr TE (hk := ?_) | refine TL_len TE (hk := ?_) | refine TL_nilCheck (hk := ?_))); refine TL_nil_p ?_); (refine TA_take 1 rfl (by kernel_rfl) (by kernel_rfl) (by kernel_rfl) ?_; (repeat (first | refine TL_move (hk := ?_) | refine TLP_load TE (hk := ?_) | refine TL_fieldAddr TE (hk := ?_) | refine TL_len TE (hk := ?_) | refine TL_nilCheck (hk := ?_))); refine TL_nil_p ?_); (refine TA_take 2 rfl (by kernel_rfl) (by kernel_rfl) (by kernel_rfl) ?_; (repeat (first | refine TL_move (hk := ?_) | refine TLP_load TE (hk := ?_) | refine TL_fieldAddr TE (hk := ?_) | refine TL_len TE (hk := ?_) | refine TL_nilCheck (hk := ?_))); refine TL_nil_p ?_); (refine TA_take 3 rfl (by kernel_rfl) (by kernel_rfl) (by kernel_rfl) ?_; (repeat (first | refine TL_move (hk := ?_) | refine TLP_load TE (hk := ?_) | refine TL_fieldAddr TE (hk := ?_) | refine TL_len TE (hk := ?_) | refine TL_nilCheck (hk := ?_))); refine TL_nil_p ?_); (refine TA_take 4 rfl (by kernel_rfl) (by kernel_rfl) (by kernel_rfl) ?_; (repeat (first | refine TL_move (hk := ?_) | refine TLP_load TE (hk := ?_) | refine TL_fieldAddr TE (hk := ?_) | refine TL_len TE (hk := ?_) | refine TL_nilCheck (hk := ?_))); refine TL_nil_p ?_); (refine TA_take 5 rfl (by kernel_rfl) (by kernel_rfl) (by kernel_rfl) ?_; (repeat (first | refine TL_move (hk := ?_) | refine TLP_load TE (hk := ?_) | refine TL_fieldAddr TE (hk := ?_) | refine TL_len TE (hk := ?_) | refine TL_nilCheck (hk := ?_))); refine TL_nil_p ?_); (refine TA_take 6 rfl (by kernel_rfl) (by kernel_rfl) (by kernel_rfl) ?_; (repeat (first | refine TL_move (hk := ?_) | refine TLP_load TE (hk := ?_) | refine TL_fieldAddr TE (hk := ?_) | refine TL_len TE (hk := ?_) | refine TL_nilCheck (hk := ?_))); refine TL_nil_p ?_); (refine TA_take 7 rfl (by kernel_rfl) (by kernel_rfl) (by kernel_rfl) ?_; (repeat (first | refine TL_move (hk := ?_) | refine TLP_load TE (hk := ?_) | refine TL_fieldAddr TE (hk := ?_) | refine TL_len TE (hk := ?_) | refine TL_nilCheck (hk := ?_))); refine TL_nil_p ?_); (refine TA_take 8 rfl (by kernel_rfl) (by kernel_rfl) (by kernel_rfl) ?_; (repeat (first | refine TL_move (hk := ?_) | refine TLP_load TE (hk := ?_) | refine TL_fieldAddr TE (hk := ?_) | refine TL_len TE (hk := ?_) | refine TL_nilCheck (hk := ?_))); refine TL_nil_p ?_); (refine TA_take 9 rfl (by kernel_rfl) (by kernel_rfl) (by kernel_rfl) ?_; (repeat (first | refine TL_move (hk := ?_) | refine TLP_load TE (hk := ?_) | refine TL_fieldAddr TE (hk := ?_) | refine TL_len TE (hk := ?_) | refine TL_nilCheck (hk := ?_))); refine TL_nil_p ?_); (refine TA_take 10 rfl (by kernel_rfl) (by kernel_rfl) (by kernel_rfl) ?_; (repeat (first | refine TL_move (hk := ?_) | refine TLP_load TE (hk := ?_) | refine TL_fieldAddr TE (hk := ?_) | refine TL_len TE (hk := ?_) | refine TL_nilCheck (hk := ?_))); refine TL_nil_p ?_)
      refine TA_take 11 rfl (by kernel_rfl) (by kernel_rfl) (by kernel_rfl) ?_
      refine TLP_loadb TE (cs := [.int .i64 x.p.q.cl, .int .u64 (x.p.q.tk : Int), .string (ofL x.p.q.nm), sL x.a, .int .i64 x.p.how, sL x.b, sL x.c]) (o := 0) (hb := k5) (hD := h3D) (hk := ?_)
      refine TL_nil_p ?_
      refine TA_one 12 rfl (by kernel_rfl) (by kernel_rfl) ?_; (try refine TL_yes (hk := ?_)); refine TL_call TE (hc := (pown_c x w5 (hX4.be e5) hF)) (hq := (by rintro _ w' ⟨x', rfl, _, e, _⟩; exact Ext.un e)) (hk := ?_)
      rintro _ w6 ⟨x6, rfl, hx6, e6, o6⟩
      have D6 := D5.ext e6
      have hb6 := D6.blk
      have z6 := e6.size
      refine TL_nil_p ?_
      (refine TA_take 13 rfl (by kernel_rfl) (by kernel_rfl) (by kernel_rfl) ?_; (repeat (refine TL_build TE (hk := ?_))); refine TL_nil_p ?_)
      refine TA_one 14 rfl (by kernel_rfl) (by kernel_rfl) ?_
      refine TL_buildSliceA TE (hf := rfl) (hq := fun w' h => Ext.un (e6.ext h)) (hk := ?_); intro b7 w7 e7 h7 h7' k7
      obtain ⟨y, hy⟩ : ∃ y : EM, y = ⟨(sl2.2.1 : Int), ep, x6⟩ := ⟨_, rfl⟩
      replace k7 : Blk w7 b7 47 (rowV emV [y]) := by rw [hy]; exact k7
      have r7 : Rd w7 (some ⟨b7, 0, none⟩) 1 9 (rowV emV [y]) := Rd.blk k7 rfl
      have D7 := D6.ext e7
      have hb7 := hb6.be e7
      have z7 := e7.size
      refine TL_nil_p ?_
      refine TA_one 15 rfl (by kernel_rfl) (by kernel_rfl) ?_
      refine TL_append TE (ho := D7.ow) (hr := r7) (h1 := rowV_one emV_one _) (hf := rfl) (hq := fun w' m => (Ext.un (e6.ext e7)).trans m) (hk := ?_); intro A8 c8 w8 o8 m8 n8
      rw [← rowV_append] at o8
      have hb8 := hb7.mod m8 hgD
      refine TL_nil_p ?_
      (refine TA_one 16 rfl (by kernel_rfl) (by kernel_rfl) ?_; (repeat (first | refine TL_fieldAddr TE (hk := ?_) | refine TL_nilCheck (hk := ?_))); refine TL_nil_p ?_); (refine TA_one 17 rfl (by kernel_rfl) (by kernel_rfl) ?_; (repeat (first | refine TL_fieldAddr TE (hk := ?_) | refine TL_nilCheck (hk := ?_))); refine TL_nil_p ?_)
      refine TA_one 18 rfl (by kernel_rfl) (by kernel_rfl) ?_
      refine TL_store TE (hb := hb8) (hf := rfl) (hq := fun _ _ _ => trivial) (hk := ?_); intro w9 m9 z9 k9
      refine TL_nil_z (by kernel_rfl) ?_
      obtain ⟨g9, D9, t9⟩ := D5.push (z := y) (sl' := (A8, sl2.2.1 + 1, c8)) (e6.ext e7) (by rw [hy]; exact o6.be e7) (by rw [hy]; show PFit x6.p; rw [hx6]; exact hF) m8 o8 n8 m9 k9
      have hE : (⟨(addK L ep (xs.map (·.p)) j).l ++ [emE y], (addK L ep (xs.map (·.p)) j).ep⟩ : LE) = addK L ep (xs.map (·.p)) (j + 1) := by
        rw [hsu, hy]
        unfold emE
        simp only
        rw [hx6, ← hl3]
        rfl
      rw [hE] at D9
      repeat (first | refine T_region ?_ | refine T_inBlock ?_ | refine TL_add (hk := ?_) | refine TL_nil ?_ | refine TL_move (hk := ?_))
      exact ih (j + 1) _ _ (by omega) ⟨by omega, _, _, g9, D9, (t2.trans (Tn.ext (e24.ext e5))).trans t9⟩ (.c rfl (.c rfl (.c rfl (.c rfl (.c rfl (.c rfl (.n)))))))
    · clear ih
      have hji : j = i := by omega
      subst hji
      have hb2' := hb2
      repeat (first | refine T_seq ?_ | refine T_region ?_ | refine T_cond_false rfl ?_ | refine T_exit rfl ?_ | refine TL_lt_f (hk := ?_) | refine TL_nil ?_ | refine TL_move (hk := ?_) | refine TL_fieldAddr TE (hk := ?_) | refine TL_nilCheck (hk := ?_))
      refine TL_store TE (hk := ?_); intro w3 m3 z3 k3
      obtain ⟨D3, t3⟩ := D2.setE (ep := ep) m3 k3
      have hE : ({ addK L ep (xs.map (·.p)) j with ep := ep } : LE) = Journal.addL L ep (xs.map (·.p)) := by unfold Journal.addL; rw [hml]
      rw [hE] at D3
      repeat (first | refine T_seq ?_ | refine T_region ?_ | refine TL_nil ?_ | refine TL_move (hk := ?_) | refine TL_assign (hk := ?_))
      exact T_ret3 rfl rfl rfl rfl ⟨rfl, sl2, es2, g2, D3, t2.trans t3⟩
end
end Go.Proofs.YtjlaomcankmdjaaGreat

namespace Go.Proofs.YtjlaomcankmdjaaGreat
open Go.RowKit Go.Proofs.Eng Go.Proofs.Codec Go.Proofs.Foot Go.Proofs.Journal
set_option linter.unusedVariables false set_option maxRecDepth 10000
attribute [local irreducible] T TL LV TH TA
set_option maxHeartbeats 1600000
abbrev eA (x : EM) : Value := .agg #[.int .i64 x.sq, .int .i64 x.ep, .int .i64 x.m.p.q.cl, .int .u64 (x.m.p.q.tk : Int), .string (ofL x.m.p.q.nm), sL x.m.a, .int .i64 x.m.p.how, sL x.m.b, sL x.m.c]
theorem told_c (x : EM) (w : World) (X : PLies w x.m) (F : PFit x.m.p) : Ret Tryz.prog 78 [eA x] w (fun v w' => ∃ x', v = eA x' ∧ emE x' = emE x ∧ Ext w w' ∧ POwn w' w.heap.size x'.m) := by
  refine ret_T (n := 8) Tryz.func78 rfl rfl ?_
  repeat (first | refine T_seq ?_ | refine T_region ?_)
  refine TL_box (hk := ?_); intro b1 w1 e1 h1 h1' k1
  replace k1 : Blk w1 b1 47 [.int .i64 x.sq, .int .i64 x.ep, .int .i64 x.m.p.q.cl, .int .u64 (x.m.p.q.tk : Int), .string (ofL x.m.p.q.nm), sL x.m.a, .int .i64 x.m.p.how, sL x.m.b, sL x.m.c] := k1
  --
  refine TL_alloc TE (hk := ?_); intro b2 w2 e2 h2 h2' k2
  have k12 := k1.be e2
  have e02 := e1.ext e2
  have z1 := e1.size
  have z2 := e2.size
  clear k1
  repeat (first | refine T_seq ?_ | refine T_region ?_ | refine TL_nil ?_ | refine TL_fieldAddr TE (hk := ?_))
  refine TL_loadb TE (cs := [.int .i64 x.m.p.q.cl, .int .u64 (x.m.p.q.tk : Int), .string (ofL x.m.p.q.nm), sL x.m.a, .int .i64 x.m.p.how, sL x.m.b, sL x.m.c]) (o := 2) rfl rfl k12 rfl rfl (Nat.succ_pos _) (hk := ?_)
  --
  refine TL_call TE (hc := pown_c x.m w2 (X.be e02) F) (hk := ?_)
  rintro _ w3 ⟨m, rfl, hm, e3, o3⟩
  have k13 := k12.be e3
  have k23 := k2.be e3
  have z3 := e3.size
  clear k12 k2
  repeat (refine TL_fieldAddr TE (hk := ?_))
  refine TL_storea TE (hk := ?_); intro w4 m4 z4 k4
  replace k4 : Blk w4 b1 47 [.int .i64 x.sq, .int .i64 x.ep, .int .i64 m.p.q.cl, .int .u64 (m.p.q.tk : Int), .string (ofL m.p.q.nm), sL m.a, .int .i64 m.p.how, sL m.b, sL m.c] := k4
  have k24 := k23.mod m4 (by simp; omega)
  have e04 : Ext w w4 := (e02.ext e3).step m4 (fun u hu => .inr (by rw [List.mem_singleton.1 hu]; omega))
  repeat (first | refine T_seq ?_ | refine T_region ?_ | refine TL_nil ?_)
  refine TL_loadb TE (cs := [.int .i64 x.sq, .int .i64 x.ep, .int .i64 m.p.q.cl, .int .u64 (m.p.q.tk : Int), .string (ofL m.p.q.nm), sL m.a, .int .i64 m.p.how, sL m.b, sL m.c]) (o := 0) rfl rfl k4 rfl rfl (Nat.succ_pos _) (hk := ?_)
  --
  refine TL_storea TE (hk := ?_); intro w9 m9 z9 k9
  have M39 : Eng.Mod [b1, b2] w3 w9 := (m4.mono (S' := [b1, b2]) (fun b hb => .inl (by simp at hb; simp [hb]))).step m9 (fun b hb => .inl (by simp at hb; simp [hb]))
  have dd : ∀ u, w2.heap.size ≤ u → u ∉ [b1, b2] := fun u hu q => by simp at q; omega
  repeat (refine TL_nil ?_)
  refine T_retA1 TE (vs := [.int .i64 x.sq, .int .i64 x.ep, .int .i64 m.p.q.cl, .int .u64 (m.p.q.tk : Int), .string (ofL m.p.q.nm), sL m.a, .int .i64 m.p.how, sL m.b, sL m.c]) (o := 0) rfl rfl rfl rfl k9 rfl (Nat.succ_pos _) ⟨⟨x.sq, x.ep, m⟩, rfl, by unfold emE; simp only; rw [hm], e04.step m9 (fun u hu => .inr (by rw [List.mem_singleton.1 hu]; omega)), ⟨Own.weaken (o3.ra.modL M39 (fun u hu => dd u (o3.ra.bl u hu).1)) (by omega), Own.weaken (o3.rb.modL M39 (fun u hu => dd u (o3.rb.bl u hu).1)) (by omega), Own.weaken (o3.rc.modL M39 (fun u hu => dd u (o3.rc.bl u hu).1)) (by omega)⟩⟩
end Go.Proofs.YtjlaomcankmdjaaGreat

namespace Go.Proofs.YtjlaomcankmdjaaGreat
open Go.RowKit Go.Proofs.Eng Go.Proofs.Codec Go.Proofs.Foot Go.Proofs.Journal
set_option linter.unusedVariables false set_option maxRecDepth 10000
attribute [local irreducible] T TL LV TH TA
set_option maxHeartbeats 1600000
structure OutM (w : World) (base : Nat) (y : SL) (ys : List EM) (l : List EE) : Prop where
  ow : Own w base 47 9 y.1 y.2.1 y.2.2 (rowV emV ys)
  ee : ys.map emE = l
  ek : ∀ z ∈ ys, POwn w base z.m ∧ PFit z.m.p ∧ ∀ b ∈ pmB z.m, b ∉ blkL y.1
theorem POwn.modL {w w' : World} {base : Nat} {x : PM} {S : List Nat} (X : POwn w base x) (m : Eng.Mod S w w') (h : ∀ b ∈ pmB x, b ∉ S) : POwn w' base x :=
  ⟨X.ra.modL m (fun b hb => h b (List.mem_append_left _ hb)), X.rb.modL m (fun b hb => h b (List.mem_append_right _ (List.mem_append_left _ hb))), X.rc.modL m (fun b hb => h b (List.mem_append_right _ (List.mem_append_right _ hb)))⟩
theorem OutM.len {w : World} {base : Nat} {y : SL} {ys : List EM} {l : List EE} (O : OutM w base y ys l) : y.2.1 = l.length := by
  have h1 := O.ow.len
  rw [rowV_len emV_len] at h1
  have h2 := congrArg List.length O.ee
  rw [List.length_map] at h2
  omega
theorem OutM.push {w w1 w2 : World} {base : Nat} {y y' : SL} {ys : List EM} {l : List EE} {z : EM} (O : OutM w base y ys l) (e1 : Ext w w1) (X : POwn w1 w.heap.size z.m) (F : PFit z.m.p) (hb : base ≤ w.heap.size) (m : Eng.Mod (blkL y.1) w1 w2) (ho : Own w2 base 47 9 y'.1 y'.2.1 y'.2.2 (rowV emV (ys ++ [z]))) (hn : Near y.1 y'.1 w1) : OutM w2 base y' (ys ++ [z]) (l ++ [emE z]) := by
  have z1 := e1.size
  refine ⟨ho, by rw [List.map_append, O.ee]; rfl, fun u hu => ?_⟩
  rcases List.mem_append.1 hu with q | q
  · obtain ⟨h1, h2, h3⟩ := O.ek u q
    refine ⟨(h1.be e1).modL m h3, h2, fun b hb' hc => ?_⟩
    rcases Near.mem hn b hc with a | a
    · exact h3 b hb' a
    · have := (h1.bl b hb').2; omega
  · rw [List.mem_singleton.1 q]
    have hd : ∀ b ∈ pmB z.m, b ∉ blkL y.1 := fun b hb' hc => by have := (X.bl b hb').1; have := (O.ow.bl b hc).2; omega
    refine ⟨(X.weaken hb).modL m hd, F, fun b hb' hc => ?_⟩
    rcases Near.mem hn b hc with a | a
    · exact hd b hb' a
    · have := (X.bl b hb').2; omega
def fromL (L : LE) (s m : Nat) : List EE := (L.l.drop s).take m
theorem from_succ (L : LE) (s m : Nat) (h : s + m < L.l.length) : fromL L s (m + 1) = fromL L s m ++ [L.l.getD (s + m) (emE em0)] := by
  unfold fromL
  rw [List.take_succ_eq_append_getElem (by rw [List.length_drop]; omega), List.getElem_drop, List.getD_eq_getElem?_getD, List.getElem?_eq_getElem h]
  rfl
section
variable {base lg : Nat} {sl : SL} {es : List EM} {g : Nat → Nat} {L : LE}
theorem LFrom_c (seq most : Int) (w : World) (D : LogM w base lg sl es g L) (hl : L.l.length ≤ 65536) (hs : -9223372036854775808 ≤ seq ∧ seq ≤ 9223372036854775807) :
    Ret Tryz.prog 30 [pB lg, .int .i64 seq, .int .i64 most] w (fun v w' => ∃ y ys, v = sL y ∧ Ext w w' ∧ OutM w' w.heap.size y ys (fromL L seq.toNat most.toNat)) := by
  obtain ⟨s, hsd⟩ : ∃ s, seq.toNat = s := ⟨_, rfl⟩
  have hsi : (if seq < 0 then 0 else seq) = (s : Int) := by split <;> omega
  rw [hsd]
  refine ret_T (n := 35) Tryz.func30 rfl rfl ?_
  repeat (first | refine T_seq ?_ | refine T_region ?_ | refine TL_nil ?_ | refine TL_move (hk := ?_) | refine TL_assign (hk := ?_))
  refine TL_max (hk := ?_)
  rw [hsi]
  repeat (first | refine T_block ?_ | refine TL_nil ?_ | refine TL_assign (hk := ?_))
  refine T_loop (ι := Nat × SL) (fun q => [(8, .int .i64 ((s + q.1 : Nat) : Int)), (7, sL q.2), (0, pB lg), (2, .int .i64 most)]) (fun q w' => Ext w w' ∧ q.1 ≤ most.toNat ∧ (0 < q.1 → s + q.1 ≤ L.l.length) ∧ ∃ ys, OutM w' w.heap.size q.2 ys (fromL L s q.1)) (fun q => L.l.length - q.1) (0, (none, 0, 0)) (.c rfl (.c rfl (.c rfl (.c rfl (.n))))) ⟨Mod.refl _ _, Nat.zero_le _, fun h => absurd h (by simp), [], ⟨Own.nil _ _ _ _, by unfold fromL; simp, fun z hz => (by cases hz)⟩⟩ ?_
  rintro ⟨j, y⟩ w1 ⟨e1, hj, hjl, ys, O⟩ ih
  simp only at hj hjl O ih ⊢
  have D1 := D.ext e1
  have hb := D1.blk
  have hyl := O.len
  have hl1 := D.len.1
  have z1 := e1.size
  have hfl : (fromL L s j).length = min j (L.l.length - s) := by unfold fromL; rw [List.length_take, List.length_drop]
  by_cases c1 : s + j < L.l.length
  · by_cases c2 : j < most.toNat
    · have hr := D1.ow.rd
      have hA : sl.1 ≠ none := by obtain ⟨_, _, hq, _⟩ := hr.2 (by omega); rw [hq]; simp
      have t1 := rowV_elem emV_len es (s + j) em0 (by have := D.len.2; omega)
      have hmem : es.getD (s + j) em0 ∈ es := by
        have := D.len.2
        rw [List.getD_eq_getElem?_getD, List.getElem?_eq_getElem (by omega)]; exact List.getElem_mem _
      obtain ⟨hX, hF, -⟩ := D1.ek _ hmem
      have hat := D.at c1
      have hsu := from_succ L s j c1
      rw [← hat] at hsu
      generalize es.getD (s + j) em0 = x at t1 hX hF hsu
      have hcj : ((y.2.1 : Nat) : Int) < most := by omega
      repeat (first | refine T_seq ?_ | refine T_region ?_ | refine TL_move (hk := ?_))
      refine TL_call TE (hc := LLen_c w1 D1) (hk := ?_)
      rintro _ w2 ⟨rfl, rfl⟩
      repeat (first | refine T_seq ?_ | refine T_region ?_ | refine T_cond_true rfl ?_ | refine T_block ?_ | refine T_skip ?_ | refine TL_lt_t (hk := ?_) | refine TL_nil ?_ | refine TL_move (hk := ?_) | refine TL_load TE (hk := ?_) | refine TL_fieldAddr TE (hk := ?_) | refine TL_indexAddrn TE (hk := ?_) | refine TL_len TE (hk := ?_) | refine TL_yes (hk := ?_) | refine TL_pick_t (hk := ?_) | refine TL_nilCheck (hk := ?_))
      refine TL_loada TE (cs := emV x) (hx := rfl) (ht := rfl) (hi := rfl) (hr := hr) (hc := t1) (h0 := Nat.succ_pos _) (hk := ?_)
      --
      refine TL_call TE (hc := told_c x w2 hX hF) (hk := ?_)
      rintro _ w3 ⟨x', rfl, hxe, e3, o3⟩
      have O3 := O.ow.be e3
      have z3 := e3.size
      --
      refine TL_buildSliceA TE (hk := ?_); intro b4 w4 e4 h4 h4' k4
      replace k4 : Blk w4 b4 47 (rowV emV [x']) := k4
      have r4 : Rd w4 (some ⟨b4, 0, none⟩) 1 9 (rowV emV [x']) := Rd.blk k4 rfl
      have O4 := O3.be e4
      have z4 := e4.size
      --
      refine TL_append TE (ho := O4) (hr := r4) (h1 := rowV_one emV_one _) (hk := ?_); intro A5 c5 w5 o5 m5 n5
      rw [← rowV_append] at o5
      have hF' : PFit x'.m.p := by
        have : x'.m.p = x.m.p := by have := congrArg EE.p hxe; exact this
        rw [this]; exact hF
      have O5 := O.push (z := x') (y' := (A5, y.2.1 + 1, c5)) (e3.ext e4) (o3.be e4) hF' z1 m5 o5 n5
      rw [hxe, ← hsu] at O5
      repeat (first | refine T_region ?_ | refine T_inBlock ?_ | refine TL_add (hk := ?_) | refine TL_nil ?_ | refine TL_move (hk := ?_) | refine TL_assign (hk := ?_))
      exact ih (j + 1, (A5, y.2.1 + 1, c5)) _ _ (by simp only; omega) ⟨(((e1.ext e3).ext e4).own m5 O.ow.hi), by simp only; omega, fun _ => by simp only; omega, _, O5⟩ (.c rfl (.c rfl (.c rfl (.c rfl (.n)))))
    · have hcj : ¬ ((y.2.1 : Nat) : Int) < most := by omega
      obtain rfl : j = most.toNat := by omega
      clear ih
      repeat (first | refine T_seq ?_ | refine T_region ?_ | refine TL_move (hk := ?_))
      refine TL_call TE (hc := LLen_c w1 D1) (hk := ?_)
      rintro _ w2 ⟨rfl, rfl⟩
      repeat (first | refine T_seq ?_ | refine T_region ?_ | refine T_cond_false rfl ?_ | refine T_exit rfl ?_ | refine TL_lt_t (hk := ?_) | refine TL_lt_f (hk := ?_) | refine TL_nil ?_ | refine TL_move (hk := ?_) | refine TL_assign (hk := ?_) | refine TL_len TE (hk := ?_) | refine TL_yes (hk := ?_) | refine TL_pick_t (hk := ?_))
      exact T_ret1 rfl rfl ⟨y, ys, rfl, e1, O⟩
  · clear ih
    have hE : fromL L s j = fromL L s most.toNat := by
      unfold fromL
      rw [List.take_of_length_le (by rw [List.length_drop]; omega), List.take_of_length_le (by rw [List.length_drop]; omega)]
    rw [hE] at O
    repeat (first | refine T_seq ?_ | refine T_region ?_ | refine TL_move (hk := ?_))
    refine TL_call TE (hc := LLen_c w1 D1) (hk := ?_)
    rintro _ w2 ⟨rfl, rfl⟩
    repeat (first | refine T_seq ?_ | refine T_region ?_ | refine T_cond_false rfl ?_ | refine T_exit rfl ?_ | refine TL_lt_f (hk := ?_) | refine TL_nil ?_ | refine TL_move (hk := ?_) | refine TL_assign (hk := ?_) | refine TL_no (hk := ?_) | refine TL_pick_f (hk := ?_))
    exact T_ret1 rfl rfl ⟨y, ys, rfl, e1, O⟩
end
end Go.Proofs.YtjlaomcankmdjaaGreat

namespace Go.Proofs.YtjlaomcankmdjaaGreat
open Go.RowKit Go.Proofs.Eng Go.Proofs.Codec Go.Proofs.Foot Go.Proofs.Journal
set_option linter.unusedVariables false set_option maxRecDepth 10000
attribute [local irreducible] T TL LV TH TA
set_option maxHeartbeats 1600000
theorem reqB_len {b : List UInt8} {r : RE} (hf : RFit r) (h : checkR r = 0) : (reqB b r).length ≤ b.length + 1000 := by
  obtain ⟨h1, h2, h3, h4⟩ := check_ok h
  have hn := nm_len h2
  have htk := hf.tk
  have u1 := encU_len64 (show r.cl.toNat < 2 ^ 64 by omega)
  have u2 := encU_len64 (show r.tk < 2 ^ 64 by omega)
  have u3 := encU_len64 (show r.nm.length < 2 ^ 64 by omega)
  have u4 := encU_len64 (show r.ar.length < 2 ^ 64 by omega)
  unfold reqB
  have := fold_len (l := r.ar) (b := (((b ++ encU r.cl.toNat) ++ encU r.tk) ++ (encU r.nm.length ++ r.nm)) ++ encU r.ar.length) hf.ar
  simp only [List.length_append] at this
  omega
theorem right_ok {p : PE} (h : rightP p = 0) : checkR p.q = 0 ∧ (p.how = 1 ∨ p.how = 2) ∧ normB p.rd p.wr = true := by
  unfold rightP at h
  split at h
  · rename_i h1; exact absurd h h1
  · rename_i h1
    split at h
    · cases h
    · rename_i h2
      split at h
      · cases h
      · rename_i h3
        exact ⟨by omega, by omega, by simpa using h3⟩
theorem EPut_c (x : EM) (B : Option Addr) (nb cb : Nat) (b : List UInt8) (w : World) (X : PLies w x.m) (F : PFit x.m.p) (hsq : x.sq ≤ 9223372036854775807) (hep : x.ep ≤ 9223372036854775807) (hb : Rd w B nb 1 (bv b)) (hnb : nb ≤ 100000) :
    Ret Tryz.prog 64 [.slice B nb cb, eA x] w (fun v w' => ∃ A' n' c', v = .tuple #[.slice A' n' c', .int .i64 ((putEn b (emE x)).2 : Int)] ∧ Ext w w' ∧ Own w' w.heap.size 5 1 A' n' c' (bv (putEn b (emE x)).1)) := by
  obtain ⟨l1, l2, l3⟩ := X.len
  have na := F.na
  have nb' := F.nb
  have nc := F.nc
  have hbl : b.length = nb := by simpa using hb.1
  unfold putEn emE
  simp only
  refine ret_T (n := 56) Tryz.func64 rfl rfl ?_
  repeat (first | refine T_seq ?_ | refine T_region ?_)
  refine TL_box (hk := ?_); intro b1 w1 e1 h1 h1' k1
  replace k1 : Blk w1 b1 47 [.int .i64 x.sq, .int .i64 x.ep, .int .i64 x.m.p.q.cl, .int .u64 (x.m.p.q.tk : Int), .string (ofL x.m.p.q.nm), sL x.m.a, .int .i64 x.m.p.how, sL x.m.b, sL x.m.c] := k1
  have z1 := e1.size
  have hb1lt := k1.lt
  by_cases c1 : x.sq < 0
  · rw [if_pos (.inl c1)]
    repeat (first | refine T_seq ?_ | refine T_region ?_ | refine T_cond_true rfl ?_ | refine TL_lt_t (hk := ?_) | refine TL_nil ?_ | refine TL_move (hk := ?_) | refine TL_assign (hk := ?_) | refine TL_load TE (hk := ?_) | refine TL_fieldAddr TE (hk := ?_) | refine TL_no (hk := ?_) | refine TL_pick_t (hk := ?_))
    exact T_ret2 rfl rfl rfl ⟨none, 0, 0, rfl, e1, Own.nil _ _ _ _⟩
  by_cases c2 : x.ep < 0
  · rw [if_pos (.inr c2)]
    repeat (first | refine T_seq ?_ | refine T_region ?_ | refine T_cond_true rfl ?_ | refine TL_lt_t (hk := ?_) | refine TL_lt_f (hk := ?_) | refine TL_nil ?_ | refine TL_move (hk := ?_) | refine TL_assign (hk := ?_) | refine TL_load TE (hk := ?_) | refine TL_fieldAddr TE (hk := ?_) | refine TL_yes (hk := ?_) | refine TL_pick_f (hk := ?_))
    exact T_ret2 rfl rfl rfl ⟨none, 0, 0, rfl, e1, Own.nil _ _ _ _⟩
  rw [if_neg (fun q => q.elim c1 c2)]
  repeat (first | refine T_seq ?_ | refine T_region ?_ | refine T_cond_false rfl ?_ | refine T_skip ?_ | refine TL_lt_f (hk := ?_) | refine TL_nil ?_ | refine TL_move (hk := ?_) | refine TL_assign (hk := ?_) | refine TL_load TE (hk := ?_) | refine TL_fieldAddr TE (hk := ?_) | refine TL_yes (hk := ?_) | refine TL_pick_f (hk := ?_))
  refine TL_loadb TE (cs := [.int .i64 x.m.p.q.cl, .int .u64 (x.m.p.q.tk : Int), .string (ofL x.m.p.q.nm), sL x.m.a, .int .i64 x.m.p.how, sL x.m.b, sL x.m.c]) (o := 2) rfl rfl k1 rfl rfl (Nat.succ_pos _) (hk := ?_)
  --
  refine TL_call TE (hc := Right_c x.m w1 (X.be e1) F) (hk := ?_)
  rintro _ w2 ⟨rfl, e2⟩
  have k2 := k1.be e2
  have e02 := e1.ext e2
  clear k1
  by_cases c3 : rightP x.m.p = 0
  · rw [if_neg (by omega)]
    obtain ⟨hc, hhow, hnorm⟩ := right_ok c3
    have hrl := reqB_len (b := []) F.q hc
    simp only [List.length_nil] at hrl
    have hp2 : (putR [] x.m.p.q) = (reqB [] x.m.p.q, 0) := by unfold putR; rw [if_neg (by omega)]
    have rn : Rd w2 none 0 1 (bv []) := (Own.nil w2 w2.heap.size 5 1).rd
    rw [c3]
    repeat (first | refine T_seq ?_ | refine T_region ?_ | refine T_cond_false rfl ?_ | refine T_skip ?_ | refine TL_ne_f (hk := ?_) | refine TL_nil ?_ | refine TL_move (hk := ?_) | refine TL_assign (hk := ?_) | refine TL_fieldAddr TE (hk := ?_))
    refine TL_loadb TE (cs := [.int .i64 x.m.p.q.cl, .int .u64 (x.m.p.q.tk : Int), .string (ofL x.m.p.q.nm), sL x.m.a]) (o := 2) rfl rfl k2 rfl rfl (Nat.succ_pos _) (hk := ?_)
    --
    refine TL_call TE (hc := RqPut_c x.m.p.q none x.m.a.1 0 0 x.m.a.2.1 x.m.a.2.2 [] w2 F.q rn (X.ra.be e02) (by omega) (by omega)) (hk := ?_)
    rintro _ w3 ⟨A3, n3, c3', rfl, e3, o3⟩
    rw [hp2] at o3 ⊢
    simp only at o3 ⊢
    have l3' := o3.len
    simp only [bv_length, Nat.mul_one] at l3'
    have k3 := k2.be e3
    have e03 := e02.ext e3
    clear k2
    repeat (first | refine T_seq ?_ | refine TL_nil ?_ | refine TL_move (hk := ?_) | refine TL_assign (hk := ?_) | refine TL_extract (hk := ?_))
    have hsq1 : x.sq = ((x.sq.toNat : Nat) : Int) := by omega
    have hep1 : x.ep = ((x.ep.toNat : Nat) : Int) := by omega
    have hbD : b1 ∉ ([] : List Nat) := by simp
    refine T_region_any TE.mixed ([] : List Nat) ?_; intro w4 e4 z4
    have k4 := k3.be e4
    have o4 := o3.be e4
    have r4 := o4.rd
    have hb4 := hb.be (e03.ext e4)
    (refine TA_take 0 rfl (by kernel_rfl) (by kernel_rfl) (by kernel_rfl) ?_; (repeat (first | refine TL_move (hk := ?_) | refine TLP_load TE (hk := ?_) | refine TL_fieldAddr TE (hk := ?_) | refine TL_conv TE (hk := ?_) | refine TLP_conv_bs TE (hk := ?_))); refine TL_nil_p ?_); (refine TA_take 1 rfl (by kernel_rfl) (by kernel_rfl) (by kernel_rfl) ?_; (repeat (first | refine TL_move (hk := ?_) | refine TLP_load TE (hk := ?_) | refine TL_fieldAddr TE (hk := ?_) | refine TL_conv TE (hk := ?_) | refine TLP_conv_bs TE (hk := ?_))); refine TL_nil_p ?_); (refine TA_take 2 rfl (by kernel_rfl) (by kernel_rfl) (by kernel_rfl) ?_; (repeat (first | refine TL_move (hk := ?_) | refine TLP_load TE (hk := ?_) | refine TL_fieldAddr TE (hk := ?_) | refine TL_conv TE (hk := ?_) | refine TLP_conv_bs TE (hk := ?_))); refine TL_nil_p ?_); (refine TA_take 3 rfl (by kernel_rfl) (by kernel_rfl) (by kernel_rfl) ?_; (repeat (first | refine TL_move (hk := ?_) | refine TLP_load TE (hk := ?_) | refine TL_fieldAddr TE (hk := ?_) | refine TL_conv TE (hk := ?_) | refine TLP_conv_bs TE (hk := ?_))); refine TL_nil_p ?_); (refine TA_take 5 rfl (by kernel_rfl) (by kernel_rfl) (by kernel_rfl) ?_; (repeat (first | refine TL_move (hk := ?_) | refine TLP_load TE (hk := ?_) | refine TL_fieldAddr TE (hk := ?_) | refine TL_conv TE (hk := ?_) | refine TLP_conv_bs TE (hk := ?_))); refine TL_nil_p ?_); (refine TA_take 6 rfl (by kernel_rfl) (by kernel_rfl) (by kernel_rfl) ?_; (repeat (first | refine TL_move (hk := ?_) | refine TLP_load TE (hk := ?_) | refine TL_fieldAddr TE (hk := ?_) | refine TL_conv TE (hk := ?_) | refine TLP_conv_bs TE (hk := ?_))); refine TL_nil_p ?_); (refine TA_take 7 rfl (by kernel_rfl) (by kernel_rfl) (by kernel_rfl) ?_; (repeat (first | refine TL_move (hk := ?_) | refine TLP_load TE (hk := ?_) | refine TL_fieldAddr TE (hk := ?_) | refine TL_conv TE (hk := ?_) | refine TLP_conv_bs TE (hk := ?_))); refine TL_nil_p ?_); (refine TA_take 9 rfl (by kernel_rfl) (by kernel_rfl) (by kernel_rfl) ?_; (repeat (first | refine TL_move (hk := ?_) | refine TLP_load TE (hk := ?_) | refine TL_fieldAddr TE (hk := ?_) | refine TL_conv TE (hk := ?_) | refine TLP_conv_bs TE (hk := ?_))); refine TL_nil_p ?_); (refine TA_take 10 rfl (by kernel_rfl) (by kernel_rfl) (by kernel_rfl) ?_; (repeat (first | refine TL_move (hk := ?_) | refine TLP_load TE (hk := ?_) | refine TL_fieldAddr TE (hk := ?_) | refine TL_conv TE (hk := ?_) | refine TLP_conv_bs TE (hk := ?_))); refine TL_nil_p ?_)
    refine TA_one 4 rfl (by kernel_rfl) (by kernel_rfl) ?_; (try refine TL_yes (hk := ?_)); refine TL_call TE (hc := (PutUint_c B nb cb b x.sq.toNat w4 hsq1 hb4 (by omega) (by omega))) (hq := (by rintro _ w' ⟨A', n', c', rfl, e, o⟩; exact e)) (hk := ?_)
    rintro _ w5 ⟨A5, n5, c5, rfl, e5, o5⟩
    have u5 := encU_len64 (show x.sq.toNat < 2 ^ 64 by omega)
    have l5 := o5.len
    simp only [bv_length, List.length_append, Nat.mul_one] at l5
    refine TL_nil_p ?_
    refine TA_one 8 rfl (by kernel_rfl) (by kernel_rfl) ?_; (try refine TL_yes (hk := ?_)); refine TL_call TE (hc := (PutUint_c A5 n5 c5 _ x.ep.toNat w5 hep1 o5.rd (by omega) (by omega))) (hq := (by rintro _ w' ⟨A', n', c', rfl, e, o⟩; exact e5.ext e)) (hk := ?_)
    rintro _ w6 ⟨A6, n6, c6, rfl, e6, o6⟩
    have u6 := encU_len64 (show x.ep.toNat < 2 ^ 64 by omega)
    have l6 := o6.len
    simp only [bv_length, List.length_append, Nat.mul_one] at l6
    refine TL_nil_p ?_
    have hs7 : (ofL (reqB [] x.m.p.q)).size = (reqB [] x.m.p.q).length := ofL_size _
    refine TA_one 11 rfl (by kernel_rfl) (by kernel_rfl) ?_; (try refine TL_yes (hk := ?_)); refine TL_call TE (hc := (PutText_c A6 n6 c6 _ (ofL (reqB [] x.m.p.q)) w6 o6.rd (by omega) (by rw [hs7]; omega))) (hq := (by rintro _ w' ⟨A', n', c', rfl, e, o⟩; exact (e5.ext e6).ext e)) (hk := ?_)
    rintro _ w7 ⟨A7, n7, c7, rfl, e7, o7⟩
    rw [hs7, show (ofL (reqB [] x.m.p.q)).data.toList = reqB [] x.m.p.q by simp [ofL]] at o7
    have u7 := encU_len64 (show (reqB [] x.m.p.q).length < 2 ^ 64 by omega)
    have l7 := o7.len
    simp only [bv_length, List.length_append, Nat.mul_one] at l7
    refine TL_nil_p ?_
    (refine TA_one 12 rfl (by kernel_rfl) (by kernel_rfl) ?_; (repeat (refine TL_assign (hk := ?_))); refine TL_nil_p ?_)
    refine TA_done (by kernel_rfl) ?_
    have e47 := ((e4.ext e5).ext e6).ext e7
    have k7 := k3.be e47
    have e07 := e03.ext e47
    clear k3 k4 o4 r4
    have hh : x.m.p.how = ((x.m.p.how.toNat : Nat) : Int) ∧ x.m.p.how.toNat < 256 := by omega
    have hlt3 := (hb1lt : b1 < w1.heap.size)
    have hb1D : b1 ∉ blkL A7 := fun q => by have := (o7.bl b1 q).1; have := e2.size; have := e3.size; have := e4.size; have := e5.size; have := e6.size; omega
    repeat (refine T_seq ?_)
    refine T_region_any TE.mixed (blkL A7) ?_; intro w8 e8 z8
    have k8 := k7.be e8
    have o8 := o7.be e8
    have hhr : 0 ≤ x.m.p.how ∧ x.m.p.how ≤ 255 := by omega
    have hbv : bv [UInt8.ofNat x.m.p.how.toNat] = [.int .u8 x.m.p.how] := by
      simp only [bv, List.map_cons, List.map_nil]
      rw [ofNat_u8 hh.2, ← hh.1]
    (refine TA_take 0 rfl (by kernel_rfl) (by kernel_rfl) (by kernel_rfl) ?_; (repeat (first | refine TL_move (hk := ?_) | refine TLP_load TE (hk := ?_) | refine TL_fieldAddr TE (hk := ?_) | refine TL_conv TE (hk := ?_))); refine TL_nil_p ?_); (refine TA_take 1 rfl (by kernel_rfl) (by kernel_rfl) (by kernel_rfl) ?_; (repeat (first | refine TL_move (hk := ?_) | refine TLP_load TE (hk := ?_) | refine TL_fieldAddr TE (hk := ?_) | refine TL_conv TE (hk := ?_))); refine TL_nil_p ?_); (refine TA_take 2 rfl (by kernel_rfl) (by kernel_rfl) (by kernel_rfl) ?_; (repeat (first | refine TL_move (hk := ?_) | refine TLP_load TE (hk := ?_) | refine TL_fieldAddr TE (hk := ?_) | refine TL_conv TE (hk := ?_))); refine TL_nil_p ?_); (refine TA_take 3 rfl (by kernel_rfl) (by kernel_rfl) (by kernel_rfl) ?_; (repeat (first | refine TL_move (hk := ?_) | refine TLP_load TE (hk := ?_) | refine TL_fieldAddr TE (hk := ?_) | refine TL_conv TE (hk := ?_))); refine TL_nil_p ?_); (refine TA_take 4 rfl (by kernel_rfl) (by kernel_rfl) (by kernel_rfl) ?_; (repeat (first | refine TL_move (hk := ?_) | refine TLP_load TE (hk := ?_) | refine TL_fieldAddr TE (hk := ?_) | refine TL_conv TE (hk := ?_))); refine TL_nil_p ?_); (refine TA_take 7 rfl (by kernel_rfl) (by kernel_rfl) (by kernel_rfl) ?_; (repeat (first | refine TL_move (hk := ?_) | refine TLP_load TE (hk := ?_) | refine TL_fieldAddr TE (hk := ?_) | refine TL_conv TE (hk := ?_))); refine TL_nil_p ?_); (refine TA_take 8 rfl (by kernel_rfl) (by kernel_rfl) (by kernel_rfl) ?_; (repeat (first | refine TL_move (hk := ?_) | refine TLP_load TE (hk := ?_) | refine TL_fieldAddr TE (hk := ?_) | refine TL_conv TE (hk := ?_))); refine TL_nil_p ?_)
    refine TA_take 9 rfl (by kernel_rfl) (by kernel_rfl) (by kernel_rfl) ?_
    refine TLP_loadb TE (cs := [sL x.m.b, sL x.m.c]) (o := 7) (hb := k8) (hD := hb1D) (hk := ?_)
    refine TL_nil_p ?_
    refine TA_one 5 rfl (by kernel_rfl) (by kernel_rfl) ?_
    refine TL_buildSlice TE (hf := rfl) (hq := fun w' h => Ext.un h) (hk := ?_); intro b9 w9 e9 h9 h9' k9
    have r9 : Rd w9 (some ⟨b9, 0, none⟩) 1 1 (bv [UInt8.ofNat x.m.p.how.toNat]) := by rw [hbv]; exact Rd.blk k9 rfl
    have o9 := o8.be e9
    have zz : w6.heap.size ≤ w9.heap.size := by have := e7.size; have := e8.size; have := e9.size; omega
    refine TL_nil_p ?_
    refine TA_one 6 rfl (by kernel_rfl) (by kernel_rfl) ?_
    refine TL_append TE (ho := o9) (hr := r9) (h1 := bv_one _) (hf := rfl) (hq := fun w' m => (Ext.un e9).trans m) (hk := ?_); intro A10 c10 w10 o10 m10 n10
    rw [← bv_append] at o10
    have e010 : Ext w w10 := ((e07.ext e8).ext e9).step m10 (fun u hu => .inr (by have := (o7.bl u hu).1; have := (e03.ext ((e4.ext e5).ext e6)).size; omega))
    have l10 := o10.len
    simp only [bv_length, List.length_append, List.length_cons, List.length_nil, Nat.mul_one] at l10
    refine TL_nil_p ?_
    refine TA_one 10 rfl (by kernel_rfl) (by kernel_rfl) ?_; (try refine TL_yes (hk := ?_)); refine TL_call TE (hc := (Put_c A10 x.m.b.1 x.m.c.1 (n7 + 1) c10 x.m.b.2.1 x.m.b.2.2 x.m.c.2.1 x.m.c.2.2 _ x.m.p.rd x.m.p.wr w10 o10.rd (X.rb.be e010) (X.rc.be e010) (by omega) (by omega) (by omega) F.sr F.sk)) (hq := (by rintro _ w' ⟨P, np, cp, rfl, e, o⟩; exact ((Ext.un e9).trans m10).ext e)) (hk := ?_)
    rintro _ w11 ⟨P, np, cp, rfl, e11, o11⟩
    have hin : isNorm x.m.p.rd x.m.p.wr = true := hnorm
    rw [hin] at o11 ⊢
    rw [if_pos rfl] at o11 ⊢
    refine TL_nil_p ?_
    (refine TA_take 11 rfl (by kernel_rfl) (by kernel_rfl) (by kernel_rfl) ?_; (repeat (refine TL_extract (hk := ?_))); refine TL_nil_p ?_); (refine TA_take 12 rfl (by kernel_rfl) (by kernel_rfl) (by kernel_rfl) ?_; (repeat (refine TL_extract (hk := ?_))); refine TL_nil_p ?_)
    (refine TA_one 13 rfl (by kernel_rfl) (by kernel_rfl) ?_; (repeat (refine TL_assign (hk := ?_))); refine TL_nil_p ?_); (refine TA_one 14 rfl (by kernel_rfl) (by kernel_rfl) ?_; (repeat (refine TL_assign (hk := ?_))); refine TL_nil_p ?_)
    refine TA_done (by kernel_rfl) ?_
    --
    exact T_ret2 rfl rfl rfl ⟨P, np, cp, rfl, e010.ext e11, Own.weaken o11 e010.size⟩
  · rw [if_pos c3]
    have c3'' : ¬ ((rightP x.m.p : Nat) : Int) = 0 := by omega
    repeat (first | refine T_seq ?_ | refine T_region ?_ | refine T_cond_true rfl ?_ | refine TL_ne_t (hk := ?_) | refine TL_nil ?_ | refine TL_move (hk := ?_) | refine TL_assign (hk := ?_))
    exact T_ret2 rfl rfl rfl ⟨none, 0, 0, rfl, e02, Own.nil _ _ _ _⟩
end Go.Proofs.YtjlaomcankmdjaaGreat

namespace Go.Proofs.YtjlaomcankmdjaaGreat
open Go.RowKit Go.Proofs.Eng Go.Proofs.Foot Go.Proofs.Codec
set_option linter.unusedVariables false set_option maxRecDepth 10000
attribute [local irreducible] T TL LV TH TA
end Go.Proofs.YtjlaomcankmdjaaGreat

namespace Go.Proofs.YtjlaomcankmdjaaGreat
open Go.RowKit Go.Proofs.Eng Go.Proofs.Codec
set_option linter.unusedVariables false set_option maxRecDepth 10000
attribute [local irreducible] T TL LV TH TA
set_option maxHeartbeats 1000000
theorem RPutText_c (A : Option Addr) (n c : Nat) (l : List UInt8) (S : ByteArray) (w : World) (h : Rd w A n 1 (bv l)) (hn : n ≤ 7036874417) (hs : S.size ≤ 7036874417) :
    Ret Tryz.prog 147 [.slice A n c, .string S] w (fun v w' => ∃ A' n' c', v = .slice A' n' c' ∧ Ext w w' ∧ Own w' w.heap.size 5 1 A' n' c' (bv (l ++ (encU S.size ++ S.data.toList)))) := by
  have hlen : l.length = n := by simpa using h.1
  refine ret_T (n := 12) Tryz.func147 rfl rfl ?_
  repeat (first | refine T_seq ?_ | refine T_region ?_ | refine TL_nil ?_ | refine TL_move (hk := ?_) | refine TL_assign (hk := ?_) | refine TL_len_s TE (hk := ?_) | refine TL_conv TE (hk := ?_))
  refine TL_call TE (hc := RPutUint_c A n c l S.size w rfl h (by omega) (by omega)) (hk := ?_)
  rintro _ w1 ⟨A1, n1, c1, rfl, e1, o1⟩
  have s1 := e1.size
  have hn1 := o1.len
  have h10 := encU_len64 (n := S.size) (by omega)
  simp only [bv_length, List.length_append, Nat.mul_one] at hn1
  repeat (refine TL_move (hk := ?_))
  refine TL_append_s TE (hk := ?_); intro A2 c2 w2 o2 m2 n2
  repeat (first | refine TL_nil ?_ | refine TL_assign (hk := ?_))
  refine T_ret1 rfl rfl ⟨A2, _, c2, rfl, e1.own m2 o1.hi, ?_⟩
  rw [← bv_append, List.append_assoc] at o2
  exact o2
def numV : Except Int (Nat × Nat) → Value
  | .ok (r, k) => .tuple #[.int .u64 (r : Int), .int .i64 (k : Int), .int .i64 0]
  | .error e => .tuple #[.int .u64 0, .int .i64 0, .int .i64 e]
theorem number_c (A : Option Addr) (n c : Nat) (l : List UInt8) (w : World) (h : Rd w A n 1 (bv l)) (hn : n ≤ 70368744177664) :
    Ret Tryz.prog 67 [.slice A n c] w (fun v w' => v = numV (num0 l) ∧ w' = w) := by
  have hlen : l.length = n := by simpa using h.1
  refine ret_T (n := 53) Tryz.func67 rfl rfl ?_
  repeat (first | refine T_seq ?_ | refine T_region ?_ | refine T_block ?_ | refine TL_nil ?_ | refine TL_assign (hk := ?_))
  refine T_loop (ι := Nat × Nat) (fun i => [(6, .int .i64 (i.1 : Int)), (5, .int .u64 (i.2 : Int)), (0, .slice A n c)])
    (fun i w' => w' = w ∧ i.1 ≤ 9 ∧ i.2 < 2 ^ (7 * i.1) ∧ numF (10 - i.1) i.1 i.2 (l.drop i.1) = num0 l) (fun i => 10 - i.1) (0, 0) (.c rfl (.c rfl (.c rfl (.n)))) ⟨rfl, by decide, by decide, rfl⟩ ?_
  rintro ⟨i, N⟩ w1 ⟨rfl, hi, hN, hF⟩ ih
  simp only at hi hN hF ih ⊢
  obtain ⟨f, hf⟩ : ∃ f, 10 - i = f + 1 := ⟨9 - i, by omega⟩
  rw [hf] at hF
  by_cases hin : i < n
  · have hd : l.drop i = l[i] :: l.drop (i + 1) := List.drop_eq_getElem_cons _
    have hg := gb_get l i (by omega)
    have hc := gb_lt l i
    rw [hd] at hF
    simp only [numF, ← hg] at hF
    by_cases h9 : i = 9 ∧ 1 < gb l i
    · rw [if_pos h9] at hF
      obtain ⟨rfl, h91⟩ := h9
      repeat (first | refine T_seq ?_ | refine T_region ?_ | refine T_cond_true rfl ?_ | refine T_cond_false rfl ?_ | refine T_block ?_ | refine T_skip ?_ | refine TL_lt_t (hk := ?_) | refine TL_gt_t (hk := ?_) | refine TL_ge_f (hk := ?_) | refine TL_eq_t (hk := ?_) | refine TL_nil ?_ | refine TL_move (hk := ?_) | refine TL_assign (hk := ?_) | (refine TL_load_b TE (hk := ?_); intro _) | refine TL_indexAddr1n TE (hk := ?_) | refine TL_len TE (hk := ?_) | refine TL_yes (hk := ?_) | refine TL_pick_t (hk := ?_))
      exact T_ret3 rfl rfl rfl rfl ⟨by rw [← hF]; rfl, rfl⟩
    · rw [if_neg h9] at hF
      have hp : 2 ^ (7 * (i + 1)) = 2 ^ (7 * i) * 128 := by rw [show 7 * (i + 1) = 7 * i + 7 from by omega, Nat.pow_add]
      have hm : N + gb l i % 128 * 2 ^ (7 * i) < 2 ^ (7 * (i + 1)) := by
        rw [hp]
        have : gb l i % 128 * 2 ^ (7 * i) ≤ 127 * 2 ^ (7 * i) := Nat.mul_le_mul_right _ (by omega)
        omega
      have hp9 : 2 ^ (7 * i) ≤ 2 ^ 63 := Nat.pow_le_pow_right (by decide) (by omega)
      have hb : N + gb l i % 128 * 2 ^ (7 * i) < 2 ^ 64 := by
        by_cases h9' : i = 9
        · have : gb l i % 128 * 2 ^ (7 * i) ≤ 1 * 2 ^ (7 * i) := Nat.mul_le_mul_right _ (by omega)
          omega
        · have : 2 ^ (7 * (i + 1)) ≤ 2 ^ 63 := Nat.pow_le_pow_right (by decide) (by omega)
          omega
      have hor : gb l i % 128 * 2 ^ (7 * i) % 2 ^ 64 = gb l i % 128 * 2 ^ (7 * i) := Nat.mod_eq_of_lt (by omega)
      have hq : N + gb l i % 128 * 2 ^ (7 * i) % 2 ^ 64 < 2 ^ 64 := by rw [hor]; exact hb
      by_cases i9 : i = 9
      · repeat (first | refine T_seq ?_ | refine T_region ?_ | refine T_cond_true rfl ?_ | refine T_cond_false rfl ?_ | refine T_block ?_ | refine T_skip ?_ | refine TL_mul (hk := ?_) | refine TL_rem (hk := ?_) | refine TL_lt_t (hk := ?_) | refine TL_gt_f (hk := ?_) | refine TL_ge_f (hk := ?_) | refine TL_eq_t (hk := ?_) | refine TL_nil ?_ | refine TL_move (hk := ?_) | (refine TL_load_b TE (hk := ?_); intro _) | refine TL_indexAddr1n TE (hk := ?_) | refine TL_len TE (hk := ?_) | refine TL_yes (hk := ?_) | refine TL_pick_t (hk := ?_) | refine TL_conv TE (hk := ?_))
        refine TL_shl rfl rfl (a := gb l i % 128) (c := 7 * i) (by omega) (by omega) rfl (by omega) rfl ?_
        repeat (first | refine T_seq ?_ | refine T_region ?_ | refine T_cond_true rfl ?_ | refine TL_add (hk := ?_) | refine TL_lt_t (hk := ?_) | refine TL_gt_t (hk := ?_) | refine TL_nil ?_ | refine TL_move (hk := ?_) | refine TL_assign (hk := ?_) | (refine TL_load_b TE (hk := ?_); intro _) | refine TL_indexAddr1n TE (hk := ?_) | refine TL_yes (hk := ?_))
        by_cases hlt : gb l i < 128
        · rw [if_pos hlt] at hF
          by_cases h0 : 0 < i
          · by_cases hz : gb l i = 0
            · rw [if_pos ⟨h0, hz⟩] at hF
              repeat (first | refine T_seq ?_ | refine T_region ?_ | refine T_cond_true rfl ?_ | refine TL_eq_t (hk := ?_) | refine TL_nil ?_ | refine TL_assign (hk := ?_) | refine TL_pick_t (hk := ?_))
              exact T_ret3 rfl rfl rfl rfl ⟨by rw [← hF]; rfl, rfl⟩
            · rw [if_neg (by omega)] at hF
              repeat (first | refine T_seq ?_ | refine T_region ?_ | refine T_cond_false rfl ?_ | refine T_skip ?_ | refine TL_add (hk := ?_) | refine TL_eq_f (hk := ?_) | refine TL_nil ?_ | refine TL_move (hk := ?_) | refine TL_assign (hk := ?_) | refine TL_pick_t (hk := ?_))
              exact T_ret3 rfl rfl rfl rfl ⟨by rw [← hF, hor]; rfl, rfl⟩
          · first
            | (exfalso; omega)
            | skip
              rw [if_neg (by omega)] at hF
              --
              exact T_ret3 rfl rfl rfl rfl ⟨by rw [← hF, hor]; rfl, rfl⟩
        · first
          | (exfalso; omega)
          | skip
            rw [if_neg hlt] at hF
            --
            refine ih (i + 1, N + gb l i % 128 * 2 ^ (7 * i)) _ _ (by simp only; omega) ⟨rfl, by simp only; omega, hm, ?_⟩ ?_
            · simp only
              rw [show 10 - (i + 1) = f by omega]
              exact hF
            · rw [hor]
              exact (.c rfl (.c rfl (.c rfl (.n))))
      · repeat (first | refine T_seq ?_ | refine T_region ?_ | refine T_cond_true rfl ?_ | refine T_cond_false rfl ?_ | refine T_block ?_ | refine T_skip ?_ | refine TL_mul (hk := ?_) | refine TL_rem (hk := ?_) | refine TL_lt_t (hk := ?_) | refine TL_ge_f (hk := ?_) | refine TL_eq_f (hk := ?_) | refine TL_nil ?_ | refine TL_move (hk := ?_) | (refine TL_load_b TE (hk := ?_); intro _) | refine TL_indexAddr1n TE (hk := ?_) | refine TL_len TE (hk := ?_) | refine TL_no (hk := ?_) | refine TL_pick_f (hk := ?_) | refine TL_conv TE (hk := ?_))
        refine TL_shl rfl rfl (a := gb l i % 128) (c := 7 * i) (by omega) (by omega) rfl (by omega) rfl ?_
        repeat (first | refine T_seq ?_ | refine T_region ?_ | refine TL_add (hk := ?_) | refine TL_nil ?_ | refine TL_move (hk := ?_) | refine TL_assign (hk := ?_) | (refine TL_load_b TE (hk := ?_); intro _) | refine TL_indexAddr1n TE (hk := ?_))
        by_cases hlt : gb l i < 128
        · rw [if_pos hlt] at hF
          by_cases h0 : 0 < i
          · by_cases hz : gb l i = 0
            · rw [if_pos ⟨h0, hz⟩] at hF
              repeat (first | refine T_seq ?_ | refine T_region ?_ | refine T_cond_true rfl ?_ | refine TL_lt_t (hk := ?_) | refine TL_gt_t (hk := ?_) | refine TL_eq_t (hk := ?_) | refine TL_nil ?_ | refine TL_move (hk := ?_) | refine TL_assign (hk := ?_) | (refine TL_load_b TE (hk := ?_); intro _) | refine TL_indexAddr1n TE (hk := ?_) | refine TL_yes (hk := ?_) | refine TL_pick_t (hk := ?_))
              exact T_ret3 rfl rfl rfl rfl ⟨by rw [← hF]; rfl, rfl⟩
            · rw [if_neg (by omega)] at hF
              repeat (first | refine T_seq ?_ | refine T_region ?_ | refine T_cond_true rfl ?_ | refine T_cond_false rfl ?_ | refine T_skip ?_ | refine TL_add (hk := ?_) | refine TL_lt_t (hk := ?_) | refine TL_gt_t (hk := ?_) | refine TL_eq_f (hk := ?_) | refine TL_nil ?_ | refine TL_move (hk := ?_) | refine TL_assign (hk := ?_) | (refine TL_load_b TE (hk := ?_); intro _) | refine TL_indexAddr1n TE (hk := ?_) | refine TL_yes (hk := ?_) | refine TL_pick_t (hk := ?_))
              exact T_ret3 rfl rfl rfl rfl ⟨by rw [← hF, hor]; rfl, rfl⟩
          · first
            | (exfalso; omega)
            | skip
              rw [if_neg (by omega)] at hF
              repeat (first | refine T_seq ?_ | refine T_region ?_ | refine T_cond_true rfl ?_ | refine T_cond_false rfl ?_ | refine T_skip ?_ | refine TL_add (hk := ?_) | refine TL_lt_t (hk := ?_) | refine TL_gt_f (hk := ?_) | refine TL_nil ?_ | refine TL_move (hk := ?_) | refine TL_assign (hk := ?_) | refine TL_no (hk := ?_) | refine TL_pick_f (hk := ?_))
              exact T_ret3 rfl rfl rfl rfl ⟨by rw [← hF, hor]; rfl, rfl⟩
        · first
          | (exfalso; omega)
          | skip
            rw [if_neg hlt] at hF
            repeat (first | refine T_region ?_ | refine T_cond_false rfl ?_ | refine T_inBlock ?_ | refine T_skip ?_ | refine TL_add (hk := ?_) | refine TL_lt_f (hk := ?_) | refine TL_nil ?_ | refine TL_move (hk := ?_) | refine TL_assign (hk := ?_))
            refine ih (i + 1, N + gb l i % 128 * 2 ^ (7 * i)) _ _ (by simp only; omega) ⟨rfl, by simp only; omega, hm, ?_⟩ ?_
            · simp only
              rw [show 10 - (i + 1) = f by omega]
              exact hF
            · rw [hor]
              exact (.c rfl (.c rfl (.c rfl (.n))))
  · rw [List.drop_of_length_le (by omega)] at hF
    repeat (first | refine T_seq ?_ | refine T_region ?_ | refine T_cond_true rfl ?_ | refine T_block ?_ | refine T_skip ?_ | refine TL_lt_t (hk := ?_) | refine TL_ge_t (hk := ?_) | refine TL_nil ?_ | refine TL_move (hk := ?_) | refine TL_assign (hk := ?_) | refine TL_len TE (hk := ?_))
    exact T_ret3 rfl rfl rfl rfl ⟨by rw [← hF]; rfl, rfl⟩
end Go.Proofs.YtjlaomcankmdjaaGreat

namespace Go.Proofs.YtjlaomcankmdjaaGreat
open Go.RowKit Go.Proofs.Eng Go.Proofs.Foot Go.Proofs.Codec
set_option linter.unusedVariables false set_option maxRecDepth 10000
attribute [local irreducible] T TL LV TH TA
theorem Rd.ne {w : World} {A : Option Addr} {n s : Nat} {xs : List Value} (h : Rd w A n s xs) (hn : 0 < n) : A ≠ none := by
  obtain ⟨b, off, rfl, _⟩ := h.2 hn
  exact fun h => by cases h
end Go.Proofs.YtjlaomcankmdjaaGreat

namespace Go.Proofs.YtjlaomcankmdjaaGreat
open Go.RowKit Go.Proofs.Eng Go.Proofs.Foot Go.Proofs.Codec
set_option linter.unusedVariables false set_option maxRecDepth 10000
attribute [local irreducible] T TL LV TH TA
theorem off_none (S : List Nat) : Off none S := fun _ h => by cases h
theorem Count_s (b : Nat) (s : RS) (A : Option Addr) (n c : Nat) (w : World) (h : Rdr w 218 b s A n c) :
    Ret Tryz.prog 150 [ptr b, .int .i64 64] w (fun v w' => v = .int .i64 (((s.take (0 : Nat) (tLim 64 6)).1 : Nat) : Int) ∧ Mod [b] w w' ∧ Rdr w' 218 b (s.take (0 : Nat) (tLim 64 6)).2 A n c) :=
  Count_c b s A n c 64 (by decide) w h
theorem Text_s (b : Nat) (s : RS) (A : Option Addr) (n c : Nat) (w : World) (h : Rdr w 218 b s A n c) :
    Ret Tryz.prog 121 [ptr b, .int .i64 32] w (fun v w' => v = .string (ofL (s.take ([] : List UInt8) (tText 32)).1) ∧ Mod [b] w w' ∧ Rdr w' 218 b (s.take ([] : List UInt8) (tText 32)).2 A n c) :=
  Text_c b s A n c 32 (by decide) w h
theorem Byte_s (b : Nat) (s : RS) (A : Option Addr) (n c : Nat) (w : World) (h : Rdr w 218 b s A n c) :
    Ret Tryz.prog 122 [ptr b] w (fun v w' => v = .int .u8 (((s.take (0 : Nat) tByte).1 : Nat) : Int) ∧ Mod [b] w w' ∧ Rdr w' 218 b (s.take (0 : Nat) tByte).2 A n c) :=
  Byte_c b s A n c w h
def more (l : List Tx) (t : Tx) (z : Nat) : List Tx := if z = 0 then l else l ++ [t]
structure GInv (tR : TypeId) (w w5 w' : World) (bR b6 : Nat) (s : RS) (A : Option Addr) (n c : Nat) (x y : Option Addr × Nat × Nat) (rd wr : List Tx) : Prop where
  ext : Ext w w'
  mod : Eng.Mod [bR, b6] w5 w'
  rdr : Rdr w' tR bR s A n c
  blk : Blk w' b6 43 [.slice x.1 x.2.1 x.2.2, .slice y.1 y.2.1 y.2.2]
  own1 : Own w' w5.heap.size 9 1 x.1 x.2.1 x.2.2 (sv rd)
  own2 : Own w' w5.heap.size 9 1 y.1 y.2.1 y.2.2 (sv wr)
  off1 : Off y.1 (blkL x.1)
  off2 : Off x.1 (blkL y.1)
  hR : w.heap.size ≤ bR
  hR5 : bR < w5.heap.size
  h6 : w.heap.size ≤ b6
  h65 : b6 < w5.heap.size
  hne : bR ≠ b6
  hA : Lo A w5.heap.size
  hA6 : Off A [b6]
theorem GInv.step {tR : TypeId} {w w5 w' w2 : World} {bR b6 : Nat} {s s' : RS} {A : Option Addr} {n c : Nat} {x y : Option Addr × Nat × Nat} {rd wr : List Tx} (I : GInv tR w w5 w' bR b6 s A n c x y rd wr) (m : Eng.Mod [bR] w' w2) (r : Rdr w2 tR bR s' A n c) : GInv tR w w5 w2 bR b6 s' A n c x y rd wr := by
  have z := I.mod.size
  have h1 := I.hR
  have h2 := I.hR5
  have h3 := I.hne
  exact ⟨Mod.step I.ext m (by simp; omega), Mod.step I.mod m (by simp), r, I.blk.mod m (by simp; omega), I.own1.mod m (Off.hi I.own1.hi (by omega)), I.own2.mod m (Off.hi I.own2.hi (by omega)), I.off1, I.off2, I.hR, I.hR5, I.h6, I.h65, I.hne, I.hA, I.hA6⟩
theorem GInv.ext2 {tR : TypeId} {w w5 w' w2 : World} {bR b6 : Nat} {s : RS} {A : Option Addr} {n c : Nat} {x y : Option Addr × Nat × Nat} {rd wr : List Tx} (I : GInv tR w w5 w' bR b6 s A n c x y rd wr) (m : Ext w' w2) : GInv tR w w5 w2 bR b6 s A n c x y rd wr :=
  ⟨I.ext.ext m, I.mod.ext m, I.rdr.ext m, I.blk.ext m, I.own1.ext m, I.own2.ext m, I.off1, I.off2, I.hR, I.hR5, I.h6, I.h65, I.hne, I.hA, I.hA6⟩
theorem Get_c (B : Option Addr) (nb cb : Nat) (b : List UInt8) (w : World) (hb : Rd w B nb 1 (bv b)) (hnb : nb ≤ 200000) :
    Ret Tryz.prog 125 [.slice B nb cb] w (fun v w' => ∃ u, v = .tuple #[u, .int .i64 ((getF b).1.2 : Nat), .int .i64 (getF b).2] ∧ Ext w w' ∧ FootO w' w.heap.size 9 u (getF b).1.1) := by
  have hlb := hb.1
  simp only [bv_length, Nat.mul_one] at hlb
  refine ret_T (n := 75) Tryz.func125 rfl rfl ?_
  repeat (first | refine T_seq ?_ | refine T_region ?_)
  refine TL_alloc TE (hk := ?_); intro b2 w2 e2 h2 h2' k2
  have z2 := e2.size
  repeat (first | refine T_seq ?_ | refine T_region ?_ | refine TL_nil ?_ | refine TL_move (hk := ?_) | refine TL_assign (hk := ?_))
  refine TL_call TE (hc := NewReader_c B nb cb b _ (hb.be e2) (by omega)) (hk := ?_)
  rintro _ w3 ⟨bR, A3, n3, c3, rfl, e3, hbR, hi3, lo3, rr⟩
  have z3 := e3.size
  have lR := rr.blk.lt
  have hn3 : b.length = n3 := rr.len
  repeat (first | refine T_seq ?_ | refine T_region ?_ | refine TL_nil ?_ | refine TL_assign (hk := ?_))
  refine TL_alloc TE (hk := ?_); intro b6 w4 e4 h6 h6' k6
  have k24 := (k2.be e3).be e4
  have rr4 := rr.ext e4
  have z4 := e4.size
  have e04 := (e2.ext e3).ext e4
  clear k2 rr
  repeat (first | refine T_seq ?_ | refine T_region ?_ | refine TL_nil ?_ | refine TL_move (hk := ?_) | refine TL_assign (hk := ?_))
  refine TL_call TE (hc := Count_s bR _ A3 n3 c3 w4 rr4) (hk := ?_)
  rintro _ w5 ⟨rfl, m5, rr5⟩
  obtain ⟨c0, hc0⟩ : ∃ c0, (RS.mk b 0 0 0 0).take (0 : Nat) (tLim 64 6) = c0 := ⟨_, rfl⟩
  have hgi : gInit b = c0 := hc0
  have hg64 := gInit_le b
  rw [hgi] at hg64
  rw [hc0] at rr5
  rw [hc0]
  have z5 := m5.size
  have e05 : Ext w w5 := Mod.step e04 m5 (by simp; omega)
  have k25 := k24.bm m5 (by simp; omega)
  have k65 := k6.bm m5 (by simp; omega)
  have hA3 : Lo A3 w5.heap.size := Lo.mono lo3 (by omega)
  obtain ⟨n0, hn0⟩ : ∃ n0, c0.1 = n0 := ⟨_, rfl⟩
  rw [hn0] at hg64 ⊢
  clear k24 k6 rr4 hb
  repeat (first | refine T_block ?_ | refine TL_nil ?_ | refine TL_move (hk := ?_))
  have I0 : GInv 218 w w5 w5 bR b6 c0.2 A3 n3 c3 (none, 0, 0) (none, 0, 0) [] [] := ⟨e05, Mod.refl _ _, rr5, k65, Own.nil _ _ _ _, Own.nil _ _ _ _, off_none _, off_none _, by omega, by omega, by omega, by omega, by omega, hA3, Off.lo lo3 (by omega)⟩
  have h25 : b2 < w3.heap.size := by omega
  refine T_loop (ι := (GS × Nat) × (Option Addr × Nat × Nat) × (Option Addr × Nat × Nat)) (fun i => [(16, .int .i64 (i.1.2 : Int)), (15, .int .i64 (n0 : Int)), (7, .string (ofL i.1.1.last)), (6, .pointer (some ⟨b6, 0, none⟩)), (5, ptr bR), (2, .pointer (some ⟨b2, 0, none⟩)), (0, .slice B nb cb)])
    (fun i w' => i.1.2 ≤ n0 ∧ i.1.1 = gIter i.1.2 ⟨c0.2, [], [], []⟩ ∧ GInv 218 w w5 w' bR b6 i.1.1.s A3 n3 c3 i.2.1 i.2.2 i.1.1.rd i.1.1.wr ∧ i.2.1.2.1 ≤ i.1.2 ∧ i.2.2.2.1 ≤ i.1.2) (fun i => n0 - i.1.2) ((⟨c0.2, [], [], []⟩, 0), (none, 0, 0), (none, 0, 0)) (.c rfl (.c rfl (.c rfl (.c rfl (.c rfl (.c rfl (.c rfl (.n))))))))
    ⟨Nat.zero_le _, rfl, I0, Nat.zero_le _, Nat.zero_le _⟩ ?_
  rintro ⟨⟨g, i⟩, x, y⟩ w6 ⟨hi, hg, I6, hnr, hnw⟩ ih
  simp only at hi hg I6 hnr hnw ih ⊢
  by_cases hlt : i < n0
  · repeat (first | refine T_seq ?_ | refine T_region ?_ | refine T_cond_true rfl ?_ | refine T_block ?_ | refine T_skip ?_ | refine TL_lt_t (hk := ?_) | refine TL_nil ?_ | refine TL_move (hk := ?_))
    refine TL_call TE (hc := Text_s bR _ A3 n3 c3 w6 I6.rdr) (hk := ?_)
    rintro _ w7 ⟨rfl, m7, rr7⟩
    have I7 := I6.step m7 rr7
    obtain ⟨p, hp⟩ : ∃ p, g.s.take ([] : List UInt8) (tText 32) = p := ⟨_, rfl⟩
    have hgt : gText g = p := hp
    have hp32 := gText_le g
    have hu256 := gUse_lt g
    rw [hgt] at hp32
    rw [hp] at I7
    rw [hp]
    repeat (first | refine T_seq ?_ | refine T_region ?_ | refine TL_nil ?_ | refine TL_move (hk := ?_) | refine TL_assign (hk := ?_))
    refine TL_call TE (hc := Valid_c p.1 (by omega) _) (hk := ?_)
    rintro _ _ ⟨rfl, rfl⟩
    repeat (first | refine TL_nil ?_ | refine TL_not (hk := ?_))
    refine T_join (ι := Unit) (fun _ => [(8, .string (ofL p.1)), (16, .int .i64 (i : Int)), (15, .int .i64 (n0 : Int)), (7, .string (ofL g.last)), (6, .pointer (some ⟨b6, 0, none⟩)), (5, ptr bR), (2, .pointer (some ⟨b2, 0, none⟩)), (0, .slice B nb cb)])
      (fun _ w' => GInv 218 w w5 w' bR b6 (gKey g) A3 n3 c3 x y g.rd g.wr) (fun kk join => ?_) ?_
    · by_cases hv : validT p.1 = true
      · rw [hv]
        repeat (first | refine T_cond_false rfl ?_ | refine T_skip ?_)
        have hgk : gKey g = p.2 := by unfold gKey; rw [hgt, if_pos hv]
        exact T.sub (join () _ (by rw [hgk]; exact I7)) (.c rfl (.c rfl (.c rfl (.c rfl (.c rfl (.c rfl (.c rfl (.c rfl (.n)))))))))
      · have hv' : validT p.1 = false := by simpa using hv
        rw [hv']
        repeat (first | refine T_region ?_ | refine T_cond_true rfl ?_ | refine TL_move (hk := ?_))
        refine TL_call TE (hc := Fail_c bR _ A3 n3 c3 30 _ I7.rdr) (hk := ?_)
        rintro _ w8 ⟨_, m8, rr8⟩
        repeat (refine TL_nil ?_)
        have hgk : gKey g = p.2.fail 30 := by unfold gKey; rw [hgt, if_neg hv]
        exact T.sub (join () _ (by rw [hgk]; exact I7.step m8 rr8)) (.c rfl (.c rfl (.c rfl (.c rfl (.c rfl (.c rfl (.c rfl (.c rfl (.n)))))))))
    rintro _ w8 I8
    clear I7 I6 rr7
    repeat (first | refine T_seq ?_ | refine T_region ?_ | refine TL_move (hk := ?_))
    refine TL_sle_d (hk := ?_)
    repeat (refine TL_nil ?_)
    refine T_join (ι := Unit) (fun _ => [(8, .string (ofL p.1)), (16, .int .i64 (i : Int)), (15, .int .i64 (n0 : Int)), (6, .pointer (some ⟨b6, 0, none⟩)), (5, ptr bR), (2, .pointer (some ⟨b2, 0, none⟩)), (0, .slice B nb cb)])
      (fun _ w' => GInv 218 w w5 w' bR b6 (gRise g) A3 n3 c3 x y g.rd g.wr) (fun kk join => ?_) ?_
    · by_cases hv : p.1 ≤ g.last
      · rw [decide_eq_true hv]
        repeat (first | refine T_region ?_ | refine T_cond_true rfl ?_ | refine TL_move (hk := ?_))
        refine TL_call TE (hc := Fail_c bR _ A3 n3 c3 31 _ I8.rdr) (hk := ?_)
        rintro _ w9 ⟨_, m9, rr9⟩
        repeat (refine TL_nil ?_)
        have hgk : gRise g = (gKey g).fail 31 := by unfold gRise; rw [hgt, if_pos hv]
        exact T.sub (join () _ (by rw [hgk]; exact I8.step m9 rr9)) (.c rfl (.c rfl (.c rfl (.c rfl (.c rfl (.c rfl (.c rfl (.n))))))))
      · rw [decide_eq_false hv]
        repeat (first | refine T_cond_false rfl ?_ | refine T_skip ?_)
        have hgk : gRise g = gKey g := by unfold gRise; rw [hgt, if_neg hv]
        exact T.sub (join () _ (by rw [hgk]; exact I8)) (.c rfl (.c rfl (.c rfl (.c rfl (.c rfl (.c rfl (.c rfl (.n))))))))
    rintro _ w9 I9
    clear I8
    repeat (first | refine T_seq ?_ | refine T_region ?_ | refine TL_nil ?_ | refine TL_move (hk := ?_) | refine TL_assign (hk := ?_))
    refine TL_call TE (hc := Byte_s bR _ A3 n3 c3 w9 I9.rdr) (hk := ?_)
    rintro _ w10 ⟨rfl, m10, rr10⟩
    have I10 := I9.step m10 rr10
    obtain ⟨q, hq⟩ : ∃ q, (gRise g).take (0 : Nat) tByte = q := ⟨_, rfl⟩
    have hgu : gUse g = q := hq
    rw [hgu] at hu256
    rw [hq] at I10
    rw [hq]
    obtain ⟨u, hu⟩ : ∃ u, q.1 = u := ⟨_, rfl⟩
    rw [hu] at hu256 ⊢
    clear I9 rr10
    repeat (first | refine TL_nil ?_ | refine TL_assign (hk := ?_))
    refine T_seq ?_
    refine T_join (ι := Unit) (fun _ => [(9, .int .u8 (u : Int)), (8, .string (ofL p.1)), (7, .string (ofL p.1)), (16, .int .i64 (i : Int)), (15, .int .i64 (n0 : Int)), (6, .pointer (some ⟨b6, 0, none⟩)), (5, ptr bR), (2, .pointer (some ⟨b2, 0, none⟩)), (0, .slice B nb cb)])
      (fun _ w' => GInv 218 w w5 w' bR b6 (gEnd g) A3 n3 c3 x y g.rd g.wr) (fun kk join => ?_) ?_
    · by_cases hv : u < 1
      · repeat (first | refine T_seq ?_ | refine T_region ?_ | refine T_cond_true rfl ?_ | refine TL_lt_t (hk := ?_) | refine TL_nil ?_ | refine TL_move (hk := ?_) | refine TL_no (hk := ?_) | refine TL_pick_t (hk := ?_))
        refine TL_call TE (hc := Fail_c bR _ A3 n3 c3 31 _ I10.rdr) (hk := ?_)
        rintro _ w11 ⟨_, m11, rr11⟩
        repeat (refine TL_nil ?_)
        have hgk : gEnd g = q.2.fail 31 := by unfold gEnd; rw [hgu, hu, if_pos (.inl hv)]
        exact T.sub (join () _ (by rw [hgk]; exact I10.step m11 rr11)) (.c rfl (.c rfl (.c rfl (.c rfl (.c rfl (.c rfl (.c rfl (.c rfl (.c rfl (.n))))))))))
      · by_cases hv3 : 3 < u
        · repeat (first | refine T_seq ?_ | refine T_region ?_ | refine T_cond_true rfl ?_ | refine TL_lt_f (hk := ?_) | refine TL_gt_t (hk := ?_) | refine TL_nil ?_ | refine TL_move (hk := ?_) | refine TL_yes (hk := ?_) | refine TL_pick_f (hk := ?_))
          refine TL_call TE (hc := Fail_c bR _ A3 n3 c3 31 _ I10.rdr) (hk := ?_)
          rintro _ w11 ⟨_, m11, rr11⟩
          repeat (refine TL_nil ?_)
          have hgk : gEnd g = q.2.fail 31 := by unfold gEnd; rw [hgu, hu, if_pos (.inr hv3)]
          exact T.sub (join () _ (by rw [hgk]; exact I10.step m11 rr11)) (.c rfl (.c rfl (.c rfl (.c rfl (.c rfl (.c rfl (.c rfl (.c rfl (.c rfl (.n))))))))))
        · repeat (first | refine T_seq ?_ | refine T_region ?_ | refine T_cond_false rfl ?_ | refine T_skip ?_ | refine TL_lt_f (hk := ?_) | refine TL_gt_f (hk := ?_) | refine TL_nil ?_ | refine TL_move (hk := ?_) | refine TL_yes (hk := ?_) | refine TL_pick_f (hk := ?_))
          have hgk : gEnd g = q.2 := by unfold gEnd; rw [hgu, hu, if_neg (by omega)]
          exact T.sub (join () _ (by rw [hgk]; exact I10)) (.c rfl (.c rfl (.c rfl (.c rfl (.c rfl (.c rfl (.c rfl (.c rfl (.c rfl (.n))))))))))
    rintro _ w11 I11
    clear I10
    repeat (first | refine T_seq ?_ | refine T_region ?_ | refine TL_move (hk := ?_))
    refine TL_and (hk := ?_); intro _
    refine TL_ne_d (hk := ?_)
    repeat (refine TL_nil ?_)
    refine T_join (ι := Option Addr × Nat × Nat) (fun _ => [(9, .int .u8 (u : Int)), (8, .string (ofL p.1)), (7, .string (ofL p.1)), (16, .int .i64 (i : Int)), (15, .int .i64 (n0 : Int)), (6, .pointer (some ⟨b6, 0, none⟩)), (5, ptr bR), (2, .pointer (some ⟨b2, 0, none⟩)), (0, .slice B nb cb)])
      (fun x' w' => GInv 218 w w5 w' bR b6 (gEnd g) A3 n3 c3 x' y (if u &&& 1 = 0 then g.rd else g.rd ++ [p.1]) g.wr ∧ x'.2.1 ≤ i + 1) (fun kk join => ?_) ?_
    · by_cases hv : u &&& 1 = 0
      · rw [if_pos hv] at join
        rw [show decide (((u &&& 1 : Nat) : Int) = 0) = true from decide_eq_true (by omega)]
        repeat (first | refine T_cond_false rfl ?_ | refine T_skip ?_)
        exact T.sub (join x _ ⟨I11, by omega⟩) (.c rfl (.c rfl (.c rfl (.c rfl (.c rfl (.c rfl (.c rfl (.c rfl (.c rfl (.n))))))))))
      · rw [if_neg hv] at join
        rw [show decide (((u &&& 1 : Nat) : Int) = 0) = false from decide_eq_false (by omega)]
        have k6 := I11.blk
        have o1 := I11.own1
        repeat (first | refine T_region ?_ | refine T_cond_true rfl ?_ | refine TL_move (hk := ?_) | refine TL_load TE (hk := ?_) | refine TL_fieldAddr TE (hk := ?_))
        refine TL_buildSlice TE (hk := ?_); intro b12 w12 e12 h12 h12' k12
        replace k12 : Blk w12 b12 9 [.string (ofL p.1)] := k12
        have z12 := e12.size
        have o12 := o1.be e12
        have z11 := I11.mod.size
        refine TL_append TE (hk := ?_); intro A13 c13 w13 o13 m13 n13
        have J12 := I11.ext2 e12
        have h65 := I11.h65
        have hRR := I11.hR5
        have hne := I11.hne
        have h6 := I11.h6
        have z13 := m13.size
        have k13 := J12.blk.mod m13 (hi_not o12.hi h65)
        have rr13 := J12.rdr.mod m13 (hi_not o12.hi hRR) (Off.lohi J12.hA o12.hi)
        have own2 := J12.own2.mod m13 J12.off1
        have e13 : Ext w w13 := J12.ext.own m13 (Hi.mono o12.hi (by have := e05.size; omega))
        have mm13 : Eng.Mod [bR, b6] w5 w13 := Mod.step J12.mod m13 (fun z hz => .inr (by
          cases hx : x.1 with
          | none => rw [hx] at hz; simp [blkL] at hz
          | some ad => rw [hx] at hz; simp [blkL] at hz; rw [hz]; exact o12.hi ad hx))
        have noff : Off y.1 (blkL A13) := by
          intro ad had hm
          cases A13 with
          | none => simp [blkL] at hm
          | some a2 =>
            simp [blkL] at hm
            rcases n13 a2 rfl with h | h
            · exact J12.off1 ad had (by rw [h]; simp [blkL, hm])
            · have := J12.own2.lo ad had; omega
        have noff2 : Off A13 (blkL y.1) := by
          intro ad had hm
          cases hy : y.1 with
          | none => rw [hy] at hm; simp [blkL] at hm
          | some a2 =>
            rw [hy] at hm
            simp [blkL] at hm
            rcases n13 ad had with h | h
            · exact J12.off2 ad h (by rw [hy]; simp [blkL, hm])
            · have := J12.own2.lo a2 hy; omega
        clear k6 o1 k12 I11
        repeat (refine TL_fieldAddr TE (hk := ?_))
        refine TL_store TE (hk := ?_); intro w14 m14 z14 k14
        repeat (refine TL_nil ?_)
        refine T.sub (join (A13, x.2.1 + 1, c13) _ ⟨⟨Mod.step e13 m14 (by simp; omega), Mod.step mm13 m14 (by simp), rr13.mod m14 (by simp; omega) J12.hA6, k14, ?_, own2.mod m14 (Off.hi own2.hi (by omega)), noff, noff2, J12.hR, J12.hR5, J12.h6, J12.h65, J12.hne, J12.hA, J12.hA6⟩, by show x.2.1 + 1 ≤ i + 1; omega⟩) (.c rfl (.c rfl (.c rfl (.c rfl (.c rfl (.c rfl (.c rfl (.c rfl (.c rfl (.n))))))))))
        rw [sv_append]
        exact o13.mod m14 (Off.hi o13.hi (by omega))
    rintro x' w12 ⟨I12, hnx⟩
    obtain ⟨rd', hrd⟩ : ∃ rd', (if u &&& 1 = 0 then g.rd else g.rd ++ [p.1]) = rd' := ⟨_, rfl⟩
    rw [hrd] at I12
    repeat (first | refine T_seq ?_ | refine T_region ?_ | refine TL_move (hk := ?_))
    refine TL_and (hk := ?_); intro _
    refine TL_ne_d (hk := ?_)
    repeat (refine TL_nil ?_)
    refine T_join (ι := Option Addr × Nat × Nat) (fun _ => [(9, .int .u8 (u : Int)), (8, .string (ofL p.1)), (7, .string (ofL p.1)), (16, .int .i64 (i : Int)), (15, .int .i64 (n0 : Int)), (6, .pointer (some ⟨b6, 0, none⟩)), (5, ptr bR), (2, .pointer (some ⟨b2, 0, none⟩)), (0, .slice B nb cb)])
      (fun y' w' => GInv 218 w w5 w' bR b6 (gEnd g) A3 n3 c3 x' y' rd' (if u &&& 2 = 0 then g.wr else g.wr ++ [p.1]) ∧ y'.2.1 ≤ i + 1) (fun kk join => ?_) ?_
    · by_cases hv : u &&& 2 = 0
      · rw [if_pos hv] at join
        rw [show decide (((u &&& 2 : Nat) : Int) = 0) = true from decide_eq_true (by omega)]
        repeat (first | refine T_cond_false rfl ?_ | refine T_skip ?_)
        exact T.sub (join y _ ⟨I12, by omega⟩) (.c rfl (.c rfl (.c rfl (.c rfl (.c rfl (.c rfl (.c rfl (.c rfl (.c rfl (.n))))))))))
      · rw [if_neg hv] at join
        rw [show decide (((u &&& 2 : Nat) : Int) = 0) = false from decide_eq_false (by omega)]
        have k6 := I12.blk
        have o1 := I12.own2
        repeat (first | refine T_region ?_ | refine T_cond_true rfl ?_ | refine TL_move (hk := ?_) | refine TL_load TE (hk := ?_) | refine TL_fieldAddr TE (hk := ?_))
        refine TL_buildSlice TE (hk := ?_); intro b12 w12 e12 h12 h12' k12
        replace k12 : Blk w12 b12 9 [.string (ofL p.1)] := k12
        have z12 := e12.size
        have o12 := o1.be e12
        have z11 := I12.mod.size
        refine TL_append TE (hk := ?_); intro A13 c13 w13 o13 m13 n13
        have J12 := I12.ext2 e12
        have h65 := I12.h65
        have hRR := I12.hR5
        have hne := I12.hne
        have h6 := I12.h6
        have z13 := m13.size
        have k13 := J12.blk.mod m13 (hi_not o12.hi h65)
        have rr13 := J12.rdr.mod m13 (hi_not o12.hi hRR) (Off.lohi J12.hA o12.hi)
        have own1 := J12.own1.mod m13 J12.off2
        have e13 : Ext w w13 := J12.ext.own m13 (Hi.mono o12.hi (by have := e05.size; omega))
        have mm13 : Eng.Mod [bR, b6] w5 w13 := Mod.step J12.mod m13 (fun z hz => .inr (by
          cases hx : y.1 with
          | none => rw [hx] at hz; simp [blkL] at hz
          | some ad => rw [hx] at hz; simp [blkL] at hz; rw [hz]; exact o12.hi ad hx))
        have noff : Off x'.1 (blkL A13) := by
          intro ad had hm
          cases A13 with
          | none => simp [blkL] at hm
          | some a2 =>
            simp [blkL] at hm
            rcases n13 a2 rfl with h | h
            · exact J12.off2 ad had (by rw [h]; simp [blkL, hm])
            · have := J12.own1.lo ad had; omega
        have noff2 : Off A13 (blkL x'.1) := by
          intro ad had hm
          cases hy : x'.1 with
          | none => rw [hy] at hm; simp [blkL] at hm
          | some a2 =>
            rw [hy] at hm
            simp [blkL] at hm
            rcases n13 ad had with h | h
            · exact J12.off1 ad h (by rw [hy]; simp [blkL, hm])
            · have := J12.own1.lo a2 hy; omega
        clear k6 o1 k12 I12
        repeat (refine TL_fieldAddr TE (hk := ?_))
        refine TL_store TE (hk := ?_); intro w14 m14 z14 k14
        repeat (refine TL_nil ?_)
        refine T.sub (join (A13, y.2.1 + 1, c13) _ ⟨⟨Mod.step e13 m14 (by simp; omega), Mod.step mm13 m14 (by simp), rr13.mod m14 (by simp; omega) J12.hA6, k14, own1.mod m14 (Off.hi own1.hi (by omega)), ?_, noff2, noff, J12.hR, J12.hR5, J12.h6, J12.h65, J12.hne, J12.hA, J12.hA6⟩, by show y.2.1 + 1 ≤ i + 1; omega⟩) (.c rfl (.c rfl (.c rfl (.c rfl (.c rfl (.c rfl (.c rfl (.c rfl (.c rfl (.n))))))))))
        rw [sv_append]
        exact o13.mod m14 (Off.hi o13.hi (by omega))
    rintro y' w13 ⟨I13, hny⟩
    obtain ⟨wr', hwr⟩ : ∃ wr', (if u &&& 2 = 0 then g.wr else g.wr ++ [p.1]) = wr' := ⟨_, rfl⟩
    rw [hwr] at I13
    have hstep : gStep g = ⟨gEnd g, p.1, rd', wr'⟩ := by unfold gStep; rw [hgt, hgu, hu, hrd, hwr]
    repeat (first | refine T_region ?_ | refine T_inBlock ?_ | refine TL_add (hk := ?_) | refine TL_nil ?_ | refine TL_move (hk := ?_))
    refine ih ((⟨gEnd g, p.1, rd', wr'⟩, i + 1), x', y') _ _ (by simp only; omega) ⟨by show i + 1 ≤ n0; omega, ?_, I13, hnx, hny⟩ (.c rfl (.c rfl (.c rfl (.c rfl (.c rfl (.c rfl (.c rfl (.n))))))))
    show _ = gStep (gIter i _)
    rw [← hg, hstep]
  · have hin : i = n0 := by omega
    have hall : gAll b = g := by unfold gAll; rw [hgi, hn0, ← hin]; exact hg.symm
    repeat (first | refine T_seq ?_ | refine T_region ?_ | refine T_cond_false rfl ?_ | refine T_exit rfl ?_ | refine TL_lt_f (hk := ?_) | refine TL_nil ?_ | refine TL_move (hk := ?_))
    refine TL_call TE (hc := Why_c bR _ A3 n3 c3 w6 I6.rdr) (hk := ?_)
    rintro _ w7 ⟨rfl, e7⟩
    have I7 := I6.ext2 e7
    have k27 : Blk w7 b2 43 [.slice none 0 0, .slice none 0 0] := (k25.mod I6.mod (by simp; omega)).ext e7
    have hrest : g.s.rest ≤ nb := by
      have h1 := I7.rdr.len
      unfold RS.rest
      split <;> omega
    clear I6
    by_cases he : g.s.err = 0
    · have hf : getF b = (((g.rd, g.wr), b.length - g.s.rest), 0) := by unfold getF; rw [hall, if_pos he]
      rw [hf]
      repeat (first | refine T_seq ?_ | refine T_region ?_ | refine T_cond_false rfl ?_ | refine T_skip ?_ | refine TL_ne_f (hk := ?_) | refine TL_nil ?_ | refine TL_move (hk := ?_) | refine TL_assign (hk := ?_) | refine TL_extract (hk := ?_))
      refine T_region_any TE.mixed [b2] ?_; intro w8 e8 z8
      have I8 := I7.ext2 e8
      have k28 := k27.ext e8
      have h62 : b6 ∉ [b2] := by simp; omega
      refine TA_take 0 rfl (by kernel_rfl) (by kernel_rfl) (by kernel_rfl) ?_
      refine TLP_loadb TE (cs := [.slice x.1 x.2.1 x.2.2, .slice y.1 y.2.1 y.2.2]) (o := 0) (hb := I8.blk) (hD := h62) (hk := ?_)
      refine TL_nil_p ?_
      (refine TA_take 1 rfl (by kernel_rfl) (by kernel_rfl) (by kernel_rfl) ?_; (repeat (first | refine TL_move (hk := ?_) | refine TL_len TE (hk := ?_))); refine TL_nil_p ?_); (refine TA_take 2 rfl (by kernel_rfl) (by kernel_rfl) (by kernel_rfl) ?_; (repeat (first | refine TL_move (hk := ?_) | refine TL_len TE (hk := ?_))); refine TL_nil_p ?_); (refine TA_take 3 rfl (by kernel_rfl) (by kernel_rfl) (by kernel_rfl) ?_; (repeat (first | refine TL_move (hk := ?_) | refine TL_len TE (hk := ?_))); refine TL_nil_p ?_)
      refine TA_one 4 rfl (by kernel_rfl) (by kernel_rfl) ?_
      refine TL_call TE (hc := Rest_c bR _ A3 n3 c3 w8 I8.rdr) (hq := fun v w' h => h.2.un) (hk := ?_)
      rintro _ w9 ⟨rfl, e9⟩
      have I9 := I8.ext2 e9
      have k29 := k28.ext e9
      refine TL_nil_p ?_
      (refine TA_take 5 rfl (by kernel_rfl) (by kernel_rfl) (by kernel_rfl) ?_; (repeat (refine TL_sub (hk := ?_))); refine TL_nil_p ?_)
      refine TA_one 6 rfl (by kernel_rfl) (by kernel_rfl) ?_
      refine TL_storea TE (hf := rfl) (hq := fun w' h _ => e9.un.trans h) (hk := ?_); intro w10 m10 z10 k10
      refine TL_nil_p ?_
      (refine TA_take 7 rfl (by kernel_rfl) (by kernel_rfl) (by kernel_rfl) ?_; (repeat (refine TL_assign (hk := ?_))); refine TL_nil_p ?_); (refine TA_take 8 rfl (by kernel_rfl) (by kernel_rfl) (by kernel_rfl) ?_; (repeat (refine TL_assign (hk := ?_))); refine TL_nil_p ?_)
      refine TA_done (by kernel_rfl) ?_
      --
      have hsub : (((nb : Nat) : Int) - ((g.s.rest : Nat) : Int)) = ((b.length - g.s.rest : Nat) : Int) := by omega
      have z6 := I9.mod.size
      refine T_retA3 TE (vs := [.slice x.1 x.2.1 x.2.2, .slice y.1 y.2.1 y.2.2]) (o := 0) rfl rfl rfl rfl rfl rfl k10 rfl (Nat.succ_pos _) ⟨.agg #[.slice x.1 x.2.1 x.2.2, .slice y.1 y.2.1 y.2.2], ?_, Mod.step I9.ext m10 (by simp; omega), x.1, x.2.1, x.2.2, y.1, y.2.1, y.2.2, rfl, ?_, ?_, I9.off1⟩
      · rw [hsub]
      · exact (I9.own1.mod m10 (Off.hi I9.own1.hi (by omega))).weaken (by have := e05.size; omega)
      · exact (I9.own2.mod m10 (Off.hi I9.own2.hi (by omega))).weaken (by have := e05.size; omega)
    · have hf : getF b = ((([], []), 0), g.s.err) := by unfold getF; rw [hall, if_neg he]
      rw [hf]
      repeat (first | refine T_seq ?_ | refine T_region ?_ | refine T_cond_true rfl ?_ | refine TL_ne_t (hk := ?_) | refine TL_nil ?_ | refine TL_move (hk := ?_) | refine TL_assign (hk := ?_) | refine TL_extract (hk := ?_) | refine TL_build TE (hk := ?_))
      refine TL_storea TE (hk := ?_); intro w8 m8 s8 k8
      repeat (first | refine TL_nil ?_ | refine TL_assign (hk := ?_))
      exact T_retA3 TE (vs := [.slice none 0 0, .slice none 0 0]) (o := 0) rfl rfl rfl rfl rfl rfl k8 rfl (Nat.succ_pos _) ⟨.agg #[.slice none 0 0, .slice none 0 0], rfl, Mod.step I7.ext m8 (by simp; omega), FootO.nil _ _ _⟩
end Go.Proofs.YtjlaomcankmdjaaGreat

namespace Go.Proofs.YtjlaomcankmdjaaGreat
open Go.RowKit Go.Proofs.Eng Go.Proofs.Codec Go.Proofs.Foot Go.Proofs.Journal
set_option linter.unusedVariables false set_option maxRecDepth 10000
attribute [local irreducible] T TL LV TH TA
set_option maxHeartbeats 1600000
theorem Of_c (z : Int) (w : World) : Ret Tryz.prog 198 [.int .i64 z] w (fun v w' => v = vA ⟨1, z, []⟩ ∧ Ext w w') := by
  refine ret_T (n := 5) Tryz.func198 rfl rfl ?_
  repeat (first | refine T_seq ?_ | refine T_region ?_)
  refine TL_alloc TE (hk := ?_); intro b2 w2 e2 h2 h2' k2
  repeat (first | refine T_seq ?_ | refine T_region ?_ | refine TL_nil ?_ | refine TL_move (hk := ?_) | refine TL_build TE (hk := ?_))
  refine TL_storea TE (hk := ?_); intro w4 m4 z4 k4
  have z2 := e2.size
  repeat (refine TL_nil ?_)
  refine T_retA1 TE (vs := [.int .i64 1, .int .i64 z, .string (ofL [])]) (o := 0) rfl rfl rfl rfl k4 rfl (Nat.succ_pos _) ⟨rfl, Mod.step e2 m4 (fun u hu => .inr (by rw [List.mem_singleton.1 hu]; omega))⟩
theorem Word_c (t : List UInt8) (w : World) : Ret Tryz.prog 200 [.string (ofL t)] w (fun v w' => v = vA ⟨2, 0, t⟩ ∧ Ext w w') := by
  refine ret_T (n := 5) Tryz.func200 rfl rfl ?_
  repeat (first | refine T_seq ?_ | refine T_region ?_)
  refine TL_alloc TE (hk := ?_); intro b2 w2 e2 h2 h2' k2
  repeat (first | refine T_seq ?_ | refine T_region ?_ | refine TL_nil ?_ | refine TL_move (hk := ?_) | refine TL_build TE (hk := ?_))
  refine TL_storea TE (hk := ?_); intro w4 m4 z4 k4
  have z2 := e2.size
  repeat (refine TL_nil ?_)
  refine T_retA1 TE (vs := [.int .i64 2, .int .i64 0, .string (ofL t)]) (o := 0) rfl rfl rfl rfl k4 rfl (Nat.succ_pos _) ⟨rfl, Mod.step e2 m4 (fun u hu => .inr (by rw [List.mem_singleton.1 hu]; omega))⟩
end Go.Proofs.YtjlaomcankmdjaaGreat

namespace Go.Proofs.YtjlaomcankmdjaaGreat
open Go.RowKit Go.Proofs.Eng Go.Proofs.Codec Go.Proofs.Foot Go.Proofs.Journal
set_option linter.unusedVariables false set_option maxRecDepth 10000
attribute [local irreducible] T TL LV TH TA
set_option maxHeartbeats 1600000
theorem VTake_c (b : Nat) (s : RS) (A : Option Addr) (n c : Nat) (w : World) (h : Rdr w 218 b s A n c) (hA : Lo A w.heap.size) :
    Ret Tryz.prog 171 [ptr b] w (fun v w' => v = vA (takeV s).1 ∧ Eng.Mod [b] w w' ∧ Rdr w' 218 b (takeV s).2 A n c) := by
  have hbl := h.blk.lt
  unfold takeV
  refine ret_T (n := 41) Tryz.func171 rfl rfl ?_
  repeat (first | refine T_seq ?_ | refine T_region ?_)
  refine TL_alloc TE (hk := ?_); intro b2 w2 e2 h2 h2' k2
  repeat (first | refine T_seq ?_ | refine T_region ?_ | refine TL_nil ?_)
  refine TL_alloc TE (hk := ?_); intro b3 w3 e3 h3 h3' k3
  have k23 := k2.be e3
  have z2 := e2.size
  have z3 := e3.size
  have h3' := h.ext (e2.ext e3)
  clear k2
  repeat (first | refine T_seq ?_ | refine T_region ?_ | refine TL_nil ?_ | refine TL_move (hk := ?_))
  refine TL_call TE (hc := Byte_c b s A n c w3 h3') (hk := ?_)
  rintro _ w4 ⟨rfl, m4, h4⟩
  obtain ⟨x, hx⟩ : ∃ x, (s.take (0 : Nat) tByte).1 = x := ⟨_, rfl⟩
  obtain ⟨s1, hs1⟩ : ∃ s1, (s.take (0 : Nat) tByte).2 = s1 := ⟨_, rfl⟩
  rw [hs1] at h4
  rw [hx, hs1]
  have d2 : b2 ∉ [b] := fun q => by rw [List.mem_singleton] at q; omega
  have d3 : b3 ∉ [b] := fun q => by rw [List.mem_singleton] at q; omega
  have k24 := k23.mod m4 d2
  have k34 : Blk w4 b3 161 [.int .i64 0, .int .i64 0, .string (ofL [])] := k3.mod m4 d3
  have z4 := m4.size
  have off2 : Off A [b2] := Off.lo hA (by omega)
  have off3 : Off A [b3] := Off.lo hA (by omega)
  have M04 : Eng.Mod [b] w w4 := ((e2.ext e3).mono (fun u hu => by cases hu)).trans m4
  clear k23 k3 h3'
  by_cases c1 : x = 1
  · obtain ⟨z, hz⟩ : ∃ z, (s1.take (0 : Int) tInt).1 = z := ⟨_, rfl⟩
    obtain ⟨s2, hs2⟩ : ∃ s2, (s1.take (0 : Int) tInt).2 = s2 := ⟨_, rfl⟩
    rw [show takeV0 s1 x = (⟨1, z, []⟩, s2) by unfold takeV0; rw [if_pos c1, hz, hs2]]
    repeat (first | refine T_seq ?_ | refine T_region ?_ | refine T_cond_true rfl ?_ | refine T_block ?_ | refine TL_eq_t (hk := ?_) | refine TL_nil ?_ | refine TL_move (hk := ?_) | refine TL_assign (hk := ?_))
    refine TL_call TE (hc := Int_c b s1 A n c w4 h4) (hk := ?_)
    rintro _ w5 ⟨rfl, m5, h5⟩
    rw [hz]
    rw [hs2] at h5
    have z5 := m5.size
    --
    refine TL_call TE (hc := Of_c z w5) (hk := ?_)
    rintro _ w6 ⟨rfl, e6⟩
    have z6 := e6.size
    have k26 := (k24.mod m5 d2).be e6
    have k36 := (k34.mod m5 d3).be e6
    have h6 := h5.ext e6
    --
    refine TL_storea TE (hk := ?_); intro w7 m7 z7 k7
    replace k7 : Blk w7 b3 161 [.int .i64 1, .int .i64 z, .string (ofL [])] := k7
    have k27 := k26.mod m7 (by simp; omega)
    have h7 := h6.mod m7 (fun q => by rw [List.mem_singleton] at q; omega) off3
    have M7 : Eng.Mod [b] w w7 := ((M04.trans m5).trans (e6.mono (fun u hu => by cases hu))).step m7 (fun u hu => .inr (by rw [List.mem_singleton.1 hu]; omega))
    repeat (first | refine T_seq ?_ | refine T_region ?_ | refine T_inBlock ?_ | refine TL_nil ?_ | refine TL_move (hk := ?_))
    refine TL_call TE (hc := Why_c b s2 A n c w7 h7) (hk := ?_)
    rintro _ w20 ⟨rfl, e20⟩
    have k220 := k27.be e20
    have k320 := k7.be e20
    have R20 := h7.ext e20
    have M20 : Eng.Mod [b] w w20 := M7.trans (e20.mono (fun u hu => by cases hu))
    have z20 := e20.size
    by_cases ce : (s2).err = 0
    · rw [show endV ((⟨1, z, []⟩ : VE), s2) = ((⟨1, z, []⟩ : VE), s2) from if_neg (fun q => q ce)]
      repeat (first | refine T_seq ?_ | refine T_region ?_ | refine T_cond_false rfl ?_ | refine T_skip ?_ | refine TL_ne_f (hk := ?_) | refine TL_nil ?_ | refine TL_move (hk := ?_) | refine TL_assign (hk := ?_) | refine TL_extract (hk := ?_))
      refine TL_loadb TE (cs := [.int .i64 1, .int .i64 z, .string (ofL [])]) (o := 0) rfl rfl k320 rfl rfl (Nat.succ_pos _) (hk := ?_)
      --
      refine TL_storea TE (hk := ?_); intro w21 m21 z21 k21
      repeat (refine TL_nil ?_)
      refine T_retA1 TE (vs := [.int .i64 1, .int .i64 z, .string (ofL [])]) (o := 0) rfl rfl rfl rfl k21 rfl (Nat.succ_pos _) ⟨rfl, M20.step m21 (fun u hu => .inr (by rw [List.mem_singleton.1 hu]; omega)), R20.mod m21 (fun q => by rw [List.mem_singleton] at q; omega) off2⟩
    · rw [show endV ((⟨1, z, []⟩ : VE), s2) = (vz, s2) from if_pos ce]
      repeat (first | refine T_seq ?_ | refine T_region ?_ | refine T_cond_true rfl ?_ | refine TL_ne_t (hk := ?_) | refine TL_nil ?_ | refine TL_move (hk := ?_) | refine TL_assign (hk := ?_) | refine TL_extract (hk := ?_) | refine TL_build TE (hk := ?_))
      refine TL_storea TE (hk := ?_); intro w21 m21 z21 k21
      repeat (refine TL_nil ?_)
      refine T_retA1 TE (vs := [.int .i64 0, .int .i64 0, .string (ofL [])]) (o := 0) rfl rfl rfl rfl k21 rfl (Nat.succ_pos _) ⟨rfl, M20.step m21 (fun u hu => .inr (by rw [List.mem_singleton.1 hu]; omega)), R20.mod m21 (fun q => by rw [List.mem_singleton] at q; omega) off2⟩
  by_cases c2 : x = 2
  · obtain ⟨t, ht⟩ : ∃ t, (s1.take ([] : List UInt8) (tText 64)).1 = t := ⟨_, rfl⟩
    obtain ⟨s2, hs2⟩ : ∃ s2, (s1.take ([] : List UInt8) (tText 64)).2 = s2 := ⟨_, rfl⟩
    have htl : t.length ≤ 7036874417 := by
      have h1 := text_len s1 64
      rw [ht, h4.len] at h1
      have := h4.big
      omega
    rw [show takeV0 s1 x = (⟨2, 0, t⟩, if prB t = false then s2.fail 20 else s2) by unfold takeV0; rw [if_neg c1, if_pos c2, ht, hs2]]
    repeat (first | refine T_seq ?_ | refine T_region ?_ | refine T_cond_true rfl ?_ | refine T_cond_false rfl ?_ | refine T_block ?_ | refine TL_eq_t (hk := ?_) | refine TL_eq_f (hk := ?_) | refine TL_nil ?_ | refine TL_move (hk := ?_) | refine TL_assign (hk := ?_))
    refine TL_call TE (hc := Text_c b s1 A n c 64 (by decide) w4 h4) (hk := ?_)
    rintro _ w5 ⟨rfl, m5, h5⟩
    rw [ht]
    rw [hs2] at h5
    have z5 := m5.size
    --
    refine TL_call TE (hc := Word_c t w5) (hk := ?_)
    rintro _ w6 ⟨rfl, e6⟩
    have z6 := e6.size
    have k26 := (k24.mod m5 d2).be e6
    have k36 := (k34.mod m5 d3).be e6
    have h6 := h5.ext e6
    --
    refine TL_storea TE (hk := ?_); intro w7 m7 z7 k7
    replace k7 : Blk w7 b3 161 [.int .i64 2, .int .i64 0, .string (ofL t)] := k7
    have k27 := k26.mod m7 (by simp; omega)
    have h7 := h6.mod m7 (fun q => by rw [List.mem_singleton] at q; omega) off3
    have M7 : Eng.Mod [b] w w7 := ((M04.trans m5).trans (e6.mono (fun u hu => by cases hu))).step m7 (fun u hu => .inr (by rw [List.mem_singleton.1 hu]; omega))
    repeat (first | refine T_seq ?_ | refine T_region ?_ | refine TL_nil ?_ | refine TL_load TE (hk := ?_) | refine TL_fieldAddr TE (hk := ?_))
    refine TL_call TE (hc := printable_c t (by omega) w7) (hk := ?_)
    rintro _ w8 ⟨rfl, rfl⟩
    cases hp : prB t with
    | true =>
      rw [if_neg (by simp)]
      repeat (first | refine T_seq ?_ | refine T_region ?_ | refine T_cond_false rfl ?_ | refine T_inBlock ?_ | refine T_skip ?_ | refine TL_nil ?_ | refine TL_move (hk := ?_) | refine TL_not (hk := ?_))
      refine TL_call TE (hc := Why_c b s2 A n c w8 h7) (hk := ?_)
      rintro _ w20 ⟨rfl, e20⟩
      have k220 := k27.be e20
      have k320 := k7.be e20
      have R20 := h7.ext e20
      have M20 : Eng.Mod [b] w w20 := M7.trans (e20.mono (fun u hu => by cases hu))
      have z20 := e20.size
      by_cases ce : (s2).err = 0
      · rw [show endV ((⟨2, 0, t⟩ : VE), s2) = ((⟨2, 0, t⟩ : VE), s2) from if_neg (fun q => q ce)]
        repeat (first | refine T_seq ?_ | refine T_region ?_ | refine T_cond_false rfl ?_ | refine T_skip ?_ | refine TL_ne_f (hk := ?_) | refine TL_nil ?_ | refine TL_move (hk := ?_) | refine TL_assign (hk := ?_) | refine TL_extract (hk := ?_))
        refine TL_loadb TE (cs := [.int .i64 2, .int .i64 0, .string (ofL t)]) (o := 0) rfl rfl k320 rfl rfl (Nat.succ_pos _) (hk := ?_)
        --
        refine TL_storea TE (hk := ?_); intro w21 m21 z21 k21
        repeat (refine TL_nil ?_)
        refine T_retA1 TE (vs := [.int .i64 2, .int .i64 0, .string (ofL t)]) (o := 0) rfl rfl rfl rfl k21 rfl (Nat.succ_pos _) ⟨rfl, M20.step m21 (fun u hu => .inr (by rw [List.mem_singleton.1 hu]; omega)), R20.mod m21 (fun q => by rw [List.mem_singleton] at q; omega) off2⟩
      · rw [show endV ((⟨2, 0, t⟩ : VE), s2) = (vz, s2) from if_pos ce]
        repeat (first | refine T_seq ?_ | refine T_region ?_ | refine T_cond_true rfl ?_ | refine TL_ne_t (hk := ?_) | refine TL_nil ?_ | refine TL_move (hk := ?_) | refine TL_assign (hk := ?_) | refine TL_extract (hk := ?_) | refine TL_build TE (hk := ?_))
        refine TL_storea TE (hk := ?_); intro w21 m21 z21 k21
        repeat (refine TL_nil ?_)
        refine T_retA1 TE (vs := [.int .i64 0, .int .i64 0, .string (ofL [])]) (o := 0) rfl rfl rfl rfl k21 rfl (Nat.succ_pos _) ⟨rfl, M20.step m21 (fun u hu => .inr (by rw [List.mem_singleton.1 hu]; omega)), R20.mod m21 (fun q => by rw [List.mem_singleton] at q; omega) off2⟩
    | false =>
      rw [if_pos rfl]
      repeat (first | refine T_region ?_ | refine T_cond_true rfl ?_ | refine TL_nil ?_ | refine TL_move (hk := ?_) | refine TL_not (hk := ?_))
      refine TL_call TE (hc := Fail_c b s2 A n c 20 w8 h7) (hk := ?_)
      rintro _ w9 ⟨rfl, m9, h9⟩
      have z9 := m9.size
      have k29 := k27.mod m9 d2
      have k39 := k7.mod m9 d3
      have M9 := M7.trans m9
      obtain ⟨s3, hs3⟩ : ∃ s3, s2.fail 20 = s3 := ⟨_, rfl⟩
      rw [hs3] at h9 ⊢
      repeat (first | refine T_seq ?_ | refine T_region ?_ | refine T_inBlock ?_ | refine TL_nil ?_ | refine TL_move (hk := ?_))
      refine TL_call TE (hc := Why_c b s3 A n c w9 h9) (hk := ?_)
      rintro _ w20 ⟨rfl, e20⟩
      have k220 := k29.be e20
      have k320 := k39.be e20
      have R20 := h9.ext e20
      have M20 : Eng.Mod [b] w w20 := M9.trans (e20.mono (fun u hu => by cases hu))
      have z20 := e20.size
      by_cases ce : (s3).err = 0
      · rw [show endV ((⟨2, 0, t⟩ : VE), s3) = ((⟨2, 0, t⟩ : VE), s3) from if_neg (fun q => q ce)]
        repeat (first | refine T_seq ?_ | refine T_region ?_ | refine T_cond_false rfl ?_ | refine T_skip ?_ | refine TL_ne_f (hk := ?_) | refine TL_nil ?_ | refine TL_move (hk := ?_) | refine TL_assign (hk := ?_) | refine TL_extract (hk := ?_))
        refine TL_loadb TE (cs := [.int .i64 2, .int .i64 0, .string (ofL t)]) (o := 0) rfl rfl k320 rfl rfl (Nat.succ_pos _) (hk := ?_)
        --
        refine TL_storea TE (hk := ?_); intro w21 m21 z21 k21
        repeat (refine TL_nil ?_)
        refine T_retA1 TE (vs := [.int .i64 2, .int .i64 0, .string (ofL t)]) (o := 0) rfl rfl rfl rfl k21 rfl (Nat.succ_pos _) ⟨rfl, M20.step m21 (fun u hu => .inr (by rw [List.mem_singleton.1 hu]; omega)), R20.mod m21 (fun q => by rw [List.mem_singleton] at q; omega) off2⟩
      · rw [show endV ((⟨2, 0, t⟩ : VE), s3) = (vz, s3) from if_pos ce]
        repeat (first | refine T_seq ?_ | refine T_region ?_ | refine T_cond_true rfl ?_ | refine TL_ne_t (hk := ?_) | refine TL_nil ?_ | refine TL_move (hk := ?_) | refine TL_assign (hk := ?_) | refine TL_extract (hk := ?_) | refine TL_build TE (hk := ?_))
        refine TL_storea TE (hk := ?_); intro w21 m21 z21 k21
        repeat (refine TL_nil ?_)
        refine T_retA1 TE (vs := [.int .i64 0, .int .i64 0, .string (ofL [])]) (o := 0) rfl rfl rfl rfl k21 rfl (Nat.succ_pos _) ⟨rfl, M20.step m21 (fun u hu => .inr (by rw [List.mem_singleton.1 hu]; omega)), R20.mod m21 (fun q => by rw [List.mem_singleton] at q; omega) off2⟩
  by_cases c3 : 2 < x
  · rw [show takeV0 s1 x = (vz, s1.fail 20) by unfold takeV0; rw [if_neg c1, if_neg c2, if_pos c3]]
    repeat (first | refine T_seq ?_ | refine T_region ?_ | refine T_cond_true rfl ?_ | refine T_cond_false rfl ?_ | refine T_block ?_ | refine TL_gt_t (hk := ?_) | refine TL_eq_f (hk := ?_) | refine TL_nil ?_ | refine TL_move (hk := ?_) | refine TL_assign (hk := ?_))
    refine TL_call TE (hc := Fail_c b s1 A n c 20 w4 h4) (hk := ?_)
    rintro _ w9 ⟨rfl, m9, h9⟩
    have z9 := m9.size
    have k29 := k24.mod m9 d2
    have k39 := k34.mod m9 d3
    have M9 := M04.trans m9
    obtain ⟨s3, hs3⟩ : ∃ s3, s1.fail 20 = s3 := ⟨_, rfl⟩
    rw [hs3] at h9 ⊢
    repeat (first | refine T_seq ?_ | refine T_region ?_ | refine T_inBlock ?_ | refine TL_nil ?_ | refine TL_move (hk := ?_))
    refine TL_call TE (hc := Why_c b s3 A n c w9 h9) (hk := ?_)
    rintro _ w20 ⟨rfl, e20⟩
    have k220 := k29.be e20
    have k320 := k39.be e20
    have R20 := h9.ext e20
    have M20 : Eng.Mod [b] w w20 := M9.trans (e20.mono (fun u hu => by cases hu))
    have z20 := e20.size
    by_cases ce : (s3).err = 0
    · rw [show endV (vz, s3) = (vz, s3) from if_neg (fun q => q ce)]
      repeat (first | refine T_seq ?_ | refine T_region ?_ | refine T_cond_false rfl ?_ | refine T_skip ?_ | refine TL_ne_f (hk := ?_) | refine TL_nil ?_ | refine TL_move (hk := ?_) | refine TL_assign (hk := ?_) | refine TL_extract (hk := ?_))
      refine TL_loadb TE (cs := [.int .i64 0, .int .i64 0, .string (ofL [])]) (o := 0) rfl rfl k320 rfl rfl (Nat.succ_pos _) (hk := ?_)
      --
      refine TL_storea TE (hk := ?_); intro w21 m21 z21 k21
      repeat (refine TL_nil ?_)
      refine T_retA1 TE (vs := [.int .i64 0, .int .i64 0, .string (ofL [])]) (o := 0) rfl rfl rfl rfl k21 rfl (Nat.succ_pos _) ⟨rfl, M20.step m21 (fun u hu => .inr (by rw [List.mem_singleton.1 hu]; omega)), R20.mod m21 (fun q => by rw [List.mem_singleton] at q; omega) off2⟩
    · rw [show endV (vz, s3) = (vz, s3) from if_pos ce]
      repeat (first | refine T_seq ?_ | refine T_region ?_ | refine T_cond_true rfl ?_ | refine TL_ne_t (hk := ?_) | refine TL_nil ?_ | refine TL_move (hk := ?_) | refine TL_assign (hk := ?_) | refine TL_extract (hk := ?_) | refine TL_build TE (hk := ?_))
      refine TL_storea TE (hk := ?_); intro w21 m21 z21 k21
      repeat (refine TL_nil ?_)
      refine T_retA1 TE (vs := [.int .i64 0, .int .i64 0, .string (ofL [])]) (o := 0) rfl rfl rfl rfl k21 rfl (Nat.succ_pos _) ⟨rfl, M20.step m21 (fun u hu => .inr (by rw [List.mem_singleton.1 hu]; omega)), R20.mod m21 (fun q => by rw [List.mem_singleton] at q; omega) off2⟩
  · rw [show takeV0 s1 x = (vz, s1) by unfold takeV0; rw [if_neg c1, if_neg c2, if_neg c3]]
    repeat (first | refine T_seq ?_ | refine T_region ?_ | refine T_cond_false rfl ?_ | refine T_block ?_ | refine T_inBlock ?_ | refine T_skip ?_ | refine TL_gt_f (hk := ?_) | refine TL_eq_f (hk := ?_) | refine TL_nil ?_ | refine TL_move (hk := ?_) | refine TL_assign (hk := ?_))
    refine TL_call TE (hc := Why_c b s1 A n c w4 h4) (hk := ?_)
    rintro _ w20 ⟨rfl, e20⟩
    have k220 := k24.be e20
    have k320 := k34.be e20
    have R20 := h4.ext e20
    have M20 : Eng.Mod [b] w w20 := M04.trans (e20.mono (fun u hu => by cases hu))
    have z20 := e20.size
    by_cases ce : (s1).err = 0
    · rw [show endV (vz, s1) = (vz, s1) from if_neg (fun q => q ce)]
      repeat (first | refine T_seq ?_ | refine T_region ?_ | refine T_cond_false rfl ?_ | refine T_skip ?_ | refine TL_ne_f (hk := ?_) | refine TL_nil ?_ | refine TL_move (hk := ?_) | refine TL_assign (hk := ?_) | refine TL_extract (hk := ?_))
      refine TL_loadb TE (cs := [.int .i64 0, .int .i64 0, .string (ofL [])]) (o := 0) rfl rfl k320 rfl rfl (Nat.succ_pos _) (hk := ?_)
      --
      refine TL_storea TE (hk := ?_); intro w21 m21 z21 k21
      repeat (refine TL_nil ?_)
      refine T_retA1 TE (vs := [.int .i64 0, .int .i64 0, .string (ofL [])]) (o := 0) rfl rfl rfl rfl k21 rfl (Nat.succ_pos _) ⟨rfl, M20.step m21 (fun u hu => .inr (by rw [List.mem_singleton.1 hu]; omega)), R20.mod m21 (fun q => by rw [List.mem_singleton] at q; omega) off2⟩
    · rw [show endV (vz, s1) = (vz, s1) from if_pos ce]
      repeat (first | refine T_seq ?_ | refine T_region ?_ | refine T_cond_true rfl ?_ | refine TL_ne_t (hk := ?_) | refine TL_nil ?_ | refine TL_move (hk := ?_) | refine TL_assign (hk := ?_) | refine TL_extract (hk := ?_) | refine TL_build TE (hk := ?_))
      refine TL_storea TE (hk := ?_); intro w21 m21 z21 k21
      repeat (refine TL_nil ?_)
      refine T_retA1 TE (vs := [.int .i64 0, .int .i64 0, .string (ofL [])]) (o := 0) rfl rfl rfl rfl k21 rfl (Nat.succ_pos _) ⟨rfl, M20.step m21 (fun u hu => .inr (by rw [List.mem_singleton.1 hu]; omega)), R20.mod m21 (fun q => by rw [List.mem_singleton] at q; omega) off2⟩
end Go.Proofs.YtjlaomcankmdjaaGreat

namespace Go.Proofs.YtjlaomcankmdjaaGreat
open Go.RowKit Go.Proofs.Eng Go.Proofs.Codec Go.Proofs.Foot Go.Proofs.Journal
set_option linter.unusedVariables false set_option maxRecDepth 10000
attribute [local irreducible] T TL LV TH TA
set_option maxHeartbeats 1600000
def RqOut (w : World) (base : Nat) (o : Option RE) (q : Value) (e : Int) : Prop :=
  ∃ (r : RE) (Y : SL), q = .agg #[.int .i64 r.cl, .int .u64 (r.tk : Int), .string (ofL r.nm), sL Y] ∧ Own w base 161 3 Y.1 Y.2.1 Y.2.2 (rowV veV r.ar) ∧ (match o with
    | some r' => e = 0 ∧ r' = r
    | none => ¬ e = 0)
theorem RqOut.no {w : World} {base : Nat} {e : Int} (h : ¬ e = 0) : RqOut w base none (.agg #[.int .i64 0, .int .u64 0, .string (ofL []), .slice none 0 0]) e := ⟨⟨0, 0, [], []⟩, (none, 0, 0), rfl, Own.nil _ _ _ _, h⟩
structure QInv (w w6 w' : World) (bR b6 : Nat) (s : RS) (A : Option Addr) (n c : Nat) (cl tk : Nat) (nm : List UInt8) (Y : SL) (l : List VE) : Prop where
  ext : Ext w w'
  mod : Eng.Mod [bR, b6] w6 w'
  rdr : Rdr w' 218 bR s A n c
  blk : Blk w' b6 40 [.int .i64 (cl : Int), .int .u64 (tk : Int), .string (ofL nm), sL Y]
  own : Own w' w6.heap.size 161 3 Y.1 Y.2.1 Y.2.2 (rowV veV l)
  hR : w.heap.size ≤ bR ∧ bR < w6.heap.size
  h6 : w.heap.size ≤ b6 ∧ b6 < w6.heap.size
  hne : bR ≠ b6
  hA : Lo A w6.heap.size
  hA6 : Off A [b6]
section
variable {w w6 w' w2 : World} {bR b6 : Nat} {s s' : RS} {A : Option Addr} {n c cl tk : Nat} {nm : List UInt8} {Y : SL} {l : List VE}
theorem QInv.step (I : QInv w w6 w' bR b6 s A n c cl tk nm Y l) (m : Eng.Mod [bR] w' w2) (r : Rdr w2 218 bR s' A n c) : QInv w w6 w2 bR b6 s' A n c cl tk nm Y l := by
  have h1 := I.hR
  have h3 := I.hne
  exact ⟨Mod.step I.ext m (by simp; omega), Mod.step I.mod m (by simp), r, I.blk.mod m (by simp; omega), I.own.mod m (Off.hi I.own.hi (by omega)), h1, I.h6, h3, I.hA, I.hA6⟩
theorem QInv.ext2 (I : QInv w w6 w' bR b6 s A n c cl tk nm Y l) (m : Ext w' w2) : QInv w w6 w2 bR b6 s A n c cl tk nm Y l :=
  ⟨I.ext.ext m, I.mod.ext m, I.rdr.ext m, I.blk.ext m, I.own.ext m, I.hR, I.h6, I.hne, I.hA, I.hA6⟩
theorem QInv.step2 (I : QInv w w6 w' bR b6 s A n c cl tk nm Y l) {x : Nat} (m : Eng.Mod [x] w' w2) (hx : w6.heap.size ≤ x) (hY : x ∉ blkL Y.1) : QInv w w6 w2 bR b6 s A n c cl tk nm Y l := by
  have h1 := I.hR
  have h6 := I.h6
  have hs : w.heap.size ≤ w6.heap.size := by omega
  exact ⟨Mod.step I.ext m (by simp; omega), Mod.step I.mod m (by simp; omega), I.rdr.mod m (by simp; omega) (Off.lo I.hA hx), I.blk.mod m (by simp; omega), I.own.modL m (fun u hu q => by rw [List.mem_singleton] at q; rw [q] at hu; exact hY hu), h1, I.h6, I.hne, I.hA, I.hA6⟩
theorem QInv.push (I : QInv w w6 w' bR b6 s A n c cl tk nm Y l) {w3 : World} {A5 : Option Addr} {n5 c5 : Nat} {v : VE} (m : Eng.Mod (blkL Y.1) w' w2) (ho : Own w2 w6.heap.size 161 3 A5 n5 c5 (rowV veV (l ++ [v]))) (m3 : Eng.Mod [b6] w2 w3)
    (k : Blk w3 b6 40 [.int .i64 (cl : Int), .int .u64 (tk : Int), .string (ofL nm), .slice A5 n5 c5]) : QInv w w6 w3 bR b6 s A n c cl tk nm (A5, n5, c5) (l ++ [v]) := by
  have h1 := I.hR
  have h6 := I.h6
  have hne := I.hne
  have hb : ∀ u ∈ blkL Y.1, w6.heap.size ≤ u := fun u hu => (I.own.bl u hu).1
  exact ⟨(I.ext.step m (fun u hu => .inr (by have := hb u hu; omega))).step m3 (by simp; omega), (I.mod.step m (fun u hu => .inr (hb u hu))).step m3 (by simp),
    (I.rdr.mod m (fun q => by have := hb _ q; omega) (Off.lohi I.hA I.own.hi)).mod m3 (by simp; omega) I.hA6, k, ho.modL m3 (fun u hu q => by have := (ho.bl u hu).1; rw [List.mem_singleton] at q; omega), h1, h6, hne, I.hA, I.hA6⟩
end
theorem vw9_lim {s : RS} {most e : Int} : ((s.take (0 : Nat) (tLim most e)).1 : Int) ≤ most ∨ (s.take (0 : Nat) (tLim most e)).1 = 0 := by
  unfold RS.take
  split
  · cases h : tLim most e (s.b.drop s.pos) with
    | error x => right; rfl
    | ok r => left; exact tLim_le (by rw [h])
  · right; rfl
theorem RqGet_c (A : Option Addr) (n c : Nat) (b : List UInt8) (w : World) (h : Rd w A n 1 (bv b)) (hn : n ≤ 7036874417) (hcap : n ≤ c) :
    Ret Tryz.prog 124 [.slice A n c] w (fun v w' => ∃ q e x, v = .tuple #[q, .int .i64 e, .int .i64 x] ∧ Ext w w' ∧ RqOut w' w.heap.size (getR b) q e) := by
  have hbl : b.length = n := by simpa using h.1
  unfold getR
  refine ret_T (n := 78) Tryz.func124 rfl rfl ?_
  repeat (first | refine T_seq ?_ | refine T_region ?_)
  refine TL_alloc TE (hk := ?_); intro b2 w2 e2 h2 h2' k2
  have z2 := e2.size
  by_cases c1 : 1024 < b.length
  · rw [if_pos c1]
    have c1' : (1024 : Int) < (n : Int) := by omega
    repeat (first | refine T_seq ?_ | refine T_region ?_ | refine T_cond_true rfl ?_ | refine TL_gt_t (hk := ?_) | refine TL_nil ?_ | refine TL_move (hk := ?_) | refine TL_assign (hk := ?_) | refine TL_len TE (hk := ?_) | refine TL_build TE (hk := ?_))
    refine TL_storea TE (hk := ?_); intro w4 m4 z4 k4
    repeat (first | refine TL_nil ?_ | refine TL_assign (hk := ?_))
    exact T_retA3 TE (vs := [.int .i64 0, .int .u64 0, .string (ofL []), .slice none 0 0]) (o := 0) rfl rfl rfl rfl rfl rfl k4 rfl (Nat.succ_pos _) ⟨_, 1, 0, rfl, e2.step m4 (fun u hu => .inr (by rw [List.mem_singleton.1 hu]; omega)), RqOut.no (by decide)⟩
  rw [if_neg c1]
  have c1' : ¬ (1024 : Int) < (n : Int) := by omega
  repeat (first | refine T_seq ?_ | refine T_region ?_ | refine T_cond_false rfl ?_ | refine T_skip ?_ | refine TL_gt_f (hk := ?_) | refine TL_nil ?_ | refine TL_move (hk := ?_) | refine TL_assign (hk := ?_) | refine TL_len TE (hk := ?_))
  refine TL_call TE (hc := NewReader_c A n c b _ (h.be e2) (by omega)) (hk := ?_)
  rintro _ w3 ⟨bR, A3, n3, c3, rfl, e3, hbR, hi3, lo3, rr⟩
  have z3 := e3.size
  have lR := rr.blk.lt
  have hn3 : b.length = n3 := rr.len
  have k23 := k2.be e3
  have e03 := e2.ext e3
  clear k2
  repeat (first | refine T_seq ?_ | refine T_region ?_ | refine TL_nil ?_ | refine TL_move (hk := ?_) | refine TL_assign (hk := ?_))
  refine TL_call TE (hc := Count_c bR _ A3 n3 c3 63 (by decide) w3 rr) (hk := ?_)
  rintro _ w4 ⟨rfl, m4, rr4⟩
  obtain ⟨p1, hp1⟩ : ∃ p1, rq1 b = p1 := ⟨_, rfl⟩
  have q1 : (RS.mk b 0 0 0 0).take (0 : Nat) (tLim 63 6) = p1 := hp1
  rw [q1] at rr4 ⊢
  have z4 := m4.size
  repeat (refine TL_move (hk := ?_))
  refine TL_call TE (hc := Uint_c bR _ A3 n3 c3 w4 rr4) (hk := ?_)
  rintro _ w5 ⟨rfl, m5, rr5⟩
  obtain ⟨p2, hp2⟩ : ∃ p2, rq2 b = p2 := ⟨_, rfl⟩
  have q2 : p1.2.take (0 : Nat) num0 = p2 := by rw [← hp1]; exact hp2
  rw [q2] at rr5 ⊢
  have z5 := m5.size
  repeat (refine TL_move (hk := ?_))
  refine TL_call TE (hc := Text_c bR _ A3 n3 c3 16 (by decide) w5 rr5) (hk := ?_)
  rintro _ w6 ⟨rfl, m6, rr6⟩
  obtain ⟨p3, hp3⟩ : ∃ p3, rq3 b = p3 := ⟨_, rfl⟩
  have q3 : p2.2.take ([] : List UInt8) (tText 16) = p3 := by rw [← hp2]; exact hp3
  rw [q3] at rr6 ⊢
  have z6 := m6.size
  have m36 := (m4.trans m5).trans m6
  clear rr4 rr5
  repeat (refine TL_build TE (hk := ?_))
  refine TL_alloc TE (hk := ?_); intro b6 w7 e7 h7 h7' k7
  have z7 := e7.size
  have l7 := k7.lt
  have rr7 := rr6.ext e7
  have lA7 : Lo A3 w7.heap.size := lo3.mono (by omega)
  have oA7 : Off A3 [b6] := Off.lo lo3 (by omega)
  --
  refine TL_storea TE (hk := ?_); intro w8 m8 z8 k8
  have e08 : Ext w w8 := ((e03.step m36 (fun u hu => .inr (by rw [List.mem_singleton.1 hu]; omega))).ext e7).step m8 (fun u hu => .inr (by rw [List.mem_singleton.1 hu]; omega))
  have k28 : Blk w8 b2 40 [.int .i64 0, .int .u64 0, .string (ofL []), .slice none 0 0] := ((k23.mod m36 (fun q => by rw [List.mem_singleton] at q; omega)).be e7).mod m8 (fun q => by rw [List.mem_singleton] at q; omega)
  have I8 : QInv w w8 w8 bR b6 p3.2 A3 n3 c3 p1.1 p2.1 p3.1 (none, 0, 0) [] := ⟨e08, Mod.refl _ _, rr7.mod m8 (fun q => by rw [List.mem_singleton] at q; omega) oA7, k8, Own.nil _ _ _ _, ⟨by omega, by omega⟩, ⟨by omega, by omega⟩, by omega, lA7.mono (by omega), oA7⟩
  have htl := text_len p2.2 16
  rw [q3] at htl
  have hb5 : p2.2.b.length = b.length := by rw [← hp2]; unfold rq2 rq1; rw [take_b, take_b]
  clear rr7 rr6 k7 k8 k23 rr
  have kb := I8.blk
  repeat (first | refine T_seq ?_ | refine T_region ?_ | refine TL_nil ?_ | refine TL_load TE (hk := ?_) | refine TL_fieldAddr TE (hk := ?_))
  refine TL_call TE (hc := isName_c p3.1 (by omega) _) (hk := ?_)
  rintro _ w0 ⟨rfl, hw⟩
  rw [hw]
  clear hw w0
  obtain ⟨p4, hp4⟩ : ∃ p4, rq4 b = p4 := ⟨_, rfl⟩
  have q4 : (if nameB p3.1 = false then p3.2.fail 90 else p3.2) = p4 := by rw [← hp3]; exact hp4
  have hb2 : b2 < w8.heap.size := k28.lt
  clear kb
  have hb2o : b2 ∉ [bR, b6] := by simp; omega
  repeat (first | refine TL_nil ?_ | refine TL_not (hk := ?_))
  refine T_join (ι := Unit) (fun _ => [(6, .pointer (some ⟨b6, 0, none⟩)), (5, ptr bR), (2, .pointer (some ⟨b2, 0, none⟩)), (0, .slice A n c)]) (fun _ w' => QInv w w8 w' bR b6 p4 A3 n3 c3 p1.1 p2.1 p3.1 (none, 0, 0) []) (fun kk join => ?_) ?_
  · cases hnb : nameB p3.1 with
    | true =>
      rw [if_neg (by rw [hnb]; decide)] at q4
      repeat (first | refine T_cond_false rfl ?_ | refine T_skip ?_)
      exact T.sub (join () _ (by rw [← q4]; exact I8)) (.c rfl (.c rfl (.c rfl (.c rfl (.n)))))
    | false =>
      rw [if_pos hnb] at q4
      repeat (first | refine T_region ?_ | refine T_cond_true rfl ?_ | refine TL_move (hk := ?_))
      refine TL_call TE (hc := Fail_c bR _ A3 n3 c3 90 _ I8.rdr) (hk := ?_)
      rintro _ w9 ⟨_, m9, rr9⟩
      repeat (refine TL_nil ?_)
      exact T.sub (join () _ (by rw [← q4]; exact I8.step m9 rr9)) (.c rfl (.c rfl (.c rfl (.c rfl (.n)))))
  rintro _ w9 I9
  repeat (first | refine T_seq ?_ | refine T_region ?_ | refine TL_move (hk := ?_))
  refine TL_call TE (hc := Count_c bR _ A3 n3 c3 8 (by decide) w9 I9.rdr) (hk := ?_)
  rintro _ w10 ⟨rfl, m10, rr10⟩
  obtain ⟨p5, hp5⟩ : ∃ p5, rq5 b = p5 := ⟨_, rfl⟩
  have q5 : p4.take (0 : Nat) (tLim 8 6) = p5 := by rw [← hp4]; exact hp5
  have hlim := vw9_lim (s := p4) (most := 8) (e := 6)
  rw [q5] at rr10 hlim ⊢
  obtain ⟨n0, hn0⟩ : ∃ n0, p5.1 = n0 := ⟨_, rfl⟩
  rw [hp5, hn0]
  rw [hn0] at hlim
  have I10 := I9.step m10 rr10
  clear I8 I9 rr10
  have hn8 : n0 ≤ 8 := by omega
  repeat (first | refine T_block ?_ | refine TL_nil ?_ | refine TL_move (hk := ?_))
  refine T_loop (ι := (Nat × RS) × SL × List VE) (fun i => [(35, .int .i64 (i.1.1 : Int)), (34, .int .i64 (n0 : Int)), (6, .pointer (some ⟨b6, 0, none⟩)), (5, ptr bR), (2, .pointer (some ⟨b2, 0, none⟩)), (0, .slice A n c)])
    (fun i w' => i.1.1 ≤ n0 ∧ QInv w w8 w' bR b6 i.1.2 A3 n3 c3 p1.1 p2.1 p3.1 i.2.1 i.2.2 ∧ argsR (n0 - i.1.1) i.1.2 i.2.2 = argsR n0 p5.2 [] ∧ i.2.1.2.1 = i.1.1) (fun i => n0 - i.1.1) ((0, p5.2), (none, 0, 0), []) (.c rfl (.c rfl (.c rfl (.c rfl (.c rfl (.c rfl (.n)))))))
    ⟨Nat.zero_le _, I10, rfl, rfl⟩ ?_
  rintro ⟨⟨i, s⟩, Y, l⟩ w11 ⟨hi, I, hargs, hYi⟩ ih
  simp only at hi I hargs hYi ih ⊢
  by_cases hlt : i < n0
  · have hr1 : s.rest ≤ n := by
      have h1 := I.rdr.len
      unfold RS.rest
      split <;> omega
    rw [show n0 - i = (n0 - (i + 1)) + 1 by omega, argsR] at hargs
    repeat (first | refine T_seq ?_ | refine T_region ?_ | refine T_cond_true rfl ?_ | refine T_block ?_ | refine T_skip ?_ | refine TL_lt_t (hk := ?_) | refine TL_nil ?_ | refine TL_move (hk := ?_) | refine TL_len TE (hk := ?_))
    refine TL_call TE (hc := Rest_c bR _ A3 n3 c3 w11 I.rdr) (hk := ?_)
    rintro _ w12 ⟨rfl, e12⟩
    have I12 := I.ext2 e12
    clear I
    repeat (first | refine T_seq ?_ | refine T_region ?_ | refine TL_sub (hk := ?_) | refine TL_nil ?_ | refine TL_move (hk := ?_) | refine TL_assign (hk := ?_))
    refine TL_call TE (hc := VTake_c bR s A3 n3 c3 w12 I12.rdr (I12.hA.mono (by have := I12.mod.size; omega))) (hk := ?_)
    rintro _ w13 ⟨rfl, m13, rr13⟩
    obtain ⟨t, ht⟩ : ∃ t, takeV s = t := ⟨_, rfl⟩
    rw [ht] at rr13 hargs ⊢
    have I13 := I12.step m13 rr13
    clear I12 rr13
    --
    refine TL_alloc TE (hk := ?_); intro b14 w14 e14 h14 h14' k14
    have I14 := I13.ext2 e14
    have hwb := I13.mod.size
    have hYb : b14 ∉ blkL Y.1 := fun q => by have := (I13.own.bl b14 q).2; omega
    clear I13
    have z14 := e14.size
    --
    refine TL_storea TE (hk := ?_); intro w15 m15 z15 k15
    have I15 := I14.step2 m15 (by omega) hYb
    replace k15 : Blk w15 b14 161 (veV t.1) := k15
    unfold veV at k15
    clear I14 k14
    repeat (first | refine T_seq ?_ | refine T_region ?_ | refine TL_nil ?_ | refine TL_move (hk := ?_))
    refine TL_call TE (hc := Why_c bR t.2 A3 n3 c3 w15 I15.rdr) (hk := ?_)
    rintro _ w16 ⟨rfl, e16⟩
    have I16 := I15.ext2 e16
    have k16 := k15.be e16
    have hwb6 := I15.mod.size
    clear I15 k15
    repeat (first | refine T_seq ?_ | refine T_region ?_ | refine TL_nil ?_ | refine TL_move (hk := ?_) | refine TL_assign (hk := ?_) | refine TL_extract (hk := ?_))
    by_cases he : t.2.err = 0
    · by_cases hk0 : t.1.kd = 0
      · rw [if_pos ⟨he, hk0⟩] at hargs
        rw [← hargs]
        repeat (first | refine T_seq ?_ | refine T_region ?_ | refine T_cond_true rfl ?_ | refine TL_eq_t (hk := ?_) | refine TL_nil ?_ | refine TL_move (hk := ?_) | refine TL_load TE (hk := ?_) | refine TL_fieldAddr TE (hk := ?_) | refine TL_yes (hk := ?_) | refine TL_pick_t (hk := ?_) | refine TL_build TE (hk := ?_))
        have k26 : Blk w16 b2 40 [.int .i64 0, .int .u64 0, .string (ofL []), .slice none 0 0] := k28.mod I16.mod hb2o
        refine TL_storea TE (hk := ?_); intro w17 m17 z17 k17
        repeat (first | refine TL_nil ?_ | refine TL_assign (hk := ?_))
        exact T_retA3 TE (vs := [.int .i64 0, .int .u64 0, .string (ofL []), .slice none 0 0]) (o := 0) rfl rfl rfl rfl rfl rfl k17 rfl (Nat.succ_pos _) ⟨_, 91, _, rfl, I16.ext.step m17 (fun u hu => .inr (by rw [List.mem_singleton.1 hu]; omega)), RqOut.no (by decide)⟩
      · have hcond : ¬ (t.2.err = 0 ∧ t.1.kd = 0) := fun q => hk0 q.2
        rw [if_neg hcond] at hargs
        have kb := I16.blk
        have o16 := I16.own
        repeat (first | refine T_region ?_ | refine T_cond_false rfl ?_ | refine T_skip ?_ | refine TL_eq_t (hk := ?_) | refine TL_eq_f (hk := ?_) | refine TL_nil ?_ | refine TL_move (hk := ?_) | refine TL_load TE (hk := ?_) | refine TL_fieldAddr TE (hk := ?_) | refine TL_yes (hk := ?_) | refine TL_pick_t (hk := ?_))
        refine TL_loadb TE (cs := [.int .i64 t.1.kd, .int .i64 t.1.n, .string (ofL t.1.t)]) (o := 0) rfl rfl k16 rfl rfl (Nat.succ_pos _) (hk := ?_)
        --
        refine TL_buildSliceA TE (hk := ?_); intro b17 w17 e17 h17 h17' k17
        replace k17 : Blk w17 b17 161 (rowV veV [t.1]) := k17
        have r17 : Rd w17 (some ⟨b17, 0, none⟩) 1 3 (rowV veV [t.1]) := Rd.blk k17 rfl
        have I17 := I16.ext2 e17
        have o17 := I17.own
        have kb17 := I17.blk
        have zb17 := I17.mod.size
        clear kb o16 I16
        --
        refine TL_append TE (ho := o17) (hr := r17) (h1 := rowV_one veV_one _) (hk := ?_); intro A18 c18 w18 o18 m18 n18
        rw [← rowV_append] at o18
        have hbo : b6 ∉ blkL Y.1 := fun q => by have := (o17.bl b6 q).1; have := I17.h6; omega
        have kb18 := kb17.mod m18 hbo
        clear kb17
        repeat (refine TL_fieldAddr TE (hk := ?_))
        refine TL_store TE (hk := ?_); intro w19 m19 z19 k19
        have I19 := I17.push m18 o18 m19 k19
        clear I17 o17 o18
        repeat (first | refine T_region ?_ | refine T_inBlock ?_ | refine TL_add (hk := ?_) | refine TL_nil ?_ | refine TL_move (hk := ?_))
        refine ih ((i + 1, t.2), (A18, Y.2.1 + 1, c18), l ++ [t.1]) _ _ (by simp only; omega) ⟨by show i + 1 ≤ n0; omega, I19, hargs, by show Y.2.1 + 1 = i + 1; omega⟩ (.c rfl (.c rfl (.c rfl (.c rfl (.c rfl (.c rfl (.n)))))))
    · have hcond : ¬ (t.2.err = 0 ∧ t.1.kd = 0) := fun q => he q.1
      rw [if_neg hcond] at hargs
      have kb := I16.blk
      have o16 := I16.own
      repeat (first | refine T_region ?_ | refine T_cond_false rfl ?_ | refine T_skip ?_ | refine TL_eq_f (hk := ?_) | refine TL_nil ?_ | refine TL_move (hk := ?_) | refine TL_load TE (hk := ?_) | refine TL_fieldAddr TE (hk := ?_) | refine TL_no (hk := ?_) | refine TL_pick_f (hk := ?_))
      refine TL_loadb TE (cs := [.int .i64 t.1.kd, .int .i64 t.1.n, .string (ofL t.1.t)]) (o := 0) rfl rfl k16 rfl rfl (Nat.succ_pos _) (hk := ?_)
      --
      refine TL_buildSliceA TE (hk := ?_); intro b17 w17 e17 h17 h17' k17
      replace k17 : Blk w17 b17 161 (rowV veV [t.1]) := k17
      have r17 : Rd w17 (some ⟨b17, 0, none⟩) 1 3 (rowV veV [t.1]) := Rd.blk k17 rfl
      have I17 := I16.ext2 e17
      have o17 := I17.own
      have kb17 := I17.blk
      have zb17 := I17.mod.size
      clear kb o16 I16
      --
      refine TL_append TE (ho := o17) (hr := r17) (h1 := rowV_one veV_one _) (hk := ?_); intro A18 c18 w18 o18 m18 n18
      rw [← rowV_append] at o18
      have hbo : b6 ∉ blkL Y.1 := fun q => by have := (o17.bl b6 q).1; have := I17.h6; omega
      have kb18 := kb17.mod m18 hbo
      clear kb17
      repeat (refine TL_fieldAddr TE (hk := ?_))
      refine TL_store TE (hk := ?_); intro w19 m19 z19 k19
      have I19 := I17.push m18 o18 m19 k19
      clear I17 o17 o18
      repeat (first | refine T_region ?_ | refine T_inBlock ?_ | refine TL_add (hk := ?_) | refine TL_nil ?_ | refine TL_move (hk := ?_))
      refine ih ((i + 1, t.2), (A18, Y.2.1 + 1, c18), l ++ [t.1]) _ _ (by simp only; omega) ⟨by show i + 1 ≤ n0; omega, I19, hargs, by show Y.2.1 + 1 = i + 1; omega⟩ (.c rfl (.c rfl (.c rfl (.c rfl (.c rfl (.c rfl (.n)))))))
  · obtain rfl : i = n0 := by omega
    clear ih
    rw [show i - i = 0 by omega] at hargs
    replace hargs : some (l, s) = argsR i p5.2 [] := hargs
    rw [← hargs]
    unfold endR
    simp only
    repeat (first | refine T_seq ?_ | refine T_region ?_ | refine T_cond_false rfl ?_ | refine T_exit rfl ?_ | refine TL_lt_f (hk := ?_) | refine TL_nil ?_ | refine TL_move (hk := ?_))
    refine TL_call TE (hc := End_c bR _ A3 n3 c3 w11 I.rdr) (hk := ?_)
    rintro _ w12 ⟨rfl, m12, rr12⟩
    have I12 := I.step m12 rr12
    clear I
    have k212 : Blk w12 b2 40 [.int .i64 0, .int .u64 0, .string (ofL []), .slice none 0 0] := k28.mod I12.mod hb2o
    by_cases he : s.fin.err = 0
    · rw [if_pos he]
      have kb := I12.blk
      repeat (first | refine T_seq ?_ | refine T_region ?_ | refine T_cond_false rfl ?_ | refine T_skip ?_ | refine TL_ne_f (hk := ?_) | refine TL_nil ?_ | refine TL_move (hk := ?_) | refine TL_assign (hk := ?_))
      refine TL_loadb TE (cs := [.int .i64 (p1.1 : Int), .int .u64 (p2.1 : Int), .string (ofL p3.1), sL Y]) (o := 0) rfl rfl kb rfl rfl (Nat.succ_pos _) (hk := ?_)
      --
      refine TL_storea TE (hk := ?_); intro w13 m13 z13 k13
      repeat (first | refine TL_nil ?_ | refine TL_assign (hk := ?_))
      refine T_retA3 TE (vs := [.int .i64 (p1.1 : Int), .int .u64 (p2.1 : Int), .string (ofL p3.1), sL Y]) (o := 0) rfl rfl rfl rfl rfl rfl k13 rfl (Nat.succ_pos _) ⟨_, 0, 0, rfl, I12.ext.step m13 (fun u hu => .inr (by rw [List.mem_singleton.1 hu]; omega)), ?_⟩
      rw [hp1, hp2, hp3]
      exact ⟨⟨(p1.1 : Int), p2.1, p3.1, l⟩, Y, rfl, Own.weaken (I12.own.modL m13 (fun u hu q => by have := (I12.own.bl u hu).1; rw [List.mem_singleton] at q; omega)) (by have := I12.hR; omega), rfl, rfl⟩
    · rw [if_neg he]
      repeat (first | refine T_seq ?_ | refine T_region ?_ | refine T_cond_true rfl ?_ | refine TL_ne_t (hk := ?_) | refine TL_nil ?_ | refine TL_move (hk := ?_) | refine TL_assign (hk := ?_))
      refine TL_call TE (hc := Why_c bR _ A3 n3 c3 w12 I12.rdr) (hk := ?_)
      rintro _ w13 ⟨rfl, e13⟩
      have k213 := k212.be e13
      clear k212
      repeat (first | refine T_seq ?_ | refine T_region ?_ | refine TL_nil ?_ | refine TL_move (hk := ?_) | refine TL_assign (hk := ?_) | refine TL_extract (hk := ?_) | refine TL_build TE (hk := ?_))
      refine TL_storea TE (hk := ?_); intro w14 m14 z14 k14
      repeat (first | refine TL_nil ?_ | refine TL_assign (hk := ?_))
      exact T_retA3 TE (vs := [.int .i64 0, .int .u64 0, .string (ofL []), .slice none 0 0]) (o := 0) rfl rfl rfl rfl rfl rfl k14 rfl (Nat.succ_pos _) ⟨_, _, _, rfl, (I12.ext.ext e13).step m14 (fun u hu => .inr (by rw [List.mem_singleton.1 hu]; omega)), RqOut.no he⟩
end Go.Proofs.YtjlaomcankmdjaaGreat

namespace Go.Proofs.Eng
open Go.RowKit
def isCel : Obj → Bool
  | .cells .. => true
  | _ => false
theorem Mod.putObj (w : World) (l : Nat) (o : Obj) : Mod [l] w (w.putObj l o) :=
  ⟨rfl, rfl, rfl, by simp [World.putObj], fun k hk hn => World.putObj_heap_other (by simpa using hn)⟩
theorem Own.not_obj {w : World} {base : Nat} {e : TypeId} {s : Nat} {A : Option Addr} {n c : Nat} {xs : List Value} {l : Nat} {o : Obj} (h : Own w base e s A n c xs) (ho : w.heap[l]? = some o) (hc : isCel o = false) : l ∉ blkL A := fun hm => by
  rcases h.2 with ⟨hv, _⟩ | ⟨b, _, cur, hv, _, hh, _⟩
  · cases hv; simp [blkL] at hm
  · cases hv
    simp [blkL] at hm
    subst hm
    rw [hh] at ho
    cases ho
    cases hc
section
variable {P : Program} {fn : Func} {R : Ending → World → Prop} {M : Md} {n : Nat} {st : Slots} {k : List Item} {w : World} {ops rest : List Oper} {K : Act → World → Prop} {ds : List Deferred} {l : Nat}
  {d : Nat} {v : Value} {ty : TypeId} {ps : String} {af : Array Edge}
theorem T_endr (h : ∀ a, OK ⟨.r l K, ds⟩ n st a → K a w) : T P fn R ⟨.r l K, ds⟩ n st [] w := fun a ha b cs k2 hl => ⟨a, w, h a ha, .refl _ _⟩
theorem T_begin {r : Loop} (h : w.heap[l]? = some (.loop r)) (hr : r.state = .ready) (hk : ∀ w2, Mod [l] w w2 → w2.heap.size = w.heap.size → w2.heap[l]? = some (.loop { r with state := .busy }) → T P fn R ⟨.r l K, ds⟩ n st k w2) :
    T P fn R ⟨.r l K, ds⟩ n st (.beginRound :: k) w := by
  intro a ha b cs k2 hl
  have hb := run_beginRound (P := P) h hr
  have hlt := (Array.getElem?_eq_some_iff.1 h).1
  obtain ⟨a2, w2, hK, hs⟩ := hk _ (Mod.putObj w l _) (by simp) (World.putObj_heap_same hlt) a ha b cs k2 hl
  exact ⟨a2, w2, hK, Steps.trans (.one (stepR_beginRound hl hb)) hs⟩
theorem round_T {m f : Nat} {tmps : Array Value} {assign body : Code} {R' : Ending → World → Prop} (hOK : OK ⟨.r l K, []⟩ n st { tmps := tmps, defers := [] }) (h : T P fn R ⟨.r l K, []⟩ n st [.code assign, .beginRound, .code body] w)
    (hend : ∀ a' w', K a' w' → ∃ v w2, (Instr.endRound l none).run P w' = .ok v w2 ∧ R' (.returned v) w2) : RoundIn Fence.wide m P l f tmps assign body w R' := by
  refine ⟨trivial, fun c cs _ => ?_⟩
  let b : Frame := { (default : Frame) with fn := f, kind := .normal, roundOf := some l }
  have hb0 : Frame.round l f tmps assign body .normal = b.atR { tmps := tmps, defers := [] } [.code assign, .beginRound, .code body] := by simp [Frame.round, Frame.atR, b]
  obtain ⟨a', w', hK, hs⟩ := h _ hOK b (c :: cs) [] rfl
  obtain ⟨v, w2, he, hR⟩ := hend a' w' hK
  refine ⟨.returned v, w2, hR, ?_⟩
  rw [hb0]
  exact stepsIn_wide.2 (Steps.trans hs (.one (stepR_round_end rfl rfl he)))
def TI (P : Program) (fn : Func) (R : Ending → World → Prop) (M : Md) (n : Nat) (st : Slots) (ops l : List Oper) (k : List Item) (w : World) : Prop :=
  ∀ a, OK M n st a → wpListIn Fence.wide 0 P ops.toArray (LQ M.dfd P fn R k) l a w
theorem T_region_in {id : Nat} {l : List Oper} (h : TI P fn R M n st l l k w) (hpl : M.dfd.pl = true := by exact rfl) : T P fn R M n st (.code (.region id l.toArray false) :: k) w :=
  fun a ha => Tat.of_wp (wpIn_wide.1 (wpIn_region_lit (h a ha))) hpl
theorem TI_nil (h : T P fn R M n st k w) : TI P fn R M n st ops [] k w := fun a ha => h a ha
theorem TI_val {op : Op} (hd : Nat.blt d n = true) (h : RunV P w st ⟨some d, op, ty, ps, af, none⟩ v) (hnd : ∀ c, op ≠ .defer c) (hk : TI P fn R M n ((d, v) :: st) ops rest k w) : TI P fn R M n st ops (⟨some d, op, ty, ps, af, none⟩ :: rest) k w := by
  intro a ha
  unfold wpListIn
  rw [if_pos (by simp [Region.wanted])]
  refine ⟨fun _ _ => trivial, ?_⟩
  rw [Oper.semAt_eq _ _ _ hnd, h a.eval (fun x u hx => ha.ev hx)]
  exact hk _ (ha.put hd v)
theorem TI_move {x : Operand} (hx : ev st x = some v) (hd : Nat.blt d n = true) (hk : TI P fn R M n ((d, v) :: st) ops rest k w) : TI P fn R M n st ops (⟨some d, .move x, ty, ps, af, none⟩ :: rest) k w :=
  TI_val hd (fun ρ h => by simp [execOp, h _ _ hx]) (fun _ h => by cases h) hk
theorem TI_loadb {X : Operand} {t : TypeId} {by_ : Nat} {z : Value} {b o : Nat} {bt : TypeId} {xs cs : List Value} {fl : List (Nat × TypeId)} (E : Env P) (hx : ev st X = some (.pointer (some ⟨b, o, none⟩))) (ht : E.fld t = some fl) (hi : E.inf t = some (cs.length, by_, z)) (hb : Blk w b bt xs) (hc : (xs.drop o).take cs.length = cs) (h0 : 0 < cs.length) (hd : Nat.blt d n = true)
    (hk : TI P fn R M n ((d, .agg cs.toArray) :: st) ops rest k w) : TI P fn R M n st ops (⟨some d, .load t X, ty, ps, af, none⟩ :: rest) k w :=
  TI_val hd (fun ρ h => by
    have h1 := load_cells (P := P) (A := some ⟨b, 0, none⟩) (j := o) hb.rd hc h0
    have e : adr (some ⟨b, 0, none⟩) o = ⟨b, o, none⟩ := by simp [adr]
    rw [e] at h1
    simp [execOp, Instr.loadAt, h _ _ hx, Instr.sureAddr, loadVar, run_isAgg_fld E ht, run_sizeOf' (E.inf_ok _ _ _ _ hi), h1]) (fun _ h => by cases h) hk
theorem TI_call (E : Env P) {g : Nat} {f : Operand} {args : Array Operand} {ats : Array TypeId} {vs : List Value} {Φ : Value → World → Prop} (hf : ev st f = some (.func (.func g) #[] #[])) (ha : evs st args.toList = some vs) (hE : E.fn g = true) (hd : Nat.blt d n = true) (hc : Ret P g vs w Φ)
    (hk : ∀ v w', Φ v w' → TI P fn R M n ((d, v) :: st) ops rest k w') : TI P fn R M n st ops (⟨some d, .call { callee := .value f, args, argTypes := ats }, ty, ps, af, none⟩ :: rest) k w := by
  intro a ha'
  unfold wpListIn
  rw [if_pos (by simp [Region.wanted])]
  refine ⟨fun _ _ => trivial, ?_⟩
  rw [Oper.semAt_eq _ _ _ (fun _ h => by cases h), run_call E (fst := []) (cap := []) (fun x u hx => ha'.ev hx) hf ha hE, Oper.uponIn_enter]
  refine ⟨fun q => (by cases q), callsIn_wide.2 ?_⟩
  have hc' : Calls P g ([] ++ vs ++ []).toArray w (RR Φ) := by simpa [Ret] using hc
  refine hc'.mono (fun e w' he => ?_)
  cases e with
  | returned v => exact hk v w' he _ (ha'.put hd v)
  | panicked ch => exact he.elim
  | outgrown => exact he.elim
theorem TI_yield {f : Operand} {args : Array Operand} {ats : Array TypeId} {vs : List Value} {Φ : Value → World → Prop} (hf : ev st f = some (.func (.yield l) #[] #[])) (ha : evs st args.toList = some vs) (hd : Nat.blt d n = true)
    (hy : YieldAt Fence.wide 0 P l vs.toArray w (RR Φ)) (hk : ∀ v w', Φ v w' → TI P fn R M n ((d, v) :: st) ops rest k w') : TI P fn R M n st ops (⟨some d, .call { callee := .value f, args, argTypes := ats }, ty, ps, af, none⟩ :: rest) k w := by
  intro a ha'
  unfold wpListIn
  rw [if_pos (by simp [Region.wanted])]
  refine ⟨fun _ _ => trivial, ?_⟩
  obtain ⟨g, tmps, assign, body, hr, hR⟩ := hy
  have e1 : args.map a.eval = vs.toArray := by
    have := map_evs (fun x u hx => ha'.ev hx) _ _ ha
    rw [← this, ← Array.toList_map, Array.toArray_toList]
  have hrun : (execOp a.eval ⟨some d, .call { callee := .value f, args, argTypes := ats }, ty, ps, af, none⟩).run P w = .ok (.round l g tmps assign body) w := by
    simp only [execOp, resolve, ha'.ev hf, e1, Deferred.ofValue, Sem.run_bind, Sem.run_pure, Result.andThen_ok, invoke]
    simpa using hr
  rw [Oper.semAt_eq _ _ _ (fun _ h => by cases h), hrun]
  refine ⟨fun q => (by cases q), hR.mono (fun e w' he => ?_)⟩
  cases e with
  | returned v => exact hk v w' he _ (ha'.put hd v)
  | panicked ch => exact he.elim
  | outgrown => exact he.elim
theorem T_rangeFunc (E : Env P) {g : Operand} {p gf N : Nat} {cap : List Value} {assign body : Code} (hg : ev st g = some (.func (.func gf) #[] cap.toArray)) (hE : E.fn gf = true) (hp : Nat.blt p n = true) (I : Nat → World → Prop)
    (h0 : ∀ w1, Ext w w1 → I 0 w1) (hIe : ∀ i W W', I i W → Ext W W' → I i W') (hIo : ∀ i W l o o', w.heap.size ≤ l → I i W → W.heap[l]? = some o → isCel o = false → I i (W.putObj l o'))
    (hit : ∀ l D w1, w.heap.size ≤ l → w.heap.size ≤ D → l ≠ D → Ext w w1 → ∀ J : Nat → World → Prop, (∀ i W, J i W → I i W) → (∀ i W W', J i W → Ext W W' → J i W') →
      (∀ i W v, J i W → (∀ r : Loop, W.heap[l]? = some (.loop r) → r.state = .ready → W.heap[D]? = some (.deferred (some [])) →
          T P fn R ⟨.r l (fun _ w' => I (i + 1) w' ∧ w'.heap[l]? = some (.loop { r with state := .busy }) ∧ w'.heap[D]? = some (.deferred (some []))), []⟩ n ((p, v) :: st) [.code assign, .beginRound, .code body] W) →
        YieldAt Fence.wide 0 P l #[v] W (RR fun v W' => v = .bool true ∧ J (i + 1) W')) →
      J 0 w1 → Ret P gf (.func (.yield l) #[] #[] :: cap) w1 (fun _ w' => J N w'))
    (hk : ∀ D w', w.heap.size ≤ D → I N w' → w'.heap[D]? = some (.deferred (some [])) → T P fn R ⟨.b false, ⟨.collected D, #[]⟩ :: ds⟩ n st k w') :
    T P fn R ⟨.b false, ds⟩ n st (.code (.rangeFunc g #[p] assign body) :: k) w := by
  intro a ha
  refine Tat.of_wp (wpIn_wide.1 (wpIn_rangeFunc (n := 1) ?_)) rfl
  intro fn' hfn'
  obtain ⟨rec, hrec⟩ : ∃ rec : LoopState → Option Code → Loop, rec = fun st pe => { state := st, pending := pe, fn := fn', tmps := a.tmps, params := #[p], assign, body, defers := w.heap.size } := ⟨_, rfl⟩
  obtain ⟨W1, hW1⟩ : ∃ W1, (w.alloc (.deferred (some []))).alloc (.loop (rec .ready none)) = W1 := ⟨_, rfl⟩
  have hL1 : W1.heap[w.heap.size + 1]? = some (.loop (rec .ready none)) := by
    rw [← hW1]; have := World.alloc_heap_new (w.alloc (.deferred (some []))) (.loop (rec .ready none)); rwa [World.size_alloc] at this
  have hK1 : W1.heap[w.heap.size]? = some (.deferred (some [])) := by
    rw [← hW1]; exact (Below.heap_alloc _ _ _ (by simp)).trans (World.alloc_heap_new w _)
  have e1 : Ext w W1 := by rw [← hW1]; exact (Ext.alloc w _).ext (Ext.alloc _ _)
  refine ⟨w.heap.size + 1, [{ target := .collected w.heap.size, args := #[] }], W1, { target := .fn (.func gf) cap.toArray, args := #[.func (.yield (w.heap.size + 1)) #[] #[]] }, W1, gf,
    #[.func (.yield (w.heap.size + 1)) #[] #[]] ++ cap.toArray, W1, ?_, ?_, fun _ _ => trivial, ?_, fun q => (by cases q), callsIn_wide.2 ?_⟩
  · rw [← hW1, hrec]; exact run_enterLoop_outer _ _ _ _ _
  · simp only [resolve, ha.ev hg]
    simp [go_sem]
  · simp only [invoke]
    rw [E.fn_ok gf hE]
  · have hc := hit (w.heap.size + 1) w.heap.size W1 (by omega) (Nat.le_refl _) (by omega) e1
      (fun i W => I i W ∧ W.heap[w.heap.size + 1]? = some (.loop (rec .ready none)) ∧ W.heap[w.heap.size]? = some (.deferred (some []))) (fun i W h => h.1)
      (fun i W W' h e => ⟨hIe i W W' h.1 e, by rw [e.block _ (Array.getElem?_eq_some_iff.1 h.2.1).1 (by simp)]; exact h.2.1, by rw [e.block _ (Array.getElem?_eq_some_iff.1 h.2.2).1 (by simp)]; exact h.2.2⟩) ?_ ⟨h0 _ e1, hL1, hK1⟩
    · refine Calls.mono (by simpa [Ret] using hc) ?_
      rintro e w2 he
      cases e with
      | returned v =>
        obtain ⟨hi, hl, hD⟩ := he
        refine ⟨none, _, by have := run_endLoop (P := P) hl (by rw [hrec]; simp); rw [hrec] at this; exact this, ?_⟩
        exact hk w.heap.size _ (Nat.le_refl _) (hIo N w2 _ _ _ (by omega) hi hl rfl) ((World.putObj_heap_other (by omega)).trans hD) _ ⟨ha.size, by simp [ha.defers], fun i v hv => ha.get i v hv⟩
      | panicked ch => exact he.elim
      | outgrown => exact he.elim
    · rintro i W v ⟨hi, hl, hD⟩ hT
      have hy := run_yield (P := P) (args := #[v]) hl (by rw [hrec]; rfl)
      rw [hrec] at hy
      refine ⟨fn', _, assign, body, hy, ?_⟩
      have hlt := (Array.getElem?_eq_some_iff.1 hl).1
      have h1 := hT _ hl (by rw [hrec]) hD
      have hOK := ha.put hp v
      refine round_T (st := (p, v) :: st) ⟨?_, rfl, ?_⟩ h1 ?_
      · have := hOK.size
        simpa [Act.put] using this
      · intro j u hu
        have := hOK.get j u hu
        simpa [Act.put] using this
      · rintro a' w' ⟨hi', hl', hD'⟩
        have he := run_endRound (P := P) none hl'
        rw [hrec] at he hl'
        refine ⟨_, _, he, rfl, hIo _ _ _ _ _ (by omega) hi' hl' rfl, ?_, (World.putObj_heap_other (by omega)).trans hD'⟩
        rw [hrec]
        exact World.putObj_heap_same (Array.getElem?_eq_some_iff.1 hl').1
theorem T_retM {D : Nat} {v : Value} (h : w.heap[D]? = some (.deferred (some []))) (hr : ∀ w2, Mod [D] w w2 → ∀ a, OK M0 n st a → (results fn a.tmps).run P w2 = .ok v w2) (hR : ∀ w2, Mod [D] w w2 → w2.heap.size = w.heap.size → R (.returned v) w2) :
    T P fn R ⟨.b false, [⟨.collected D, #[]⟩]⟩ n st (.code .ret :: k) w := by
  intro a ha b cs hk hf
  have hd := ha.defers
  simp only at hd
  have m := Mod.putObj w D (.deferred none)
  have hs : step P (lone { b.at a (.code .ret :: k) with mode := .returning } cs w) = .next (lone { b.at { a with defers := [] } (.code .ret :: k) with mode := .returning } cs (w.putObj D (.deferred none))) := by
    have := step_collected (P := P) (fr := { b.at a (.code .ret :: k) with mode := .returning }) (cs := cs) (w := w) (d := ⟨.collected D, #[]⟩) (ds := []) (r := D) (by simp) (by simp [Frame.at, hd]) rfl (run_takeDeferred h)
    rw [this]
    rfl
  have hv : OK M0 n st { a with defers := [] } := ⟨ha.size, rfl, fun i v hv => ha.get i v hv⟩
  obtain ⟨e2, w2, fr, hR2, hc, h1, h2⟩ := leave (d := false) (Lv.nil_ret (P := P) (fn := fn) (R := R) (a := { a with defers := [] }) rfl (hr _ m _ hv) (hR _ m (by simp))) (by simp) b (.code .ret :: k) cs hk hf
  exact ⟨e2, w2, fr, hR2, Comes.of_steps (.one step_ret) (Comes.of_steps (.one hs) hc), h1, h2⟩
end
end Go.Proofs.Eng

namespace Go.Proofs.Eng
open Go.RowKit
section
variable {q : Qm} {P : Program} {fn : Func} {R : Ending → World → Prop} {M : Md} {n : Nat} {st : Slots} {k : List Item} {w : World} {ops rest : List Oper}
  {d : Nat} {v : Value} {ty : TypeId} {ps : String} {af : Array Edge} {X : Operand} {t t2 e : TypeId}
theorem TL_conv_sb {l : List UInt8} (E : Env P) {ds : TypeDesc} (hx : ev st X = some (.string (ofL l)) := by exact rfl) (h1 : E.und t = some ds := by exact rfl) (h2 : E.und t2 = some (.slice e) := by exact rfl) (h3 : E.und e = some (.int .u8) := by exact rfl) (hd : Nat.blt d n = true := by exact rfl)
    (hf : Fl q (rest.length + 1) := by first | exact trivial | exact rfl) (hq : ∀ w', Ext w w' → Kp q w' := by exact fun _ _ => trivial)
    (hk : ∀ b c w', Ext w w' → w.heap.size ≤ b → b < w'.heap.size → l.length ≤ c → Rd w' (some ⟨b, 0, none⟩) l.length 1 (bv l) → TL q P fn R M n ((d, .slice (some ⟨b, 0, none⟩) l.length c) :: st) ops rest k w') :
    TL q P fn R M n st ops (⟨some d, .convert t t2 X, ty, ps, af, none⟩ :: rest) k w := by
  have hs : (ofL l).size = l.length := ofL_size l
  have he : Ext w (Go.Lib.bytesWorld w e (ofL l)) := ⟨rfl, rfl, rfl, by rw [Go.Lib.bytesWorld_size]; omega, fun j hj _ => Go.Lib.bytesWorld_at_old _ _ _ j hj⟩
  have hrd : Rd (Go.Lib.bytesWorld w e (ofL l)) (some ⟨w.heap.size, 0, none⟩) l.length 1 (bv l) := by
    refine ⟨by simp, fun _ => ⟨w.heap.size, 0, rfl, by rw [Go.Lib.bytesWorld_size]; omega, fun j u hu => ?_⟩⟩
    have hj : j < l.length := by
      rcases Nat.lt_or_ge j l.length with h | h
      · exact h
      · rw [List.getElem?_eq_none (by simpa using h)] at hu; cases hu
    rw [Nat.zero_add, Go.Lib.bytesWorld_cell _ _ _ _ (by omega)]
    rw [← hu]
    simp [bv, ofL, hj, List.getD]
  refine TL_new (w' := Go.Lib.bytesWorld w e (ofL l)) (v := .slice (some ⟨w.heap.size, 0, none⟩) l.length (grownCap w l.length 0 e)) hd (fun ρ h => ?_) hf (hq _ he) (hk _ _ _ he (Nat.le_refl _) (by rw [Go.Lib.bytesWorld_size]; omega) ?_ hrd)
  · have hr := Go.Lib.run_convert_string_bytes (P := P) w t t2 e (ofL l) (E.und_ok _ _ h1) (E.und_ok _ _ h2) (E.und_ok _ _ h3)
    rw [hs] at hr
    simp [execOp, h _ _ hx, hr]
  · exact _root_.Go.grownCap_ge _ _ _ _
theorem TL_slice3n {Y Z : Operand} {A : Option Addr} {m c s by_ : Nat} {z : Value} {L L2 : IntKind} {j j2 : Int} (E : Env P) (hx : ev st X = some (.slice A m c) := by exact rfl) (hy : ev st Y = some (.int L j) := by exact rfl) (hZ : ev st Z = some (.int L2 j2) := by exact rfl) (ht : E.und t = some (.slice e) := by exact rfl) (he : E.inf e = some (s, by_, z) := by exact rfl) (hd : Nat.blt d n = true := by exact rfl) (h0 : 0 ≤ j := by first | assumption | omega) (h1 : j ≤ j2 := by first | assumption | omega) (h2 : j2 ≤ (c : Int) := by first | assumption | omega)
    (hk : TL q P fn R M n ((d, .slice A j.toNat j2.toNat) :: st) ops rest k w) : TL q P fn R M n st ops (⟨some d, .slice t X none (some Y) (some Z), ty, ps, af, none⟩ :: rest) k w :=
  TL_val_w hd (fun w ρ h => by
    have hA : A.map (·.add 0) = A := by cases A <;> simp [Addr.add]
    have a2 : 0 ≤ j2 := by omega
    have a3 : j ≤ (j2.toNat : Int) := by omega
    have a4 : j ≤ max j2 0 := by omega
    simp [execOp, Instr.sliceAt, Instr.slice, Instr.sliceBounds, Instr.sliceBound, asIntOf, run_underlying (E.und_ok _ _ ht), h _ _ hx, h _ _ hy, h _ _ hZ, h0, h1, h2, a2, a3, a4, run_sizeOf' (E.inf_ok _ _ _ _ he), hA]) hk
theorem TI_not {b : Bool} {t : TypeId} (hx : ev st X = some (.bool b)) (hd : Nat.blt d n = true) (hk : TI P fn R M n ((d, .bool (!b)) :: st) ops rest k w) : TI P fn R M n st ops (⟨some d, .unOp .not t X, ty, ps, af, none⟩ :: rest) k w :=
  TI_val hd (fun ρ h => by simp [execOp, h _ _ hx, Op.unary]) (fun _ h => by cases h) hk
end
end Go.Proofs.Eng

namespace Go.Proofs.YtjlaomcankmdjaaGreat
open Go.RowKit Go.Proofs.Eng Go.Proofs.Codec
set_option linter.unusedVariables false set_option maxRecDepth 10000
attribute [local irreducible] T TL LV TH TA
set_option maxHeartbeats 1000000
theorem fails_c (b : Nat) (s : RS) (A : Option Addr) (n c : Nat) (e : Int) (w : World) (h : Rdr w 117 b s A n c) :
    Ret Tryz.prog 68 [ptr b, .int .i64 e] w (fun v w' => v = .tuple #[] ∧ Mod [b] w w' ∧ Rdr w' 117 b { s with err := e, spot := s.pos } A n c) := by
  obtain ⟨hb, hr, ho, hl, hp, hla, hbig, hcap⟩ := h
  refine ret_T (n := 15) Tryz.func68 rfl rfl ?_
  repeat (first | refine T_seq ?_ | refine T_region ?_ | refine TL_move (hk := ?_) | refine TL_fieldAddr TE (hk := ?_) | refine TL_nilCheck (hk := ?_))
  refine TL_store TE (hk := ?_); intro w1 m1 s1 k1
  repeat (first | refine T_region ?_ | refine TL_nil ?_ | refine TL_move (hk := ?_) | refine TL_load TE (hk := ?_) | refine TL_fieldAddr TE (hk := ?_) | refine TL_nilCheck (hk := ?_))
  refine TL_store TE (hk := ?_); intro w2 m2 s2 k2
  repeat (refine TL_nil ?_)
  have hm := m1.trans m2
  exact T_end0 rfl ⟨rfl, hm, ⟨k2, hr.mod hm ho, ho, hl, hp, hla, hbig, hcap⟩⟩
theorem took_c (b : Nat) (s : RS) (A : Option Addr) (n c k : Nat) {z : Int} (hz : z = (k : Int)) (w : World) (h : Rdr w 117 b s A n c) (hk : s.pos + k ≤ n) :
    Ret Tryz.prog 69 [ptr b, .int .i64 z] w (fun v w' => v = .tuple #[] ∧ Mod [b] w w' ∧ Rdr w' 117 b { s with pos := s.pos + k, last := s.pos } A n c) := by
  obtain ⟨hb, hr, ho, hl, hp, hla, hbig, hcap⟩ := h
  subst hz
  refine ret_T (n := 20) Tryz.func69 rfl rfl ?_
  repeat (first | refine T_seq ?_ | refine T_region ?_ | refine TL_move (hk := ?_) | refine TL_load TE (hk := ?_) | refine TL_fieldAddr TE (hk := ?_) | refine TL_nilCheck (hk := ?_))
  refine TL_store TE (hk := ?_); intro w1 m1 s1 k1
  repeat (first | refine T_region ?_ | refine TL_add (hk := ?_) | refine TL_nil ?_ | refine TL_move (hk := ?_) | refine TL_load TE (hk := ?_) | refine TL_fieldAddr TE (hk := ?_) | refine TL_nilCheck (hk := ?_))
  refine TL_store TE (hk := ?_); intro w2 m2 s2 k2
  repeat (refine TL_nil ?_)
  have hm := m1.trans m2
  exact T_end0 rfl ⟨rfl, hm, ⟨k2, hr.mod hm ho, ho, hl, hk, hp, hbig, hcap⟩⟩
theorem Rd.tail1 {w : World} {A : Option Addr} {n c p : Nat} {l : List UInt8} (h : Rd w A n 1 (bv l)) (hp : p ≤ n) (hc : n ≤ c) : Rd w (cutA A c p 1) (n - p) 1 (bv (l.drop p)) := by
  have hlen : l.length = n := by simpa using h.1
  have h2 := h.cut (c := c) (l := p) (h := n) hp (Nat.le_refl _) hc
  have e : ((bv l).drop (p * 1)).take ((n - p) * 1) = bv (l.drop p) := by
    unfold bv
    rw [Nat.mul_one, Nat.mul_one, ← List.map_drop, List.take_of_length_le (by simp; omega)]
  rw [e] at h2
  exact h2
theorem numq {w : World} {A : Option Addr} {n c p : Nat} {l : List UInt8} {r : Except Int (Nat × Nat)} (h : Rd w A n 1 (bv l)) (hp : p ≤ n) (hc : n ≤ c) (hn : n ≤ 7036874417) (hr : num0 (l.drop p) = r) :
    ∀ w', Ext w w' → Ret Tryz.prog 67 [.slice (cutA A c p 1) (n - p) (c - p)] w' (fun u w'' => u = numV r ∧ Ext w' w'') := fun w' e => by
  have := number_c (cutA A c p 1) (n - p) (c - p) (l.drop p) w' ((Rd.tail1 h hp hc).ext e) (by omega)
  rw [hr] at this
  exact this.mono fun v w2 ⟨a, b⟩ => ⟨a, b ▸ Mod.refl _ _⟩
theorem take_no {α : Type} {s : RS} {z0 : α} {t : List UInt8 → Except Int (α × Nat)} (he : ¬ s.err = 0) : s.take z0 t = (z0, s) := by unfold RS.take; rw [if_neg he]
theorem RByte_c (b : Nat) (s : RS) (A : Option Addr) (n c : Nat) (w : World) (h : Rdr w 117 b s A n c) :
    Ret Tryz.prog 57 [ptr b] w (fun v w' => v = .int .u8 ((s.take (0 : Nat) tByte).1 : Int) ∧ Mod [b] w w' ∧ Rdr w' 117 b (s.take (0 : Nat) tByte).2 A n c) := by
  have h0 := h
  obtain ⟨hb, hr, ho, hl, hp, hla, hbig, hcap⟩ := h
  refine ret_T (n := 34) Tryz.func57 rfl rfl ?_
  by_cases he : s.err = 0
  · by_cases g : s.pos < n
    · have hd : s.b.drop s.pos = s.b[s.pos] :: s.b.drop (s.pos + 1) := List.drop_eq_getElem_cons _
      have ht : tByte (s.b.drop s.pos) = .ok (gb s.b s.pos, 1) := by rw [hd, gb_get _ _ (by omega)]; rfl
      rw [take_ok he ht]
      repeat (first | refine T_seq ?_ | refine T_region ?_ | refine T_region_q TE.mixed (by kernel_rfl) ?_ | refine T_cond_false rfl ?_ | refine T_skip ?_ | refine TL_ge_f (hk := ?_) | refine TL_ne_f (hk := ?_) | refine TL_nil ?_ | refine TL_move (hk := ?_) | refine TL_assign (hk := ?_) | refine TL_load TE (hk := ?_) | refine TL_fieldAddr TE (hk := ?_) | refine TL_len TE (hk := ?_) | refine TL_nilCheck (hk := ?_))
      refine TL_nil_q ?_; intro w1 e1
      repeat (first | refine T_seq ?_ | refine T_region_q TE.mixed (by kernel_rfl) ?_ | refine T_cond_false rfl ?_ | refine T_skip ?_ | refine TL_move (hk := ?_) | refine TL_assign (hk := ?_) | refine TL_load TE (hk := ?_) | (refine TL_load_b TE (hk := ?_); intro _) | refine TL_fieldAddr TE (hk := ?_) | refine TL_indexAddr1n TE (hk := ?_) | refine TL_nilCheck (hk := ?_))
      refine TL_nil_q ?_; intro w2 e2
      repeat (first | refine T_seq ?_ | refine T_region ?_ | refine TL_move (hk := ?_))
      refine TL_call TE (hc := took_c b s A n c 1 rfl w2 (h0.ext (e1.ext e2)) (by omega)) (hk := ?_)
      rintro _ w3 ⟨rfl, m3, h3⟩
      repeat (first | refine T_seq ?_ | refine T_region ?_ | refine TL_nil ?_ | refine TL_move (hk := ?_) | refine TL_assign (hk := ?_))
      exact T_ret1 rfl rfl ⟨rfl, (Ext.mod (e1.ext e2)).trans m3, h3⟩
    · have ht : tByte (s.b.drop s.pos) = .error 3 := by rw [List.drop_of_length_le (by omega)]; rfl
      rw [take_err he ht]
      repeat (first | refine T_seq ?_ | refine T_region ?_ | refine T_region_q TE.mixed (by kernel_rfl) ?_ | refine T_cond_false rfl ?_ | refine T_skip ?_ | refine TL_ge_t (hk := ?_) | refine TL_ne_f (hk := ?_) | refine TL_nil ?_ | refine TL_move (hk := ?_) | refine TL_assign (hk := ?_) | refine TL_load TE (hk := ?_) | refine TL_fieldAddr TE (hk := ?_) | refine TL_len TE (hk := ?_) | refine TL_nilCheck (hk := ?_))
      refine TL_nil_q ?_; intro w1 e1
      repeat (first | refine T_seq ?_ | refine T_region ?_ | refine T_cond_true rfl ?_ | refine TL_move (hk := ?_))
      refine TL_call TE (hc := fails_c b s A n c 3 w1 (h0.ext e1)) (hk := ?_)
      rintro _ w3 ⟨rfl, m3, h3⟩
      repeat (first | refine T_seq ?_ | refine T_region ?_ | refine TL_nil ?_ | refine TL_assign (hk := ?_))
      exact T_ret1 rfl rfl ⟨rfl, (Ext.mod e1).trans m3, h3⟩
  · rw [take_no he]
    repeat (first | refine T_seq ?_ | refine T_region ?_ | refine T_cond_true rfl ?_ | refine TL_ne_t (hk := ?_) | refine TL_nil ?_ | refine TL_move (hk := ?_) | refine TL_assign (hk := ?_) | refine TL_load TE (hk := ?_) | refine TL_fieldAddr TE (hk := ?_) | refine TL_nilCheck (hk := ?_))
    exact T_ret1 rfl rfl ⟨rfl, Mod.refl _ _, h0⟩
theorem RUint_c (b : Nat) (s : RS) (A : Option Addr) (n c : Nat) (w : World) (h : Rdr w 117 b s A n c) :
    Ret Tryz.prog 19 [ptr b] w (fun v w' => v = .int .u64 ((s.take (0 : Nat) num0).1 : Int) ∧ Mod [b] w w' ∧ Rdr w' 117 b (s.take (0 : Nat) num0).2 A n c) := by
  have h0 := h
  obtain ⟨hb, hr, ho, hl, hp, hla, hbig, hcap⟩ := h
  refine ret_T (n := 34) Tryz.func19 rfl rfl ?_
  by_cases he : s.err = 0
  · cases hx : num0 (s.b.drop s.pos) with
    | ok x =>
      obtain ⟨x, k⟩ := x
      have hlt := num0_ok hx
      rw [List.length_drop] at hlt
      rw [take_ok he hx]
      repeat (first | refine T_seq ?_ | refine T_region ?_ | refine T_region_q TE.mixed (by kernel_rfl) ?_ | refine T_cond_false rfl ?_ | refine T_skip ?_ | refine TL_ne_f (hk := ?_) | refine TL_nil ?_ | refine TL_move (hk := ?_) | refine TL_assign (hk := ?_) | refine TL_load TE (hk := ?_) | refine TL_fieldAddr TE (hk := ?_) | refine TL_nilCheck (hk := ?_) | refine TL_slice_lo TE (hk := ?_))
      refine TL_call_q TE rfl rfl rfl (numq hr hp hcap hbig hx) ?_
      repeat (first | refine TL_move (hk := ?_) | refine TL_assign (hk := ?_) | refine TL_extract (hk := ?_))
      refine TL_nil_q ?_; intro w1 e1
      repeat (first | refine T_seq ?_ | refine T_region ?_ | refine T_cond_false rfl ?_ | refine T_skip ?_ | refine TL_ne_f (hk := ?_) | refine TL_nil ?_ | refine TL_move (hk := ?_))
      refine TL_call TE (hc := took_c b s A n c k rfl w1 (h0.ext e1) (by omega)) (hk := ?_)
      rintro _ w3 ⟨rfl, m3, h3⟩
      repeat (first | refine T_seq ?_ | refine T_region ?_ | refine TL_nil ?_ | refine TL_move (hk := ?_) | refine TL_assign (hk := ?_))
      exact T_ret1 rfl rfl ⟨rfl, (Ext.mod e1).trans m3, h3⟩
    | error e =>
      have hne : ¬ e = 0 := num0_err hx
      rw [take_err he hx]
      repeat (first | refine T_seq ?_ | refine T_region ?_ | refine T_region_q TE.mixed (by kernel_rfl) ?_ | refine T_cond_false rfl ?_ | refine T_skip ?_ | refine TL_ne_f (hk := ?_) | refine TL_nil ?_ | refine TL_move (hk := ?_) | refine TL_assign (hk := ?_) | refine TL_load TE (hk := ?_) | refine TL_fieldAddr TE (hk := ?_) | refine TL_nilCheck (hk := ?_) | refine TL_slice_lo TE (hk := ?_))
      refine TL_call_q TE rfl rfl rfl (numq hr hp hcap hbig hx) ?_
      repeat (first | refine TL_move (hk := ?_) | refine TL_assign (hk := ?_) | refine TL_extract (hk := ?_))
      refine TL_nil_q ?_; intro w1 e1
      repeat (first | refine T_seq ?_ | refine T_region ?_ | refine T_cond_true rfl ?_ | refine TL_ne_t (hk := ?_) | refine TL_nil ?_ | refine TL_move (hk := ?_))
      refine TL_call TE (hc := fails_c b s A n c e w1 (h0.ext e1)) (hk := ?_)
      rintro _ w3 ⟨rfl, m3, h3⟩
      repeat (first | refine T_seq ?_ | refine T_region ?_ | refine TL_nil ?_ | refine TL_assign (hk := ?_))
      exact T_ret1 rfl rfl ⟨rfl, (Ext.mod e1).trans m3, h3⟩
  · rw [take_no he]
    repeat (first | refine T_seq ?_ | refine T_region ?_ | refine T_cond_true rfl ?_ | refine TL_ne_t (hk := ?_) | refine TL_nil ?_ | refine TL_move (hk := ?_) | refine TL_assign (hk := ?_) | refine TL_load TE (hk := ?_) | refine TL_fieldAddr TE (hk := ?_) | refine TL_nilCheck (hk := ?_))
    exact T_ret1 rfl rfl ⟨rfl, Mod.refl _ _, h0⟩
theorem take_int (s : RS) : s.take (0 : Int) tInt = (zag (s.take (0 : Nat) num0).1, (s.take (0 : Nat) num0).2) := by
  unfold RS.take tInt
  split
  · split <;> rename_i h <;> cases h1 : num0 (s.b.drop s.pos) <;> rw [h1] at h <;> cases h
    · rfl
    · show _ = (zag 0, _); rw [show zag 0 = 0 from by decide]
  · show _ = (zag 0, _); rw [show zag 0 = 0 from by decide]
theorem RInt_c (b : Nat) (s : RS) (A : Option Addr) (n c : Nat) (w : World) (h : Rdr w 117 b s A n c) :
    Ret Tryz.prog 141 [ptr b] w (fun v w' => v = .int .i64 (s.take (0 : Int) tInt).1 ∧ Mod [b] w w' ∧ Rdr w' 117 b (s.take (0 : Int) tInt).2 A n c) := by
  rw [take_int]
  have hx : (s.take (0 : Nat) num0).1 < 2 ^ 64 := by
    unfold RS.take
    split
    · split
      · rename_i h; exact (num0_ok h).1
      · exact Nat.two_pow_pos 64
    · exact Nat.two_pow_pos 64
  refine ret_T (n := 17) Tryz.func141 rfl rfl ?_
  repeat (first | refine T_seq ?_ | refine T_region ?_ | refine TL_nil ?_ | refine TL_move (hk := ?_) | refine TL_assign (hk := ?_))
  refine TL_call TE (hc := RUint_c b s A n c w h) (hk := ?_)
  rintro _ w1 ⟨rfl, m1, h1⟩
  generalize hq : (s.take (0 : Nat) num0).1 = x at hx ⊢
  by_cases h2 : x % 2 = 0
  · repeat (first | refine T_seq ?_ | refine T_region ?_ | refine T_cond_true rfl ?_ | refine TL_quo (hk := ?_) | refine TL_rem (hk := ?_) | refine TL_eq_t (hk := ?_) | refine TL_nil ?_ | refine TL_move (hk := ?_) | refine TL_assign (hk := ?_) | refine TL_conv TE (hk := ?_))
    exact T_ret1 rfl rfl ⟨by unfold zag; rw [if_pos h2]; rfl, m1, h1⟩
  · repeat (first | refine T_seq ?_ | refine T_region ?_ | refine T_cond_false rfl ?_ | refine T_skip ?_ | refine TL_sub (hk := ?_) | refine TL_quo (hk := ?_) | refine TL_rem (hk := ?_) | refine TL_eq_f (hk := ?_) | refine TL_nil ?_ | refine TL_move (hk := ?_) | refine TL_assign (hk := ?_) | refine TL_conv TE (hk := ?_) | refine TL_neg (hk := ?_))
    exact T_ret1 rfl rfl ⟨by unfold zag; rw [if_neg h2]; rfl, m1, h1⟩
theorem tLim_ok {most e : Int} {l : List UInt8} {x k : Nat} (hx : num0 l = .ok (x, k)) (h1 : 0 ≤ most) (h2 : (x : Int) ≤ most) : tLim most e l = .ok (x, k) := by
  unfold tLim; rw [hx]; simp only; rw [if_neg (by omega)]
theorem tLim_no {most e : Int} {l : List UInt8} {x k : Nat} (hx : num0 l = .ok (x, k)) (h : most < 0 ∨ most < (x : Int)) : tLim most e l = .error e := by
  unfold tLim; rw [hx]; simp only; rw [if_pos h]
theorem tLim_err {most e e' : Int} {l : List UInt8} (hx : num0 l = .error e') : tLim most e l = .error e' := by
  unfold tLim; rw [hx]
theorem RCount_c (b : Nat) (s : RS) (A : Option Addr) (n c : Nat) (most : Int) (hmo : -9223372036854775808 ≤ most ∧ most ≤ 9223372036854775807) (w : World) (h : Rdr w 117 b s A n c) :
    Ret Tryz.prog 101 [ptr b, .int .i64 most] w (fun v w' => v = .int .i64 ((s.take (0 : Nat) (tLim most 6)).1 : Int) ∧ Mod [b] w w' ∧ Rdr w' 117 b (s.take (0 : Nat) (tLim most 6)).2 A n c) := by
  have h0 := h
  obtain ⟨hb, hr, ho, hl, hp, hla, hbig, hcap⟩ := h
  refine ret_T (n := 49) Tryz.func101 rfl rfl ?_
  by_cases he : s.err = 0
  · cases hx : num0 (s.b.drop s.pos) with
    | ok x =>
      obtain ⟨x, k⟩ := x
      have hlt := num0_ok hx
      rw [List.length_drop] at hlt
      by_cases hm : most < 0
      · rw [take_err he (tLim_no hx (.inl hm))]
        repeat (first | refine T_seq ?_ | refine T_region ?_ | refine T_region_q TE.mixed (by kernel_rfl) ?_ | refine T_cond_false rfl ?_ | refine T_skip ?_ | refine TL_ne_f (hk := ?_) | refine TL_nil ?_ | refine TL_move (hk := ?_) | refine TL_assign (hk := ?_) | refine TL_load TE (hk := ?_) | refine TL_fieldAddr TE (hk := ?_) | refine TL_nilCheck (hk := ?_) | refine TL_slice_lo TE (hk := ?_))
        refine TL_call_q TE rfl rfl rfl (numq hr hp hcap hbig hx) ?_
        repeat (first | refine TL_move (hk := ?_) | refine TL_assign (hk := ?_) | refine TL_extract (hk := ?_))
        refine TL_nil_q ?_; intro w1 e1
        repeat (first | refine T_seq ?_ | refine T_region ?_ | refine T_cond_true rfl ?_ | refine TL_lt_t (hk := ?_) | refine TL_eq_t (hk := ?_) | refine TL_ne_t (hk := ?_) | refine TL_nil ?_ | refine TL_move (hk := ?_) | refine TL_assign (hk := ?_) | refine TL_yes (hk := ?_) | refine TL_no (hk := ?_) | refine TL_pick_t (hk := ?_))
        refine TL_call TE (hc := fails_c b s A n c 6 w1 (h0.ext e1)) (hk := ?_)
        rintro _ w3 ⟨rfl, m3, h3⟩
        repeat (first | refine T_seq ?_ | refine T_region ?_ | refine TL_nil ?_ | refine TL_assign (hk := ?_))
        exact T_ret1 rfl rfl ⟨rfl, (Ext.mod e1).trans m3, h3⟩
      by_cases hg : most < (x : Int)
      · rw [take_err he (tLim_no hx (.inr hg))]
        repeat (first | refine T_seq ?_ | refine T_region ?_ | refine T_region_q TE.mixed (by kernel_rfl) ?_ | refine T_cond_false rfl ?_ | refine T_skip ?_ | refine TL_ne_f (hk := ?_) | refine TL_nil ?_ | refine TL_move (hk := ?_) | refine TL_assign (hk := ?_) | refine TL_load TE (hk := ?_) | refine TL_fieldAddr TE (hk := ?_) | refine TL_nilCheck (hk := ?_) | refine TL_slice_lo TE (hk := ?_))
        refine TL_call_q TE rfl rfl rfl (numq hr hp hcap hbig hx) ?_
        repeat (first | refine TL_move (hk := ?_) | refine TL_assign (hk := ?_) | refine TL_extract (hk := ?_))
        refine TL_nil_q ?_; intro w1 e1
        repeat (first | refine T_seq ?_ | refine T_region ?_ | refine T_cond_true rfl ?_ | refine TL_lt_f (hk := ?_) | refine TL_gt_t (hk := ?_) | refine TL_eq_t (hk := ?_) | refine TL_ne_t (hk := ?_) | refine TL_nil ?_ | refine TL_move (hk := ?_) | refine TL_assign (hk := ?_) | refine TL_yes (hk := ?_) | refine TL_pick_t (hk := ?_) | refine TL_pick_f (hk := ?_) | refine TL_conv TE (hk := ?_))
        refine TL_call TE (hc := fails_c b s A n c 6 w1 (h0.ext e1)) (hk := ?_)
        rintro _ w3 ⟨rfl, m3, h3⟩
        repeat (first | refine T_seq ?_ | refine T_region ?_ | refine TL_nil ?_ | refine TL_assign (hk := ?_))
        exact T_ret1 rfl rfl ⟨rfl, (Ext.mod e1).trans m3, h3⟩
      · rw [take_ok he (tLim_ok hx (by omega) (by omega))]
        repeat (first | refine T_seq ?_ | refine T_region ?_ | refine T_region_q TE.mixed (by kernel_rfl) ?_ | refine T_cond_false rfl ?_ | refine T_skip ?_ | refine TL_ne_f (hk := ?_) | refine TL_nil ?_ | refine TL_move (hk := ?_) | refine TL_assign (hk := ?_) | refine TL_load TE (hk := ?_) | refine TL_fieldAddr TE (hk := ?_) | refine TL_nilCheck (hk := ?_) | refine TL_slice_lo TE (hk := ?_))
        refine TL_call_q TE rfl rfl rfl (numq hr hp hcap hbig hx) ?_
        repeat (first | refine TL_move (hk := ?_) | refine TL_assign (hk := ?_) | refine TL_extract (hk := ?_))
        refine TL_nil_q ?_; intro w1 e1
        repeat (first | refine T_seq ?_ | refine T_region ?_ | refine T_cond_false rfl ?_ | refine T_skip ?_ | refine TL_lt_f (hk := ?_) | refine TL_gt_f (hk := ?_) | refine TL_eq_t (hk := ?_) | refine TL_ne_f (hk := ?_) | refine TL_nil ?_ | refine TL_move (hk := ?_) | refine TL_yes (hk := ?_) | refine TL_pick_t (hk := ?_) | refine TL_pick_f (hk := ?_) | refine TL_conv TE (hk := ?_))
        refine TL_call TE (hc := took_c b s A n c k rfl w1 (h0.ext e1) (by omega)) (hk := ?_)
        rintro _ w3 ⟨rfl, m3, h3⟩
        repeat (first | refine T_seq ?_ | refine T_region ?_ | refine TL_nil ?_ | refine TL_move (hk := ?_) | refine TL_assign (hk := ?_) | refine TL_conv TE (hk := ?_))
        exact T_ret1 rfl rfl ⟨rfl, (Ext.mod e1).trans m3, h3⟩
    | error e =>
      have hne : ¬ e = 0 := num0_err hx
      rw [take_err he (tLim_err hx)]
      repeat (first | refine T_seq ?_ | refine T_region ?_ | refine T_region_q TE.mixed (by kernel_rfl) ?_ | refine T_cond_false rfl ?_ | refine T_skip ?_ | refine TL_ne_f (hk := ?_) | refine TL_nil ?_ | refine TL_move (hk := ?_) | refine TL_assign (hk := ?_) | refine TL_load TE (hk := ?_) | refine TL_fieldAddr TE (hk := ?_) | refine TL_nilCheck (hk := ?_) | refine TL_slice_lo TE (hk := ?_))
      refine TL_call_q TE rfl rfl rfl (numq hr hp hcap hbig hx) ?_
      repeat (first | refine TL_move (hk := ?_) | refine TL_assign (hk := ?_) | refine TL_extract (hk := ?_))
      refine TL_nil_q ?_; intro w1 e1
      repeat (first | refine T_seq ?_ | refine T_region ?_ | refine T_cond_true rfl ?_ | refine T_cond_false rfl ?_ | refine T_skip ?_ | refine TL_eq_f (hk := ?_) | refine TL_ne_t (hk := ?_) | refine TL_nil ?_ | refine TL_move (hk := ?_) | refine TL_no (hk := ?_) | refine TL_pick_f (hk := ?_))
      refine TL_call TE (hc := fails_c b s A n c e w1 (h0.ext e1)) (hk := ?_)
      rintro _ w3 ⟨rfl, m3, h3⟩
      repeat (first | refine T_seq ?_ | refine T_region ?_ | refine TL_nil ?_ | refine TL_assign (hk := ?_))
      exact T_ret1 rfl rfl ⟨rfl, (Ext.mod e1).trans m3, h3⟩
  · rw [take_no he]
    repeat (first | refine T_seq ?_ | refine T_region ?_ | refine T_cond_true rfl ?_ | refine TL_ne_t (hk := ?_) | refine TL_nil ?_ | refine TL_move (hk := ?_) | refine TL_assign (hk := ?_) | refine TL_load TE (hk := ?_) | refine TL_fieldAddr TE (hk := ?_) | refine TL_nilCheck (hk := ?_))
    exact T_ret1 rfl rfl ⟨rfl, Mod.refl _ _, h0⟩
end Go.Proofs.YtjlaomcankmdjaaGreat

namespace Go.Proofs.YtjlaomcankmdjaaGreat
open Go.RowKit Go.Proofs.Eng Go.Proofs.Codec Go.Proofs.Foot Go.Proofs.Journal
set_option linter.unusedVariables false set_option maxRecDepth 10000
attribute [local irreducible] T TL LV TH TA
set_option maxHeartbeats 1600000
def EnOut (w : World) (base : Nat) (o : Option EE) (q : Value) (e : Int) : Prop :=
  ∃ x : EM, q = eA x ∧ POwn w base x.m ∧ (match o with
    | some r => e = 0 ∧ emE x = r
    | none => ¬ e = 0)
theorem EnOut.no {w : World} {base : Nat} {e : Int} (h : ¬ e = 0) : EnOut w base none (.agg #[.int .i64 0, .int .i64 0, .int .i64 0, .int .u64 0, .string (ofL []), .slice none 0 0, .int .i64 0, .slice none 0 0, .slice none 0 0]) e :=
  ⟨em0, rfl, ⟨Own.nil _ _ _ _, Own.nil _ _ _ _, Own.nil _ _ _ _⟩, h⟩
theorem take_lt {s : RS} : (s.take (0 : Nat) num0).1 < 2 ^ 64 := by
  unfold RS.take
  split
  · cases h : num0 (s.b.drop s.pos) with
    | error x => simp
    | ok r => exact (num0_ok (by rw [h])).1
  · simp
theorem byte_lt {s : RS} : (s.take (0 : Nat) tByte).1 < 256 := by
  unfold RS.take
  split
  · cases h : tByte (s.b.drop s.pos) with
    | error x => simp
    | ok r =>
      obtain ⟨c, t, h1, h2, -⟩ := tByte_ok (x := r.1) (k := r.2) (by rw [h])
      have := c.toNat_lt
      simp only
      omega
  · simp
theorem EGet_c (A : Option Addr) (n c : Nat) (b : List UInt8) (w : World) (h : Rd w A n 1 (bv b)) (hn : n ≤ 200000) (hcap : n ≤ c) :
    Ret Tryz.prog 89 [.slice A n c] w (fun v w' => ∃ q e, v = .tuple #[q, .int .i64 e] ∧ Ext w w' ∧ EnOut w' w.heap.size (getEn b) q e) := by
  have hbl : b.length = n := by simpa using h.1
  unfold getEn
  refine ret_T (n := 95) Tryz.func89 rfl rfl ?_
  repeat (first | refine T_seq ?_ | refine T_region ?_)
  refine TL_alloc TE (hk := ?_); intro b2 w2 e2 h2 h2' k2
  have z2 := e2.size
  repeat (first | refine T_seq ?_ | refine T_region ?_ | refine TL_nil ?_ | refine TL_move (hk := ?_) | refine TL_assign (hk := ?_))
  refine TL_call TE (hc := NewReader_c A n c b _ (h.be e2) (by omega)) (hk := ?_)
  rintro _ w3 ⟨bR, A3, n3, c3, rfl, e3, hbR, hi3, lo3, rr⟩
  have z3 := e3.size
  have lR := rr.blk.lt
  have hn3 : b.length = n3 := rr.len
  have k23 := k2.be e3
  have e03 := e2.ext e3
  clear k2
  repeat (first | refine T_seq ?_ | refine T_region ?_ | refine TL_nil ?_ | refine TL_move (hk := ?_) | refine TL_assign (hk := ?_))
  refine TL_call TE (hc := Uint_c bR _ A3 n3 c3 w3 rr) (hk := ?_)
  rintro _ w4 ⟨rfl, m4, rr4⟩
  obtain ⟨p1, hp1⟩ : ∃ p1, ge1 b = p1 := ⟨_, rfl⟩
  have q1 : (RS.mk b 0 0 0 0).take (0 : Nat) num0 = p1 := hp1
  have l1 := take_lt (s := RS.mk b 0 0 0 0)
  rw [q1] at rr4 l1 ⊢
  repeat (refine TL_move (hk := ?_))
  refine TL_call TE (hc := Uint_c bR _ A3 n3 c3 w4 rr4) (hk := ?_)
  rintro _ w5 ⟨rfl, m5, rr5⟩
  obtain ⟨p2, hp2⟩ : ∃ p2, ge2 b = p2 := ⟨_, rfl⟩
  have q2 : p1.2.take (0 : Nat) num0 = p2 := by rw [← hp1]; exact hp2
  have l2 := take_lt (s := p1.2)
  rw [q2] at rr5 l2 ⊢
  repeat (first | refine T_seq ?_ | refine T_region ?_ | refine TL_nil ?_ | refine TL_move (hk := ?_) | refine TL_assign (hk := ?_) | refine TL_len TE (hk := ?_))
  refine TL_call TE (hc := Text_c bR _ A3 n3 c3 (n : Int) (by omega) w5 rr5) (hk := ?_)
  rintro _ w6 ⟨rfl, m6, rr6⟩
  obtain ⟨p3, hp3⟩ : ∃ p3, ge3 b = p3 := ⟨_, rfl⟩
  have q3 : p2.2.take ([] : List UInt8) (tText n) = p3 := by rw [← hp2, ← hbl]; exact hp3
  have l3 := text_len p2.2 n
  have hb3 : p2.2.b.length = n := by rw [← hp2]; unfold ge2 ge1; rw [take_b, take_b]; exact hbl
  rw [q3] at rr6 l3 ⊢
  repeat (first | refine T_seq ?_ | refine T_region ?_ | refine TL_nil ?_ | refine TL_move (hk := ?_) | refine TL_assign (hk := ?_))
  refine TL_call TE (hc := Byte_c bR _ A3 n3 c3 w6 rr6) (hk := ?_)
  rintro _ w7 ⟨rfl, m7, rr7⟩
  obtain ⟨p4, hp4⟩ : ∃ p4, ge4 b = p4 := ⟨_, rfl⟩
  have q4 : p3.2.take (0 : Nat) tByte = p4 := by rw [← hp3]; exact hp4
  have l4 := byte_lt (s := p3.2)
  rw [q4] at rr7 l4 ⊢
  repeat (first | refine T_seq ?_ | refine T_region ?_ | refine TL_nil ?_ | refine TL_move (hk := ?_) | refine TL_assign (hk := ?_))
  refine TL_call TE (hc := Why_c bR _ A3 n3 c3 w7 rr7) (hk := ?_)
  rintro _ w8 ⟨rfl, e8⟩
  have m38 := (((m4.trans m5).trans m6).trans m7).ext e8
  have rr8 := rr7.ext e8
  have e08 : Ext w w8 := e03.step m38 (fun u hu => .inr (by rw [List.mem_singleton.1 hu]; omega))
  have k28 := k23.mod m38 (fun q => by rw [List.mem_singleton] at q; omega)
  have z8 := m38.size
  rw [hp1, hp2, hp3, hp4]
  clear rr rr4 rr5 rr6 rr7 k23
  obtain ⟨x1, hx1⟩ : ∃ x, p1.1 = x := ⟨_, rfl⟩
  obtain ⟨x2, hx2⟩ : ∃ x, p2.1 = x := ⟨_, rfl⟩
  obtain ⟨x4, hx4⟩ : ∃ x, p4.1 = x := ⟨_, rfl⟩
  rw [hx1] at l1 ⊢
  rw [hx2] at l2 ⊢
  rw [hx4] at l4 ⊢
  have hx1i : (9223372036854775807 : Int) < (x1 : Int) ↔ 9223372036854775807 < x1 := by omega
  have hx2i : (9223372036854775807 : Int) < (x2 : Int) ↔ 9223372036854775807 < x2 := by omega
  repeat (first | refine TL_nil ?_ | refine TL_move (hk := ?_) | refine TL_assign (hk := ?_) | refine TL_extract (hk := ?_))
  refine T_seq ?_
  refine T_join (ι := Bool) (fun t => [(51, .bool t), (8, .int .u8 (x4 : Int)), (7, .string (ofL p3.1)), (6, .int .u64 (x2 : Int)), (5, .int .u64 (x1 : Int)), (4, ptr bR), (2, .pointer (some ⟨b2, 0, none⟩)), (0, .slice A n c)]) (fun t w' => w' = w8 ∧ (t = true ↔ (p4.2.err ≠ 0 ∨ 9223372036854775807 < x1 ∨ 9223372036854775807 < x2 ∨ (x4 ≠ 1 ∧ x4 ≠ 2)))) (fun kk join => ?_) ?_
  · by_cases d1 : p4.2.err = 0
    · by_cases d2 : 9223372036854775807 < x1
      · have d2' := hx1i.2 d2
        repeat (first | refine T_region ?_ | refine TL_gt_t (hk := ?_) | refine TL_ne_f (hk := ?_) | refine TL_nil ?_ | refine TL_move (hk := ?_) | refine TL_yes (hk := ?_) | refine TL_no (hk := ?_) | refine TL_pick_t (hk := ?_) | refine TL_pick_f (hk := ?_))
        exact T.sub (join true _ ⟨rfl, fun _ => .inr (.inl d2), fun _ => rfl⟩) (.c rfl (.c rfl (.c rfl (.c rfl (.c rfl (.c rfl (.c rfl (.c rfl (.n)))))))))
      · have d2' := fun q => d2 (hx1i.1 q)
        by_cases d3 : 9223372036854775807 < x2
        · have d3' := hx2i.2 d3
          repeat (first | refine T_region ?_ | refine TL_gt_t (hk := ?_) | refine TL_gt_f (hk := ?_) | refine TL_ne_f (hk := ?_) | refine TL_nil ?_ | refine TL_move (hk := ?_) | refine TL_yes (hk := ?_) | refine TL_no (hk := ?_) | refine TL_pick_t (hk := ?_) | refine TL_pick_f (hk := ?_))
          exact T.sub (join true _ ⟨rfl, fun _ => .inr (.inr (.inl d3)), fun _ => rfl⟩) (.c rfl (.c rfl (.c rfl (.c rfl (.c rfl (.c rfl (.c rfl (.c rfl (.n)))))))))
        · have d3' := fun q => d3 (hx2i.1 q)
          by_cases d4 : x4 = 1
          · repeat (first | refine T_region ?_ | refine TL_gt_f (hk := ?_) | refine TL_ne_f (hk := ?_) | refine TL_nil ?_ | refine TL_move (hk := ?_) | refine TL_yes (hk := ?_) | refine TL_no (hk := ?_) | refine TL_pick_f (hk := ?_))
            exact T.sub (join false _ ⟨rfl, fun q => (by cases q), fun q => absurd q (by omega)⟩) (.c rfl (.c rfl (.c rfl (.c rfl (.c rfl (.c rfl (.c rfl (.c rfl (.n)))))))))
          · by_cases d5 : x4 = 2
            · have d4' : ¬ (x4 : Int) = 1 := by omega
              repeat (first | refine T_region ?_ | refine TL_gt_f (hk := ?_) | refine TL_ne_t (hk := ?_) | refine TL_ne_f (hk := ?_) | refine TL_nil ?_ | refine TL_move (hk := ?_) | refine TL_yes (hk := ?_) | refine TL_pick_t (hk := ?_) | refine TL_pick_f (hk := ?_))
              exact T.sub (join false _ ⟨rfl, fun q => (by cases q), fun q => absurd q (by omega)⟩) (.c rfl (.c rfl (.c rfl (.c rfl (.c rfl (.c rfl (.c rfl (.c rfl (.n)))))))))
            · have d4' : ¬ (x4 : Int) = 1 := by omega
              have d5' : ¬ (x4 : Int) = 2 := by omega
              repeat (first | refine T_region ?_ | refine TL_gt_f (hk := ?_) | refine TL_ne_t (hk := ?_) | refine TL_ne_f (hk := ?_) | refine TL_nil ?_ | refine TL_move (hk := ?_) | refine TL_yes (hk := ?_) | refine TL_pick_t (hk := ?_) | refine TL_pick_f (hk := ?_))
              exact T.sub (join true _ ⟨rfl, fun _ => .inr (.inr (.inr ⟨d4, d5⟩)), fun _ => rfl⟩) (.c rfl (.c rfl (.c rfl (.c rfl (.c rfl (.c rfl (.c rfl (.c rfl (.n)))))))))
    · repeat (first | refine T_region ?_ | refine TL_ne_t (hk := ?_) | refine TL_nil ?_ | refine TL_move (hk := ?_) | refine TL_no (hk := ?_) | refine TL_pick_t (hk := ?_))
      exact T.sub (join true _ ⟨rfl, fun _ => .inl d1, fun _ => rfl⟩) (.c rfl (.c rfl (.c rfl (.c rfl (.c rfl (.c rfl (.c rfl (.c rfl (.n)))))))))
  rintro t w9 ⟨rfl, ht⟩
  cases t with
  | true =>
    rw [if_pos (ht.1 rfl)]
    repeat (first | refine T_seq ?_ | refine T_region ?_ | refine T_cond_true rfl ?_ | refine TL_build TE (hk := ?_))
    refine TL_storea TE (hk := ?_); intro w20 m20 z20 k20
    repeat (first | refine TL_nil ?_ | refine TL_assign (hk := ?_))
    exact T_retA2 TE (vs := [.int .i64 0, .int .i64 0, .int .i64 0, .int .u64 0, .string (ofL []), .slice none 0 0, .int .i64 0, .slice none 0 0, .slice none 0 0]) (o := 0) rfl rfl rfl rfl rfl k20 rfl (Nat.succ_pos _) ⟨_, 123, rfl, e08.step m20 (fun u hu => .inr (by rw [List.mem_singleton.1 hu]; omega)), EnOut.no (by decide)⟩
  | false => ?_
  have hd : ¬ (p4.2.err ≠ 0 ∨ 9223372036854775807 < x1 ∨ 9223372036854775807 < x2 ∨ (x4 ≠ 1 ∧ x4 ≠ 2)) := fun q => by have := ht.2 q; cases this
  rw [if_neg hd]
  have d1 : p4.2.err = 0 := by omega
  have d2 : x1 ≤ 9223372036854775807 := by omega
  have d3 : x2 ≤ 9223372036854775807 := by omega
  have d4 : x4 = 1 ∨ x4 = 2 := by omega
  clear hx1i hx2i ht
  repeat (first | refine T_seq ?_ | refine T_region ?_ | refine T_cond_false rfl ?_ | refine T_skip ?_ | refine TL_move (hk := ?_))
  refine TL_conv_sb TE (hk := ?_); intro b10 c10 w10 e10 h10 h10' hc10 r10
  --
  refine TL_call TE (hc := RqGet_c (some ⟨b10, 0, none⟩) p3.1.length c10 p3.1 w10 r10 (by omega) hc10) (hk := ?_)
  rintro _ w11 ⟨_, qe, _, rfl, e11, ⟨rq, Y, rfl, oY, hrq⟩⟩
  repeat (first | refine TL_move (hk := ?_) | refine TL_extract (hk := ?_))
  refine TL_alloc TE (hk := ?_); intro b12 w12 e12 h12 h12' k12
  --
  refine TL_storea TE (hk := ?_); intro w13 m13 z13 k13
  have e13 : Ext w w13 := ((((e08.ext e10).ext e11).ext e12)).step m13 (fun u hu => .inr (by rw [List.mem_singleton.1 hu]; have := e08.size; have := e10.size; have := e11.size; omega))
  have e813 : Ext w9 w13 := ((e10.ext e11).ext e12).step m13 (fun u hu => .inr (by rw [List.mem_singleton.1 hu]; have := e10.size; have := e11.size; omega))
  have rr13 := rr8.ext e813
  have k213 := k28.be e813
  have z10 := e10.size
  have z11 := e11.size
  have oY13 : Own w13 w10.heap.size 161 3 Y.1 Y.2.1 Y.2.2 (rowV veV rq.ar) := (oY.be e12).modL m13 (fun u hu q => by have := (oY.bl u hu).2; rw [List.mem_singleton] at q; omega)
  clear rr8 k28 k12 oY
  have hr1 : p4.2.rest ≤ n := by
    have h1 := rr13.len
    unfold RS.rest
    split <;> omega
  repeat (first | refine T_seq ?_ | refine T_region ?_ | refine TL_nil ?_ | refine TL_move (hk := ?_) | refine TL_assign (hk := ?_) | refine TL_len TE (hk := ?_))
  refine TL_call TE (hc := Rest_c bR _ A3 n3 c3 w13 rr13) (hk := ?_)
  rintro _ w14 ⟨rfl, e14⟩
  obtain ⟨y, hy⟩ : ∃ y, n - p4.2.rest = y := ⟨_, rfl⟩
  have hyi : (n : Int) - (p4.2.rest : Int) = (y : Int) := by omega
  repeat (first | refine TL_sub (hk := ?_) | refine TL_slice_lo TE (hk := ?_))
  have hyn : ((n : Int) - (p4.2.rest : Int)).toNat = y := by omega
  rw [hyn]
  have h14 := h.be (e13.ext e14)
  refine TL_call TE (hc := Get_c (cutA A c y 1) (n - y) (c - y) (b.drop y) w14 (Rd.tail1 h14 (by omega) hcap) (by omega)) (hk := ?_)
  rintro _ w15 ⟨_, rfl, e15, ⟨U, nu, cu, V, nv, cv, rfl, oU, oV, -⟩⟩
  have hgF : getF (b.drop y) = geF b := by unfold geF; rw [hp4, hbl, hy]
  obtain ⟨gF, hgf⟩ : ∃ g, geF b = g := ⟨_, rfl⟩
  rw [hgF, hgf] at oU oV ⊢
  repeat (first | refine TL_move (hk := ?_) | refine TL_extract (hk := ?_))
  refine TL_alloc TE (hk := ?_); intro b16 w16 e16 h16 h16' k16
  --
  refine TL_storea TE (hk := ?_); intro w17 m17 z17 k17
  have z14 := e14.size
  have z15 := e15.size
  have z16 := e16.size
  have k1317 := ((k13.be e14).be (e15.ext e16)).mod m17 (fun q => by have := k13.lt; rw [List.mem_singleton] at q; omega)
  have e1317 : Ext w13 w17 := ((e14.ext e15).ext e16).step m17 (fun u hu => .inr (by rw [List.mem_singleton.1 hu]; omega))
  have oU17 : Own w17 w14.heap.size 9 1 U nu cu (sv gF.1.1.1) := (oU.be e16).modL m17 (fun u hu q => by have := (oU.bl u hu).2; rw [List.mem_singleton] at q; omega)
  have oV17 : Own w17 w14.heap.size 9 1 V nv cv (sv gF.1.1.2) := (oV.be e16).modL m17 (fun u hu q => by have := (oV.bl u hu).2; rw [List.mem_singleton] at q; omega)
  have oY17 := oY13.be e1317
  have k217 := k213.be e1317
  have rr17 := rr13.ext e1317
  have e017 := e13.ext e1317
  replace k17 : Blk w17 b16 43 [.slice U nu cu, .slice V nv cv] := k17
  clear rr13 k213 k13 oU oV oY13 k16 h14
  repeat (first | refine TL_nil ?_ | refine TL_assign (hk := ?_))
  refine T_seq ?_
  refine T_seq ?_
  refine T_join (ι := Bool) (fun t => [(83, .bool t), (14, .pointer (some ⟨b16, 0, none⟩)), (11, .pointer (some ⟨b12, 0, none⟩)), (8, .int .u8 (x4 : Int)), (6, .int .u64 (x2 : Int)), (5, .int .u64 (x1 : Int)), (2, .pointer (some ⟨b2, 0, none⟩))]) (fun t w' => Ext w17 w' ∧ (t = false ↔ (qe = 0 ∧ gF.2 = 0 ∧ gF.1.2 = p4.2.rest))) (fun kk join => ?_) ?_
  · by_cases d5 : qe = 0
    · by_cases d6 : gF.2 = 0
      · repeat (first | refine T_region ?_ | refine TL_ne_f (hk := ?_) | refine TL_move (hk := ?_) | refine TL_yes (hk := ?_) | refine TL_pick_f (hk := ?_))
        refine TL_call TE (hc := Rest_c bR _ A3 n3 c3 w17 rr17) (hk := ?_)
        rintro _ w18 ⟨rfl, e18⟩
        by_cases d7 : gF.1.2 = p4.2.rest
        · have d7' : ((gF.1.2 : Nat) : Int) = ((p4.2.rest : Nat) : Int) := by omega
          repeat (first | refine TL_ne_f (hk := ?_) | refine TL_nil ?_ | refine TL_yes (hk := ?_) | refine TL_pick_f (hk := ?_))
          exact T.sub (join false _ ⟨e18, fun _ => ⟨d5, d6, d7⟩, fun _ => rfl⟩) (.c rfl (.c rfl (.c rfl (.c rfl (.c rfl (.c rfl (.c rfl (.n))))))))
        · have d7' : ¬ ((gF.1.2 : Nat) : Int) = ((p4.2.rest : Nat) : Int) := by omega
          repeat (first | refine TL_ne_t (hk := ?_) | refine TL_nil ?_ | refine TL_yes (hk := ?_) | refine TL_pick_f (hk := ?_))
          exact T.sub (join true _ ⟨e18, fun q => (by cases q), fun q => absurd q.2.2 d7⟩) (.c rfl (.c rfl (.c rfl (.c rfl (.c rfl (.c rfl (.c rfl (.n))))))))
      · repeat (first | refine T_region ?_ | refine TL_ne_t (hk := ?_) | refine TL_ne_f (hk := ?_) | refine TL_nil ?_ | refine TL_move (hk := ?_) | refine TL_yes (hk := ?_) | refine TL_no (hk := ?_) | refine TL_pick_t (hk := ?_) | refine TL_pick_f (hk := ?_))
        exact T.sub (join true _ ⟨Mod.refl _ _, fun q => (by cases q), fun q => absurd q.2.1 d6⟩) (.c rfl (.c rfl (.c rfl (.c rfl (.c rfl (.c rfl (.c rfl (.n))))))))
    · repeat (first | refine T_region ?_ | refine TL_ne_t (hk := ?_) | refine TL_nil ?_ | refine TL_move (hk := ?_) | refine TL_no (hk := ?_) | refine TL_pick_t (hk := ?_))
      exact T.sub (join true _ ⟨Mod.refl _ _, fun q => (by cases q), fun q => absurd q.1 d5⟩) (.c rfl (.c rfl (.c rfl (.c rfl (.c rfl (.c rfl (.c rfl (.n))))))))
  rintro t w18 ⟨e18, ht⟩
  have k218 := k217.be e18
  clear k217 rr17
  cases t with
  | true =>
    have hno : geQ b (getR p3.1) = none := by
      cases hg : getR p3.1 with
      | none => rfl
      | some r' =>
        rw [hg] at hrq
        unfold geQ
        rw [hgf, hp4]
        simp only
        rw [if_neg]
        intro q
        have := ht.2 ⟨hrq.1, q.1, q.2⟩
        cases this
    rw [hno]
    repeat (first | refine T_seq ?_ | refine T_region ?_ | refine T_cond_true rfl ?_ | refine TL_build TE (hk := ?_))
    refine TL_storea TE (hk := ?_); intro w20 m20 z20 k20
    repeat (first | refine TL_nil ?_ | refine TL_assign (hk := ?_))
    exact T_retA2 TE (vs := [.int .i64 0, .int .i64 0, .int .i64 0, .int .u64 0, .string (ofL []), .slice none 0 0, .int .i64 0, .slice none 0 0, .slice none 0 0]) (o := 0) rfl rfl rfl rfl rfl k20 rfl (Nat.succ_pos _) ⟨_, 123, rfl, (e017.ext e18).step m20 (fun u hu => .inr (by rw [List.mem_singleton.1 hu]; omega)), EnOut.no (by decide)⟩
  | false => ?_
  obtain ⟨d5, d6, d7⟩ := ht.1 rfl
  have hyes : geQ b (getR p3.1) = some ⟨(x1 : Int), (x2 : Int), ⟨rq, (x4 : Int), gF.1.1.1, gF.1.1.2⟩⟩ := by
    cases hg : getR p3.1 with
    | none => rw [hg] at hrq; exact absurd d5 hrq
    | some r' =>
      rw [hg] at hrq
      obtain rfl := hrq.2
      unfold geQ
      rw [hgf, hp4, hp1, hp2]
      simp only
      rw [if_pos ⟨d6, d7⟩, hx1, hx2, hx4]
  rw [hyes]
  have k1318 := k1317.be e18
  have k1718 := k17.be e18
  repeat (first | refine T_seq ?_ | refine T_region ?_ | refine T_cond_false rfl ?_ | refine T_skip ?_ | refine TL_move (hk := ?_) | refine TL_conv TE (hk := ?_))
  refine TL_loadb TE (cs := [.int .i64 rq.cl, .int .u64 (rq.tk : Int), .string (ofL rq.nm), sL Y]) (o := 0) rfl rfl k1318 rfl rfl (Nat.succ_pos _) (hk := ?_)
  repeat (first | refine TL_move (hk := ?_) | refine TL_conv TE (hk := ?_))
  refine TL_loadb TE (cs := [.slice U nu cu, .slice V nv cv]) (o := 0) rfl rfl k1718 rfl rfl (Nat.succ_pos _) (hk := ?_)
  repeat (refine TL_build TE (hk := ?_))
  refine TL_storea TE (hk := ?_); intro w20 m20 z20 k20
  repeat (first | refine TL_nil ?_ | refine TL_assign (hk := ?_))
  have z13 := e13.size
  have z8' := e08.size
  have z17' := e1317.size
  have z18 := e18.size
  have hne : ∀ u, w9.heap.size ≤ u → u ∉ [b2] := fun u hu q => by rw [List.mem_singleton] at q; omega
  exact T_retA2 TE (vs := [.int .i64 (x1 : Int), .int .i64 (x2 : Int), .int .i64 rq.cl, .int .u64 (rq.tk : Int), .string (ofL rq.nm), sL Y, .int .i64 (x4 : Int), .slice U nu cu, .slice V nv cv]) (o := 0) rfl rfl rfl rfl rfl k20 rfl (Nat.succ_pos _) ⟨_, 0, rfl, (e017.ext e18).step m20 (fun u hu => .inr (by rw [List.mem_singleton.1 hu]; omega)), ⟨(x1 : Int), (x2 : Int), ⟨⟨rq, (x4 : Int), gF.1.1.1, gF.1.1.2⟩, Y, (U, nu, cu), (V, nv, cv)⟩⟩, rfl,
    ⟨Own.weaken ((oY17.be e18).modL m20 (fun u hu => hne u (by have := (oY17.bl u hu).1; omega))) (by omega), Own.weaken ((oU17.be e18).modL m20 (fun u hu => hne u (by have := (oU17.bl u hu).1; omega))) (by omega), Own.weaken ((oV17.be e18).modL m20 (fun u hu => hne u (by have := (oV17.bl u hu).1; omega))) (by omega)⟩, rfl, rfl⟩
end Go.Proofs.YtjlaomcankmdjaaGreat

namespace Go.Proofs.YtjlaomcankmdjaaGreat
open Go.RowKit Go.Proofs.Eng Go.Proofs.Codec Go.Proofs.Foot Go.Proofs.Journal
set_option linter.unusedVariables false set_option maxRecDepth 10000
attribute [local irreducible] T TL LV TH TA
set_option maxHeartbeats 1600000
section
variable {base lg : Nat} {sl : SL} {es : List EM} {g : Nat → Nat} {L : LE}
theorem Each_c (w : World) : Ret Tryz.prog 151 [pB lg] w (fun v w' => ∃ b, v = .func (.func 188) #[] #[pB b] ∧ Ext w w' ∧ w.heap.size ≤ b ∧ ∃ t, Blk w' b t [pB lg]) := by
  refine ret_T (n := 4) Tryz.func151 rfl rfl ?_
  repeat (first | refine T_seq ?_ | refine T_region ?_)
  refine TL_box (hk := ?_); intro b1 w1 e1 h1 h1' k1
  repeat (first | refine T_seq ?_ | refine T_region ?_ | refine TL_nil ?_ | refine TL_assign (hk := ?_) | refine TL_makeFunc (hk := ?_))
  exact T_ret1 rfl rfl ⟨b1, rfl, e1, h1, _, k1⟩
theorem Each1_c (l bb : Nat) {t : TypeId} (J : Nat → World → Prop) (w : World) (hl : L.l.length ≤ 65536) (hD : ∀ i W, J i W → LogM W base lg sl es g L ∧ Blk W bb t [pB lg]) (hJe : ∀ i W W', J i W → Ext W W' → J i W')
    (hy : ∀ i W W2 x, i < L.l.length → J i W → Ext W W2 → POwn W2 W.heap.size x.m → PFit x.m.p → emE x = L.l.getD i (emE em0) → YieldAt Fence.wide 0 Tryz.prog l #[eA x] W2 (RR fun v W' => v = .bool true ∧ J (i + 1) W')) (h0 : J 0 w) :
    Ret Tryz.prog 188 [.func (.yield l) #[] #[], pB bb] w (fun _ w' => J L.l.length w') := by
  obtain ⟨D, hb⟩ := hD 0 w h0
  have hlb := D.blk
  have hlen := D.len.1
  have hcap := D.ow.cap
  unfold maxLen at hcap
  obtain ⟨n0, hn0⟩ : ∃ x, L.l.length = x := ⟨_, rfl⟩
  rw [hn0] at hlen hl
  have hesl : es.length = n0 := by rw [D.len.2, hn0]
  have hsl : sl.2.1 = n0 := hlen.symm
  refine ret_T (n := 33) Tryz.func188 rfl rfl ?_
  repeat (first | refine T_seq ?_ | refine T_region ?_ | refine T_region_q TE.mixed (by kernel_rfl) ?_ | refine T_cond_false rfl ?_ | refine T_skip ?_ | refine TL_pnil_f TE (hk := ?_) | refine TL_nil ?_ | refine TL_load TE (hk := ?_) | refine TL_fieldAddr TE (hk := ?_) | refine TL_len TE (hk := ?_) | refine TL_nilCheck (hk := ?_))
  refine TL_slice3n TE (hk := ?_)
  repeat (first | refine TL_move (hk := ?_) | refine TL_len TE (hk := ?_))
  refine TL_nil_q ?_; intro w2 e2
  rw [show ((sl.2.1 : Nat) : Int).toNat = n0 by omega, hn0]
  repeat (refine T_block ?_)
  refine T_loop (ι := Nat) (fun i => [(23, .int .i64 (i : Int)), (22, .int .i64 (n0 : Int)), (21, .slice sl.1 n0 n0), (1, pB bb), (0, .func (.yield l) #[] #[])]) (fun i w' => i ≤ n0 ∧ J i w') (fun i => n0 - i) 0 (.c rfl (.c rfl (.c rfl (.c rfl (.c rfl (.n)))))) ⟨Nat.zero_le _, hJe 0 w w2 h0 e2⟩ ?_
  rintro i w3 ⟨hi, hj⟩ ih
  by_cases hlt : i < n0
  · have D3 := (hD i w3 hj).1
    have hr : Rd w3 sl.1 n0 9 (rowV emV es) := by have := D3.ow.rd; rw [hsl] at this; exact this
    have hA : sl.1 ≠ none := by obtain ⟨_, _, hq, _⟩ := hr.2 (by omega); rw [hq]; simp
    have t1 := rowV_elem emV_len es i em0 (by omega)
    have hmem : es.getD i em0 ∈ es := by rw [List.getD_eq_getElem?_getD, List.getElem?_eq_getElem (by omega)]; exact List.getElem_mem _
    obtain ⟨hX, hF, -⟩ := D3.ek _ hmem
    have hat := D.at (i := i) (by omega)
    generalize es.getD i em0 = x at t1 hX hF hat
    repeat (first | refine T_seq ?_ | refine T_region ?_ | refine T_cond_true rfl ?_ | refine T_block ?_ | refine T_skip ?_ | refine TL_lt_t (hk := ?_) | refine TL_nil ?_ | refine TL_indexAddrn TE (hk := ?_))
    refine TL_loada TE (cs := emV x) (hx := rfl) (ht := rfl) (hi := rfl) (hr := hr) (hc := t1) (h0 := Nat.succ_pos _) (hk := ?_)
    --
    refine TL_alloc TE (hk := ?_); intro b4 w4 e4 h4 h4' k4
    --
    refine TL_storea TE (hk := ?_); intro w5 m5 z5 k5
    have z4 := e4.size
    have e35 : Ext w3 w5 := e4.step m5 (fun u hu => .inr (by rw [List.mem_singleton.1 hu]; omega))
    replace k5 : Blk w5 b4 47 (emV x) := k5
    repeat (refine TL_nil ?_)
    refine T_seq ?_
    refine T_region_in ?_
    refine TI_move rfl rfl ?_
    refine TI_loadb TE (cs := emV x) (o := 0) rfl rfl rfl k5 rfl (Nat.succ_pos _) rfl ?_
    refine TI_call TE rfl rfl rfl rfl (told_c x w5 (hX.be e35) hF) ?_
    rintro _ w6 ⟨x', rfl, hxe, e6, o6⟩
    have hF' : PFit x'.m.p := by
      have h := congrArg EE.p hxe
      have h2 : x'.m.p = x.m.p := h
      rw [h2]; exact hF
    refine TI_yield (l := l) rfl rfl rfl (hy i w3 w6 x' (by omega) hj (e35.ext e6) (o6.weaken (by have := e35.size; omega)) hF' (by rw [hxe]; exact hat)) ?_
    rintro _ w7 ⟨rfl, hj7⟩
    refine TI_not rfl rfl ?_
    refine TI_nil ?_
    repeat (first | refine T_region ?_ | refine T_cond_false rfl ?_ | refine T_inBlock ?_ | refine T_skip ?_ | refine TL_add (hk := ?_) | refine TL_nil ?_ | refine TL_move (hk := ?_))
    exact ih (i + 1) w7 _ (by omega) ⟨by omega, hj7⟩ (.c rfl (.c rfl (.c rfl (.c rfl (.c rfl (.n))))))
  · clear ih
    obtain rfl : i = n0 := by omega
    repeat (first | refine T_seq ?_ | refine T_region ?_ | refine T_cond_false rfl ?_ | refine T_exit rfl ?_ | refine TL_lt_f (hk := ?_) | refine TL_nil ?_)
    exact T_end0 rfl hj
end
end Go.Proofs.YtjlaomcankmdjaaGreat

namespace Go.Proofs.Codec
open Go.Proofs.Eng
theorem pow7 (i : Nat) : 2 ^ (7 * (i + 1)) = 2 ^ (7 * i) * 128 := by rw [show 7 * (i + 1) = 7 * i + 7 from by omega, Nat.pow_add]
theorem toNat_ofNat {n : Nat} (h : n < 256) : (UInt8.ofNat n).toNat = n := by rw [UInt8.toNat_ofNat']; omega
theorem numF_enc : ∀ (f i N m : Nat) (t : List UInt8), f + i = 10 → m * 2 ^ (7 * i) < 2 ^ 64 → (0 < i → 0 < m) → numF f i N (encU m ++ t) = .ok (N + m * 2 ^ (7 * i), i + (encU m).length)
  | 0, i, N, m, t, hi, hm, h0 => by
    have h1 := h0 (by omega)
    have hp : 2 ^ 70 ≤ 2 ^ (7 * i) := Nat.pow_le_pow_right (by decide) (by omega)
    have : 1 * 2 ^ (7 * i) ≤ m * 2 ^ (7 * i) := Nat.mul_le_mul_right _ h1
    omega
  | f + 1, i, N, m, t, hi, hm, h0 => by
    have h9 : i = 9 → m < 2 := fun h => by subst h; omega
    by_cases h1 : m < 128
    · rw [encU_lt h1]
      have hc : (UInt8.ofNat m).toNat = m := toNat_ofNat (by omega)
      simp only [List.cons_append, List.nil_append, numF, hc]
      rw [if_neg (by omega), if_pos h1, if_neg (by omega), Nat.mod_eq_of_lt h1]
      rfl
    · have h8 : i ≠ 9 := fun h => by have := h9 h; omega
      rw [encU_ge h1]
      have hc : (UInt8.ofNat (m % 128 + 128)).toNat = m % 128 + 128 := toNat_ofNat (by omega)
      have hp := pow7 i
      have hd : m = m % 128 + 128 * (m / 128) := by omega
      have he : m % 128 * 2 ^ (7 * i) + m / 128 * 2 ^ (7 * (i + 1)) = m * 2 ^ (7 * i) := by
        rw [hp, Nat.mul_comm (2 ^ (7 * i)) 128, ← Nat.mul_assoc, ← Nat.add_mul]
        congr 1
        omega
      have hmod : (m % 128 + 128) % 128 = m % 128 := by omega
      simp only [List.cons_append, numF, hc]
      rw [if_neg (by omega), if_neg (by omega), numF_enc f (i + 1) _ (m / 128) t (by omega) (by omega) (by omega)]
      simp only [hmod, List.length_cons, Except.ok.injEq, Prod.mk.injEq]
      omega
theorem num0_enc {m : Nat} (t : List UInt8) (hm : m < 2 ^ 64) : num0 (encU m ++ t) = .ok (m, (encU m).length) := by
  unfold num0
  rw [numF_enc 10 0 0 m t rfl (by simpa using hm) (by omega)]
  simp
theorem numF_back : ∀ (f i N : Nat) (l : List UInt8) (r k : Nat), f + i = 10 → numF f i N l = .ok (r, k) → ∃ m, r = N + m * 2 ^ (7 * i) ∧ encU m = l.take (k - i) ∧ i < k ∧ (0 < i → 0 < m)
  | 0, _, _, _, _, _, _, h => by simp [numF] at h
  | f + 1, i, N, [], _, _, _, h => by simp [numF] at h
  | f + 1, i, N, c :: t, r, k, hi, h => by
    have hc := UInt8.toNat_lt c
    simp only [numF] at h
    split at h
    · cases h
    · split at h
      · rename_i h1
        split at h
        · cases h
        · rename_i h2
          cases h
          refine ⟨c.toNat, by rw [Nat.mod_eq_of_lt h1], ?_, by omega, by omega⟩
          rw [encU_lt h1, show i + 1 - i = 1 by omega]
          simp
      · rename_i h1
        obtain ⟨m, rfl, he, hk, h0⟩ := numF_back f (i + 1) _ t r k (by omega) h
        have h0' := h0 (by omega)
        refine ⟨c.toNat % 128 + 128 * m, ?_, ?_, by omega, by omega⟩
        · rw [pow7, Nat.add_mul, Nat.mul_comm (2 ^ (7 * i)) 128, ← Nat.mul_assoc, Nat.mul_comm m 128]
          omega
        · rw [encU_ge (by omega), show (c.toNat % 128 + 128 * m) / 128 = m by omega, he, show k - i = (k - (i + 1)) + 1 by omega, List.take_succ_cons]
          congr 1
          rw [show (c.toNat % 128 + 128 * m) % 128 + 128 = c.toNat by omega]
          simp
theorem num0_back {l : List UInt8} {r k : Nat} (h : num0 l = .ok (r, k)) : encU r = l.take k := by
  obtain ⟨m, hr, he, _⟩ := numF_back 10 0 0 l r k rfl h
  simp at hr he
  rw [hr, he]
theorem tInt_enc (i : Int) (t : List UInt8) (h : -9223372036854775808 ≤ i ∧ i ≤ 9223372036854775807) : tInt (encU (zig i) ++ t) = .ok (i, (encU (zig i)).length) := by
  unfold tInt
  rw [num0_enc t (zig_lt h)]
  simp only [zag_zig]
end Go.Proofs.Codec

namespace Go.Proofs.YtjlaomcankmdjaaGreat
open Go.Proofs.Eng Go.Proofs.Codec Go.Proofs.Foot Go.Proofs.Journal
def Lf (s : RS) (B r : List UInt8) : Prop := s.err = 0 ∧ s.b = B ∧ s.b.drop s.pos = r
section
variable {s : RS} {B r : List UInt8}
theorem Lf.start (B : List UInt8) : Lf ⟨B, 0, 0, 0, 0⟩ B B := ⟨rfl, rfl, rfl⟩
theorem Lf.take {α : Type} {z v : α} {k : Nat} {t : List UInt8 → Except Int (α × Nat)} (h : Lf s B r) (ht : t r = .ok (v, k)) : ∃ s', s.take z t = (v, s') ∧ Lf s' B (r.drop k) ∧ s' = { s with pos := s.pos + k, last := s.pos } := by
  obtain ⟨h1, h2, h3⟩ := h
  refine ⟨_, take_ok h1 (by rw [h3]; exact ht), ⟨h1, h2, ?_⟩, rfl⟩
  show s.b.drop (s.pos + k) = _
  rw [← h3, List.drop_drop]
theorem Lf.num {n : Nat} (h : Lf s B (encU n ++ r)) (hn : n < 2 ^ 64) : ∃ s', s.take (0 : Nat) num0 = (n, s') ∧ Lf s' B r := by
  obtain ⟨s', h1, h2, -⟩ := h.take (z := (0 : Nat)) (num0_enc r hn)
  rw [List.drop_left] at h2
  exact ⟨s', h1, h2⟩
theorem Lf.lim {n : Nat} {most e : Int} (h : Lf s B (encU n ++ r)) (hn : n < 2 ^ 64) (hm : (n : Int) ≤ most) : ∃ s', s.take (0 : Nat) (tLim most e) = (n, s') ∧ Lf s' B r := by
  have : tLim most e (encU n ++ r) = .ok (n, (encU n).length) := by
    unfold tLim
    rw [num0_enc r hn]
    simp only
    rw [if_neg (by omega)]
  obtain ⟨s', h1, h2, -⟩ := h.take (z := (0 : Nat)) this
  rw [List.drop_left] at h2
  exact ⟨s', h1, h2⟩
theorem Lf.int {i : Int} (h : Lf s B (encU (zig i) ++ r)) (hi : -9223372036854775808 ≤ i ∧ i ≤ 9223372036854775807) : ∃ s', s.take (0 : Int) tInt = (i, s') ∧ Lf s' B r := by
  obtain ⟨s', h1, h2, -⟩ := h.take (z := (0 : Int)) (tInt_enc i r hi)
  rw [List.drop_left] at h2
  exact ⟨s', h1, h2⟩
theorem Lf.byte {c : UInt8} (h : Lf s B (c :: r)) : ∃ s', s.take (0 : Nat) tByte = (c.toNat, s') ∧ Lf s' B r := by
  obtain ⟨s', h1, h2, -⟩ := h.take (z := (0 : Nat)) (t := tByte) (v := c.toNat) (k := 1) rfl
  exact ⟨s', h1, h2⟩
theorem Lf.text {t : List UInt8} {most : Int} (h : Lf s B (encU t.length ++ (t ++ r))) (ht : t.length < 2 ^ 63) (hm : (t.length : Int) ≤ most) : ∃ s', s.take ([] : List UInt8) (tText most) = (t, s') ∧ Lf s' B r := by
  have : tText most (encU t.length ++ (t ++ r)) = .ok (t, (encU t.length).length + t.length) := by
    unfold tText tLim
    rw [num0_enc _ (by omega)]
    simp only
    rw [if_neg (by omega)]
    simp only [List.length_append]
    rw [if_neg (by omega)]
    simp
  obtain ⟨s', h1, h2, -⟩ := h.take (z := ([] : List UInt8)) this
  rw [← List.append_assoc, ← List.length_append, List.drop_left] at h2
  exact ⟨s', h1, h2⟩
end
theorem putV_app (b : List UInt8) (v : VE) : putV b v = b ++ putV [] v := by
  unfold putV
  split
  · simp
  · split
    · simp
    · split <;> simp
theorem fold_app : ∀ (l : List VE) (b : List UInt8), l.foldl putV b = b ++ (l.map (putV [])).flatten
  | [], b => by simp
  | v :: l, b => by rw [List.foldl_cons, fold_app l, putV_app b v]; simp
theorem reqB_app (b : List UInt8) (r : RE) : reqB b r = b ++ (encU r.cl.toNat ++ (encU r.tk ++ (encU r.nm.length ++ (r.nm ++ (encU r.ar.length ++ (r.ar.map (putV [])).flatten))))) := by
  unfold reqB
  rw [fold_app]
  simp
theorem takeV_put {s : RS} {B r : List UInt8} {v : VE} (hv : validV v = true) (hf : VFit v) (h : Lf s B (putV [] v ++ r)) : ∃ s', takeV s = (v, s') ∧ Lf s' B r := by
  obtain ⟨kd, n, t⟩ := v
  unfold putV at h
  rw [if_neg (by rw [hv]; decide)] at h
  unfold validV at hv
  simp only at h hv
  unfold takeV
  by_cases h1 : kd = 1
  · rw [if_pos h1] at h
    rw [if_neg (by omega), if_pos h1, decide_eq_true_eq] at hv
    subst h1 hv
    rw [List.nil_append, List.append_assoc] at h
    obtain ⟨s1, e1, l1⟩ := h.byte
    obtain ⟨s2, e2, l2⟩ := l1.int hf.n
    refine ⟨s2, ?_, l2⟩
    rw [e1]
    have : takeV0 s1 1 = (⟨1, n, []⟩, s2) := by unfold takeV0; rw [if_pos rfl, e2]
    show endV (takeV0 s1 1) = _
    rw [this]
    exact if_neg (fun q => q l2.1)
  by_cases h2 : kd = 2
  · rw [if_neg h1, if_pos h2] at h
    rw [if_neg (by omega), if_neg h1, if_pos h2, Bool.and_eq_true, decide_eq_true_eq] at hv
    obtain ⟨⟨rfl, ht⟩, hp⟩ := hv
    subst h2
    rw [List.nil_append, List.append_assoc, List.append_assoc] at h
    obtain ⟨s1, e1, l1⟩ := h.byte
    obtain ⟨s2, e2, l2⟩ := l1.text (most := 64) (by omega) (by omega)
    refine ⟨s2, ?_, l2⟩
    rw [e1]
    have : takeV0 s1 2 = (⟨2, 0, t⟩, s2) := by unfold takeV0; rw [if_neg (by decide), if_pos rfl, e2]; simp only; rw [if_neg (by rw [hp]; decide)]
    show endV (takeV0 s1 2) = _
    rw [this]
    exact if_neg (fun q => q l2.1)
  · by_cases h0 : kd = 0
    · rw [if_neg h1, if_neg h2] at h
      rw [if_pos h0, decide_eq_true_eq] at hv
      obtain ⟨rfl, rfl⟩ := hv
      subst h0
      obtain ⟨s1, e1, l1⟩ := h.byte
      refine ⟨s1, ?_, l1⟩
      rw [e1]
      have : takeV0 s1 0 = (vz, s1) := by unfold takeV0; rw [if_neg (by decide), if_neg (by decide), if_neg (by decide)]
      show endV (takeV0 s1 0) = _
      rw [this]
      exact if_neg (fun q => q l1.1)
    · rw [if_neg h0, if_neg h1, if_neg h2] at hv; cases hv
theorem argsR_put {B : List UInt8} : ∀ (l acc : List VE) (s : RS) (r : List UInt8), l.all givenB = true → (∀ v ∈ l, VFit v) → Lf s B ((l.map (putV [])).flatten ++ r) → ∃ s', argsR l.length s acc = some (acc ++ l, s') ∧ Lf s' B r
  | [], acc, s, r, _, _, h => ⟨s, by rw [List.append_nil]; rfl, h⟩
  | v :: l, acc, s, r, hg, hf, h => by
    rw [List.all_cons, Bool.and_eq_true] at hg
    have hv := hg.1
    unfold givenB at hv
    rw [Bool.and_eq_true, decide_eq_true_eq] at hv
    rw [List.map_cons, List.flatten_cons, List.append_assoc] at h
    obtain ⟨s1, e1, l1⟩ := takeV_put hv.1 (hf v List.mem_cons_self) h
    obtain ⟨s2, e2, l2⟩ := argsR_put l (acc ++ [v]) s1 r hg.2 (fun u hu => hf u (List.mem_cons_of_mem _ hu)) l1
    refine ⟨s2, ?_, l2⟩
    rw [List.length_cons, argsR, e1, if_neg (fun q => hv.2 q.2)]
    rw [e2, List.append_assoc]
    rfl
theorem Lf.fin {s : RS} {B : List UInt8} (h : Lf s B []) : s.fin = s := by
  unfold RS.fin
  rw [if_neg]
  intro q
  have := List.drop_eq_nil_iff.1 h.2.2
  omega
theorem getR_put {r : RE} (hc : checkR r = 0) (hf : RFit r) : getR (reqB [] r) = some r := by
  obtain ⟨h1, h2, h3, h4⟩ := check_ok hc
  have hl := reqB_len (b := []) hf hc
  have hnm := nm_len h2
  have hb := reqB_app [] r
  rw [List.nil_append] at hb
  generalize reqB [] r = B at hl hb ⊢
  have l0 := Lf.start B
  have l0' : Lf ⟨B, 0, 0, 0, 0⟩ B (encU r.cl.toNat ++ (encU r.tk ++ (encU r.nm.length ++ (r.nm ++ (encU r.ar.length ++ (r.ar.map (putV [])).flatten))))) := by rw [← hb]; exact l0
  obtain ⟨s1, e1, l1⟩ := l0'.lim (most := 63) (e := 6) (by omega) (by omega)
  obtain ⟨s2, e2, l2⟩ := l1.num hf.tk
  obtain ⟨s3, e3, l3⟩ := l2.text (most := 16) (by omega) (by omega)
  obtain ⟨s4, e4, l4⟩ := l3.lim (most := 8) (e := 6) (by omega) (by omega)
  obtain ⟨s5, e5, l5⟩ := argsR_put (B := B) r.ar [] s4 [] h4 hf.ar (by rw [List.append_nil]; exact l4)
  have q1 : rq1 B = (r.cl.toNat, s1) := e1
  have q2 : rq2 B = (r.tk, s2) := by unfold rq2; rw [q1]; exact e2
  have q3 : rq3 B = (r.nm, s3) := by unfold rq3; rw [q2]; exact e3
  have q4 : rq4 B = s3 := by unfold rq4; rw [q3]; simp only; rw [if_neg (by rw [h2]; decide)]
  have q5 : rq5 B = (r.ar.length, s4) := by unfold rq5; rw [q4]; exact e4
  unfold getR
  rw [if_neg (by simp only [List.length_nil] at hl; omega), q5]
  simp only
  rw [e5, List.nil_append]
  unfold endR
  simp only
  rw [l5.fin, if_pos l5.1, q1, q2, q3]
  have : ((r.cl.toNat : Nat) : Int) = r.cl := by omega
  simp only
  rw [this]
end Go.Proofs.YtjlaomcankmdjaaGreat

namespace Go.Proofs.YtjlaomcankmdjaaGreat
open Go.Proofs.Eng Go.Proofs.Foot
end Go.Proofs.YtjlaomcankmdjaaGreat

namespace Go.Proofs.YtjlaomcankmdjaaGreat
open Go.Proofs.Eng Go.Proofs.Foot
theorem norm_ok {r k ra ka : List Tx} (h : normF r k = ((ra, ka), 0)) : r.all validT = true ∧ k.all validT = true ∧ ra = setT r ∧ ka = setT k ∧ (setT (r ++ k)).length ≤ 64 := by
  rw [norm_eq] at h
  by_cases q : (r.all validT && k.all validT) = true
  · rw [if_pos q] at h
    by_cases g : 64 < (setT (r ++ k)).length
    · rw [if_pos g] at h
      injection h with _ h
      cases h
    · rw [if_neg g] at h
      injection h with h _
      injection h with h1 h2
      simp only [Bool.and_eq_true] at q
      exact ⟨q.1, q.2, h1.symm, h2.symm, by omega⟩
  · rw [if_neg q] at h
    injection h with _ h
    cases h
theorem norm_ok_of {r k : List Tx} (h1 : r.all validT = true) (h2 : k.all validT = true) (h3 : (setT (r ++ k)).length ≤ 64) : normF r k = ((setT r, setT k), 0) := by
  rw [norm_eq, h1, h2, if_pos (by rfl), if_neg (by omega)]
def meetL (la lb : List (Tx × Bool)) : Bool := la.any fun x => lb.any fun y => decide (x.1 = y.1) && (x.2 || y.2)
end Go.Proofs.YtjlaomcankmdjaaGreat

namespace Go.Proofs.YtjlaomcankmdjaaGreat
open Go.Proofs.Eng Go.Proofs.Foot Go.Proofs.Codec
abbrev Ent := Tx × Nat
def eB (p : Ent) : List UInt8 := (encU p.1.length ++ p.1) ++ [UInt8.ofNat p.2]
def esB (es : List Ent) : List UInt8 := (es.map eB).flatten
def rdE (es : List Ent) : List Tx := (es.filter fun p => p.2 &&& 1 != 0).map (·.1)
def wrE (es : List Ent) : List Tx := (es.filter fun p => p.2 &&& 2 != 0).map (·.1)
def lastE (es : List Ent) : Tx := ((es.map (·.1)).getLast?).getD []
theorem esB_snoc (es : List Ent) (p : Ent) : esB (es ++ [p]) = esB es ++ eB p := by simp [esB]
theorem rdE_snoc (es : List Ent) (p : Ent) : rdE (es ++ [p]) = if p.2 &&& 1 = 0 then rdE es else rdE es ++ [p.1] := by
  unfold rdE
  rw [List.filter_append, List.map_append]
  by_cases h : p.2 &&& 1 = 0
  · have : (p.2 &&& 1 != 0) = false := by rw [h]; rfl
    rw [if_pos h]
    simp only [List.filter_cons, this, Bool.false_eq_true, if_false, List.filter_nil, List.map_nil, List.append_nil]
  · have : (p.2 &&& 1 != 0) = true := by rw [bne_iff_ne]; exact h
    rw [if_neg h]
    simp only [List.filter_cons, this, if_true, List.filter_nil, List.map_cons, List.map_nil]
theorem wrE_snoc (es : List Ent) (p : Ent) : wrE (es ++ [p]) = if p.2 &&& 2 = 0 then wrE es else wrE es ++ [p.1] := by
  unfold wrE
  rw [List.filter_append, List.map_append]
  by_cases h : p.2 &&& 2 = 0
  · have : (p.2 &&& 2 != 0) = false := by rw [h]; rfl
    rw [if_pos h]
    simp only [List.filter_cons, this, Bool.false_eq_true, if_false, List.filter_nil, List.map_nil, List.append_nil]
  · have : (p.2 &&& 2 != 0) = true := by rw [bne_iff_ne]; exact h
    rw [if_neg h]
    simp only [List.filter_cons, this, if_true, List.filter_nil, List.map_cons, List.map_nil]
theorem lastE_snoc (es : List Ent) (p : Ent) : lastE (es ++ [p]) = p.1 := by simp [lastE]
structure At (b : List UInt8) (p0 : Nat) (es : List Ent) (g : GS) : Prop where
  hb : g.s.b = b
  he : g.s.err = 0
  hp : g.s.pos = p0 + (esB es).length
  hle : g.s.pos ≤ b.length
  ht : b.take g.s.pos = b.take p0 ++ esB es
  hl : g.last = lastE es
  hr : g.rd = rdE es
  hw : g.wr = wrE es
theorem tText32_ok {l v : List UInt8} {k : Nat} (h : tText 32 l = .ok (v, k)) : k = (encU v.length ++ v).length ∧ k ≤ l.length ∧ l.take k = encU v.length ++ v := by
  unfold tText tLim at h
  cases hq : num0 l with
  | error e => rw [hq] at h; cases h
  | ok x =>
    obtain ⟨n, j⟩ := x
    rw [hq] at h
    simp only at h
    have h1 := num0_ok hq
    have h2 := num0_back hq
    split at h
    · rename_i hc
      split at hc
      · cases hc
      · cases hc
        split at h
        · cases h
        · rename_i hn
          cases h
          have hlen : ((l.drop j).take n).length = n := by rw [List.length_take, List.length_drop]; omega
          rw [hlen]
          have h3 : (encU n).length = j := by rw [h2, List.length_take]; omega
          refine ⟨by rw [List.length_append, h3, hlen], by omega, ?_⟩
          rw [List.take_add, h2]
    · cases h
theorem tText32_enc (v t : List UInt8) (h : v.length ≤ 32) : tText 32 (encU v.length ++ (v ++ t)) = .ok (v, (encU v.length).length + v.length) := by
  unfold tText tLim
  rw [num0_enc _ (by omega)]
  simp only
  rw [if_neg (by omega)]
  simp only [List.length_append]
  rw [if_neg (by omega)]
  simp
theorem tLim_ne {most e x : Int} {l : List UInt8} (he : ¬ e = 0) (h : tLim most e l = .error x) : ¬ x = 0 := by
  unfold tLim at h
  cases hq : num0 l with
  | error y => rw [hq] at h; cases h; exact num0_err hq
  | ok y =>
    obtain ⟨n, j⟩ := y
    rw [hq] at h
    simp only at h
    split at h
    · cases h; exact he
    · cases h
theorem tText_ne {most x : Int} {l : List UInt8} (h : tText most l = .error x) : ¬ x = 0 := by
  unfold tText at h
  cases hq : tLim most 1 l with
  | error y => rw [hq] at h; cases h; exact tLim_ne (by decide) hq
  | ok y =>
    obtain ⟨n, j⟩ := y
    rw [hq] at h
    simp only at h
    split at h
    · cases h; decide
    · cases h
theorem fail_ne {s : RS} {e : Int} (he : ¬ e = 0) : ¬ (s.fail e).err = 0 := by
  unfold RS.fail
  split
  · exact he
  · rename_i h
    intro q
    exact h ⟨q, he⟩
theorem fail_stay {s : RS} {e : Int} (h : ¬ s.err = 0) : ¬ (s.fail e).err = 0 := by
  unfold RS.fail
  rw [if_neg (fun q => h q.1)]
  exact h
theorem use_eq (g : GS) : gUse g = (gRise g).take (0 : Nat) tByte := rfl
theorem step_err {g : GS} (h : (gStep g).s.err = 0) : (gUse g).2.err = 0 ∧ 1 ≤ (gUse g).1 ∧ (gUse g).1 ≤ 3 := by
  have h : (gEnd g).err = 0 := h
  unfold gEnd at h
  split at h
  · exact absurd h (fail_ne (by decide))
  · exact ⟨h, by omega⟩
theorem take_ok_of {α : Type} {s : RS} {z : α} {t : List UInt8 → Except Int (α × Nat)} (hne : ∀ l x, t l = .error x → ¬ x = 0) (h : (s.take z t).2.err = 0) : s.err = 0 ∧ ∃ v k, t (s.b.drop s.pos) = .ok (v, k) ∧ s.take z t = (v, { s with pos := s.pos + k, last := s.pos }) := by
  unfold RS.take at h ⊢
  by_cases he : s.err = 0
  · rw [if_pos he] at h ⊢
    cases hq : t (s.b.drop s.pos) with
    | ok y =>
      obtain ⟨v, k⟩ := y
      exact ⟨he, v, k, rfl, rfl⟩
    | error x =>
      rw [hq] at h
      exact absurd h (hne _ _ hq)
  · rw [if_neg he] at h
    exact absurd h he
theorem byte_ne (l : List UInt8) (x : Int) (h : tByte l = .error x) : ¬ x = 0 := by
  unfold tByte at h
  split at h
  · cases h; decide
  · cases h
theorem step_ok {g : GS} (h : (gStep g).s.err = 0) : g.s.err = 0 ∧ ∃ v k c t, tText 32 (g.s.b.drop g.s.pos) = .ok (v, k) ∧ validT v = true ∧ ¬ v ≤ g.last ∧ g.s.b.drop (g.s.pos + k) = c :: t ∧ 1 ≤ c.toNat ∧ c.toNat ≤ 3 ∧
    gStep g = ⟨{ g.s with pos := g.s.pos + k + 1, last := g.s.pos + k }, v, if c.toNat &&& 1 = 0 then g.rd else g.rd ++ [v], if c.toNat &&& 2 = 0 then g.wr else g.wr ++ [v]⟩ := by
  obtain ⟨h1, h2, h3⟩ := step_err h
  rw [use_eq] at h1
  obtain ⟨q1, u, j, q2, q3⟩ := take_ok_of byte_ne h1
  have q0 := q1
  unfold gRise at q0
  split at q0
  · exact absurd q0 (fail_ne (by decide))
  rename_i hv
  have q4 := q0
  unfold gKey at q4
  by_cases hk : validT (gText g).1 = true
  case neg => rw [if_neg hk] at q4; exact absurd q4 (fail_ne (by decide))
  rw [if_pos hk] at q4
  obtain ⟨q5, v, k, q6, q7⟩ := take_ok_of (fun l x => tText_ne) q4
  have eT : gText g = (v, { g.s with pos := g.s.pos + k, last := g.s.pos }) := q7
  have eK : gKey g = { g.s with pos := g.s.pos + k, last := g.s.pos } := by unfold gKey; rw [if_pos hk, eT]
  have eR : gRise g = { g.s with pos := g.s.pos + k, last := g.s.pos } := by unfold gRise; rw [if_neg hv, eK]
  rw [eT] at hv hk
  rw [eR] at q2 q3
  have eU : gUse g = (u, { g.s with pos := g.s.pos + k + j, last := g.s.pos + k }) := by rw [use_eq, eR, q3]
  rw [eU] at h2 h3
  simp only at h2 h3 hv hk q2
  have hc : ∃ c t, g.s.b.drop (g.s.pos + k) = c :: t ∧ u = c.toNat ∧ j = 1 := by
    unfold tByte at q2
    split at q2
    · cases q2
    · rename_i c t hc
      cases q2
      exact ⟨c, t, hc, rfl, rfl⟩
  obtain ⟨c, t, hc, rfl, rfl⟩ := hc
  refine ⟨q5, v, k, c, t, q6, hk, hv, hc, h2, h3, ?_⟩
  have eE : gEnd g = { g.s with pos := g.s.pos + k + 1, last := g.s.pos + k } := by
    unfold gEnd
    rw [eU]
    simp only
    rw [if_neg (by omega)]
  unfold gStep
  rw [eE, eT, eU]
theorem step_fwd {g : GS} {v : List UInt8} {k : Nat} {c : UInt8} {t : List UInt8} (h0 : g.s.err = 0) (h1 : tText 32 (g.s.b.drop g.s.pos) = .ok (v, k)) (h2 : validT v = true) (h3 : ¬ v ≤ g.last) (h4 : g.s.b.drop (g.s.pos + k) = c :: t) (h5 : 1 ≤ c.toNat) (h6 : c.toNat ≤ 3) :
    gStep g = ⟨{ g.s with pos := g.s.pos + k + 1, last := g.s.pos + k }, v, if c.toNat &&& 1 = 0 then g.rd else g.rd ++ [v], if c.toNat &&& 2 = 0 then g.wr else g.wr ++ [v]⟩ := by
  have eT : gText g = (v, { g.s with pos := g.s.pos + k, last := g.s.pos }) := by
    unfold gText RS.take
    rw [if_pos h0, h1]
  have eK : gKey g = { g.s with pos := g.s.pos + k, last := g.s.pos } := by unfold gKey; rw [eT, if_pos h2]
  have eR : gRise g = { g.s with pos := g.s.pos + k, last := g.s.pos } := by unfold gRise; rw [eT, if_neg h3, eK]
  have eU : gUse g = (c.toNat, { g.s with pos := g.s.pos + k + 1, last := g.s.pos + k }) := by
    rw [use_eq, eR]
    unfold RS.take
    rw [if_pos h0]
    simp only [h4, tByte]
  have eE : gEnd g = { g.s with pos := g.s.pos + k + 1, last := g.s.pos + k } := by
    unfold gEnd
    rw [eU]
    simp only
    rw [if_neg (by omega)]
  unfold gStep
  rw [eE, eT, eU]
def Ok1 (p : Ent) : Prop := validT p.1 = true ∧ 1 ≤ p.2 ∧ p.2 ≤ 3
theorem At.snoc {b : List UInt8} {p0 : Nat} {es : List Ent} {g : GS} (h : At b p0 es g) {v : List UInt8} {k : Nat} {c : UInt8} {t : List UInt8} (h1 : k = (encU v.length ++ v).length) (h2 : (b.drop g.s.pos).take k = encU v.length ++ v) (h4 : b.drop (g.s.pos + k) = c :: t) :
    At b p0 (es ++ [(v, c.toNat)]) ⟨{ g.s with pos := g.s.pos + k + 1, last := g.s.pos + k }, v, if c.toNat &&& 1 = 0 then g.rd else g.rd ++ [v], if c.toNat &&& 2 = 0 then g.wr else g.wr ++ [v]⟩ where
  hb := h.hb
  he := h.he
  hp := by
    have := h.hp
    rw [esB_snoc]
    simp only [eB, List.length_append, List.length_cons, List.length_nil] at h1 ⊢
    omega
  hle := by
    show g.s.pos + k + 1 ≤ b.length
    have : (b.drop (g.s.pos + k)).length = (c :: t).length := by rw [h4]
    rw [List.length_drop, List.length_cons] at this
    omega
  ht := by
    show b.take (g.s.pos + k + 1) = _
    rw [List.take_add, List.take_add, h.ht, h2, h4, esB_snoc]
    simp [eB, UInt8.ofNat_toNat]
  hl := by rw [lastE_snoc]
  hr := by rw [rdE_snoc, h.hr]
  hw := by rw [wrE_snoc, h.hw]
theorem le_of_not_lt' {a b : Tx} (h : ¬ a ≤ b) : b < a := by
  rcases Classical.em (b < a) with q | q
  · exact q
  · exact absurd (show a ≤ b from q) h
theorem last_mem {es : List Ent} {x : Tx} (hr : Rises (es.map (·.1))) (hx : x ∈ es.map (·.1)) : x = lastE es ∨ x < lastE es := by
  unfold lastE
  generalize es.map (·.1) = l at hr hx
  induction l with
  | nil => cases hx
  | cons y l ih =>
    have hr' := List.pairwise_cons.1 hr
    cases l with
    | nil => left; simpa using hx
    | cons z l =>
      have e : ((y :: z :: l).getLast?).getD [] = ((z :: l).getLast?).getD [] := by simp [List.getLast?_cons_cons]
      rw [e]
      rcases List.mem_cons.1 hx with q | q
      · right
        rw [q]
        refine hr'.1 _ ?_
        rw [List.getLast?_eq_some_getLast (List.cons_ne_nil _ _)]
        exact List.getLast_mem _
      · exact ih hr'.2 q
theorem rises_snoc {es : List Ent} {p : Ent} (hr : Rises (es.map (·.1))) (h : lastE es < p.1) : Rises ((es ++ [p]).map (·.1)) := by
  rw [List.map_append]
  refine List.pairwise_append.2 ⟨hr, by simp, fun x hx y hy => ?_⟩
  simp only [List.map_cons, List.map_nil, List.mem_singleton] at hy
  subst hy
  rcases last_mem hr hx with q | q
  · rw [q]; exact h
  · exact tx_trans q h
structure Good (es : List Ent) : Prop where
  up : Rises (es.map (·.1))
  ok : ∀ p ∈ es, Ok1 p
theorem run_back {b : List UInt8} {p0 : Nat} {g0 : GS} (h0 : At b p0 [] g0) : ∀ n, (gIter n g0).s.err = 0 → ∃ es, es.length = n ∧ Good es ∧ At b p0 es (gIter n g0)
  | 0, _ => ⟨[], rfl, ⟨List.Pairwise.nil, fun p hp => by cases hp⟩, h0⟩
  | n + 1, h => by
    have h : (gStep (gIter n g0)).s.err = 0 := h
    obtain ⟨q0, v, k, c, t, q1, q2, q3, q4, q5, q6, q7⟩ := step_ok h
    obtain ⟨es, e1, e2, e3⟩ := run_back h0 n q0
    obtain ⟨a1, a2, a3⟩ := tText32_ok q1
    rw [e3.hb] at q1 a2 a3 q4
    refine ⟨es ++ [(v, c.toNat)], by simp [e1], ⟨rises_snoc e2.up (by rw [← e3.hl]; exact le_of_not_lt' q3), fun p hp => ?_⟩, ?_⟩
    · rcases List.mem_append.1 hp with hp | hp
      · exact e2.ok p hp
      · simp only [List.mem_singleton] at hp
        subst hp
        exact ⟨q2, q5, q6⟩
    · show At b p0 _ (gStep (gIter n g0))
      rw [q7]
      exact e3.snoc a1 a3 q4
theorem valid_pos {t : Tx} (h : validT t = true) : 1 ≤ t.length ∧ t.length ≤ 32 := by
  simp only [validT, Bool.and_eq_true, decide_eq_true_eq] at h
  exact h.2
theorem run_fwd {b tail : List UInt8} {p0 : Nat} {g0 : GS} {es : List Ent} (h0 : At b p0 [] g0) (hg : Good es) (hb : b.drop p0 = esB es ++ tail) : ∀ n, n ≤ es.length → At b p0 (es.take n) (gIter n g0)
  | 0, _ => h0
  | n + 1, hn => by
    have ih := run_fwd h0 hg hb n (by omega)
    obtain ⟨p, hp⟩ : ∃ p, es[n] = p := ⟨_, rfl⟩
    have e1 : es.take (n + 1) = es.take n ++ [p] := by rw [List.take_succ_eq_append_getElem (by omega), hp]
    have e2 : es = es.take n ++ p :: es.drop (n + 1) := by
      rw [← hp, ← List.drop_eq_getElem_cons (by omega), List.take_append_drop]
    have hok := hg.ok p (by rw [← hp]; exact List.getElem_mem _)
    obtain ⟨v, u⟩ := p
    obtain ⟨o1, o2, o3⟩ := hok
    simp only at o1 o2 o3
    have hv := valid_pos o1
    have hd : b.drop (gIter n g0).s.pos = encU v.length ++ (v ++ (UInt8.ofNat u :: (esB (es.drop (n + 1)) ++ tail))) := by
      rw [ih.hp, ← List.drop_drop, hb]
      have e3 : esB es = esB (es.take n) ++ (eB (v, u) ++ esB (es.drop (n + 1))) := by
        conv => lhs; rw [e2]
        simp [esB]
      rw [e3, List.append_assoc, List.drop_left]
      simp [eB]
    have ht := tText32_enc v (UInt8.ofNat u :: (esB (es.drop (n + 1)) ++ tail)) hv.2
    rw [← hd] at ht
    have hc : b.drop ((gIter n g0).s.pos + ((encU v.length).length + v.length)) = UInt8.ofNat u :: (esB (es.drop (n + 1)) ++ tail) := by
      rw [← List.drop_drop, hd, ← List.append_assoc, ← List.length_append, List.drop_left]
    have hu : (UInt8.ofNat u).toNat = u := toNat_ofNat (by omega)
    have hlt : ¬ v ≤ (gIter n g0).last := by
      rw [ih.hl]
      have hup := hg.up
      rw [e2, List.map_append] at hup
      have h3 := (List.pairwise_append.1 hup).2.2
      intro hle
      have hlast : lastE (es.take n) < v := by
        unfold lastE
        cases hq : ((es.take n).map (·.1)).getLast? with
        | none =>
          simp only [Option.getD_none]
          cases v with
          | nil => simp at hv
          | cons a l => exact List.nil_lt_cons _ _
        | some x =>
          simp only [Option.getD_some]
          exact h3 x (List.mem_of_getLast? hq) v (by simp)
      exact (show ¬ lastE (es.take n) < v from hle) hlast
    have hs := step_fwd (g := gIter n g0) ih.he (by rw [ih.hb]; exact ht) o1 hlt (by rw [ih.hb]; exact hc) (by rw [hu]; exact o2) (by rw [hu]; exact o3)
    have h5 := ih.snoc (v := v) (k := (encU v.length).length + v.length) (by rw [List.length_append]) (by rw [hd, ← List.append_assoc, ← List.length_append, List.take_left]) hc
    show At b p0 _ (gStep (gIter n g0))
    rw [hs, e1]
    rw [hu] at h5 ⊢
    exact h5
theorem bits13 : ∀ u : Fin 4, 1 ≤ u.val → (if u.val &&& 1 ≠ 0 then 1 else 0) + (if u.val &&& 2 ≠ 0 then 2 else 0) = u.val := by decide
theorem mem_rdE {es : List Ent} {t : Tx} : t ∈ rdE es ↔ ∃ u, (t, u) ∈ es ∧ u &&& 1 ≠ 0 := by
  unfold rdE
  simp only [List.mem_map, List.mem_filter, bne_iff_ne]
  exact ⟨fun ⟨p, ⟨h1, h2⟩, e⟩ => ⟨p.2, by rw [← e]; exact h1, h2⟩, fun ⟨u, h1, h2⟩ => ⟨(t, u), ⟨h1, h2⟩, rfl⟩⟩
theorem mem_wrE {es : List Ent} {t : Tx} : t ∈ wrE es ↔ ∃ u, (t, u) ∈ es ∧ u &&& 2 ≠ 0 := by
  unfold wrE
  simp only [List.mem_map, List.mem_filter, bne_iff_ne]
  exact ⟨fun ⟨p, ⟨h1, h2⟩, e⟩ => ⟨p.2, by rw [← e]; exact h1, h2⟩, fun ⟨u, h1, h2⟩ => ⟨(t, u), ⟨h1, h2⟩, rfl⟩⟩
theorem uniq {es : List Ent} (hr : Rises (es.map (·.1))) {t : Tx} {u v : Nat} (h1 : (t, u) ∈ es) (h2 : (t, v) ∈ es) : u = v := by
  induction es with
  | nil => cases h1
  | cons p es ih =>
    have hr' := List.pairwise_cons.1 hr
    rcases List.mem_cons.1 h1 with q1 | q1 <;> rcases List.mem_cons.1 h2 with q2 | q2
    · rw [← q1] at q2; injection q2 with _ q; exact q.symm
    · have := hr'.1 t (List.mem_map.2 ⟨_, q2, rfl⟩); rw [← q1] at this; exact absurd this (tx_irrefl t)
    · have := hr'.1 t (List.mem_map.2 ⟨_, q1, rfl⟩); rw [← q2] at this; exact absurd this (tx_irrefl t)
    · exact ih hr'.2 q1 q2
theorem rises_rdE {es : List Ent} (h : Rises (es.map (·.1))) : Rises (rdE es) := h.sublist (List.Sublist.map _ List.filter_sublist)
theorem rises_wrE {es : List Ent} (h : Rises (es.map (·.1))) : Rises (wrE es) := h.sublist (List.Sublist.map _ List.filter_sublist)
theorem ent_set {es : List Ent} (h : Good es) : setT (rdE es ++ wrE es) = es.map (·.1) :=
  rises_eq (set_rises _) h.up fun t => by
    rw [set_mem, List.mem_append, mem_rdE, mem_wrE, List.mem_map]
    constructor
    · rintro (⟨u, h1, _⟩ | ⟨u, h1, _⟩) <;> exact ⟨_, h1, rfl⟩
    · rintro ⟨⟨t', u⟩, h1, rfl⟩
      have ho := h.ok _ h1
      have hb := bits13 ⟨u, by have := ho.2.2; simp at this; omega⟩ ho.2.1
      simp only at hb
      have := ho.2.1
      simp only at this
      by_cases q : u &&& 1 ≠ 0
      · exact .inl ⟨u, h1, q⟩
      · by_cases q2 : u &&& 2 ≠ 0
        · exact .inr ⟨u, h1, q2⟩
        · rw [if_neg q, if_neg q2] at hb; omega
theorem ent_bits {es : List Ent} (h : Good es) {t : Tx} {u : Nat} (hm : (t, u) ∈ es) : bitsM (ofM (rdE es) (wrE es)) t = u := by
  have ho := h.ok _ hm
  have hb := bits13 ⟨u, by have := ho.2.2; simp at this; omega⟩ ho.2.1
  simp only at hb
  rw [bits_of]
  have e1 : (t ∈ rdE es) ↔ u &&& 1 ≠ 0 := by
    rw [mem_rdE]
    exact ⟨fun ⟨v, h1, h2⟩ => by rw [uniq h.up hm h1]; exact h2, fun q => ⟨u, hm, q⟩⟩
  have e2 : (t ∈ wrE es) ↔ u &&& 2 ≠ 0 := by
    rw [mem_wrE]
    exact ⟨fun ⟨v, h1, h2⟩ => by rw [uniq h.up hm h1]; exact h2, fun q => ⟨u, hm, q⟩⟩
  simp only [e1, e2]
  exact hb
theorem ent_put {es : List Ent} (h : Good es) : putB (ofM (rdE es) (wrE es)) = encU es.length ++ esB es := by
  unfold putB bodyB esB
  rw [keys3, ent_set h, List.length_map, List.map_map]
  congr 2
  refine List.map_congr_left fun p hp => ?_
  obtain ⟨t, u⟩ := p
  show entryB _ t = eB (t, u)
  unfold entryB eB
  rw [ent_bits h hp]
theorem ent_norm {es : List Ent} (h : Good es) (hl : es.length ≤ 64) : isNorm (rdE es) (wrE es) = true := by
  have a1 : (rdE es).all validT = true := by
    rw [List.all_eq_true]
    intro t ht
    obtain ⟨u, hu, _⟩ := mem_rdE.1 ht
    exact (h.ok _ hu).1
  have a2 : (wrE es).all validT = true := by
    rw [List.all_eq_true]
    intro t ht
    obtain ⟨u, hu, _⟩ := mem_wrE.1 ht
    exact (h.ok _ hu).1
  have := norm_ok_of a1 a2 (by rw [ent_set h, List.length_map]; exact hl)
  unfold isNorm
  rw [this, set_of_rises (rises_rdE h.up), set_of_rises (rises_wrE h.up)]
  simp
theorem norm_of_is {r k : List Tx} (h : isNorm r k = true) : normF r k = ((r, k), 0) := by
  unfold isNorm at h
  have h := of_decide_eq_true h
  generalize normF r k = x at h
  obtain ⟨⟨a, b⟩, e⟩ := x
  obtain ⟨h1, h2, h3⟩ := h
  simp only at h1 h2 h3
  rw [h1, h2, h3]
def entsOf (r k : List Tx) : List Ent := (setT (r ++ k)).map fun t => (t, bitsM (ofM r k) t)
theorem ents_good {r k : List Tx} (h : isNorm r k = true) : Good (entsOf r k) ∧ (entsOf r k).length ≤ 64 ∧ rdE (entsOf r k) = r ∧ wrE (entsOf r k) = k := by
  obtain ⟨h1, h2, h3, h4, h5⟩ := norm_ok (norm_of_is h)
  have em : (entsOf r k).map (·.1) = setT (r ++ k) := by unfold entsOf; rw [List.map_map]; exact List.map_id' _
  have hm : ∀ p, p ∈ entsOf r k ↔ (p.1 ∈ r ∨ p.1 ∈ k) ∧ p.2 = bitsM (ofM r k) p.1 := fun p => by
    unfold entsOf
    rw [List.mem_map]
    constructor
    · rintro ⟨t, ht, rfl⟩
      rw [set_mem, List.mem_append] at ht
      exact ⟨ht, rfl⟩
    · rintro ⟨a, b⟩
      exact ⟨p.1, by rw [set_mem, List.mem_append]; exact a, by rw [← b]⟩
  have up : Rises ((entsOf r k).map (·.1)) := by rw [em]; exact set_rises _
  have hr' : Rises r := by rw [h3]; exact set_rises _
  have hk' : Rises k := by rw [h4]; exact set_rises _
  refine ⟨⟨up, fun p hp => ?_⟩, by unfold entsOf; rw [List.length_map]; exact h5, ?_, ?_⟩
  · obtain ⟨a, b⟩ := (hm p).1 hp
    refine ⟨?_, ?_⟩
    · rcases a with a | a
      · exact List.all_eq_true.1 h1 _ a
      · exact List.all_eq_true.1 h2 _ a
    · rw [b, bits_of]
      rcases a with a | a <;> (rw [if_pos a]; split <;> omega)
  · refine rises_eq (rises_rdE up) hr' fun t => ?_
    rw [mem_rdE]
    constructor
    · rintro ⟨u, hu, hb⟩
      obtain ⟨a, b⟩ := (hm _).1 hu
      simp only at a b
      rw [b, bits_of] at hb
      apply Classical.byContradiction
      intro hn
      rw [if_neg hn] at hb
      split at hb <;> simp at hb
    · intro ht
      refine ⟨bitsM (ofM r k) t, (hm _).2 ⟨.inl ht, rfl⟩, ?_⟩
      rw [bits_of, if_pos ht]
      split <;> decide
  · refine rises_eq (rises_wrE up) hk' fun t => ?_
    rw [mem_wrE]
    constructor
    · rintro ⟨u, hu, hb⟩
      obtain ⟨a, b⟩ := (hm _).1 hu
      simp only at a b
      rw [b, bits_of] at hb
      apply Classical.byContradiction
      intro hn
      rw [if_neg hn] at hb
      split at hb <;> simp at hb
    · intro ht
      refine ⟨bitsM (ofM r k) t, (hm _).2 ⟨.inr ht, rfl⟩, ?_⟩
      rw [bits_of, if_pos ht]
      split <;> decide
theorem init_at {b : List UInt8} {n j : Nat} (h : num0 b = .ok (n, j)) (hn : n ≤ 64) : gInit b = (n, ⟨b, j, 0, 0, 0⟩) := by
  unfold gInit RS.take tLim
  simp only [if_true, List.drop_zero]
  rw [h]
  simp only
  rw [if_neg (by omega)]
  simp
theorem at0 {b : List UInt8} {n j : Nat} (h : num0 b = .ok (n, j)) : At b j [] ⟨⟨b, j, 0, 0, 0⟩, [], [], []⟩ :=
  ⟨rfl, rfl, by simp [esB], (num0_ok h).2.2, by simp [esB], rfl, rfl, rfl⟩
theorem get_put {r k : List Tx} (tail : List UInt8) (h : isNorm r k = true) : getF (putB (ofM r k) ++ tail) = (((r, k), (putB (ofM r k)).length), 0) := by
  obtain ⟨hg, hl, e1, e2⟩ := ents_good h
  generalize entsOf r k = es at hg hl e1 e2
  rw [← e1, ← e2, ent_put hg]
  have hb : num0 (encU es.length ++ esB es ++ tail) = .ok (es.length, (encU es.length).length) := by
    rw [List.append_assoc]
    exact num0_enc _ (by omega)
  generalize hB : encU es.length ++ esB es ++ tail = b at hb
  have ha := run_fwd (at0 hb) hg (tail := tail) (by rw [← hB, List.append_assoc, List.drop_left]) es.length (Nat.le_refl _)
  rw [List.take_length] at ha
  have hA : gAll b = gIter es.length ⟨⟨b, (encU es.length).length, 0, 0, 0⟩, [], [], []⟩ := by
    unfold gAll
    rw [init_at hb hl]
  rw [← hA] at ha
  unfold getF
  rw [if_pos ha.he]
  have hrest : (gAll b).s.rest = b.length - (gAll b).s.pos := by unfold RS.rest; rw [if_pos ha.he, ha.hb]
  have hle := ha.hle
  have hp := ha.hp
  rw [hrest, ha.hr, ha.hw]
  congr 2
  rw [List.length_append]
  omega
theorem put_get {b : List UInt8} (h : (getF b).2 = 0) : isNorm (getF b).1.1.1 (getF b).1.1.2 = true ∧ (getF b).1.2 ≤ b.length ∧ putB (ofM (getF b).1.1.1 (getF b).1.1.2) = b.take (getF b).1.2 := by
  by_cases he : (gAll b).s.err = 0
  case neg => unfold getF at h; rw [if_neg he] at h; exact absurd h he
  have hn : ∃ n j, num0 b = .ok (n, j) ∧ n ≤ 64 := by
    have h1 : ∀ n, ∀ g : GS, ¬ g.s.err = 0 → ¬ (gIter n g).s.err = 0 := by
      intro n g hg
      induction n with
      | zero => exact hg
      | succ n ih => exact fun q => ih (step_ok (g := gIter n g) q).1
    have h2 : (gInit b).2.err = 0 := Classical.byContradiction fun q => h1 (gInit b).1 ⟨(gInit b).2, [], [], []⟩ q he
    obtain ⟨_, v, k, h3, _⟩ := take_ok_of (fun l x hx => tLim_ne (by decide) hx) h2
    have h4 := tLim_le h3
    unfold tLim at h3
    cases hq : num0 b with
    | error e => simp only [List.drop_zero] at h3; rw [hq] at h3; cases h3
    | ok y =>
      obtain ⟨n, j⟩ := y
      simp only [List.drop_zero] at h3
      rw [hq] at h3
      simp only at h3
      split at h3
      · cases h3
      · cases h3
        exact ⟨_, _, rfl, by omega⟩
  obtain ⟨n, j, hb, hn⟩ := hn
  have hA : gAll b = gIter n ⟨⟨b, j, 0, 0, 0⟩, [], [], []⟩ := by
    unfold gAll
    rw [init_at hb hn]
  obtain ⟨es, e1, e2, e3⟩ := run_back (at0 hb) n (by rw [← hA]; exact he)
  rw [← hA] at e3
  have hrest : (gAll b).s.rest = b.length - (gAll b).s.pos := by unfold RS.rest; rw [if_pos he, e3.hb]
  have hle := e3.hle
  have hg : getF b = (((rdE es, wrE es), (gAll b).s.pos), 0) := by
    unfold getF
    rw [if_pos he, hrest, e3.hr, e3.hw]
    congr 2
    omega
  rw [hg]
  refine ⟨ent_norm e2 (by omega), hle, ?_⟩
  rw [ent_put e2]
  show _ = b.take (gAll b).s.pos
  rw [e3.ht, e1, num0_back hb]
end Go.Proofs.YtjlaomcankmdjaaGreat

namespace Go.Proofs.YtjlaomcankmdjaaGreat
open Go.Proofs.Eng Go.Proofs.Codec Go.Proofs.Foot Go.Proofs.Journal
theorem jbodyB_len (m : TM) : ∀ l : List Tx, (∀ t ∈ l, t.length ≤ 32) → (bodyB m l).length ≤ 43 * l.length
  | [], _ => by simp [bodyB]
  | t :: l, h => by
    have h1 := entryB_len m t (h t (by simp))
    have h2 := jbodyB_len m l (fun x hx => h x (by simp [hx]))
    unfold bodyB at h2 ⊢
    simp only [List.map_cons, List.flatten_cons, List.length_append, List.length_cons]
    omega
theorem jputB_len {r k : List Tx} (h : isNorm r k = true) : (putB (ofM r k)).length ≤ 4000 := by
  have h1 := (norm_short h).2
  rw [of_len3] at h1
  have h2 := jbodyB_len (ofM r k) _ (keys3_short h)
  have h3 := encU_len64 (n := (keysM (ofM r k) 3).length) (by omega)
  unfold putB
  rw [List.length_append]
  omega
structure EOk (e : EE) : Prop where
  sq : 0 ≤ e.sq ∧ e.sq ≤ 9223372036854775807
  ep : 0 ≤ e.ep ∧ e.ep ≤ 9223372036854775807
  rt : rightP e.p = 0
  ft : PFit e.p
theorem entB_app (b : List UInt8) (e : EE) : entB b e = b ++ (encU e.sq.toNat ++ (encU e.ep.toNat ++ (encU (reqB [] e.p.q).length ++ (reqB [] e.p.q ++ (UInt8.ofNat e.p.how.toNat :: putB (ofM e.p.rd e.p.wr)))))) := by
  unfold entB
  simp
theorem entB_len {e : EE} (h : EOk e) : (entB [] e).length ≤ 5100 := by
  obtain ⟨hc, hh, hn⟩ := right_ok h.rt
  have h1 := reqB_len (b := []) h.ft.q hc
  have h2 := jputB_len (show isNorm e.p.rd e.p.wr = true from hn)
  have := h.sq
  have := h.ep
  have u1 := encU_len64 (show e.sq.toNat < 2 ^ 64 by omega)
  have u2 := encU_len64 (show e.ep.toNat < 2 ^ 64 by omega)
  simp only [List.length_nil] at h1
  have u3 := encU_len64 (show (reqB [] e.p.q).length < 2 ^ 64 by omega)
  rw [entB_app]
  simp only [List.length_append, List.length_cons, List.length_nil]
  omega
theorem putEn_ok {e : EE} (h : EOk e) : putEn [] e = (entB [] e, 0) := by
  unfold putEn
  have := h.sq
  have := h.ep
  rw [if_neg (by omega), if_neg (fun q => q h.rt)]
theorem Lf.rest {s : RS} {B r : List UInt8} (h : Lf s B r) : s.rest = r.length ∧ B.drop (B.length - s.rest) = r := by
  obtain ⟨h1, rfl, h3⟩ := h
  have hl := congrArg List.length h3
  rw [List.length_drop] at hl
  unfold RS.rest
  rw [if_pos h1]
  refine ⟨hl, ?_⟩
  by_cases q : s.pos ≤ s.b.length
  · rw [show s.b.length - (s.b.length - s.pos) = s.pos by omega, h3]
  · rw [show s.b.length - (s.b.length - s.pos) = s.b.length by omega, ← h3, List.drop_length, List.drop_eq_nil_iff.2 (by omega)]
theorem getEn_put {e : EE} (h : EOk e) : getEn (entB [] e) = some e := by
  obtain ⟨hc, hh, hn⟩ := right_ok h.rt
  have hl := entB_len h
  have h1 := reqB_len (b := []) h.ft.q hc
  have hg := getR_put hc h.ft.q
  have hsq := h.sq
  have hep := h.ep
  have hp := get_put [] (show isNorm e.p.rd e.p.wr = true from hn)
  rw [List.append_nil] at hp
  have hb := entB_app [] e
  rw [List.nil_append] at hb
  simp only [List.length_nil] at h1
  generalize entB [] e = B at hl hb ⊢
  have l0 : Lf ⟨B, 0, 0, 0, 0⟩ B (encU e.sq.toNat ++ (encU e.ep.toNat ++ (encU (reqB [] e.p.q).length ++ (reqB [] e.p.q ++ (UInt8.ofNat e.p.how.toNat :: putB (ofM e.p.rd e.p.wr)))))) := by rw [← hb]; exact Lf.start B
  have hlen : (reqB [] e.p.q).length ≤ B.length := by rw [hb]; simp only [List.length_append, List.length_cons]; omega
  obtain ⟨s1, e1, l1⟩ := l0.num (by omega)
  obtain ⟨s2, e2, l2⟩ := l1.num (by omega)
  obtain ⟨s3, e3, l3⟩ := l2.text (most := (B.length : Int)) (by omega) (by omega)
  obtain ⟨s4, e4, l4⟩ := l3.byte
  have hho : (UInt8.ofNat e.p.how.toNat).toNat = e.p.how.toNat := toNat_ofNat (by omega)
  rw [hho] at e4
  have q1 : ge1 B = (e.sq.toNat, s1) := e1
  have q2 : ge2 B = (e.ep.toNat, s2) := by unfold ge2; rw [q1]; exact e2
  have q3 : ge3 B = (reqB [] e.p.q, s3) := by unfold ge3; rw [q2]; exact e3
  have q4 : ge4 B = (e.p.how.toNat, s4) := by unfold ge4; rw [q3]; exact e4
  obtain ⟨r1, r2⟩ := l4.rest
  have q5 : geF B = (((e.p.rd, e.p.wr), (putB (ofM e.p.rd e.p.wr)).length), 0) := by unfold geF; rw [q4]; simp only; rw [r2, hp]
  unfold getEn
  rw [q4, q1, q2, q3]
  simp only
  rw [if_neg (by rintro (q | q | q | q) <;> first | exact q l4.1 | omega), hg]
  unfold geQ
  simp only
  rw [q5, q4, q1, q2]
  simp only
  rw [if_pos ⟨trivial, r1.symm⟩]
  have a1 : ((e.sq.toNat : Nat) : Int) = e.sq := by omega
  have a2 : ((e.ep.toNat : Nat) : Int) = e.ep := by omega
  have a3 : ((e.p.how.toNat : Nat) : Int) = e.p.how := by omega
  rw [a1, a2, a3]
def Run (ep : Int) : Int → Nat → List EE → Prop
  | _, _, [] => True
  | last, n, e :: l => e.sq = (n : Int) ∧ last ≤ e.ep ∧ e.ep ≤ ep ∧ EOk e ∧ Run ep e.ep (n + 1) l
structure LOk (L : LE) : Prop where
  n : L.l.length ≤ 65536
  ep : 0 ≤ L.ep ∧ L.ep ≤ 9223372036854775807
  run : Run L.ep 0 0 L.l
theorem Run.snoc {ep : Int} : ∀ {l : List EE} {last : Int} {n : Nat} {e : EE}, Run ep last n l → e.sq = ((n + l.length : Nat) : Int) → (∀ x ∈ l, x.ep ≤ e.ep) → last ≤ e.ep → e.ep ≤ ep → EOk e → Run ep last n (l ++ [e])
  | [], last, n, e, _, h1, _, h3, h4, h5 => ⟨by simpa using h1, h3, h4, h5, trivial⟩
  | x :: l, last, n, e, h, h1, h2, _, h4, h5 => ⟨h.1, h.2.1, h.2.2.1, h.2.2.2.1, Run.snoc h.2.2.2.2 (by rw [h1, List.length_cons]; omega) (fun u hu => h2 u (List.mem_cons_of_mem _ hu)) (h2 x List.mem_cons_self) h4 h5⟩
theorem Run.mono {ep ep' : Int} (he : ep ≤ ep') : ∀ {l : List EE} {last : Int} {n : Nat}, Run ep last n l → Run ep' last n l
  | [], _, _, _ => trivial
  | x :: l, last, n, h => ⟨h.1, h.2.1, by have := h.2.2.1; omega, h.2.2.2.1, Run.mono he h.2.2.2.2⟩
theorem Run.le {ep : Int} : ∀ {l : List EE} {last : Int} {n : Nat}, Run ep last n l → ∀ x ∈ l, x.ep ≤ ep ∧ EOk x
  | y :: l, last, n, h, x, hx => by
    rcases List.mem_cons.1 hx with rfl | hx
    · exact ⟨h.2.2.1, h.2.2.2.1⟩
    · exact Run.le h.2.2.2.2 x hx
end Go.Proofs.YtjlaomcankmdjaaGreat
