import Derived.Test.YtjlaomcankmdjaaGreatJk5
import Derived.KernelRfl
/- Parts: HW9 HW10 WW6 WLv WW7 WW8 WW9 WW10 WW11 WW12 WW13 WW14 HW11 HW12 HLaw3 HW13 HW14 HW15. -/
set_option linter.unusedSimpArgs false
set_option linter.unusedVariables false
set_option linter.unusedSectionVars false
namespace Go.Proofs.YtjlaomcankmdjaaGreat
open Go.RowKit Go.Proofs.Eng Go.Proofs.Codec Go.Proofs.Foot Go.Proofs.Journal
set_option linter.unusedVariables false set_option maxRecDepth 10000
attribute [local irreducible] T TL LV TH TA
set_option maxHeartbeats 6400000
theorem outM_low {w w' : World} {base : Nat} {y : SL} {ys : List EM} {l : List EE} {Z : List Nat} (O : OutM w base y ys l) (m : Eng.Mod Z w w') (hZ : ∀ b ∈ Z, b < base) : OutM w' base y ys l :=
 ⟨O.ow.modL m (fun b hb q => by have := (O.ow.bl b hb).1; have := hZ b q; omega), O.ee, fun z hz => ⟨(O.ek z hz).1.modL m (fun b hb q => by have := ((O.ek z hz).1.bl b hb).1; have := hZ b q; omega), (O.ek z hz).2⟩⟩
theorem outM_mod {w w' : World} {base : Nat} {y : SL} {ys : List EM} {l : List EE} {Z : List Nat} (O : OutM w base y ys l) (m : Eng.Mod Z w w') (h1 : ∀ b ∈ blkL y.1, b ∉ Z) (h2 : ∀ u ∈ ys, ∀ b ∈ pmB u.m, b ∉ Z) : OutM w' base y ys l :=
 ⟨O.ow.modL m h1, O.ee, fun z hz => ⟨(O.ek z hz).1.modL m (h2 z hz), (O.ek z hz).2⟩⟩
theorem tn_ren {o1 o2 o' : Nat → Nat} {w w' : World} (h : ∀ b, o1 b = 0 ↔ o2 b = 0) (t : Tn o1 o' w w') : Tn o2 o' w w' := by
 obtain ⟨⟨S, m, s⟩, n, z⟩ := t
 exact ⟨⟨S, m, fun b hb q => s b hb ((h b).2 q)⟩, fun b hb => (n b hb).elim (fun q => .inl (fun e => q ((h b).2 e))) .inr, z⟩
theorem HI.same {sz m : Nat} {cs : List SR} {z z' : SR} {ep : Int} {pre : List EP} {ls : List (List EP)} {l : List EP} (H : HI sz cs z ep pre ls l m) (h1 : z'.f = z.f) (h2 : z'.ys = z.ys) (h3 : z'.k = z.k) (h4 : z'.fl = z.fl) : HI sz cs z' ep pre ls l m :=
 ⟨H.g, H.ch, ⟨by rw [h1]; exact H.la.f, by rw [h2]; exact H.la.es, by rw [h3]; exact H.la.b, by rw [h3]; exact H.la.off, by rw [h3]; exact H.la.lf⟩, H.hm, by rw [h3]; exact H.sf, by rw [h4]; exact H.fl, H.ep⟩
theorem opd_app {k : DK} (h1 : k.off = false) (h2 : k.lf = -1) (B : List UInt8) : opD k (appD B) = if 4194304 < k.b.length + B.length then (k, 5) else ({ k with b := k.b ++ B }, 0) := by
 obtain ⟨b, sf, lf, off⟩ := k
 simp only at h1 h2
 subst h1 h2
 unfold opD appD
 simp only
 rw [if_neg (by decide)]
 rfl
theorem opd_syn {k : DK} (h1 : k.off = false) (h2 : k.lf = -1) : opD k synD = ({ k with sf := k.b.length }, 0) := by
 obtain ⟨b, sf, lf, off⟩ := k
 simp only at h1 h2
 subst h1 h2
 unfold opD synD
 simp only
 rw [if_neg (by decide)]
 rfl
theorem entB_eq {ep : Int} {nx i : Nat} {p : PE} (hep : 0 ≤ ep ∧ ep ≤ 9223372036854775807) (hn : nx + i ≤ 70000) (hr : rightP p = 0) (hf : PFit p) : EOk ⟨((nx + i : Nat) : Int), ep, p⟩ := ⟨by simp only; omega, by simp only; omega, hr, hf⟩
def WrOut (w w' : World) (base sb szn : Nat) (pre : List EP) (whole : List EP) (e : EP) (cs : List SR) (h : Nat → Nat) (n : Int) (code : Int) : Prop :=
 ∃ R' cs' z' e' ls' l' m' h', ShM w' base sb (szn : Int) R' cs' z' e' h' ∧ HI szn cs' z' e' pre ls' l' m' ∧ Tn h h' w w' ∧ cs'.length ≤ cs.length + 1 ∧ (¬ code = 0 ∧ (pre ++ ls'.flatten) ++ l' = whole ∨ code = 0 ∧ n = ((logF L0 whole).l.length : Int) ∧ (pre ++ ls'.flatten) ++ l' = whole ++ [e])
section
variable {base sb szn m : Nat} {ep0 : Int} {R : SL} {cs : List SR} {z : SR} {h : Nat → Nat} {pre : List EP} {ls : List (List EP)} {l : List EP}
theorem SWrite_c (ep : Int) (A : Option Addr) (n c : Nat) (xs : List PM) (w : World) (S : ShM w base sb (szn : Int) R cs z ep0 h) (H : HI szn cs z ep0 pre ls l m) (hc : cs.length ≤ 900) (hsz : szn ≤ 4194304)
  (hp : Rd w A n 7 (rowV pmV xs)) (hx : ∀ x ∈ xs, PLies w x ∧ PFit x.p) (hn : n ≤ 100000) (hep : -9223372036854775808 ≤ ep ∧ ep ≤ 9223372036854775807) :
  Ret Tryz.prog 39 [pB sb, .int .i64 ep, .slice A n c] w (fun v w' => ∃ f code, v = .tuple #[.int .i64 f, .int .i64 code] ∧ WrOut w w' base sb szn pre ((pre ++ ls.flatten) ++ l) (ep, xs.map (·.p)) cs h f code) := by
 have V := S.view (by omega)
 have hxl : xs.length = n := by have := hp.1; rw [rowV_len pmV_len] at this; omega
 have hLo := H.ok
 have hLn := hLo.n
 have hLe := hLo.ep
 have hHe : ep0 = (allE pre ls l).ep := H.ep
 have hnx := H.next
 obtain ⟨ps, hps⟩ : ∃ ps, xs.map (·.p) = ps := ⟨_, rfl⟩
 have hpsl : ps.length = n := by rw [← hps, List.length_map]; exact hxl
 have hpf : ∀ p ∈ ps, PFit p := fun p hp' => by rw [← hps] at hp'; obtain ⟨x, hm, rfl⟩ := List.mem_map.1 hp'; exact (hx x hm).2
 rw [hps]
 obtain ⟨L, hL⟩ : ∃ L, allE pre ls l = L := ⟨_, rfl⟩
 have hLd : logF L0 ((pre ++ ls.flatten) ++ l) = L := hL
 rw [hL] at hLo hLn hLe hHe hnx
 obtain ⟨nx, hnxd⟩ : ∃ nx, L.l.length = nx := ⟨_, rfl⟩
 rw [hnxd] at hnx hLn
 have hbs : base ≤ w.heap.size := by have := S.old sb (by rw [S.h1]; decide); omega
 have same : ∀ (w' : World) (f code : Int), Ext w w' → ¬ code = 0 → WrOut w w' base sb szn pre ((pre ++ ls.flatten) ++ l) (ep, ps) cs h f code := fun w' f code e q => ⟨R, cs, z, ep0, ls, l, m, h, S.ext e, H, Tn.ext e, Nat.le_succ _, .inl ⟨q, rfl⟩⟩
 refine ret_T (n := 123) Tryz.func39 rfl rfl ?_
 repeat (first | refine T_seq ?_ | refine T_region ?_ | refine T_cond_false rfl ?_ | refine T_skip ?_ | refine TL_pnil_f TE (hk := ?_) | refine TL_nil ?_ | refine TL_move (hk := ?_) | refine TL_assign (hk := ?_))
 refine TL_call TE (hc := Next_c w V) (hk := ?_)
 rintro _ w1 ⟨rfl, e1⟩
 rw [hnx]
 have S1 := S.ext e1
 have hb1 := S1.blk
 have z1 := e1.size
 by_cases d1 : ep < ep0
 ·repeat (first | refine T_seq ?_ | refine T_region ?_ | refine T_cond_true rfl ?_ | refine TL_lt_t (hk := ?_) | refine TL_nil ?_ | refine TL_move (hk := ?_) | refine TL_assign (hk := ?_) | refine TL_load TE (hk := ?_) | refine TL_fieldAddr TE (hk := ?_) | refine TL_no (hk := ?_) | refine TL_pick_t (hk := ?_) | refine TL_nilCheck (hk := ?_))
  exact T_ret2 rfl rfl rfl ⟨_, _, rfl, same _ _ _ e1 (by decide)⟩
 have d2 : ¬ ep < 0 := by omega
 by_cases d3 : 65536 < nx + n
 ·have d3' : (65536 : Int) < (nx : Int) + (n : Int) := by omega
  repeat (first | refine T_seq ?_ | refine T_region ?_ | refine T_cond_true rfl ?_ | refine T_cond_false rfl ?_ | refine T_skip ?_ | refine TL_add (hk := ?_) | refine TL_lt_f (hk := ?_) | refine TL_gt_t (hk := ?_) | refine TL_nil ?_ | refine TL_move (hk := ?_) | refine TL_assign (hk := ?_) | refine TL_load TE (hk := ?_) | refine TL_fieldAddr TE (hk := ?_) | refine TL_len TE (hk := ?_) | refine TL_yes (hk := ?_) | refine TL_pick_f (hk := ?_) | refine TL_nilCheck (hk := ?_))
  exact T_ret2 rfl rfl rfl ⟨_, _, rfl, same _ _ _ e1 (by decide)⟩
 have d3' : ¬ (65536 : Int) < (nx : Int) + (n : Int) := by omega
 obtain ⟨es, hes⟩ : ∃ es, newE L ep ps = es := ⟨_, rfl⟩
 have hesl : es.length = n := by rw [← hes, newE_len]; exact hpsl
 have hp1 := hp.be e1
 repeat (first | refine T_seq ?_ | refine T_region ?_ | refine T_cond_false rfl ?_ | refine T_block ?_ | refine T_skip ?_ | refine TL_add (hk := ?_) | refine TL_lt_f (hk := ?_) | refine TL_gt_f (hk := ?_) | refine TL_nil ?_ | refine TL_move (hk := ?_) | refine TL_assign (hk := ?_) | refine TL_load TE (hk := ?_) | refine TL_fieldAddr TE (hk := ?_) | refine TL_len TE (hk := ?_) | refine TL_yes (hk := ?_) | refine TL_pick_f (hk := ?_) | refine TL_nilCheck (hk := ?_))
 refine T_loop (ι := Nat × SL × SL) (fun i => [(41, .int .i64 (i.1 : Int)), (40, .int .i64 (n : Int)), (39, .slice A n c), (10, sL i.2.1), (9, sL i.2.2), (8, .int .i64 (nx : Int)), (1, .int .i64 ep), (0, pB sb)])
  (fun i w' => i.1 ≤ n ∧ Ext w1 w' ∧ Own w' w1.heap.size 5 1 i.2.1.1 i.2.1.2.1 i.2.1.2.2 (bv (frB es i.1)) ∧ (∃ ys, OutM w' w1.heap.size i.2.2 ys (es.take i.1) ∧ ∀ b ∈ blkL i.2.1.1, b ∉ blkL i.2.2.1 ∧ ∀ u ∈ ys, b ∉ pmB u.m) ∧ (∀ j, j < i.1 → rightP (ps.getD j pe0) = 0) ∧ (frB es i.1).length ≤ 6000 * i.1) (fun i => n - i.1) (0, (none, 0, 0), (none, 0, 0)) (.c rfl (.c rfl (.c rfl (.c rfl (.c rfl (.c rfl (.c rfl (.c rfl (.n)))))))))
  ⟨Nat.zero_le _, Mod.refl _ _, by unfold frB; exact Own.nil _ _ _ _, ⟨[], ⟨Own.nil _ _ _ _, rfl, fun z hz => (by cases hz)⟩, fun b hb => (by cases hb)⟩, fun j hj => absurd hj (Nat.not_lt_zero _), by unfold frB; simp⟩ ?_
 rintro ⟨i, Z, Y⟩ w2 ⟨hi, e2, oZ, ⟨ys, oY, dis⟩, hright, hfl⟩ ih
 simp only at hi e2 oZ oY dis hright hfl ih ⊢
 have z2 := e2.size
 have lZ := oZ.len
 simp only [bv_length, Nat.mul_one] at lZ
 have lY := oY.len
 rw [List.length_take] at lY
 have hp2 := hp1.be e2
 by_cases hlt : i < n
 ·have hA : A ≠ none := by obtain ⟨_, _, hq, _⟩ := hp2.2 (by omega); rw [hq]; simp
  have t1 := rowV_elem pmV_len xs i pm0 (by omega)
  have hin := in_at (xs := xs) (i := i) (by omega)
  have hpa := map_at xs i
  rw [hps] at hpa
  obtain ⟨hX, hF⟩ := hx _ hin
  obtain ⟨x, hxd⟩ : ∃ x, xs.getD i pm0 = x := ⟨_, rfl⟩
  rw [hxd] at t1 hpa hX hF
  have hX2 := (hX.be e1).be e2
  have hlt2 : (i : Int) < (n : Int) := by omega
  repeat (first | refine T_seq ?_ | refine T_region ?_ | refine T_cond_true rfl ?_ | refine T_block ?_ | refine T_skip ?_ | refine TL_lt_t (hk := ?_) | refine TL_nil ?_ | refine TL_move (hk := ?_) | refine TL_indexAddrn TE (hk := ?_))
  refine TL_loada TE (cs := pmV x) (hx := rfl) (ht := rfl) (hi := rfl) (hr := hp2) (hc := t1) (h0 := Nat.succ_pos _) (hk := ?_)
  --
  refine TL_alloc TE (hk := ?_); intro b3 w3 e3 h3 h3' k3
  repeat (refine TL_assign (hk := ?_))
  refine TL_storea TE (hk := ?_); intro w4 m4 z4 k4
  replace k4 : Blk w4 b3 45 (pmV x) := k4
  have z3 := e3.size
  have e24 : Ext w2 w4 := e3.step m4 (fun u hu => .inr (by rw [List.mem_singleton.1 hu]; omega))
  have hX4 := hX2.be e24
  clear k3
  repeat (first | refine T_seq ?_ | refine T_region ?_ | refine TL_nil ?_)
  refine TL_loadb TE (cs := pmV x) (o := 0) rfl rfl k4 rfl rfl (Nat.succ_pos _) (hk := ?_)
  --
  refine TL_call TE (hc := Right_c x w4 hX4 hF) (hk := ?_)
  rintro _ w5 ⟨rfl, e5⟩
  have k5 := k4.be e5
  have e25 := e24.ext e5
  by_cases hr0 : rightP x.p = 0
  ·have hr0' : ((rightP x.p : Nat) : Int) = 0 := by omega
   have hE : EOk ⟨((nx + i : Nat) : Int), ep, x.p⟩ := entB_eq (by omega) (by omega) hr0 hF
   have hEl := entB_len hE
   have hsum : (nx : Int) + (i : Int) = ((nx + i : Nat) : Int) := by omega
   obtain ⟨xe, hxe⟩ : ∃ xe : EM, xe = ⟨((nx + i : Nat) : Int), ep, x⟩ := ⟨_, rfl⟩
   have hX5 := hX4.be e5
   have hei : es[i]'(by omega) = ⟨((nx + i : Nat) : Int), ep, x.p⟩ := by
    have := newE_at L ep ps i (by omega)
    simp only [← hes]
    rw [this, hnxd, hpa]
   have hgd : es.getD i (emE em0) = ⟨((nx + i : Nat) : Int), ep, x.p⟩ := by rw [List.getD_eq_getElem?_getD, List.getElem?_eq_getElem (by omega), ← hei]; rfl
   have hfs := frB_succ es i (by omega) (emE em0)
   rw [hgd, putEn_ok hE] at hfs
   have hts : es.take (i + 1) = es.take i ++ [⟨((nx + i : Nat) : Int), ep, x.p⟩] := by rw [List.take_succ_eq_append_getElem (by omega), hei]
   repeat (first | refine T_seq ?_ | refine T_region ?_ | refine T_cond_false rfl ?_ | refine T_skip ?_ | refine TL_add (hk := ?_) | refine TL_ne_f (hk := ?_) | refine TL_nil ?_ | refine TL_move (hk := ?_) | refine TL_assign (hk := ?_))
   refine TL_loadb TE (cs := pmV x) (o := 0) rfl rfl k5 rfl rfl (Nat.succ_pos _) (hk := ?_)
   repeat (refine TL_build TE (hk := ?_))
   rw [hsum]
   refine TL_call TE (hc := EPut_c ⟨((nx + i : Nat) : Int), ep, x⟩ none 0 0 [] w5 hX5 hF (by simp only; omega) (by simp only; omega) (Own.nil w5 w5.heap.size 5 1).rd (by omega)) (hk := ?_)
   rintro _ w6 ⟨A6, n6, c6, rfl, e6, o6⟩
   have hput : putEn [] (emE ⟨((nx + i : Nat) : Int), ep, x⟩) = (entB [] ⟨((nx + i : Nat) : Int), ep, x.p⟩, 0) := putEn_ok hE
   rw [hput] at o6 ⊢
   simp only at o6
   have l6 := o6.len
   simp only [bv_length, Nat.mul_one] at l6
   have c6' := o6.cap.1
   repeat (first | refine T_seq ?_ | refine T_region ?_ | refine TL_nil ?_ | refine TL_move (hk := ?_) | refine TL_assign (hk := ?_) | refine TL_extract (hk := ?_))
   refine TL_call TE (hc := EGet_c A6 n6 c6 _ w6 o6.rd (by omega) c6') (hk := ?_)
   rintro _ w7 ⟨_, qe, rfl, e7, ⟨xg, rfl, og, hg⟩⟩
   rw [getEn_put hE] at hg
   obtain ⟨rfl, hge⟩ := hg
   have z6 := e6.size
   have z7 := e7.size
   have z25 := e25.size
   repeat (first | refine TL_move (hk := ?_) | refine TL_extract (hk := ?_))
   refine TL_alloc TE (hk := ?_); intro b8 w8 e8 h8 h8' k8
   --
   refine TL_storea TE (hk := ?_); intro w9 m9 z9 k9
   replace k9 : Blk w9 b8 47 (emV xg) := k9
   have z8 := e8.size
   have e27 := (e25.ext e6).ext e7
   have e79 : Ext w7 w9 := e8.step m9 (fun u hu => .inr (by rw [List.mem_singleton.1 hu]; omega))
   have e29 := e27.ext e79
   have og9 : POwn w9 w2.heap.size xg.m := (og.be e79).weaken (by omega)
   have hgF : PFit xg.m.p := by have : xg.m.p = x.p := congrArg EE.p hge; rw [this]; exact hF
   have oZ9 := oZ.be e29
   have oY9 := oY.ow.be e29
   have o69 := (o6.be e7).be e79
   clear k8 k4 k5
   repeat (first | refine T_seq ?_ | refine T_region ?_ | refine TL_nil ?_ | refine TL_move (hk := ?_) | refine TL_assign (hk := ?_))
   refine TL_loadb TE (cs := emV xg) (o := 0) rfl rfl k9 rfl rfl (Nat.succ_pos _) (hk := ?_)
   --
   refine TL_buildSliceA TE (hk := ?_); intro b10 w10 e10 h10 h10' k10
   replace k10 : Blk w10 b10 47 (rowV emV [xg]) := k10
   have r10 : Rd w10 (some ⟨b10, 0, none⟩) 1 9 (rowV emV [xg]) := Rd.blk k10 rfl
   have oY10 := oY9.be e10
   have z10 := e10.size
   --
   refine TL_append TE (ho := oY10) (hr := r10) (h1 := rowV_one emV_one _) (hk := ?_); intro A11 c11 w11 o11 m11 n11
   rw [← rowV_append] at o11
   have O11 := oY.push (z := xg) (y' := (A11, Y.2.1 + 1, c11)) (e29.ext e10) (og9.be e10) hgF z2 m11 o11 n11
   rw [hge, ← hts] at O11
   have hYl : ∀ b ∈ blkL Y.1, b < w2.heap.size := fun b hb => (oY.ow.bl b hb).2
   have hZl : ∀ b ∈ blkL Z.1, b < w2.heap.size := fun b hb => (oZ.bl b hb).2
   have hYZ : ∀ b ∈ blkL Y.1, b ∉ blkL Z.1 := fun b hb q => (dis b q).1 hb
   have oZ11 : Own w11 w1.heap.size 5 1 Z.1 Z.2.1 Z.2.2 (bv (frB es i)) := (oZ9.be e10).modL m11 (fun b hb => (dis b hb).1)
   have o611 := (o69.be e10).modL m11 (fun b hb q => by have := (o6.bl b hb).1; have := hYl b q; omega)
   have z11 := m11.size
   have z79 := e79.size
   clear oZ9 oY9 oY10 o69 k9 k10 r10 e7 e79 h8 h10
   repeat (first | refine T_region ?_ | refine TL_nil ?_ | refine TL_move (hk := ?_) | refine TL_assign (hk := ?_))
   refine TL_call TE (hc := jframe_c 1 A6 n6 c6 _ w11 o611.rd (by decide) (by omega)) (hk := ?_)
   rintro _ w12 ⟨A12, n12, c12, rfl, e12, o12⟩
   have l12 := o12.len
   rw [bv_length, kindF_len] at l12
   have oZ12 := oZ11.be e12
   have r12 := o12.rd
   have z12 := e12.size
   --
   refine TL_append TE (ho := oZ12) (hr := r12) (h1 := bv_one _) (hk := ?_); intro A13 c13 w13 o13 m13 n13
   rw [← bv_append, ← hfs] at o13
   have hnY : ∀ b ∈ blkL A11, b ∈ blkL Y.1 ∨ w10.heap.size ≤ b := fun b hb => Near.mem n11 b hb
   have hnZ : ∀ b ∈ blkL A13, b ∈ blkL Z.1 ∨ w12.heap.size ≤ b := fun b hb => Near.mem n13 b hb
   have z29 := e29.size
   have hA11 : ∀ b ∈ blkL A11, b ∉ blkL Z.1 := fun b hb q => (hnY b hb).elim (fun y => hYZ b y q) (fun y => by have := hZl b q; omega)
   have hP11 : ∀ u ∈ ys ++ [xg], ∀ b ∈ pmB u.m, b ∉ blkL Z.1 := fun u hu b hb q => (List.mem_append.1 hu).elim (fun y => (dis b q).2 u y hb) (fun y => by rw [List.mem_singleton.1 y] at hb; have := (og9.bl b hb).1; have := hZl b q; omega)
   have O13 := outM_mod (outM_mod (y := (A11, Y.2.1 + 1, c11)) O11 e12 (fun b _ q => by cases q) (fun u _ b _ q => by cases q)) m13 hA11 hP11
   have e1311 : Ext w1 w11 := ((e2.ext e29).ext e10).step m11 (fun b hb => .inr (oY.ow.bl b hb).1)
   have e13 : Ext w1 w13 := (e1311.ext e12).step m13 (fun b hb => .inr (oZ.bl b hb).1)
   have hdis : ∀ b ∈ blkL A13, b ∉ blkL A11 ∧ ∀ u ∈ ys ++ [xg], b ∉ pmB u.m := fun b hb => by
    rcases hnZ b hb with q | q
    ·exact ⟨fun y => hA11 b y q, fun u hu y => hP11 u hu b y q⟩
    ·exact ⟨fun y => by have := (o11.bl b y).2; omega, fun u hu y => by have := ((O11.ek u hu).1.bl b y).2; omega⟩
   have hrn : ∀ j, j < i + 1 → rightP (ps.getD j pe0) = 0 := fun j hj => by
    by_cases q : j = i
    ·rw [q, hpa]; exact hr0
    ·exact hright j (by omega)
   have hfl2 : (frB es (i + 1)).length ≤ 6000 * (i + 1) := by rw [hfs, List.length_append, kindF_len]; simp only; omega
   repeat (first | refine T_region ?_ | refine T_inBlock ?_ | refine TL_add (hk := ?_) | refine TL_nil ?_ | refine TL_move (hk := ?_) | refine TL_assign (hk := ?_))
   exact ih (i + 1, (A13, Z.2.1 + n12, c13), (A11, Y.2.1 + 1, c11)) w13 _ (by simp only; omega) ⟨by show i + 1 ≤ n; omega, e13, o13, ⟨_, O13, hdis⟩, hrn, hfl2⟩ (.c rfl (.c rfl (.c rfl (.c rfl (.c rfl (.c rfl (.c rfl (.c rfl (.n)))))))))
  ·have hr0' : ¬ ((rightP x.p : Nat) : Int) = 0 := by omega
   clear ih
   repeat (first | refine T_seq ?_ | refine T_region ?_ | refine T_cond_true rfl ?_ | refine TL_ne_t (hk := ?_) | refine TL_nil ?_ | refine TL_move (hk := ?_) | refine TL_assign (hk := ?_))
   exact T_ret2 rfl rfl rfl ⟨_, _, rfl, same _ _ _ (e1.ext (e2.ext e25)) hr0'⟩
 ·clear ih
  obtain rfl : i = n := by omega
  have hepi : ep = ((ep.toNat : Nat) : Int) := by omega
  have u1 := encU_len64 (show ep.toNat < 2 ^ 64 by omega)
  have hlt2 : ¬ (i : Int) < (i : Int) := by omega
  rw [List.take_of_length_le (by omega)] at oY
  have hfe : frB es i = frB es es.length := by rw [hesl]
  have hZl : ∀ b ∈ blkL Z.1, b < w2.heap.size := fun b hb => (oZ.bl b hb).2
  repeat (first | refine T_seq ?_ | refine T_region ?_ | refine T_cond_false rfl ?_ | refine T_exit rfl ?_ | refine TL_lt_f (hk := ?_) | refine TL_nil ?_ | refine TL_move (hk := ?_) | refine TL_conv TE (hk := ?_))
  refine TL_call TE (hc := PutUint_c none 0 0 [] ep.toNat w2 hepi (Own.nil w2 w2.heap.size 5 1).rd (by omega) (by omega)) (hk := ?_)
  rintro _ w3 ⟨A3, n3, c3, rfl, e3, o3⟩
  have l3 := o3.len
  simp only [bv_length, List.length_append, List.length_nil, Nat.mul_one] at l3
  --
  refine TL_call TE (hc := jframe_c 2 A3 n3 c3 _ w3 o3.rd (by decide) (by omega)) (hk := ?_)
  rintro _ w4 ⟨A4, n4, c4, rfl, e4, o4⟩
  have l4 := o4.len
  rw [bv_length, kindF_len] at l4
  simp only [List.length_append, List.length_nil] at l4
  have oZ4 := (oZ.be e3).be e4
  have z3 := e3.size
  have z4 := e4.size
  have r4 := o4.rd
  --
  refine TL_append TE (ho := oZ4) (hr := r4) (h1 := bv_one _) (hk := ?_); intro A5 c5 w5 o5 m5 n5
  rw [← bv_append, List.nil_append, hfe, frB_all] at o5
  have O5 := outM_mod (outM_mod oY (e3.ext e4) (fun b _ q => by cases q) (fun u _ b _ q => by cases q)) m5 (fun b hb q => (dis b q).1 hb) (fun u hu b hb q => (dis b q).2 u hu hb)
  have e15 : Ext w1 w5 := ((e2.ext e3).ext e4).step m5 (fun b hb => .inr (oZ.bl b hb).1)
  have e05 := e1.ext e15
  have S5 := S.ext e05
  have z5 := m5.size
  repeat (first | refine T_seq ?_ | refine T_region ?_ | refine TL_nil ?_ | refine TL_move (hk := ?_) | refine TL_assign (hk := ?_))
  refine TL_call TE (hc := last_c w5 (S5.view (by omega))) (hk := ?_)
  rintro _ w6 ⟨rfl, e6⟩
  have e06 := e05.ext e6
  have S6 := S.ext e06
  have o6 := o5.be e6
  have l6 := o6.len
  rw [bv_length, Nat.mul_one] at l6
  have O6 := outM_mod O5 e6 (fun b _ q => by cases q) (fun u _ b _ q => by cases q)
  have hs6 := S6.la.v.blk
  have z6 := e6.size
  have hold : ∀ b, z.gd b ≠ 0 → b < w.heap.size := fun b hb => (S.old b (by rw [S.la.hd b hb]; omega)).2
  repeat (first | refine T_seq ?_ | refine T_region ?_ | refine TL_nil ?_ | refine TL_move (hk := ?_) | refine TL_assign (hk := ?_) | refine TL_load TE (hk := ?_) | refine TL_fieldAddr TE (hk := ?_) | refine TL_nilCheck (hk := ?_))
  refine TL_call TE (hc := Append_c A5 (Z.2.1 + n4) c5 (epF ep es) w6 S6.la.dk o6.rd (fun q => by have h1 := (o6.bl z.d q).1; have h2 := S.la.dk.blk.lt; omega) (by omega)) (hk := ?_)
  rintro _ w7 ⟨rfl, sd7, gd7, D7, T7⟩
  obtain ⟨h7, S7, T7'⟩ := S6.disk D7 T7
  have T07 := (Tn.ext (o := h) e06).trans T7'
  have hopd := opd_app H.la.off H.la.lf (epF ep es)
  rw [hopd] at S7 ⊢
  by_cases hfull : 4194304 < z.k.b.length + (epF ep es).length
  ·rw [if_pos hfull] at S7 ⊢
   have hs7 := S7.la.v.blk
   repeat (first | refine T_seq ?_ | refine T_region ?_ | refine T_cond_true rfl ?_ | refine TL_ne_t (hk := ?_) | refine TL_nil ?_ | refine TL_move (hk := ?_) | refine TL_assign (hk := ?_))
   exact T_ret2 rfl rfl rfl ⟨_, _, rfl, R, cs, _, ep0, ls, l, m, h7, S7, H.same rfl rfl rfl rfl, T07, Nat.le_succ _, .inl ⟨(show ¬ ((5 : Nat) : Int) = 0 by decide), rfl⟩⟩
  rw [if_neg hfull] at S7 ⊢
  have hs7 : Blk w7 z.xb 152 [.int .i64 (z.f : Int), pB z.d, sL z.y, .int .i64 (z.fl : Int)] := S7.la.v.blk
  have ho7 : Own w7 base 47 9 z.y.1 z.y.2.1 z.y.2.2 (rowV emV z.ys) := S7.la.ow
  have O7 : OutM w7 w1.heap.size Y ys es := by
   obtain ⟨⟨Q, m7, s7⟩, -, -⟩ := id T7
   exact outM_low O6 m7 (fun b hb => by have := hold b (s7 b hb); omega)
  have rO7 := O7.ow.rd
  have hylen : z.ys.length = z.y.2.1 := S.la.v.len
  have hysn : ys.length = Y.2.1 := by have := O7.ow.len; rw [rowV_len emV_len] at this; omega
  have z7 := T7.size
  clear S1 hb1 S5 O5 O6 oZ4 r4 o4 o3
  repeat (first | refine T_seq ?_ | refine T_region ?_ | refine T_cond_false rfl ?_ | refine T_skip ?_ | refine TL_ne_f (hk := ?_) | refine TL_nil ?_ | refine TL_move (hk := ?_) | refine TL_assign (hk := ?_) | refine TL_load TE (hk := ?_) | refine TL_fieldAddr TE (hk := ?_) | refine TL_nilCheck (hk := ?_))
  refine TL_append TE (ho := ho7) (hr := rO7) (h1 := rowV_one emV_one _) (hk := ?_); intro A8 c8 w8 o8 m8 n8
  rw [← rowV_append] at o8
  have hs8 := hs7.mod m8 (fun q => by have h1 : h7 z.xb = 5 := S7.la.hw _ q; have h2 : h7 z.xb = 2 := S7.la.hx; omega)
  repeat (first | refine TL_fieldAddr TE (hk := ?_) | refine TL_nilCheck (hk := ?_))
  refine TL_store TE (hk := ?_); intro w9 m9 z9 k9
  have hX : ∀ u ∈ ys, POwn w7 base u.m ∧ PFit u.m.p ∧ ∀ b ∈ pmB u.m, h7 b = 0 := fun u hu => by
   obtain ⟨q1, q2, q3⟩ := O7.ek u hu
   refine ⟨q1.weaken (by omega), q2, fun b hb => ?_⟩
   by_cases q : h7 b = 0
   ·exact q
   ·have hb1 := (q1.bl b hb).1
    have hb2 := ((oY.ek u hu).1.bl b hb).2
    rcases T7'.2.1 b q with y | y
    ·have := (S.old b y).2; omega
    ·omega
  obtain ⟨h9, S9, M9, N9⟩ := S7.push (zs := ys) (y' := (A8, z.y.2.1 + Y.2.1, c8)) hX m8 o8 n8 m9 k9 (by show (z.ys ++ ys).length ≤ 70000; rw [List.length_append]; omega)
  have T09 : Tn h h9 w w9 := tn_behind T07 M9 (fun b hb => (N9 b hb).elim .inl (fun q => q.elim (fun q => .inr (by have := e06.size; omega)) (fun ⟨u, hu, q⟩ => .inr (by have := ((O7.ek u hu).1.bl b q).1; omega))))
  have hb9 := S9.blk
  clear k9 m9 m8 o8 hs8 n8 O7 rO7 ho7 hs7 S7
  repeat (first | refine T_seq ?_ | refine T_region ?_ | refine TL_nil ?_ | refine TL_move (hk := ?_) | refine TL_fieldAddr TE (hk := ?_) | refine TL_nilCheck (hk := ?_))
  refine TL_store TE (hk := ?_); intro w10 m10 z10 k10
  obtain ⟨S10, T10⟩ := S9.setS m10 k10
  have hG : GoodE (allE pre ls l) (ep, ps) := by
   rw [hL]
   refine ⟨by rw [← hHe]; omega, hep.2, by show L.l.length + ps.length ≤ 65536; rw [hnxd]; omega, fun p hp' => ?_, hpf⟩
   obtain ⟨j, hj, rfl⟩ := List.getElem_of_mem hp'
   have hj' : j < ps.length := hj
   have := hright j (by omega)
   rwa [List.getD_eq_getElem?_getD, List.getElem?_eq_getElem hj] at this
  obtain ⟨zz, hzz⟩ : ∃ zz : SR, zz = { xb := z.xb, d := z.d, sd := sd7, gd := gd7, y := (A8, z.y.2.1 + Y.2.1, c8), ys := z.ys ++ ys, f := z.f, fl := z.fl, k := { z.k with b := z.k.b ++ epF ep es } } := ⟨_, rfl⟩
  have hbytes : epF ep es = cat (loadsE (allE pre ls l) (ep, ps)) := by
   rw [← hes, ← hL]
   exact epF_cat H.ok hG
  have hents : ys.map emE = newE (allE pre ls l) ep ps := by rw [hL, hes]; exact oY.ee
  have H10 : HI szn cs zz ep pre ls (l ++ [(ep, ps)]) m := by
   refine H.write hG ?_ ?_ ?_ ?_
   ·rw [hzz]
   ·rw [hzz]; show (z.ys ++ ys).map emE = _; rw [List.map_append, hents]
   ·rw [hzz, hbytes]
   ·rw [hzz]
  have S10' : ShM w10 base sb (szn : Int) R cs zz ep h9 := by rw [hzz]; exact S10
  clear S10
  have T010 := T09.trans T10
  have hwh : (pre ++ ls.flatten) ++ (l ++ [(ep, ps)]) = ((pre ++ ls.flatten) ++ l) ++ [(ep, ps)] := (List.append_assoc _ _ _).symm
  have hk0 : bytesD zz.k = zz.k.b := by unfold bytesD; rw [H10.la.off]; rfl
  have hdk := S10'.la.dk
  have hs10 : Blk w10 z.xb 152 [.int .i64 (zz.f : Int), pB zz.d, sL zz.y, .int .i64 (zz.fl : Int)] := by have q := S10'.la.v.blk; rw [hzz] at q ⊢; exact q
  have hb10 := S10'.blk
  have hsD : sb ∉ ownB w10 zz.gd := fun q => by have h1 := S10'.la.hd sb (ownB_mem q); have h2 := S10'.h1; omega
  have hxD : z.xb ∉ ownB w10 zz.gd := fun q => by have h1 := S10'.la.hd z.xb (ownB_mem q); have h2 := S10'.la.hx; rw [show zz.xb = z.xb by rw [hzz]] at h2; omega
  repeat (first | refine T_seq ?_ | refine TL_nil ?_)
  refine T_region_any TE.mixed (ownB w10 zz.gd) ?_; intro w11 e11 z11
  have S11 := S10'.ext e11
  have hs11 := hs10.be e11
  have hb11 := hb10.be e11
  have hin := ownB_in (o := zz.gd) z11
  (refine TA_take 0 rfl (by kernel_rfl) (by kernel_rfl) (by kernel_rfl) ?_; (repeat (first | refine TL_move (hk := ?_) | refine TLP_load TE (hk := ?_) | refine TL_fieldAddr TE (hk := ?_) | refine TL_nilCheck (hk := ?_))); refine TL_nil_p ?_); (refine TA_take 1 rfl (by kernel_rfl) (by kernel_rfl) (by kernel_rfl) ?_; (repeat (first | refine TL_move (hk := ?_) | refine TLP_load TE (hk := ?_) | refine TL_fieldAddr TE (hk := ?_) | refine TL_nilCheck (hk := ?_))); refine TL_nil_p ?_); (refine TA_take 2 rfl (by kernel_rfl) (by kernel_rfl) (by kernel_rfl) ?_; (repeat (first | refine TL_move (hk := ?_) | refine TLP_load TE (hk := ?_) | refine TL_fieldAddr TE (hk := ?_) | refine TL_nilCheck (hk := ?_))); refine TL_nil_p ?_); (refine TA_take 3 rfl (by kernel_rfl) (by kernel_rfl) (by kernel_rfl) ?_; (repeat (first | refine TL_move (hk := ?_) | refine TLP_load TE (hk := ?_) | refine TL_fieldAddr TE (hk := ?_) | refine TL_nilCheck (hk := ?_))); refine TL_nil_p ?_); (refine TA_take 6 rfl (by kernel_rfl) (by kernel_rfl) (by kernel_rfl) ?_; (repeat (first | refine TL_move (hk := ?_) | refine TLP_load TE (hk := ?_) | refine TL_fieldAddr TE (hk := ?_) | refine TL_nilCheck (hk := ?_))); refine TL_nil_p ?_); (refine TA_take 7 rfl (by kernel_rfl) (by kernel_rfl) (by kernel_rfl) ?_; (repeat (first | refine TL_move (hk := ?_) | refine TLP_load TE (hk := ?_) | refine TL_fieldAddr TE (hk := ?_) | refine TL_nilCheck (hk := ?_))); refine TL_nil_p ?_); (refine TA_take 8 rfl (by kernel_rfl) (by kernel_rfl) (by kernel_rfl) ?_; (repeat (first | refine TL_move (hk := ?_) | refine TLP_load TE (hk := ?_) | refine TL_fieldAddr TE (hk := ?_) | refine TL_nilCheck (hk := ?_))); refine TL_nil_p ?_); (refine TA_take 9 rfl (by kernel_rfl) (by kernel_rfl) (by kernel_rfl) ?_; (repeat (first | refine TL_move (hk := ?_) | refine TLP_load TE (hk := ?_) | refine TL_fieldAddr TE (hk := ?_) | refine TL_nilCheck (hk := ?_))); refine TL_nil_p ?_)
  refine TA_one 4 rfl (by kernel_rfl) (by kernel_rfl) ?_; (try refine TL_yes (hk := ?_)); refine TL_call TE (hc := (Bytes_c w11 S11.la.dk)) (hq := (by rintro _ w' ⟨_, _, _, t, _⟩; exact t.inD (Mod.refl _ _) hin)) (hk := ?_)
  rintro _ w12 ⟨yb, rfl, D12, T12, o12⟩
  rw [hk0] at o12
  have l12 := o12.len
  rw [bv_length, Nat.mul_one] at l12
  obtain ⟨S12, T12'⟩ := S11.look (List.mem_append_right _ (List.mem_singleton.2 rfl)) D12 T12
  have T012 := (T010.trans (Tn.ext e11)).trans T12'
  refine TL_nil_p ?_
  (refine TA_take 5 rfl (by kernel_rfl) (by kernel_rfl) (by kernel_rfl) ?_; (repeat (refine TL_len TE (hk := ?_))); refine TL_nil_p ?_)
  by_cases hge : szn ≤ zz.k.b.length
  ·have hge' : (szn : Int) ≤ (yb.2.1 : Int) := by omega
   (refine TA_take 10 rfl (by kernel_rfl) (by kernel_rfl) (by kernel_rfl) ?_; (repeat (refine TL_ge_t (hk := ?_))); refine TL_nil_p ?_)
   refine TA_done (by kernel_rfl) ?_
   repeat (first | refine T_seq ?_ | refine T_region ?_ | refine T_cond_true rfl ?_ | refine TL_move (hk := ?_))
   refine TL_call TE (hc := SFlush_c w12 S12 (by omega)) (hk := ?_)
   rintro _ w13 ⟨rfl, sd13, gd13, h13, S13, T13⟩
   obtain ⟨z3, hz3⟩ : ∃ z3 : SR, z3 = { zz with sd := sd13, gd := gd13, k := (opD zz.k synD).1, fl := zz.ys.length } := ⟨_, rfl⟩
   rw [← hz3] at S13
   have H13 : HI szn cs z3 ep pre ls (l ++ [(ep, ps)]) (l ++ [(ep, ps)]).length := H10.flush (by rw [hz3]) (by rw [hz3]) (by rw [hz3, opd_syn H10.la.off H10.la.lf]) (by rw [hz3])
   have T013 := T012.trans T13
   have hnx3 := H13.next
   have hLo3 := H13.ok
   obtain ⟨n3, hn3⟩ : ∃ n3, (allE pre ls (l ++ [(ep, ps)])).l.length = n3 := ⟨_, rfl⟩
   have hn3l := hLo3.n
   rw [hn3] at hn3l hnx3
   repeat (first | refine T_region ?_ | refine TL_nil ?_ | refine TL_move (hk := ?_))
   refine TL_call TE (hc := Next_c w13 (S13.view (by omega))) (hk := ?_)
   rintro _ w14 ⟨rfl, e14⟩
   rw [hnx3]
   have S14 := S13.ext e14
   obtain ⟨h14, C14, hz14⟩ := S14.close
   --
   refine TL_call TE (hc := begin_c n3 w14 C14 hn3l (by omega) (by rw [List.length_append, List.length_singleton]; omega)) (hk := ?_)
   rintro _ w15 ⟨rfl, R15, r15, h15, S15, T15, f1, f2, f3, f4⟩
   have H15 := H13.add (z' := r15) (by rw [hz3, opd_syn H10.la.off H10.la.lf]; exact hge) (by rw [f1, hn3]) f2 (by rw [f3, hn3]) f4
   have hfl : (pre ++ (ls ++ [l ++ [(ep, ps)]]).flatten) ++ [] = ((pre ++ ls.flatten) ++ l) ++ [(ep, ps)] := by
    rw [flat_snoc, List.append_nil, ← List.append_assoc, hwh]
   repeat (first | refine T_seq ?_ | refine T_region ?_ | refine TL_nil ?_ | refine TL_move (hk := ?_) | refine TL_assign (hk := ?_))
   exact T_ret2 rfl rfl rfl ⟨_, _, rfl, R15, cs ++ [z3], r15, ep, ls ++ [l ++ [(ep, ps)]], [], 0, h15, S15, H15, (T013.trans (Tn.ext e14)).trans (tn_ren hz14 T15), by rw [List.length_append, List.length_singleton]; exact Nat.le_refl _, .inr ⟨rfl, by rw [hLd, hnxd], hfl⟩⟩
  ·have hge' : ¬ (szn : Int) ≤ (yb.2.1 : Int) := by omega
   (refine TA_take 10 rfl (by kernel_rfl) (by kernel_rfl) (by kernel_rfl) ?_; (repeat (refine TL_ge_f (hk := ?_))); refine TL_nil_p ?_)
   refine TA_done (by kernel_rfl) ?_
   repeat (first | refine T_seq ?_ | refine T_region ?_ | refine T_cond_false rfl ?_ | refine T_skip ?_ | refine TL_nil ?_ | refine TL_move (hk := ?_) | refine TL_assign (hk := ?_))
   exact T_ret2 rfl rfl rfl ⟨_, _, rfl, R, cs, zz, ep, ls, _, m, h9, S12, H10, T012, Nat.le_succ _, .inr ⟨rfl, by rw [hLd, hnxd], hwh⟩⟩
end
set_option maxHeartbeats 3200000
theorem ImgsOk.open : ∀ {bs : List (List UInt8)} {f : Nat} {ep : Int} {ss : List PT}, ImgsOk bs f ep ss → ∀ i, i < bs.length → (openF (bs.getD i [])).2.2 = 0
 | [], f, ep, ss, _, i, hi => absurd hi (Nat.not_lt_zero _)
 |b :: bs, f, ep, ss, ⟨s, t, _, ⟨loads, nn, why, wh, hfr, _⟩, h⟩, 0, hi => frames_open hfr
 |b :: bs, f, ep, ss, ⟨s, t, _, _, h⟩, i + 1, hi => by
  have := ImgsOk.open h i (by simpa using hi)
  simpa using this
theorem OpenNil_c (szn : Nat) (w : World) (hs : 1 ≤ szn ∧ szn ≤ 100000) :
  Ret Tryz.prog 38 [.slice none 0 0, .int .i64 (szn : Int)] w (fun v w' => ∃ sb R z h, v = .tuple #[pB sb, .int .i64 0] ∧ ShM w' w.heap.size sb (szn : Int) R [] z 0 h ∧ HI szn [] z 0 [] [] [] 0 ∧ Ext w w') := by
 have h1 : ¬ (szn : Int) < 1 := by omega
 have h2 : ¬ (4194304 : Int) < (szn : Int) := by omega
 refine ret_T (n := 122) Tryz.func38 rfl rfl ?_
 repeat (first | refine T_seq ?_ | refine T_region ?_ | refine T_cond_false rfl ?_ | refine T_block ?_ | refine T_skip ?_ | refine TL_lt_f (hk := ?_) | refine TL_gt_f (hk := ?_) | refine TL_nil ?_ | refine TL_move (hk := ?_) | refine TL_assign (hk := ?_) | refine TL_len TE (hk := ?_) | refine TL_yes (hk := ?_) | refine TL_pick_f (hk := ?_))
 refine T_loop (ι := Unit) (fun _ => [(25, .int .i64 0), (24, .int .i64 0), (23, .slice none 0 0), (1, .int .i64 (szn : Int)), (0, .slice none 0 0)]) (fun _ w' => w' = w) (fun _ => 0) () (.c rfl (.c rfl (.c rfl (.c rfl (.c rfl (.n)))))) rfl ?_
 rintro _ w1 rfl ih
 clear ih
 repeat (first | refine T_seq ?_ | refine T_region ?_ | refine T_cond_false rfl ?_ | refine T_skip ?_ | refine T_exit rfl ?_ | refine TL_lt_f (hk := ?_) | refine TL_gt_f (hk := ?_) | refine TL_nil ?_ | refine TL_move (hk := ?_) | refine TL_assign (hk := ?_) | refine TL_len TE (hk := ?_) | refine TL_no (hk := ?_) | refine TL_pick_f (hk := ?_) | refine TL_build TE (hk := ?_))
 refine TL_box (hk := ?_); intro sb w2 e2 h2' h2'' k2
 have z2 := e2.size
 have C2 : ShC w2 w1.heap.size sb (szn : Int) (none, 0, 0) [] 0 (fun u => if u = sb then 1 else 0) := by
  refine ⟨k2, Seg.nil _ _ _ _, fun c hc => (by cases hc), if_pos rfl, fun u hu => (by cases hu), fun u hu => ?_, List.nodup_nil⟩
  by_cases q : u = sb
  ·rw [q]; exact ⟨h2', k2.lt⟩
  ·have hu : (if u = sb then 1 else 0) ≠ 0 := hu
   rw [if_neg q] at hu; exact absurd rfl hu
 repeat (first | refine T_seq ?_ | refine T_region ?_ | refine T_cond_true rfl ?_ | refine TL_eq_t (hk := ?_) | refine TL_nil ?_ | refine TL_move (hk := ?_) | refine TL_assign (hk := ?_) | refine TL_len TE (hk := ?_))
 refine TL_call TE (hc := begin_c 0 w2 C2 (Nat.zero_le _) (by omega) (Nat.zero_le _)) (hk := ?_)
 rintro _ w3 ⟨rfl, R3, r3, h3, S3, T3, f1, f2, f3, f4⟩
 have e13 : Ext w1 w3 := T3.ext0 e2 (fun b hb => (C2.old b hb).1)
 repeat (first | refine T_seq ?_ | refine T_region ?_ | refine TL_nil ?_ | refine TL_move (hk := ?_) | refine TL_assign (hk := ?_))
 exact T_ret2 rfl rfl rfl ⟨sb, R3, r3, h3, rfl, S3, HI.start f1 f2 f3 f4, e13⟩
theorem OpenShelf_c (szn f : Nat) (ep : Int) (y : SL) (ys : List SL) (bs : List (List UInt8)) (ss : List PT) (w : World) (hs : 1 ≤ szn ∧ szn ≤ 100000) (hr : Rd w y.1 y.2.1 1 (rowV imV ys)) (hcap : y.2.1 ≤ y.2.2) (hl : ys.length = bs.length)
  (hb : ∀ i, i < bs.length → Rd w (ys.getD i sl0).1 (ys.getD i sl0).2.1 1 (bv (bs.getD i [])) ∧ (ys.getD i sl0).2.1 ≤ (ys.getD i sl0).2.2 ∧ (bs.getD i []).length ≤ 4194304) (hne : 0 < bs.length) (hbn : bs.length ≤ 1000) (hI : ImgsOk bs f ep ss) :
  Ret Tryz.prog 38 [sL y, .int .i64 (szn : Int)] w (fun v w' => ∃ tb R rs e', v = .tuple #[pB tb, .int .i64 0] ∧ ShV w' tb (szn : Int) R rs e' ∧ RdOk rs ss ∧ rs.length = bs.length ∧ (∀ h : 0 < rs.length, rs[0].f = f) ∧ Ext w w') := by
 have h1 : ¬ (szn : Int) < 1 := by omega
 have h2 : ¬ (4194304 : Int) < (szn : Int) := by omega
 have hyn : y.2.1 = bs.length := by have := hr.1; rw [rowV_len imV_len] at this; omega
 have hat : ∀ i, i < bs.length → (rowV imV ys)[i]? = some (sL (ys.getD i sl0)) := fun i hi => by
  have := rowV_at imV_len ys i 0 sl0 (by omega) (by decide)
  rw [Nat.mul_one, Nat.add_zero] at this
  exact this
 have hY : y.1 ≠ none := by obtain ⟨_, _, hq, _⟩ := hr.2 (by omega); rw [hq]; simp
 have hlen : ∀ i, i < bs.length → (ys.getD i sl0).2.1 = (bs.getD i []).length := fun i hi => by
  have := (hb i hi).1.1
  rw [bv_length, Nat.mul_one] at this
  exact this.symm
 refine ret_T (n := 122) Tryz.func38 rfl rfl ?_
 repeat (first | refine T_seq ?_ | refine T_region ?_ | refine T_cond_false rfl ?_ | refine T_block ?_ | refine T_skip ?_ | refine TL_lt_f (hk := ?_) | refine TL_gt_f (hk := ?_) | refine TL_nil ?_ | refine TL_move (hk := ?_) | refine TL_assign (hk := ?_) | refine TL_len TE (hk := ?_) | refine TL_yes (hk := ?_) | refine TL_pick_f (hk := ?_))
 refine T_loop (ι := Nat) (fun i => [(25, .int .i64 (i : Int)), (24, .int .i64 (y.2.1 : Int)), (23, sL y), (1, .int .i64 (szn : Int)), (0, sL y)]) (fun i w' => w' = w ∧ i ≤ bs.length) (fun i => bs.length - i) 0 (.c rfl (.c rfl (.c rfl (.c rfl (.c rfl (.n)))))) ⟨rfl, Nat.zero_le _⟩ ?_
 rintro i w1 ⟨rfl, hi⟩ ih
 by_cases hlt : i < bs.length
 ·have ht := hat i hlt
  have hli := hlen i hlt
  have hbi := (hb i hlt).2.2
  obtain ⟨x, hx⟩ : ∃ x, ys.getD i sl0 = x := ⟨_, rfl⟩
  rw [hx] at ht hli
  have hlt2 : (i : Int) < (y.2.1 : Int) := by omega
  have hbig : ¬ (4194304 : Int) < (x.2.1 : Int) := by omega
  repeat (first | refine T_seq ?_ | refine T_region ?_ | refine T_cond_true rfl ?_ | refine T_cond_false rfl ?_ | refine T_block ?_ | refine T_inBlock ?_ | refine T_skip ?_ | refine TL_add (hk := ?_) | refine TL_lt_t (hk := ?_) | refine TL_gt_f (hk := ?_) | refine TL_nil ?_ | refine TL_move (hk := ?_) | refine TL_assign (hk := ?_) | refine TL_load_rd TE (hk := ?_) | refine TL_indexAddr1n TE (hk := ?_) | refine TL_len TE (hk := ?_))
  exact ih (i + 1) _ _ (by omega) ⟨rfl, by omega⟩ (.c rfl (.c rfl (.c rfl (.c rfl (.c rfl (.n))))))
 ·clear ih
  obtain rfl : i = bs.length := by omega
  have hlt2 : ¬ ((bs.length : Nat) : Int) < (y.2.1 : Int) := by omega
  obtain ⟨n, hn⟩ : ∃ n, bs.length = n + 1 := ⟨bs.length - 1, by omega⟩
  have hn1 : (y.2.1 : Int) - 1 = (n : Int) := by omega
  have htn := hat n (by omega)
  have hbn2 := hb n (by omega)
  have hln := hlen n (by omega)
  have hop := hI.open n (by omega)
  obtain ⟨x, hx⟩ : ∃ x, ys.getD n sl0 = x := ⟨_, rfl⟩
  rw [hx] at htn hbn2 hln
  have hnlt : n < y.2.1 := by omega
  have hpos : (0 : Int) < (y.2.1 : Int) := by omega
  have hnz : ¬ (y.2.1 : Int) = 0 := by omega
  repeat (first | refine T_seq ?_ | refine T_region ?_ | refine T_cond_false rfl ?_ | refine T_exit rfl ?_ | refine TL_sub (hk := ?_) | refine TL_lt_f (hk := ?_) | refine TL_gt_t (hk := ?_) | refine TL_nil ?_ | refine TL_move (hk := ?_) | refine TL_assign (hk := ?_) | refine TL_indexAddr1 TE (hk := ?_) | refine TL_len TE (hk := ?_) | refine TL_yes (hk := ?_))
  rw [hn1]
  repeat (first | refine TL_load_rd TE (hk := ?_) | refine TL_yes (hk := ?_))
  refine TL_call TE (hc := torn_c x.1 x.2.1 x.2.2 _ w1 hbn2.1 (by omega) hbn2.2.1) (hk := ?_)
  rintro _ w2 ⟨rfl, e2⟩
  rw [show decide ((openF (bs.getD n [])).2.2 = 3) = false by rw [hop]; rfl]
  repeat (first | refine T_seq ?_ | refine T_region ?_ | refine T_cond_false rfl ?_ | refine T_skip ?_ | refine TL_nil ?_ | refine TL_move (hk := ?_) | refine TL_pick_t (hk := ?_) | refine TL_build TE (hk := ?_))
  refine TL_box (hk := ?_); intro sb w3 e3 h3 h3' k3
  have z2 := e2.size
  have z3 := e3.size
  have hsb1 : w1.heap.size ≤ sb := by omega
  repeat (first | refine T_seq ?_ | refine T_region ?_ | refine T_cond_false rfl ?_ | refine T_block ?_ | refine T_skip ?_ | refine TL_eq_f (hk := ?_) | refine TL_nil ?_ | refine TL_move (hk := ?_) | refine TL_assign (hk := ?_) | refine TL_len TE (hk := ?_))
  refine T_loop (ι := Nat × Nat × SL × List SR × Int) (fun i => [(60, .int .i64 (i.1 : Int)), (59, .int .i64 (y.2.1 : Int)), (58, sL y), (10, .int .i64 (i.2.1 : Int)), (9, pB sb), (0, sL y)])
   (fun i w' => i.1 ≤ bs.length ∧ Ext w1 w' ∧ Blk w' sb 145 [.int .i64 (szn : Int), sL i.2.2.1, .int .i64 i.2.2.2.2] ∧ Own w' w1.heap.size 148 1 i.2.2.1.1 i.2.2.1.2.1 i.2.2.1.2.2 (ptrs i.2.2.2.1) ∧ i.2.2.2.1.length = i.1 ∧ (∀ r ∈ i.2.2.2.1, SegV w' r ∧ ∀ b ∈ segBl r, b ≠ sb ∧ b ∉ blkL i.2.2.1.1 ∧ b < w'.heap.size) ∧ sb ∉ blkL i.2.2.1.1 ∧ (∀ h : 0 < i.2.2.2.1.length, i.2.2.2.1[0].f = f) ∧
    ∃ ss0 ss1 fx ex, ss = ss0 ++ ss1 ∧ RdOk i.2.2.2.1 ss0 ∧ ImgsOk (bs.drop i.1) fx ex ss1 ∧ (i.1 = 0 → fx = f) ∧ (0 < i.1 → fx = i.2.1 ∧ ex = i.2.2.2.2)) (fun i => bs.length - i.1) (0, 0, (none, 0, 0), [], 0) (.c rfl (.c rfl (.c rfl (.c rfl (.c rfl (.c rfl (.n)))))))
   ⟨Nat.zero_le _, e2.ext e3, k3, Own.nil _ _ _ _, rfl, fun r hr => (by cases hr), fun q => (by cases q), fun h => absurd h (Nat.lt_irrefl 0), [], ss, f, ep, rfl, trivial, hI, fun _ => rfl, fun q => absurd q (Nat.lt_irrefl 0)⟩ ?_
  clear k3 e2 e3
  rintro ⟨i, nx, R, rs, ec⟩ w7 ⟨hi, e7, k7, o7, hrl, hseg, hsR, hfst, ss0, ss1, fx, ex, hss, hrd, himg, hi0, hi1⟩ ih
  simp only at hi e7 k7 o7 hrl hseg hsR hfst hss hrd himg hi0 hi1 ih ⊢
  have z7 := e7.size
  have hRl := o7.len
  unfold ptrs at hRl
  rw [List.length_map, Nat.mul_one] at hRl
  have r7 := hr.be e7
  by_cases hlt3 : i < bs.length
  ·have ht := hat i hlt3
   have hbi := hb i hlt3
   have hli := hlen i hlt3
   rw [List.drop_eq_getElem_cons hlt3] at himg
   obtain ⟨s, t, rfl, hI1, himg2⟩ := himg
   have hemp : (bs.drop (i + 1)).isEmpty = decide ((i : Int) = (n : Int)) := by
    by_cases q : i = n
    ·rw [List.drop_of_length_le (by omega), decide_eq_true (by omega)]; rfl
    ·rw [decide_eq_false (by omega)]
     cases hq : bs.drop (i + 1) with
     |nil => have := List.drop_eq_nil_iff.1 hq; omega
     |cons a b => rfl
   rw [hemp] at hI1
   have hgd : bs.getD i [] = bs[i] := by rw [List.getD_eq_getElem?_getD, List.getElem?_eq_getElem hlt3]; rfl
   rw [hgd] at hbi hli
   obtain ⟨x, hx⟩ : ∃ x, ys.getD i sl0 = x := ⟨_, rfl⟩
   rw [hx] at ht hbi hli
   have hlt4 : (i : Int) < (y.2.1 : Int) := by omega
   repeat (first | refine T_seq ?_ | refine T_region ?_ | refine T_cond_true rfl ?_ | refine T_block ?_ | refine T_skip ?_ | refine TL_sub (hk := ?_) | refine TL_lt_t (hk := ?_) | refine TL_nil ?_ | refine TL_move (hk := ?_) | refine TL_assign (hk := ?_) | refine TL_load_rd TE (hk := ?_) | refine TL_indexAddr1n TE (hk := ?_) | refine TL_len TE (hk := ?_))
   rw [hn1]
   --
   refine TL_eq_d (hk := ?_)
   --
   refine TL_call TE (hc := open_c (decide ((i : Int) = (n : Int))) x.1 x.2.1 x.2.2 bs[i] fx ex s w7 (hbi.1.be e7) (by omega) hbi.2.1 hI1) (hk := ?_)
   rintro _ w8 ⟨pb, r, o, yy, rfl, e8, V8, hbl, hrf, hre, kp8, hpb⟩
   have z8 := e8.size
   have k8 := k7.be e8
   have hs8 : Blk w8 r.xb 152 [.int .i64 (r.f : Int), pB r.d, sL r.y, .int .i64 (r.fl : Int)] := V8.blk
   repeat (first | refine TL_nil ?_ | refine TL_move (hk := ?_) | refine TL_assign (hk := ?_) | refine TL_extract (hk := ?_))
   refine T_seq ?_
   refine T_seq ?_
   refine T_join (ι := Unit) (fun _ => [(98, .bool false), (60, .int .i64 (i : Int)), (59, .int .i64 (y.2.1 : Int)), (58, sL y), (14, pB r.xb), (13, pB pb), (10, .int .i64 (nx : Int)), (9, pB sb), (0, sL y)]) (fun _ w' => w' = w8) (fun kk join => ?_) ?_
   ·by_cases hi2 : (0 : Int) < (i : Int)
    ·obtain ⟨q1, q2⟩ := hi1 (by omega)
     rw [q1] at hrf
     rw [hrf] at hs8
     subst q2
     repeat (first | refine T_region ?_ | refine TL_gt_t (hk := ?_) | refine TL_ne_f (hk := ?_) | refine TL_nil ?_ | refine TL_move (hk := ?_) | refine TL_load TE (hk := ?_) | refine TL_fieldAddr TE (hk := ?_) | refine TL_yes (hk := ?_) | refine TL_pick_t (hk := ?_) | refine TL_pick_f (hk := ?_) | refine TL_nilCheck (hk := ?_) | refine TL_not (hk := ?_))
     exact T.sub (join () _ rfl) (.c rfl (.c rfl (.c rfl (.c rfl (.c rfl (.c rfl (.c rfl (.c rfl (.c rfl (.n))))))))))
    ·repeat (first | refine T_region ?_ | refine TL_gt_f (hk := ?_) | refine TL_nil ?_ | refine TL_move (hk := ?_) | refine TL_yes (hk := ?_) | refine TL_no (hk := ?_) | refine TL_pick_f (hk := ?_) | refine TL_not (hk := ?_))
     exact T.sub (join () _ rfl) (.c rfl (.c rfl (.c rfl (.c rfl (.c rfl (.c rfl (.c rfl (.c rfl (.c rfl (.n))))))))))
   rintro _ w9 rfl
   have o8 := o7.be e8
   repeat (first | refine T_seq ?_ | refine T_region ?_ | refine T_cond_false rfl ?_ | refine T_skip ?_ | refine TL_move (hk := ?_) | refine TL_load TE (hk := ?_) | refine TL_fieldAddr TE (hk := ?_) | refine TL_nilCheck (hk := ?_))
   refine TL_buildSlice TE (hk := ?_); intro b10 w10 e10 h10 h10' k10
   have kb10 := k8.be e10
   have o10 := o8.be e10
   have z10 := e10.size
   replace k10 : Blk w10 b10 148 [pB r.xb] := k10
   have r10 : Rd w10 (some ⟨b10, 0, none⟩) 1 1 [pB r.xb] := Rd.blk k10 rfl
   --
   refine TL_append TE (ho := o10) (hr := r10) (h1 := fun u hu => by rw [List.mem_singleton.1 hu]; rfl) (hk := ?_); intro A11 c11 w11 o11 m11 n11
   have kb11 := kb10.mod m11 hsR
   repeat (first | refine TL_fieldAddr TE (hk := ?_) | refine TL_nilCheck (hk := ?_))
   refine TL_store TE (hk := ?_); intro w12 m12 z12 k12
   have hRb : ∀ b ∈ blkL R.1, b < w7.heap.size := fun b hb => (o7.bl b hb).2
   have hsb : sb < w7.heap.size := k7.lt
   have hnR : ∀ b ∈ blkL A11, b ∈ blkL R.1 ∨ w10.heap.size ≤ b := fun b hb => Near.mem n11 b hb
   have hsA : sb ∉ blkL A11 := fun q => (hnR sb q).elim hsR (fun q => by omega)
   have z11 := m11.size
   have z12' := m12.size
   have kp10 := kp8.be e10
   have kp12 := (kp10.mod m11 (fun q => by have := hRb pb q; omega)).mod m12 (by simp only [List.mem_singleton]; omega)
   clear k10 r10 kb10 kb11 kp8 kp10
   repeat (refine TL_nil ?_)
   refine T_region_any TE.mixed ([sb] : List Nat) ?_; intro w13 e13 z13
   have kp13 := kp12.be e13
   have k13 := k12.be e13
   have hpD : pb ∉ [sb] := by simp only [List.mem_singleton]; omega
   (refine TA_take 0 rfl (by kernel_rfl) (by kernel_rfl) (by kernel_rfl) ?_; (repeat (first | refine TL_move (hk := ?_) | refine TL_assign (hk := ?_) | refine TLP_load TE (hk := ?_) | refine TL_fieldAddr TE (hk := ?_) | refine TL_nilCheck (hk := ?_))); refine TL_nil_p ?_); (refine TA_take 1 rfl (by kernel_rfl) (by kernel_rfl) (by kernel_rfl) ?_; (repeat (first | refine TL_move (hk := ?_) | refine TL_assign (hk := ?_) | refine TLP_load TE (hk := ?_) | refine TL_fieldAddr TE (hk := ?_) | refine TL_nilCheck (hk := ?_))); refine TL_nil_p ?_); (refine TA_take 2 rfl (by kernel_rfl) (by kernel_rfl) (by kernel_rfl) ?_; (repeat (first | refine TL_move (hk := ?_) | refine TL_assign (hk := ?_) | refine TLP_load TE (hk := ?_) | refine TL_fieldAddr TE (hk := ?_) | refine TL_nilCheck (hk := ?_))); refine TL_nil_p ?_); (refine TA_take 3 rfl (by kernel_rfl) (by kernel_rfl) (by kernel_rfl) ?_; (repeat (first | refine TL_move (hk := ?_) | refine TL_assign (hk := ?_) | refine TLP_load TE (hk := ?_) | refine TL_fieldAddr TE (hk := ?_) | refine TL_nilCheck (hk := ?_))); refine TL_nil_p ?_); (refine TA_take 4 rfl (by kernel_rfl) (by kernel_rfl) (by kernel_rfl) ?_; (repeat (first | refine TL_move (hk := ?_) | refine TL_assign (hk := ?_) | refine TLP_load TE (hk := ?_) | refine TL_fieldAddr TE (hk := ?_) | refine TL_nilCheck (hk := ?_))); refine TL_nil_p ?_); (refine TA_take 5 rfl (by kernel_rfl) (by kernel_rfl) (by kernel_rfl) ?_; (repeat (first | refine TL_move (hk := ?_) | refine TL_assign (hk := ?_) | refine TLP_load TE (hk := ?_) | refine TL_fieldAddr TE (hk := ?_) | refine TL_nilCheck (hk := ?_))); refine TL_nil_p ?_); (refine TA_take 6 rfl (by kernel_rfl) (by kernel_rfl) (by kernel_rfl) ?_; (repeat (first | refine TL_move (hk := ?_) | refine TL_assign (hk := ?_) | refine TLP_load TE (hk := ?_) | refine TL_fieldAddr TE (hk := ?_) | refine TL_nilCheck (hk := ?_))); refine TL_nil_p ?_); (refine TA_take 7 rfl (by kernel_rfl) (by kernel_rfl) (by kernel_rfl) ?_; (repeat (first | refine TL_move (hk := ?_) | refine TL_assign (hk := ?_) | refine TLP_load TE (hk := ?_) | refine TL_fieldAddr TE (hk := ?_) | refine TL_nilCheck (hk := ?_))); refine TL_nil_p ?_); (refine TA_take 8 rfl (by kernel_rfl) (by kernel_rfl) (by kernel_rfl) ?_; (repeat (first | refine TL_move (hk := ?_) | refine TL_assign (hk := ?_) | refine TLP_load TE (hk := ?_) | refine TL_fieldAddr TE (hk := ?_) | refine TL_nilCheck (hk := ?_))); refine TL_nil_p ?_); (refine TA_take 9 rfl (by kernel_rfl) (by kernel_rfl) (by kernel_rfl) ?_; (repeat (first | refine TL_move (hk := ?_) | refine TL_assign (hk := ?_) | refine TLP_load TE (hk := ?_) | refine TL_fieldAddr TE (hk := ?_) | refine TL_nilCheck (hk := ?_))); refine TL_nil_p ?_); (refine TA_take 10 rfl (by kernel_rfl) (by kernel_rfl) (by kernel_rfl) ?_; (repeat (first | refine TL_move (hk := ?_) | refine TL_assign (hk := ?_) | refine TLP_load TE (hk := ?_) | refine TL_fieldAddr TE (hk := ?_) | refine TL_nilCheck (hk := ?_))); refine TL_nil_p ?_); (refine TA_take 11 rfl (by kernel_rfl) (by kernel_rfl) (by kernel_rfl) ?_; (repeat (first | refine TL_move (hk := ?_) | refine TL_assign (hk := ?_) | refine TLP_load TE (hk := ?_) | refine TL_fieldAddr TE (hk := ?_) | refine TL_nilCheck (hk := ?_))); refine TL_nil_p ?_)
   refine TA_one 12 rfl (by kernel_rfl) (by kernel_rfl) ?_
   refine TL_store TE (hb := k13) (hf := rfl) (hq := fun _ m _ => m) (hk := ?_); intro w14 m14 z14 k14
   refine TL_nil_p ?_
   refine TA_done (by kernel_rfl) ?_
   repeat (first | refine T_region ?_ | refine T_inBlock ?_ | refine TL_add (hk := ?_) | refine TL_nil ?_ | refine TL_move (hk := ?_))
   have one : ∀ u ∈ [sb], u ∈ sb :: blkL R.1 := fun u hu => by rw [List.mem_singleton.1 hu]; exact List.mem_cons_self
   have M : Eng.Mod (sb :: blkL R.1) w10 w14 := (((m11.mono (S' := sb :: blkL R.1) (fun u hu => .inl (List.mem_cons_of_mem _ hu))).step m12 (fun u hu => .inl (one u hu))).step e13 (fun u hu => by cases hu)).step m14 (fun u hu => .inl (one u hu))
   have e014 : Ext w1 w14 := ((e7.ext e8).ext e10).step M (fun u hu => .inr ((List.mem_cons.1 hu).elim (fun q => by rw [q]; exact hsb1) (fun q => (o7.bl u q).1)))
   have o14 : Own w14 w1.heap.size 148 1 A11 (R.2.1 + 1) c11 (ptrs (rs ++ [r])) := by
    rw [ptrs_snoc]
    exact ((o11.modL m12 (fun u hu q => by rw [List.mem_singleton] at q; rw [q] at hu; exact hsA hu)).be e13).modL m14 (fun u hu q => by rw [List.mem_singleton] at q; rw [q] at hu; exact hsA hu)
   have z14' := M.size
   have hseg14 : ∀ u ∈ rs ++ [r], SegV w14 u ∧ ∀ b ∈ segBl u, b ≠ sb ∧ b ∉ blkL A11 ∧ b < w14.heap.size := fun u hu => by
    have key : SegV w10 u ∧ ∀ b ∈ segBl u, b ≠ sb ∧ b ∉ blkL R.1 ∧ b < w10.heap.size := by
     rcases List.mem_append.1 hu with q | q
     ·exact ⟨((hseg u q).1.ext e8).ext e10, fun b hb => by have := (hseg u q).2 b hb; exact ⟨this.1, this.2.1, by omega⟩⟩
     ·rw [List.mem_singleton.1 q]
      exact ⟨V8.ext e10, fun b hb => by have := hbl b hb; exact ⟨by omega, fun q => by have := hRb b q; omega, by omega⟩⟩
    refine ⟨key.1.mod M (fun b hb q => (List.mem_cons.1 q).elim (key.2 b hb).1 (key.2 b hb).2.1), fun b hb => ⟨(key.2 b hb).1, fun q => ?_, by have := (key.2 b hb).2.2; omega⟩⟩
    rcases hnR b q with y | y
    ·exact (key.2 b hb).2.1 y
    ·have := (key.2 b hb).2.2; omega
   have hrn : r.f + r.ys.length = s.hn := by
    obtain ⟨_, _, _, _, _, _, _, _, _, _, _, q⟩ := hI1
    have := congrArg List.length hre
    rw [List.length_map] at this
    rw [q, hrf, this]
   have hfst2 : ∀ h : 0 < (rs ++ [r]).length, (rs ++ [r])[0].f = f := fun h => by
    by_cases q : 0 < rs.length
    ·rw [List.getElem_append_left q]; exact hfst q
    ·obtain rfl : rs = [] := List.eq_nil_of_length_eq_zero (by omega)
     show r.f = f
     rw [hrf]; exact hi0 (by rw [← hrl]; rfl)
   exact ih (i + 1, s.hn, (A11, R.2.1 + 1, c11), rs ++ [r], s.hep) w14 _ (by simp only; omega) ⟨by show i + 1 ≤ bs.length; omega, e014, k14, o14, by rw [List.length_append, List.length_singleton, hrl], hseg14, hsA, hfst2, ss0 ++ [s], t, s.hn, s.hep, by rw [hss, List.append_assoc]; rfl, hrd.snoc hre hrn, himg2, fun q => absurd q (Nat.succ_ne_zero _), fun _ => ⟨rfl, rfl⟩⟩ (.c rfl (.c rfl (.c rfl (.c rfl (.c rfl (.c rfl (.n)))))))
  ·clear ih
   obtain rfl : i = bs.length := by omega
   have hlt4 : ¬ ((bs.length : Nat) : Int) < (y.2.1 : Int) := by omega
   rw [List.drop_of_length_le (Nat.le_refl _)] at himg
   have himg : ss1 = [] := himg
   rw [himg, List.append_nil] at hss
   repeat (first | refine T_seq ?_ | refine T_region ?_ | refine T_cond_false rfl ?_ | refine T_exit rfl ?_ | refine TL_lt_f (hk := ?_) | refine TL_nil ?_ | refine TL_move (hk := ?_) | refine TL_assign (hk := ?_))
   exact T_ret2 rfl rfl rfl ⟨sb, R, rs, ec, rfl, ⟨k7, o7.rd, fun r hr => (hseg r hr).1, o7.cap.1, by omega⟩, by rw [hss]; exact hrd, hrl, hfst, e7⟩
set_option maxHeartbeats 1600000
section
variable {base jb d lg : Nat} {sd : SL} {gd : Nat → Nat} {k : DK} {sl : SL} {es : List EM} {g : Nat → Nat} {L : LE} {fl : Int}
theorem Flush_c (w : World) (J : JrM w base jb d lg sd gd k sl es g L fl) :
  Ret Tryz.prog 25 [pB jb] w (fun v w' => v = .int .i64 ((opD k synD).2 : Int) ∧ ∃ sd' gd', JrM w' base jb d lg sd' gd' (opD k synD).1 sl es g L (if (opD k synD).2 = 0 then (L.l.length : Int) else fl) ∧ Tn (oJ jb gd) (oJ jb gd') w w') := by
 have hb := J.blk
 obtain ⟨r, hr⟩ : ∃ r, opD k synD = r := ⟨_, rfl⟩
 rw [hr]
 refine ret_T (n := 22) Tryz.func25 rfl rfl ?_
 repeat (first | refine T_seq ?_ | refine T_region ?_ | refine T_cond_false rfl ?_ | refine T_skip ?_ | refine TL_pnil_f TE (hk := ?_) | refine TL_nil ?_ | refine TL_move (hk := ?_) | refine TL_assign (hk := ?_) | refine TL_load TE (hk := ?_) | refine TL_fieldAddr TE (hk := ?_) | refine TL_nilCheck (hk := ?_))
 refine TL_call TE (hc := Sync_c w J.dk) (hk := ?_)
 rintro _ w1 ⟨rfl, sd1, gd1, D1, T1⟩
 have J1 := J.disk D1 T1
 have hb1 := J1.blk
 rw [hr] at J1 ⊢
 by_cases c : r.2 = 0
 ·have c' : ((r.2 : Nat) : Int) = 0 := by omega
  rw [if_pos c]
  repeat (first | refine T_seq ?_ | refine T_region ?_ | refine T_cond_true rfl ?_ | refine TL_eq_t (hk := ?_) | refine TL_nil ?_ | refine TL_move (hk := ?_) | refine TL_assign (hk := ?_) | refine TL_load TE (hk := ?_) | refine TL_fieldAddr TE (hk := ?_) | refine TL_nilCheck (hk := ?_))
  refine TL_call TE (hc := LLen_c w1 J1.log) (hk := ?_)
  rintro _ w2 ⟨rfl, hw2⟩
  rw [hw2]
  clear hw2 w2
  repeat (first | refine TL_fieldAddr TE (hk := ?_) | refine TL_nilCheck (hk := ?_))
  refine TL_store TE (hk := ?_); intro w3 m3 z3 k3
  have hJ3 : JrM w3 base jb d lg sd1 gd1 r.1 sl es g L (L.l.length : Int) := { J1 with blk := k3, dk := J1.dk.mod m3 (fun b hb => by rw [List.mem_singleton.1 hb]; exact J1.dj), log := J1.log.mod m3 (fun b hb => by rw [List.mem_singleton.1 hb]; exact J1.gj) }
  repeat (first | refine T_seq ?_ | refine T_region ?_ | refine TL_nil ?_ | refine TL_move (hk := ?_) | refine TL_assign (hk := ?_))
  exact T_ret1 rfl rfl ⟨by rw [c], sd1, gd1, hJ3, (oJ_tn T1).trans (oJ_one m3)⟩
 ·have c' : ¬ ((r.2 : Nat) : Int) = 0 := by omega
  rw [if_neg c]
  repeat (first | refine T_seq ?_ | refine T_region ?_ | refine T_cond_false rfl ?_ | refine T_skip ?_ | refine TL_eq_f (hk := ?_) | refine TL_nil ?_ | refine TL_move (hk := ?_) | refine TL_assign (hk := ?_))
  exact T_ret1 rfl rfl ⟨rfl, sd1, gd1, J1, oJ_tn T1⟩
theorem Written_c (w : World) (J : JrM w base jb d lg sd gd k sl es g L fl) : Ret Tryz.prog 28 [pB jb] w (fun v w' => v = .int .i64 (L.l.length : Int) ∧ w' = w) := by
 have hb := J.blk
 refine ret_T (n := 10) Tryz.func28 rfl rfl ?_
 repeat (first | refine T_seq ?_ | refine T_region ?_ | refine T_cond_false rfl ?_ | refine T_skip ?_ | refine TL_pnil_f TE (hk := ?_) | refine TL_nil ?_ | refine TL_move (hk := ?_) | refine TL_assign (hk := ?_) | refine TL_load TE (hk := ?_) | refine TL_fieldAddr TE (hk := ?_) | refine TL_nilCheck (hk := ?_))
 refine TL_call TE (hc := LLen_c w J.log) (hk := ?_)
 rintro _ w1 ⟨rfl, rfl⟩
 repeat (first | refine TL_nil ?_ | refine TL_assign (hk := ?_))
 exact T_ret1 rfl rfl ⟨rfl, rfl⟩
end
theorem jnum_c (z : Int) (w : World) : Ret Tryz.prog 9 [.int .i64 z] w (fun v w' => v = .int .i64 z ∧ w' = w) := by
 refine ret_T (n := 4) Tryz.func9 rfl rfl ?_
 repeat (first | refine T_seq ?_ | refine T_region ?_ | refine TL_nil ?_ | refine TL_move (hk := ?_) | refine TL_assign (hk := ?_))
 exact T_ret1 rfl rfl ⟨rfl, rfl⟩
def lvP : PE := ⟨⟨0, 0, [112], []⟩, 1, [], []⟩
def lvW1 : (LE × Int × Nat) × DK := writeJ ⟨[], 0⟩ (newD []) 0 [lvP, lvP]
def lvS : DK × Nat := opD lvW1.2 synD
def lvW2 : (LE × Int × Nat) × DK := writeJ lvW1.1.1 lvS.1 1 [lvP]
def lvO : Option LE × Nat × DK := openJ (newD (leftD lvW2.2 5))
theorem lv1 : openJ (newD []) = (some ⟨[], 0⟩, 0, newD []) := by kernel_rfl
theorem lv2 : lvW1.1.2.1 = 0 := by decide +kernel
theorem lv3 : lvW1.1.2.2 = 0 := by decide +kernel
theorem lv4 : lvS.2 = 0 := by decide +kernel
theorem lv5 : lvO.2.1 = 0 := by decide +kernel
theorem lv6 : lvO.1.map (fun L => L.l.length) = some 2 := by decide +kernel
theorem lv7 : lvW2.1.1.l.length = 3 := by decide +kernel
set_option maxHeartbeats 3200000
def lvM : PM := ⟨lvP, (none, 0, 0), (none, 0, 0), (none, 0, 0)⟩
theorem lvM_ok (w : World) : PLies w lvM ∧ PFit lvM.p :=
 ⟨⟨(Own.nil w 0 161 3).rd, (Own.nil w 0 9 1).rd, (Own.nil w 0 9 1).rd⟩, ⟨⟨by decide, by decide, by decide, fun v hv => by cases hv⟩, by decide, by decide, by decide, by decide, fun i hi => (by cases hi), fun i hi => (by cases hi)⟩⟩
theorem OpO.jrm {w w' : World} {base d : Nat} {gd : Nat → Nat} {o : Option LE × Nat × DK} {jp : Value} {L : LE} (h : OpO w w' base d gd o jp) (hL : o.1 = some L) (hb : base ≤ w.heap.size) :
  ∃ sd' gd' jb lg sl es g, jp = pB jb ∧ JrM w' base jb d lg sd' gd' o.2.2 sl es g L (L.l.length : Int) ∧ Tn gd gd' w w' ∧ w.heap.size ≤ jb := by
 obtain ⟨sl', gd', D, T, hm⟩ := h
 rw [hL] at hm
 obtain ⟨jb, lg, sl, es, g, hj, k, M, ok, gj, hjb, hd, gdj⟩ := hm
 exact ⟨sl', gd', jb, lg, sl, es, g, hj, ⟨k, D, { M with ow := Own.weaken M.ow hb, old := fun b q => by have := M.old b q; omega }, ok, hd, gj, gdj, by omega⟩, T, hjb⟩
theorem jlive_c (w : World) : Ret Tryz.prog 10 [] w (fun v w' => v = .bool true ∧ Ext w w') := by
 refine ret_T (n := 81) Tryz.func10 rfl rfl ?_
 repeat (first | refine T_seq ?_ | refine T_region ?_ | refine TL_nil ?_ | refine TL_assign (hk := ?_))
 refine TL_call TE (hc := NewDisk_c none 0 0 [] w (Own.nil w 0 5 1).rd (by omega) (by omega)) (hk := ?_)
 rintro _ w1 ⟨d, sd1, gd1, rfl, e1, D1⟩
 have z1 := e1.size
 repeat (first | refine T_seq ?_ | refine T_region ?_ | refine TL_nil ?_ | refine TL_move (hk := ?_) | refine TL_assign (hk := ?_))
 refine TL_call TE (hc := Open_j w1 D1 getEn_fit) (hk := ?_)
 rintro _ w2 ⟨jp, rfl, O2⟩
 obtain ⟨sd2, gd2, jb, lg2, sl2, es2, g2, rfl, J2, T2, hjb⟩ := O2.jrm (L := ⟨[], 0⟩) (by rw [lv1]) z1
 rw [lv1] at J2 ⊢
 simp only at J2 ⊢
 repeat (first | refine T_seq ?_ | refine T_region ?_ | refine TL_pnil_f TE (hk := ?_) | refine TL_nil ?_ | refine TL_move (hk := ?_) | refine TL_assign (hk := ?_) | refine TL_yes (hk := ?_) | refine TL_extract (hk := ?_))
 refine TL_call TE (hc := jnum_c _ w2) (hk := ?_)
 rintro _ w3 ⟨rfl, hw3⟩
 rw [hw3]
 clear hw3 w3
 repeat (first | refine T_seq ?_ | refine T_region ?_ | refine T_cond_false rfl ?_ | refine T_skip ?_ | refine TL_ne_f (hk := ?_) | refine TL_pnil_f TE (hk := ?_) | refine TL_nil ?_ | refine TL_move (hk := ?_) | refine TL_yes (hk := ?_) | refine TL_pick_f (hk := ?_) | refine TL_build TE (hk := ?_))
 refine TL_alloc TE (hk := ?_); intro b4 w4 e4 h4 h4' k4
 --
 refine TL_storea TE (hk := ?_); intro w5 m5 z5 k5
 replace k5 : Blk w5 b4 45 (pmV lvM) := k5
 have e25 : Ext w2 w5 := e4.step m5 (fun u hu => .inr (by rw [List.mem_singleton.1 hu]; omega))
 have J5 := J2.ext e25
 unfold pmV at k5
 repeat (first | refine T_seq ?_ | refine T_region ?_ | refine TL_nil ?_ | refine TL_move (hk := ?_))
 refine TL_loadb TE (cs := pmV lvM) (o := 0) rfl rfl k5 rfl rfl (Nat.succ_pos _) (hk := ?_)
 --
 refine TL_loadb TE (cs := pmV lvM) (o := 0) rfl rfl k5 rfl rfl (Nat.succ_pos _) (hk := ?_)
 --
 refine TL_buildSliceA TE (hk := ?_); intro b6 w6 e6 h6 h6' k6
 replace k6 : Blk w6 b6 45 (rowV pmV [lvM, lvM]) := k6
 have r6 : Rd w6 (some ⟨b6, 0, none⟩) 2 7 (rowV pmV [lvM, lvM]) := Rd.blk k6 rfl
 have J6 := J5.ext e6
 have hb0 : w.heap.size ≤ w2.heap.size := by have := T2.size; omega
 have e02 : Ext w w2 := T2.ext0 e1 (fun b hb => (D1.old b hb).1)
 have e06 := (e02.ext e25).ext e6
 have hjl : jb < w2.heap.size := J2.blk.lt
 have hp4 : b4 ≠ jb := by omega
 have gd4 : gd2 b4 = 0 := by
  by_cases q : gd2 b4 = 0
  ·exact q
  ·have := (J2.dk.old b4 q).2; omega
 have o4 : oJ jb gd2 b4 = 0 := by rw [oJ_ne hp4]; exact gd4
 have k46 := k5.be e6
 have hx : ∀ x ∈ [lvM, lvM], PLies w6 x ∧ PFit x.p := fun x hm => by
  have : x = lvM := by simpa using hm
  rw [this]; exact lvM_ok w6
 have hA6 : ∀ u ∈ blkL (some ⟨b6, 0, none⟩), u < w6.heap.size := fun u hu => by
  have h := Lo.mem (A := some ⟨b6, 0, none⟩) (B := w6.heap.size) (fun ad e => by cases e; exact h6') u hu
  exact h
 have hB6 : ∀ x ∈ [lvM, lvM], ∀ u ∈ pmB x, u < w6.heap.size := fun x hm u hu => by
  have hm' : x = lvM := by simpa using hm
  rw [hm'] at hu
  cases hu
 --
 refine TL_call TE (hc := Write_c 0 (some ⟨b6, 0, none⟩) 2 2 [lvM, lvM] w6 J6 r6 hx hA6 hB6 (by decide) (by decide)) (hk := ?_)
 have hW1 : writeJ ⟨[], 0⟩ (newD []) 0 ([lvM, lvM].map (·.p)) = lvW1 := rfl
 rw [hW1, lv2, lv3]
 rintro _ w7 ⟨rfl, lg7, sd7, gd7, sl7, es7, g7, J7, T7, -⟩
 have e07 := T7.ext0 e06 (fun b hb => (J6.old b hb).1)
 have k47 : Blk w7 b4 45 (pmV lvM) := by
  obtain ⟨⟨Z, m7, s7⟩, -, -⟩ := T7
  exact k46.mod m7 (fun q => s7 b4 q o4)
 have o47 := T7.old o4 k46.lt
 repeat (first | refine T_seq ?_ | refine T_region ?_ | refine TL_nil ?_ | refine TL_move (hk := ?_) | refine TL_assign (hk := ?_) | refine TL_extract (hk := ?_))
 refine TL_call TE (hc := Flush_c w7 J7) (hk := ?_)
 have hS : opD lvW1.2 synD = lvS := rfl
 rw [hS, lv4]
 rintro _ w8 ⟨rfl, sd8, gd8, J8, T8⟩
 rw [if_pos rfl] at J8
 have e08 := T8.ext0 e07 (fun b hb => (J7.old b hb).1)
 have k48 : Blk w8 b4 45 (pmV lvM) := by
  obtain ⟨⟨Z, m7, s7⟩, -, -⟩ := T8
  exact k47.mod m7 (fun q => s7 b4 q o47)
 clear k47 k46 k5 k6 J6 J5 J7 r6
 unfold pmV at k48
 repeat (first | refine T_seq ?_ | refine T_region ?_ | refine TL_nil ?_ | refine TL_move (hk := ?_) | refine TL_assign (hk := ?_))
 refine TL_loadb TE (cs := pmV lvM) (o := 0) rfl rfl k48 rfl rfl (Nat.succ_pos _) (hk := ?_)
 --
 refine TL_buildSliceA TE (hk := ?_); intro b9 w9 e9 h9 h9' k9
 replace k9 : Blk w9 b9 45 (rowV pmV [lvM]) := k9
 have r9 : Rd w9 (some ⟨b9, 0, none⟩) 1 7 (rowV pmV [lvM]) := Rd.blk k9 rfl
 have J9 := J8.ext e9
 have e09 := e08.ext e9
 have hx9 : ∀ x ∈ [lvM], PLies w9 x ∧ PFit x.p := fun x hm => by
  have : x = lvM := by simpa using hm
  rw [this]; exact lvM_ok w9
 have hA9 : ∀ u ∈ blkL (some ⟨b9, 0, none⟩), u < w9.heap.size := fun u hu => by
  have h := Lo.mem (A := some ⟨b9, 0, none⟩) (B := w9.heap.size) (fun ad e => by cases e; exact h9') u hu
  exact h
 have hB9 : ∀ x ∈ [lvM], ∀ u ∈ pmB x, u < w9.heap.size := fun x hm u hu => by
  have hm' : x = lvM := by simpa using hm
  rw [hm'] at hu
  cases hu
 --
 refine TL_call TE (hc := Write_c 1 (some ⟨b9, 0, none⟩) 1 1 [lvM] w9 J9 r9 hx9 hA9 hB9 (by decide) (by decide)) (hk := ?_)
 have hW2 : writeJ lvW1.1.1 lvS.1 1 ([lvM].map (·.p)) = lvW2 := rfl
 rw [hW2]
 rintro _ w10 ⟨rfl, lg10, sd10, gd10, sl10, es10, g10, J10, T10, -⟩
 have e010 := T10.ext0 e09 (fun b hb => (J9.old b hb).1)
 clear J8 J9 k9 r9 k48
 repeat (first | refine T_seq ?_ | refine T_region ?_ | refine TL_nil ?_ | refine TL_move (hk := ?_))
 refine TL_call TE (hc := Left_c 5 w10 J10.dk) (hk := ?_)
 rintro _ w11 ⟨y, rfl, D11, T11, oy⟩
 have J11 := J10.disk D11 T11
 have e011 := T11.ext0 e010 (fun b hb => (J10.dk.old b hb).1)
 have hyl := oy.len
 have hyc := oy.cap.1
 simp only [bv_length, Nat.mul_one] at hyl
 have hll : (leftD lvW2.2 5).length ≤ 4194304 := by
  have := J10.dk.ok.ln
  unfold leftD
  rw [List.length_take]; omega
 --
 refine TL_call TE (hc := NewDisk_c y.1 y.2.1 y.2.2 (leftD lvW2.2 5) w11 oy.rd hyc (by omega)) (hk := ?_)
 rintro _ w12 ⟨d2, sd12, gd12, rfl, e12, D12⟩
 have J12 := J11.ext e12
 --
 refine TL_call TE (hc := Open_j w12 D12 getEn_fit) (hk := ?_)
 have hO : openJ (newD (leftD lvW2.2 5)) = lvO := rfl
 rw [hO, lv5]
 rintro _ w13 ⟨jp2, rfl, O13⟩
 obtain ⟨L2, hL2, hL2n⟩ : ∃ L2, lvO.1 = some L2 ∧ L2.l.length = 2 := by
  have h := lv6
  cases hq : lvO.1 with
  |none => rw [hq] at h; cases h
  |some L => rw [hq] at h; exact ⟨L, rfl, by simpa using h⟩
 obtain ⟨sd13, gd13, jb2, lg13, sl13, es13, g13, rfl, J13, T13, hjb2⟩ := O13.jrm hL2 (Nat.le_of_lt_succ (Nat.lt_succ_of_le e12.size))
 have e1213 : Ext w11 w13 := T13.ext0 e12 (fun b hb => (D12.old b hb).1)
 have J12' := J11.ext e1213
 have e013 := e011.ext e1213
 have h3 := lv7
 clear J10 J11 J12
 repeat (first | refine T_seq ?_ | refine T_region ?_ | refine TL_nil ?_ | refine TL_move (hk := ?_) | refine TL_assign (hk := ?_) | refine TL_extract (hk := ?_))
 refine TL_call TE (hc := jnum_c _ w13) (hk := ?_)
 rintro _ w14 ⟨rfl, hw⟩
 rw [hw]
 clear hw w14
 repeat (first | refine TL_eq_t (hk := ?_) | refine TL_move (hk := ?_) | refine TL_yes (hk := ?_) | refine TL_pick_t (hk := ?_))
 refine TL_call TE (hc := jnum_c _ w13) (hk := ?_)
 rintro _ w14 ⟨rfl, hw⟩
 rw [hw]
 clear hw w14
 repeat (first | refine TL_eq_t (hk := ?_) | refine TL_move (hk := ?_) | refine TL_yes (hk := ?_) | refine TL_pick_t (hk := ?_))
 refine TL_call TE (hc := jnum_c _ w13) (hk := ?_)
 rintro _ w14 ⟨rfl, hw⟩
 rw [hw]
 clear hw w14
 repeat (first | refine TL_eq_t (hk := ?_) | refine TL_pnn_t TE (hk := ?_) | refine TL_move (hk := ?_) | refine TL_yes (hk := ?_) | refine TL_pick_t (hk := ?_))
 refine TL_call TE (hc := Written_c w13 J13) (hk := ?_)
 rintro _ w14 ⟨rfl, hw⟩
 rw [hw, hL2n]
 clear hw w14
 repeat (first | refine TL_eq_t (hk := ?_) | refine TL_move (hk := ?_) | refine TL_yes (hk := ?_) | refine TL_pick_t (hk := ?_))
 refine TL_call TE (hc := Written_c w13 J12') (hk := ?_)
 rintro _ w14 ⟨rfl, hw⟩
 rw [hw, h3]
 clear hw w14
 repeat (first | refine TL_eq_t (hk := ?_) | refine TL_nil ?_ | refine TL_assign (hk := ?_) | refine TL_yes (hk := ?_) | refine TL_pick_t (hk := ?_))
 exact T_ret1 rfl rfl ⟨rfl, e013⟩
set_option maxHeartbeats 3200000
set_option maxHeartbeats 3200000
structure B2 (w : World) (base d r : Nat) (sl : SL) (g : Nat → Nat) (slr : SL) (gr : Nat → Nat) (k : DK) : Prop where
 dk : DiskM w base d 0 sl g k
 rk : RDiskM w base r slr gr k
 ap : ∀ b, g b = 0 ∨ gr b = 0
section
variable {w w' : World} {base d r : Nat} {sl slr : SL} {g gr g' gr' : Nat → Nat} {k : DK} {Z : List Nat}
end
set_option maxHeartbeats 3200000
structure KV where
 kd : Int
 A : Option Addr
 n : Nat
 c : Nat
 b : List UInt8
 x : Int
def kv0 : KV := ⟨0, none, 0, 0, [], 0⟩
def kvV (x : KV) : List Value := [.int .i64 x.kd, .slice x.A x.n x.c, .int .i64 x.x]
structure KVOk (w : World) (x : KV) : Prop where
 rd : Rd w x.A x.n 1 (bv x.b)
 nc : x.n ≤ x.c
 n : x.n ≤ 1048576
 kd : -9223372036854775808 ≤ x.kd ∧ x.kd ≤ 9223372036854775807
 x : -9223372036854775808 ≤ x.x ∧ x.x ≤ 9223372036854775807
abbrev tyKAct : Ty := .struct (.cons (.int .i64) (.cons (.slice (.int .u8)) (.cons (.int .i64) .unit)))
def totK (l : List KV) (i : Nat) : Nat := ((l.take i).map fun x => x.n).sum
set_option maxHeartbeats 3200000
set_option maxHeartbeats 3200000
theorem eqValue (a b : Int) (t : ByteArray) (w : World) : (Op.equalIn 10000 161 (.agg #[.int .i64 a, .int .i64 b, .string t]) (.agg #[.int .i64 a, .int .i64 b, .string t])).run Tryz.prog w = .ok true w := by
 rw [run_equalIn_struct w 9999 _ _ _ (by kernel_rfl) (by kernel_rfl)]
 have e : (Tryz.prog.fieldsOf 161).toList = [{ name := "Kind", type := 3, offset := 0, embedded := false, tag := "", pkgPath := "", byteOffset := 0 }, { name := "Int", type := 2, offset := 1, embedded := false, tag := "", pkgPath := "", byteOffset := 8 }, { name := "Text", type := 9, offset := 2, embedded := false, tag := "", pkgPath := "", byteOffset := 16 }] := by kernel_rfl
 rw [e]
 have h1 := str_beq t t
 simp [Op.eqFields, part, run_equalIn_int w 9998 3 .i64 .i64 _ _ Tryz.underlying3, run_equalIn_int w 9998 2 .i64 .i64 _ _ Tryz.underlying2, run_equalIn_string w 9998 9 _ _ Tryz.underlying9, run_isAgg_no Tryz.underlying9 rfl, run_isAgg_no Tryz.underlying3 rfl, run_isAgg_no Tryz.underlying2 rfl, h1]
theorem rvalues_c (A B : Option Addr) (n c d : Nat) (l : List VE) (w : World) (h : Rd w A n 3 (rowV veV l)) (g : Rd w B n 3 (rowV veV l)) (hn : n ≤ 1048576) :
  Ret Tryz.prog 79 [.slice A n c, .slice B n d] w (fun v w' => v = .bool true ∧ Ext w w') := by
 have hla : l.length = n := by have := h.1; rw [rowV_len veV_len] at this; omega
 refine ret_T (n := 26) Tryz.func79 rfl rfl ?_
 repeat (first | refine T_seq ?_ | refine T_region ?_ | refine T_cond_false rfl ?_ | refine T_block ?_ | refine T_skip ?_ | refine TL_ne_f (hk := ?_) | refine TL_nil ?_ | refine TL_move (hk := ?_) | refine TL_assign (hk := ?_) | refine TL_len TE (hk := ?_))
 refine T_loop (ι := Nat) (fun i => [(5, .int .i64 (i : Int)), (0, .slice A n c), (1, .slice B n d)]) (fun i w' => Ext w w' ∧ i ≤ n) (fun i => n - i) 0 (.c rfl (.c rfl (.c rfl (.n)))) ⟨Mod.refl _ _, Nat.zero_le _⟩ ?_
 rintro i w1 ⟨e1, hi⟩ ih
 have h1 := h.be e1
 have g1 := g.be e1
 by_cases hlt : i < n
 ·obtain ⟨x, hx⟩ : ∃ x, l.getD i ⟨0, 0, []⟩ = x := ⟨_, rfl⟩
  have hta := rowV_elem veV_len l i ⟨0, 0, []⟩ (by omega)
  have hA : A ≠ none := by obtain ⟨_, _, hq, _⟩ := h1.2 (by omega); rw [hq]; simp
  have hB : B ≠ none := by obtain ⟨_, _, hq, _⟩ := g1.2 (by omega); rw [hq]; simp
  rw [hx] at hta
  repeat (first | refine T_seq ?_ | refine T_region ?_ | refine T_region_q TE.mixed (by kernel_rfl) ?_ | refine T_cond_true rfl ?_ | refine T_block ?_ | refine T_skip ?_ | refine TL_lt_t (hk := ?_) | refine TL_nil ?_ | refine TL_move (hk := ?_) | refine TL_indexAddrn TE (hk := ?_) | refine TL_len TE (hk := ?_))
  refine TL_loada TE (cs := [.int .i64 x.kd, .int .i64 x.n, .string (ofL x.t)]) (hx := rfl) (ht := rfl) (hi := rfl) (hr := h1) (hc := hta) (h0 := Nat.succ_pos _) (hk := ?_)
  repeat (first | refine TL_move (hk := ?_) | refine TL_indexAddrn TE (hk := ?_))
  refine TL_loada TE (cs := [.int .i64 x.kd, .int .i64 x.n, .string (ofL x.t)]) (hx := rfl) (ht := rfl) (hi := rfl) (hr := g1) (hc := hta) (h0 := Nat.succ_pos _) (hk := ?_)
  refine TL_ane (r := true) (by kernel_rfl) (eqValue _ _ _) (hk := ?_)
  refine TL_nil_q ?_; intro w2 e2
  repeat (first | refine T_region ?_ | refine T_cond_false rfl ?_ | refine T_inBlock ?_ | refine T_skip ?_ | refine TL_add (hk := ?_) | refine TL_nil ?_ | refine TL_move (hk := ?_) | refine TL_assign (hk := ?_))
  exact ih (i + 1) _ _ (by omega) ⟨e1.ext e2, by omega⟩ (.c rfl (.c rfl (.c rfl (.n))))
 ·clear ih
  repeat (first | refine T_seq ?_ | refine T_region ?_ | refine T_cond_false rfl ?_ | refine T_exit rfl ?_ | refine TL_lt_f (hk := ?_) | refine TL_nil ?_ | refine TL_move (hk := ?_) | refine TL_assign (hk := ?_) | refine TL_len TE (hk := ?_))
  exact T_ret1 rfl rfl ⟨rfl, e1⟩
theorem rtexts_c (A B : Option Addr) (n c d : Nat) (l : List (List UInt8)) (w : World) (h : Rd w A n 1 (sv l)) (g : Rd w B n 1 (sv l)) (hn : n ≤ 1048576) :
  Ret Tryz.prog 80 [.slice A n c, .slice B n d] w (fun v w' => v = .bool true ∧ Ext w w') := by
 have hla : l.length = n := by simpa using h.1
 refine ret_T (n := 26) Tryz.func80 rfl rfl ?_
 repeat (first | refine T_seq ?_ | refine T_region ?_ | refine T_cond_false rfl ?_ | refine T_block ?_ | refine T_skip ?_ | refine TL_ne_f (hk := ?_) | refine TL_nil ?_ | refine TL_move (hk := ?_) | refine TL_assign (hk := ?_) | refine TL_len TE (hk := ?_))
 refine T_loop (ι := Nat) (fun i => [(5, .int .i64 (i : Int)), (0, .slice A n c), (1, .slice B n d)]) (fun i w' => Ext w w' ∧ i ≤ n) (fun i => n - i) 0 (.c rfl (.c rfl (.c rfl (.n)))) ⟨Mod.refl _ _, Nat.zero_le _⟩ ?_
 rintro i w1 ⟨e1, hi⟩ ih
 have h1 := h.be e1
 have g1 := g.be e1
 by_cases hlt : i < n
 ·have hA : A ≠ none := by obtain ⟨_, _, hq, _⟩ := h1.2 (by omega); rw [hq]; simp
  have hB : B ≠ none := by obtain ⟨_, _, hq, _⟩ := g1.2 (by omega); rw [hq]; simp
  repeat (first | refine T_seq ?_ | refine T_region ?_ | refine T_region_q TE.mixed (by kernel_rfl) ?_ | refine T_cond_true rfl ?_ | refine T_block ?_ | refine T_skip ?_ | refine TL_lt_t (hk := ?_) | refine TL_sne_f (hk := ?_) | refine TL_nil ?_ | refine TL_move (hk := ?_) | refine TL_indexAddr1n TE (hk := ?_) | refine TL_len TE (hk := ?_) | refine TL_load_s TE (hk := ?_))
  refine TL_nil_q ?_; intro w2 e2
  repeat (first | refine T_region ?_ | refine T_cond_false rfl ?_ | refine T_inBlock ?_ | refine T_skip ?_ | refine TL_add (hk := ?_) | refine TL_nil ?_ | refine TL_move (hk := ?_) | refine TL_assign (hk := ?_))
  exact ih (i + 1) _ _ (by omega) ⟨e1.ext e2, by omega⟩ (.c rfl (.c rfl (.c rfl (.n))))
 ·clear ih
  repeat (first | refine T_seq ?_ | refine T_region ?_ | refine T_cond_false rfl ?_ | refine T_exit rfl ?_ | refine TL_lt_f (hk := ?_) | refine TL_nil ?_ | refine TL_move (hk := ?_) | refine TL_assign (hk := ?_) | refine TL_len TE (hk := ?_))
  exact T_ret1 rfl rfl ⟨rfl, e1⟩
theorem PSame_c (x y : PM) (w : World) (X : PLies w x) (Y : PLies w y) (F : PFit x.p) (hxy : x.p = y.p) : Ret Tryz.prog 31 [pA x, pA y] w (fun v w' => v = .bool true ∧ Ext w w') := by
 obtain ⟨l1, l2, l3⟩ := X.len
 obtain ⟨m1, m2, m3⟩ := Y.len
 rw [← hxy] at m1 m2 m3
 have na := F.na
 have nb := F.nb
 have nc := F.nc
 have tk := F.q.tk
 have cl := F.q.cl
 have hw := F.how
 obtain ⟨P, a, b, c⟩ := x
 obtain ⟨P2, a2, b2, c2⟩ := y
 obtain ⟨a, an, ac⟩ := a
 obtain ⟨b, bn, bc⟩ := b
 obtain ⟨c, cn, cc⟩ := c
 obtain ⟨a2, an2, ac2⟩ := a2
 obtain ⟨b2, bn2, bc2⟩ := b2
 obtain ⟨c2, cn2, cc2⟩ := c2
 simp only at hxy
 subst hxy
 simp only at l1 l2 l3 m1 m2 m3 na nb nc tk cl hw
 have q1 : an2 = an := by omega
 have q2 : bn2 = bn := by omega
 have q3 : cn2 = cn := by omega
 subst q1 q2 q3
 obtain ⟨xa, xb, xc⟩ := X
 obtain ⟨ya, yb, yc⟩ := Y
 simp only at xa xb xc ya yb yc
 refine ret_T (n := 62) Tryz.func31 rfl rfl ?_
 repeat (first | refine T_seq ?_ | refine T_region ?_)
 refine TL_box (hk := ?_); intro p1 w1 e1 h1 h1' k1
 refine TL_box (hk := ?_); intro p2 w2 e2 h2 h2' k2
 replace k1 : Blk w1 p1 45 [.int .i64 P.q.cl, .int .u64 (P.q.tk : Int), .string (ofL P.q.nm), .slice a an2 ac, .int .i64 P.how, .slice b bn2 bc, .slice c cn2 cc] := k1
 replace k2 : Blk w2 p2 45 [.int .i64 P.q.cl, .int .u64 (P.q.tk : Int), .string (ofL P.q.nm), .slice a2 an2 ac2, .int .i64 P.how, .slice b2 bn2 bc2, .slice c2 cn2 cc2] := k2
 have k12 := k1.be e2
 have e02 := e1.ext e2
 clear k1
 repeat (first | refine T_seq ?_ | refine T_region ?_ | refine TL_nil ?_ | refine TL_assign (hk := ?_) | refine TL_fieldAddr TE (hk := ?_))
 refine TL_loadb TE (cs := [.int .i64 P.q.cl, .int .u64 (P.q.tk : Int), .string (ofL P.q.nm), .slice a an2 ac]) (o := 0) rfl rfl k12 rfl rfl (Nat.succ_pos _) (hk := ?_)
 --
 refine TL_alloc TE (hk := ?_); intro p3 w3 e3 h3 h3' k3
 --
 refine TL_storea TE (hk := ?_); intro w4 m4 z4 k4
 replace k4 : Blk w4 p3 40 [.int .i64 P.q.cl, .int .u64 (P.q.tk : Int), .string (ofL P.q.nm), .slice a an2 ac] := k4
 have e24 : Ext w2 w4 := e3.step m4 (fun u hu => .inr (by rw [List.mem_singleton.1 hu]; omega))
 have k14 := k12.be e24
 have k24 := k2.be e24
 clear k12 k2
 repeat (first | refine T_seq ?_ | refine T_region ?_ | refine TL_nil ?_ | refine TL_fieldAddr TE (hk := ?_))
 refine TL_loadb TE (cs := [.int .i64 P.q.cl, .int .u64 (P.q.tk : Int), .string (ofL P.q.nm), .slice a2 an2 ac2]) (o := 0) rfl rfl k24 rfl rfl (Nat.succ_pos _) (hk := ?_)
 --
 refine TL_alloc TE (hk := ?_); intro p5 w5 e5 h5 h5' k5
 --
 refine TL_storea TE (hk := ?_); intro w6 m6 z6 k6
 replace k6 : Blk w6 p5 40 [.int .i64 P.q.cl, .int .u64 (P.q.tk : Int), .string (ofL P.q.nm), .slice a2 an2 ac2] := k6
 have e46 : Ext w4 w6 := e5.step m6 (fun u hu => .inr (by rw [List.mem_singleton.1 hu]; omega))
 have k16 := k14.be e46
 have k26 := k24.be e46
 have k36 := k4.be e46
 have e06 := (e02.ext e24).ext e46
 clear k14 k24 k4
 repeat (first | refine T_seq ?_ | refine T_region ?_ | refine TL_eq_t (hk := ?_) | refine TL_seq_t (hk := ?_) | refine TL_nil ?_ | refine TL_move (hk := ?_) | refine TL_load TE (hk := ?_) | refine TL_fieldAddr TE (hk := ?_) | refine TL_yes (hk := ?_) | refine TL_pick_t (hk := ?_))
 refine TL_call TE (hc := rvalues_c a a2 an2 ac ac2 P.q.ar w6 (xa.be e06) (ya.be e06) (by omega)) (hk := ?_)
 rintro _ w7 ⟨rfl, e7⟩
 have k17 := k16.be e7
 have k27 := k26.be e7
 have e07 := e06.ext e7
 clear k16 k26 k36 k6
 repeat (first | refine TL_eq_t (hk := ?_) | refine TL_move (hk := ?_) | refine TL_load TE (hk := ?_) | refine TL_fieldAddr TE (hk := ?_) | refine TL_yes (hk := ?_) | refine TL_pick_t (hk := ?_))
 refine TL_call TE (hc := rtexts_c b b2 bn2 bc bc2 P.rd w7 (xb.be e07) (yb.be e07) (by omega)) (hk := ?_)
 rintro _ w8 ⟨rfl, e8⟩
 have k18 := k17.be e8
 have k28 := k27.be e8
 have e08 := e07.ext e8
 clear k17 k27
 repeat (first | refine TL_move (hk := ?_) | refine TL_load TE (hk := ?_) | refine TL_fieldAddr TE (hk := ?_) | refine TL_yes (hk := ?_) | refine TL_pick_t (hk := ?_))
 refine TL_call TE (hc := rtexts_c c c2 cn2 cc cc2 P.wr w8 (xc.be e08) (yc.be e08) (by omega)) (hk := ?_)
 rintro _ w9 ⟨rfl, e9⟩
 repeat (first | refine TL_nil ?_ | refine TL_assign (hk := ?_) | refine TL_pick_t (hk := ?_))
 exact T_ret1 rfl rfl ⟨rfl, e08.ext e9⟩
theorem rplan_c (x : PM) (w : World) (X : PLies w x) (F : PFit x.p) : Ret Tryz.prog 77 [pA x] w (fun v w' => ∃ x', v = pA x' ∧ x'.p = x.p ∧ Ext w w' ∧ POwn w' w.heap.size x') := by
 obtain ⟨l1, l2, l3⟩ := X.len
 have na := F.na
 have nb := F.nb
 have nc := F.nc
 obtain ⟨P, a, b, c⟩ := x
 obtain ⟨a, an, ac⟩ := a
 obtain ⟨b, bn, bc⟩ := b
 obtain ⟨c, cn, cc⟩ := c
 obtain ⟨xa, xb, xc⟩ := X
 simp only at xa xb xc l1 l2 l3 na nb nc
 have hone := rowV_one veV_one P.q.ar
 have sone := sv_one P.rd
 have sone2 := sv_one P.wr
 refine ret_T (n := 25) Tryz.func77 rfl rfl ?_
 repeat (first | refine T_seq ?_ | refine T_region ?_)
 refine TL_box (hk := ?_); intro b1 w1 e1 h1 h1' k1
 replace k1 : Blk w1 b1 45 [.int .i64 P.q.cl, .int .u64 (P.q.tk : Int), .string (ofL P.q.nm), .slice a an ac, .int .i64 P.how, .slice b bn bc, .slice c cn cc] := k1
 --
 refine TL_alloc TE (hk := ?_); intro b2 w2 e2 h2 h2' k2
 have k12 := k1.be e2
 have e02 := e1.ext e2
 have z1 := e1.size
 have z2 := e2.size
 clear k1
 repeat (first | refine T_seq ?_ | refine T_region ?_ | refine TL_nil ?_)
 refine TL_buildSlice0 TE (hk := ?_); intro b3 w3 e3 h3 h3' k3
 have o3 : Own w3 w2.heap.size 161 3 (some ⟨b3, 0, none⟩) 0 0 [] := Own.of_blk k3 h3 rfl (by decide)
 have k13 := k12.be e3
 have xa3 := xa.be (e02.ext e3)
 repeat (first | refine TL_load TE (hk := ?_) | refine TL_fieldAddr TE (hk := ?_))
 refine TL_append TE (hk := ?_); intro A4 c4 w4 o4 m4 n4
 rw [List.nil_append] at o4
 have e24 : Ext w2 w4 := Mod.own e3 m4 o3.hi
 have k14 := k12.be e24
 have z4 := e24.size
 clear k13 k12 xa3 k3 o3
 repeat (refine TL_fieldAddr TE (hk := ?_))
 refine TL_store TE (hk := ?_); intro w5 m5 z5 k5
 replace k5 : Blk w5 b1 45 [.int .i64 P.q.cl, .int .u64 (P.q.tk : Int), .string (ofL P.q.nm), .slice A4 (0 + an) c4, .int .i64 P.how, .slice b bn bc, .slice c cn cc] := k5
 have e05 : Ext w w5 := (e02.ext e24).step m5 (fun u hu => .inr (by rw [List.mem_singleton.1 hu]; omega))
 have k25 := (k2.be e24).mod m5 (by simp; omega)
 have o5 : Own w5 w2.heap.size 161 3 A4 (0 + an) c4 (rowV veV P.q.ar) := o4.modL m5 (fun u hu q => by have := (o4.bl u hu).1; rw [List.mem_singleton] at q; omega)
 clear k14 k2 o4
 repeat (first | refine T_seq ?_ | refine T_region ?_ | refine TL_nil ?_)
 refine TL_buildSlice0 TE (hk := ?_); intro b6 w6 e6 h6 h6' k6
 have o6 : Own w6 w5.heap.size 9 1 (some ⟨b6, 0, none⟩) 0 0 [] := Own.of_blk k6 h6 rfl (by decide)
 have k16 := k5.be e6
 have xb6 := xb.be (e05.ext e6)
 repeat (first | refine TL_load TE (hk := ?_) | refine TL_fieldAddr TE (hk := ?_))
 refine TL_append TE (hk := ?_); intro A7 c7 w7 o7 m7 n7
 rw [List.nil_append] at o7
 have e57 : Ext w5 w7 := Mod.own e6 m7 o6.hi
 have k17 := k5.be e57
 have z7 := e57.size
 clear k16 k5 xb6 k6 o6
 repeat (refine TL_fieldAddr TE (hk := ?_))
 refine TL_store TE (hk := ?_); intro w8 m8 z8 k8
 replace k8 : Blk w8 b1 45 [.int .i64 P.q.cl, .int .u64 (P.q.tk : Int), .string (ofL P.q.nm), .slice A4 (0 + an) c4, .int .i64 P.how, .slice A7 (0 + bn) c7, .slice c cn cc] := k8
 have e08 : Ext w w8 := (e05.ext e57).step m8 (fun u hu => .inr (by rw [List.mem_singleton.1 hu]; omega))
 have k28 := (k25.be e57).mod m8 (by simp; omega)
 have o57 := o5.be e57
 have o8 : Own w8 w2.heap.size 161 3 A4 (0 + an) c4 (rowV veV P.q.ar) := o57.modL m8 (fun u hu q => by have := (o57.bl u hu).1; rw [List.mem_singleton] at q; omega)
 have p8 : Own w8 w5.heap.size 9 1 A7 (0 + bn) c7 (sv P.rd) := o7.modL m8 (fun u hu q => by have := (o7.bl u hu).1; rw [List.mem_singleton] at q; omega)
 clear k17 k25 o7 o5 o57
 repeat (first | refine T_seq ?_ | refine T_region ?_ | refine TL_nil ?_)
 refine TL_buildSlice0 TE (hk := ?_); intro b9 w9 e9 h9 h9' k9
 have o9 : Own w9 w8.heap.size 9 1 (some ⟨b9, 0, none⟩) 0 0 [] := Own.of_blk k9 h9 rfl (by decide)
 have k19 := k8.be e9
 have xc9 := xc.be (e08.ext e9)
 repeat (first | refine TL_load TE (hk := ?_) | refine TL_fieldAddr TE (hk := ?_))
 refine TL_append TE (hk := ?_); intro A10 c10 w10 o10 m10 n10
 rw [List.nil_append] at o10
 have e810 : Ext w8 w10 := Mod.own e9 m10 o9.hi
 have k110 := k8.be e810
 have z10 := e810.size
 clear k19 k8 xc9 k9 o9
 repeat (refine TL_fieldAddr TE (hk := ?_))
 refine TL_store TE (hk := ?_); intro w11 m11 z11 k11
 replace k11 : Blk w11 b1 45 [.int .i64 P.q.cl, .int .u64 (P.q.tk : Int), .string (ofL P.q.nm), .slice A4 (0 + an) c4, .int .i64 P.how, .slice A7 (0 + bn) c7, .slice A10 (0 + cn) c10] := k11
 have e011 : Ext w w11 := (e08.ext e810).step m11 (fun u hu => .inr (by rw [List.mem_singleton.1 hu]; omega))
 have k211 := (k28.be e810).mod m11 (by simp; omega)
 have o810 := o8.be e810
 have p810 := p8.be e810
 have oa : Own w11 w2.heap.size 161 3 A4 (0 + an) c4 (rowV veV P.q.ar) := o810.modL m11 (fun u hu q => by have := (o810.bl u hu).1; rw [List.mem_singleton] at q; omega)
 have ob : Own w11 w5.heap.size 9 1 A7 (0 + bn) c7 (sv P.rd) := p810.modL m11 (fun u hu q => by have := (p810.bl u hu).1; rw [List.mem_singleton] at q; omega)
 have oc : Own w11 w8.heap.size 9 1 A10 (0 + cn) c10 (sv P.wr) := o10.modL m11 (fun u hu q => by have := (o10.bl u hu).1; rw [List.mem_singleton] at q; omega)
 clear k110 k28 o10 o8 p8 o810 p810
 repeat (first | refine T_seq ?_ | refine T_region ?_ | refine TL_nil ?_)
 refine TL_loadb TE (cs := [.int .i64 P.q.cl, .int .u64 (P.q.tk : Int), .string (ofL P.q.nm), .slice A4 (0 + an) c4, .int .i64 P.how, .slice A7 (0 + bn) c7, .slice A10 (0 + cn) c10]) (o := 0) rfl rfl k11 rfl rfl (Nat.succ_pos _) (hk := ?_)
 --
 refine TL_storea TE (hk := ?_); intro w12 m12 z12 k12
 have d12 : ∀ u, w2.heap.size ≤ u → u ∉ [b2] := fun u hu q => by rw [List.mem_singleton] at q; omega
 repeat (refine TL_nil ?_)
 refine T_retA1 TE (vs := [.int .i64 P.q.cl, .int .u64 (P.q.tk : Int), .string (ofL P.q.nm), .slice A4 (0 + an) c4, .int .i64 P.how, .slice A7 (0 + bn) c7, .slice A10 (0 + cn) c10]) (o := 0) rfl rfl rfl rfl k12 rfl (Nat.succ_pos _) ⟨⟨P, (A4, 0 + an, c4), (A7, 0 + bn, c7), (A10, 0 + cn, c10)⟩, rfl, rfl, e011.step m12 (fun u hu => .inr (by rw [List.mem_singleton.1 hu]; omega)), ⟨Own.weaken (oa.modL m12 (fun u hu => d12 u (oa.bl u hu).1)) (by omega), Own.weaken (ob.modL m12 (fun u hu => d12 u (by have := (ob.bl u hu).1; omega))) (by omega), Own.weaken (oc.modL m12 (fun u hu => d12 u (by have := (oc.bl u hu).1; omega))) (by omega)⟩⟩
theorem plans_c (A : Option Addr) (n c : Nat) (xs : List PM) (w : World) (hp : Rd w A n 7 (rowV pmV xs)) (hx : ∀ x ∈ xs, PLies w x ∧ PFit x.p) (hn : n ≤ 1048576) :
  Ret Tryz.prog 24 [.slice A n c] w (fun v w' => ∃ y ys, v = sL y ∧ y.2.1 = n ∧ ys.map (·.p) = xs.map (·.p) ∧ Ext w w' ∧ Own w' w.heap.size 45 7 y.1 y.2.1 y.2.2 (rowV pmV ys) ∧ ∀ x ∈ ys, POwn w' w.heap.size x ∧ PFit x.p) := by
 have hxl : xs.length = n := by have := hp.1; rw [rowV_len pmV_len] at this; omega
 refine ret_T (n := 20) Tryz.func24 rfl rfl ?_
 repeat (first | refine T_seq ?_ | refine T_region ?_ | refine T_block ?_ | refine TL_nil ?_ | refine TL_assign (hk := ?_))
 refine T_loop (ι := Nat × SL × List PM) (fun i => [(4, .int .i64 (i.1 : Int)), (3, .slice i.2.1.1 i.2.1.2.1 i.2.1.2.2), (0, .slice A n c)])
  (fun i w' => Ext w w' ∧ i.1 ≤ n ∧ i.2.1.2.1 = i.1 ∧ i.2.2.map (·.p) = (xs.take i.1).map (·.p) ∧ Own w' w.heap.size 45 7 i.2.1.1 i.2.1.2.1 i.2.1.2.2 (rowV pmV i.2.2) ∧ ∀ x ∈ i.2.2, POwn w' w.heap.size x ∧ PFit x.p ∧ ∀ b ∈ pmB x, b ∉ blkL i.2.1.1) (fun i => n - i.1) (0, (none, 0, 0), []) (.c rfl (.c rfl (.c rfl (.n))))
  ⟨Mod.refl _ _, Nat.zero_le _, rfl, by simp, Own.nil _ _ _ _, fun x hx => by cases hx⟩ ?_
 rintro ⟨i, ⟨Y, yn, yc⟩, ys⟩ w1 ⟨e1, hi, hyn, hys, oy, hyo⟩ ih
 simp only at hi hyn hys oy hyo ih ⊢
 subst hyn
 have hp1 := hp.be e1
 have z1 := e1.size
 by_cases hlt : yn < n
 ·have hA : A ≠ none := by obtain ⟨_, _, hq, _⟩ := hp1.2 (by omega); rw [hq]; simp
  have ta := rowV_elem pmV_len xs yn pm0 (by omega)
  have hin := in_at (xs := xs) (i := yn) (by omega)
  obtain ⟨x, hxd⟩ : ∃ x, xs.getD yn pm0 = x := ⟨_, rfl⟩
  rw [hxd] at ta hin
  obtain ⟨X, F⟩ := hx x hin
  unfold pmV at ta
  repeat (first | refine T_seq ?_ | refine T_region ?_ | refine T_cond_true rfl ?_ | refine T_block ?_ | refine T_skip ?_ | refine TL_lt_t (hk := ?_) | refine TL_nil ?_ | refine TL_move (hk := ?_) | refine TL_indexAddrn TE (hk := ?_) | refine TL_len TE (hk := ?_))
  refine TL_loada TE (cs := [.int .i64 x.p.q.cl, .int .u64 (x.p.q.tk : Int), .string (ofL x.p.q.nm), sL x.a, .int .i64 x.p.how, sL x.b, sL x.c]) (hx := rfl) (ht := rfl) (hi := rfl) (hr := hp1) (hc := ta) (h0 := Nat.succ_pos _) (hk := ?_)
  --
  refine TL_call TE (hc := rplan_c x w1 (X.be e1) F) (hk := ?_)
  rintro _ w2 ⟨x', rfl, hxp, e2, ox⟩
  have z2 := e2.size
  have oy2 := oy.be e2
  --
  refine TL_buildSliceA TE (hk := ?_); intro b3 w3 e3 h3 h3' k3
  replace k3 : Blk w3 b3 45 (rowV pmV [x']) := k3
  have r3 : Rd w3 (some ⟨b3, 0, none⟩) 1 7 (rowV pmV [x']) := Rd.blk k3 rfl
  have oy3 := oy2.be e3
  have hone := rowV_one pmV_one [x']
  --
  refine TL_append TE (hk := ?_); intro A4 c4 w4 o4 m4 n4
  rw [← rowV_append] at o4
  have z3 := e3.size
  have z4 := m4.size
  have e14 : Eng.Mod (blkL Y) w1 w4 := Eng.Mod.step (S := blkL Y) ((Ext.mod e2).ext e3) m4 (fun u hu => .inl hu)
  have e04 : Ext w w4 := e1.own e14 oy.hi
  have nb : ∀ u, u < w3.heap.size → u ∉ blkL Y → u ∉ blkL A4 := fun u hu hn hq => (Near.mem n4 u hq).elim hn (fun q => by omega)
  repeat (first | refine T_region ?_ | refine T_inBlock ?_ | refine TL_add (hk := ?_) | refine TL_nil ?_ | refine TL_move (hk := ?_) | refine TL_assign (hk := ?_))
  refine ih (yn + 1, (A4, yn + 1, c4), ys ++ [x']) _ _ (by simp only; omega) ⟨e04, by simp only; omega, rfl, ?_, o4, fun z hz => ?_⟩ (.c rfl (.c rfl (.c rfl (.n))))
  ·simp only
   rw [List.map_append, hys, List.take_succ_eq_append_getElem (by omega), List.map_append]
   congr 1
   rw [List.getD_eq_getElem?_getD, List.getElem?_eq_getElem (by omega)] at hxd
   simp only [List.map_cons, List.map_nil, hxp]
   rw [← hxd]; rfl
  ·simp only
   rcases List.mem_append.1 hz with q | q
   ·obtain ⟨q1, q2, q3⟩ := hyo z q
    exact ⟨q1.modL e14 (fun u hu hq => q3 u hu hq), q2, fun u hu => nb u (by have := (q1.bl u hu).2; omega) (q3 u hu)⟩
   ·rw [List.mem_singleton.1 q]
    have hu1 : ∀ u ∈ pmB x', u ∉ blkL Y := fun u hu hq => by have h1 := (ox.bl u hu).1; have h2 := (oy.bl u hq).2; omega
    exact ⟨(((ox.be e3).weaken (by omega)).modL m4 hu1), by rw [hxp]; exact F, fun u hu => nb u (by have := (ox.bl u hu).2; omega) (hu1 u hu)⟩
 ·have : yn = n := by omega
  subst this
  clear ih
  rw [List.take_of_length_le (by omega)] at hys
  repeat (first | refine T_seq ?_ | refine T_region ?_ | refine T_cond_false rfl ?_ | refine T_exit rfl ?_ | refine TL_lt_f (hk := ?_) | refine TL_nil ?_ | refine TL_move (hk := ?_) | refine TL_assign (hk := ?_) | refine TL_len TE (hk := ?_))
  exact T_ret1 rfl rfl ⟨(Y, yn, yc), ys, rfl, rfl, hys, e1, oy, fun x hx => ⟨(hyo x hx).1, (hyo x hx).2.1⟩⟩
set_option maxHeartbeats 3200000
abbrev tyVal : Ty := .struct (.cons (.int .i64) (.cons (.int .i64) (.cons .str .unit)))
abbrev tyRqJ : Ty := .struct (.cons (.int .i64) (.cons (.int .u64) (.cons .str (.cons (.slice tyVal) .unit))))
abbrev tyFtJ : Ty := .struct (.cons (.slice .str) (.cons (.slice .str) .unit))
abbrev tyPlanJ : Ty := .struct (.cons tyRqJ (.cons (.int .i64) (.cons tyFtJ .unit)))
abbrev tyBatJ : Ty := .struct (.cons (.int .i64) (.cons (.slice tyPlanJ) (.cons .bool .unit)))
theorem short_memJ {l : List Tx} (h : ∀ t ∈ l, t.length ≤ 140737488351232) : Short l := fun i hi => by
 have hm : l.getD i [] ∈ l := by rw [List.getD_eq_getElem?_getD, List.getElem?_eq_getElem hi]; exact List.getElem_mem _
 have := h _ hm; omega
theorem rowV_svJ (l : List Tx) : rowV (fun t : Tx => [Value.string (ofL t)]) l = sv l := by simp [rowV, sv, List.flatten_eq_flatMap, List.flatMap_map, ← List.map_eq_flatMap]
theorem strs_ofJ {w : World} {M k : Nat} {x : List Value} (hk : k ≤ M) (h : FitB w (.slice .str) x k) : ∃ A n c l, x = [.slice A n c] ∧ Rd w A n 1 (sv l) ∧ l.length = n ∧ n ≤ c ∧ c ≤ 9223372036854775807 ∧ n + 1 ≤ k ∧ ∀ y ∈ l, y.length ≤ M := by
 obtain ⟨_, A', n', c', l, hv, g1, g2, g3, g4, g5, g6⟩ := FitB.row (g := fun t : Tx => [Value.string (ofL t)]) (Q := fun t => t.length ≤ M) (M := M) (fun x k hk hx => by
  obtain ⟨S, rfl, h1, h2⟩ := hx
  have : S.data.toList.length = S.size := Array.length_toList
  exact ⟨by omega, S.data.toList, rfl, by omega⟩) h hk
 unfold maxLen at g2
 rw [rowV_svJ] at g5
 exact ⟨A', n', c', l, hv, g5, g4, g1, g2, by omega, g6⟩
theorem val_of {w : World} (x : List Value) (k : Nat) (hk : k ≤ 1048576) (h : FitB w tyVal x k) : 1 ≤ k ∧ ∃ v : VE, x = veV v ∧ VFit v := by
 obtain ⟨x1, y1, p, q, rfl, h1, h2, ⟨h3, kd, rfl, f1⟩, x2, y2, p2, q2, rfl, h4, h5, ⟨h6, i, rfl, f2⟩, x3, y3, p3, q3, rfl, h8, h9, ⟨S, rfl, h10, h11⟩, hz⟩ := h
 have hz : y3 = [] := hz
 subst hz
 have : S.data.toList.length = S.size := Array.length_toList
 exact ⟨by omega, ⟨kd, i, S.data.toList⟩, rfl, ⟨f1, f2, by simp only; omega⟩⟩
def PIn (w : World) (x : PM) : Prop := PLies w x ∧ PFit x.p
theorem planJ_of {w : World} (x : List Value) (k : Nat) (hk : k ≤ 1048576) (h : FitB w tyPlanJ x k) : 1 ≤ k ∧ ∃ a : PM, x = pmV a ∧ PIn w a := by
 obtain ⟨x1, y1, p, q, rfl, h1, h2, hR, x2, y2, p2, q2, rfl, h4, h5, ⟨h6, how, rfl, f2⟩, x3, y3, p3, q3, rfl, h8, h9, hF, hz⟩ := h
 have hz : y3 = [] := hz
 subst hz
 obtain ⟨a1, b1, r1, s1, rfl, g1, g2, ⟨g3, cl, rfl, j1⟩, a2, b2, r2, s2, rfl, g4, g5, ⟨g6, tk, rfl, j2⟩, a3, b3, r3, s3, rfl, g7, g8, ⟨S, rfl, g9, g10⟩, a4, b4, r4, s4, rfl, g11, g12, hV, hz⟩ := hR
 have hz : b4 = [] := hz
 subst hz
 obtain ⟨u1, v1, t1, t2, rfl, m1, m2, hA, u2, v2, t3, t4, rfl, m3, m4, hB, hz2⟩ := hF
 have hz2 : v2 = [] := hz2
 subst hz2
 obtain ⟨_, V, vn, vc, vs, rfl, q1, q2, q3, q4, q5, q6⟩ := FitB.row (g := veV) (Q := VFit) (M := 1048576) val_of hV (by omega)
 obtain ⟨A, n, c, r, rfl, e1, e2, e3, e4, e5, e6⟩ := strs_ofJ (M := 1048576) (by omega) hA
 obtain ⟨B, m, d, k', rfl, d1, d2, d3, d4, d5, d6⟩ := strs_ofJ (M := 1048576) (by omega) hB
 have hS : S.data.toList.length = S.size := Array.length_toList
 obtain ⟨tn, rfl⟩ : ∃ tn : Nat, tk = (tn : Int) := ⟨tk.toNat, by have h : (0 : Int) ≤ tk := j2.1; omega⟩
 have htn : tn < 18446744073709551616 := by have h : (tn : Int) ≤ 18446744073709551615 := j2.2; omega
 exact ⟨by omega, ⟨⟨⟨cl, tn, S.data.toList, vs⟩, how, r, k'⟩, (V, vn, vc), (A, n, c), (B, m, d)⟩, rfl, ⟨q5, e1, d1⟩, ⟨j1, htn, by simp only; omega, q6⟩, f2, by simp only; omega, by simp only; omega, by simp only; omega, short_memJ (fun t ht => by have := e6 t ht; omega), short_memJ (fun t ht => by have := d6 t ht; omega)⟩
structure BM where
 ep : Int
 y : SL
 xs : List PM
 fl : Bool
def bm0 : BM := ⟨0, (none, 0, 0), [], false⟩
def bmV (x : BM) : List Value := [.int .i64 x.ep, sL x.y, .bool x.fl]
structure BIn (w : World) (x : BM) : Prop where
 rd : Rd w x.y.1 x.y.2.1 7 (rowV pmV x.xs)
 pl : ∀ p ∈ x.xs, PIn w p
 ep : -9223372036854775808 ≤ x.ep ∧ x.ep ≤ 9223372036854775807
 n : x.y.2.1 ≤ 1048576
 len : x.xs.length = x.y.2.1
theorem PIn.be {w w' : World} {x : PM} (h : PIn w x) (e : Ext w w') : PIn w' x := ⟨h.1.be e, h.2⟩
def iV (z : Int) : List Value := [.int .i64 z]
theorem iV_len (z : Int) : (iV z).length = 1 := rfl
def iOk (z : Int) : Prop := -9223372036854775808 ≤ z ∧ z ≤ 9223372036854775807
set_option maxHeartbeats 3200000
def endsL (lp : List EP) : List Int := (List.range (lp.length + 1)).map fun c => ((logF L0 (lp.take c)).l.length : Int)
theorem endsL_len (lp : List EP) : (endsL lp).length = lp.length + 1 := by simp [endsL]
theorem endsL_at (lp : List EP) (c : Nat) (h : c ≤ lp.length) : (endsL lp).getD c 0 = ((logF L0 (lp.take c)).l.length : Int) := by
 rw [List.getD_eq_getElem?_getD, List.getElem?_eq_getElem (by rw [endsL_len]; omega)]
 unfold endsL
 rw [List.getElem_map, List.getElem_range]
 rfl
theorem endsL_snoc (lp : List EP) (e : EP) : endsL (lp ++ [e]) = endsL lp ++ [((logF L0 (lp ++ [e])).l.length : Int)] := by
 unfold endsL
 rw [List.length_append, List.length_singleton, List.range_succ (n := lp.length + 1), List.map_append]
 congr 1
 ·apply List.map_congr_left
  intro c hc
  rw [List.mem_range] at hc
  rw [List.take_append_of_le_length (by omega)]
 ·rw [List.map_singleton, List.take_of_length_le (by simp)]
theorem logF_len {lp : List EP} {ps : List PM} (h : ps.map (·.p) = (lp.map (·.2)).flatten) : (logF L0 lp).l.length = ps.length := by
 have h1 := congrArg List.length (logF_p L0 lp)
 rw [← h, List.length_map, List.length_append, List.length_map] at h1
 rw [h1]
 show 0 + (ps.map (·.p)).length = _
 rw [List.length_map, Nat.zero_add]
theorem back_at {le : List EP} {ps : List PM} (hpp : ps.map (·.p) = (le.map (·.2)).flatten) (cc a : Nat) (h : a < (logF L0 (le.take cc)).l.length) : a < ps.length ∧ ((logF L0 (le.take cc)).l[a]).p = (ps.getD a pm0).p := by
 obtain ⟨t, ht⟩ := logF_part le cc
 have h1 : (logF L0 le).l.map (·.p) = ps.map (·.p) := by rw [logF_p, hpp]; rfl
 have h2 : (((logF L0 (le.take cc)).l ++ t).map (·.p))[a]? = (ps.map (·.p))[a]? := by rw [← ht, h1]
 rw [List.getElem?_map, List.getElem?_append_left h, List.getElem?_eq_getElem h] at h2
 have h3 : a < ps.length := by
  have := logF_len hpp
  rw [ht, List.length_append] at this
  omega
 refine ⟨h3, ?_⟩
 rw [List.getElem?_map, List.getElem?_eq_getElem h3] at h2
 rw [List.getD_eq_getElem?_getD, List.getElem?_eq_getElem h3]
 exact Option.some.inj h2
theorem em_plan (ys : List EM) (a : Nat) (h : a < ys.length) : ((rowV emV ys).drop (a * 9 + 2)).take 7 = pmV (ys.getD a em0).m := by
 have h1 := rowV_elem emV_len ys a em0 h
 have h2 := congrArg (List.drop 2) h1
 rw [List.drop_take, List.drop_drop] at h2
 exact h2
structure SG where
 k : DK
 L : LE
 fl : Int
 le : List EP
 lp : List EP
 lq : List EP
 mf : Nat
 lg : Nat
 sd : SL
 gd : Nat → Nat
 sl : SL
 es : List EM
 g : Nat → Nat
 Y : SL
 ps : List PM
 Z : SL
structure SI (w0 w : World) (base jb d : Nat) (s : SG) : Prop where
 e : Ext w0 w
 hb : w0.heap.size ≤ base
 J : JrM w base jb d s.lg s.sd s.gd s.k s.sl s.es s.g s.L s.fl
 I : JI s.L s.k s.fl s.le s.mf
 oy : Own w base 45 7 s.Y.1 s.Y.2.1 s.Y.2.2 (rowV pmV s.ps)
 pp : s.ps.map (·.p) = (s.lp.map (·.2)).flatten
 pin : ∀ x ∈ s.ps, PIn w0 x
 oz : Own w base 2 1 s.Z.1 s.Z.2.1 s.Z.2.2 (rowV iV (endsL s.lq))
 gy : ∀ b ∈ blkL s.Y.1, oJ jb s.gd b = 0 ∧ s.g b = 0
 gz : ∀ b ∈ blkL s.Z.1, oJ jb s.gd b = 0 ∧ s.g b = 0
 yz : ∀ b ∈ blkL s.Y.1, b ∉ blkL s.Z.1
section
variable {w0 w w' : World} {base jb d : Nat} {s : SG}
end
def totP (l : List BM) (i : Nat) : Nat := ((l.take i).map fun x => x.y.2.1).sum
theorem iV_one (z : Int) : ∀ u ∈ iV z, u.oneCell' = true := by
 intro u hu
 simp only [iV, List.mem_singleton] at hu
 rw [hu]; rfl
set_option maxHeartbeats 3200000
theorem QEq_c (q : RE) (A B : Option Addr) (n c d : Nat) (w : World) (h : Rd w A n 3 (rowV veV q.ar)) (g : Rd w B n 3 (rowV veV q.ar)) (hn : n ≤ 1048576) (hf : RFit q) :
  Ret Tryz.prog 127 [.agg #[.int .i64 q.cl, .int .u64 (q.tk : Int), .string (ofL q.nm), .slice A n c], .agg #[.int .i64 q.cl, .int .u64 (q.tk : Int), .string (ofL q.nm), .slice B n d]] w (fun v w' => v = .bool true ∧ Ext w w') := by
 have hla : q.ar.length = n := by have := h.1; rw [rowV_len veV_len] at this; omega
 have tk := hf.tk
 have cl := hf.cl
 refine ret_T (n := 52) Tryz.func127 rfl rfl ?_
 repeat (first | refine T_seq ?_ | refine T_region ?_)
 refine TL_box (hk := ?_); intro p1 w1 e1 h1 h1' k1
 refine TL_box (hk := ?_); intro p2 w2 e2 h2 h2' k2
 replace k1 : Blk w1 p1 40 [.int .i64 q.cl, .int .u64 (q.tk : Int), .string (ofL q.nm), .slice A n c] := k1
 replace k2 : Blk w2 p2 40 [.int .i64 q.cl, .int .u64 (q.tk : Int), .string (ofL q.nm), .slice B n d] := k2
 have k12 := k1.be e2
 have e02 := e1.ext e2
 clear k1
 repeat (first | refine T_seq ?_ | refine T_region ?_ | refine T_cond_false rfl ?_ | refine T_block ?_ | refine T_skip ?_ | refine TL_ne_f (hk := ?_) | refine TL_sne_f (hk := ?_) | refine TL_nil ?_ | refine TL_move (hk := ?_) | refine TL_assign (hk := ?_) | refine TL_load TE (hk := ?_) | refine TL_fieldAddr TE (hk := ?_) | refine TL_len TE (hk := ?_) | refine TL_yes (hk := ?_) | refine TL_pick_f (hk := ?_))
 refine T_loop (ι := Nat) (fun i => [(5, .int .i64 (i : Int)), (2, pB p1), (3, pB p2)]) (fun i w' => Ext w2 w' ∧ i ≤ n) (fun i => n - i) 0 (.c rfl (.c rfl (.c rfl (.n)))) ⟨Mod.refl _ _, Nat.zero_le _⟩ ?_
 rintro i w3 ⟨e3, hi⟩ ih
 have h3 := (h.be e02).be e3
 have g3 := (g.be e02).be e3
 have ka := k12.be e3
 have kb := k2.be e3
 by_cases hlt : i < n
 ·obtain ⟨x, hx⟩ : ∃ x, q.ar.getD i ⟨0, 0, []⟩ = x := ⟨_, rfl⟩
  have hta := rowV_elem veV_len q.ar i ⟨0, 0, []⟩ (by omega)
  have hA : A ≠ none := by obtain ⟨_, _, hq, _⟩ := h3.2 (by omega); rw [hq]; simp
  have hB : B ≠ none := by obtain ⟨_, _, hq, _⟩ := g3.2 (by omega); rw [hq]; simp
  rw [hx] at hta
  repeat (first | refine T_seq ?_ | refine T_region ?_ | refine T_region_q TE.mixed (by kernel_rfl) ?_ | refine T_cond_true rfl ?_ | refine T_block ?_ | refine T_skip ?_ | refine TL_lt_t (hk := ?_) | refine TL_nil ?_ | refine TL_move (hk := ?_) | refine TL_load TE (hk := ?_) | refine TL_fieldAddr TE (hk := ?_) | refine TL_indexAddrn TE (hk := ?_) | refine TL_len TE (hk := ?_))
  refine TL_loada TE (cs := [.int .i64 x.kd, .int .i64 x.n, .string (ofL x.t)]) (hx := rfl) (ht := rfl) (hi := rfl) (hr := h3) (hc := hta) (h0 := Nat.succ_pos _) (hk := ?_)
  repeat (first | refine TL_move (hk := ?_) | refine TL_load TE (hk := ?_) | refine TL_fieldAddr TE (hk := ?_) | refine TL_indexAddrn TE (hk := ?_))
  refine TL_loada TE (cs := [.int .i64 x.kd, .int .i64 x.n, .string (ofL x.t)]) (hx := rfl) (ht := rfl) (hi := rfl) (hr := g3) (hc := hta) (h0 := Nat.succ_pos _) (hk := ?_)
  refine TL_ane (r := true) (by kernel_rfl) (eqValue _ _ _) (hk := ?_)
  refine TL_nil_q ?_; intro w4 e4
  repeat (first | refine T_region ?_ | refine T_cond_false rfl ?_ | refine T_inBlock ?_ | refine T_skip ?_ | refine TL_add (hk := ?_) | refine TL_nil ?_ | refine TL_move (hk := ?_) | refine TL_assign (hk := ?_))
  exact ih (i + 1) _ _ (by omega) ⟨e3.ext e4, by omega⟩ (.c rfl (.c rfl (.c rfl (.n))))
 ·clear ih
  repeat (first | refine T_seq ?_ | refine T_region ?_ | refine T_cond_false rfl ?_ | refine T_exit rfl ?_ | refine TL_lt_f (hk := ?_) | refine TL_nil ?_ | refine TL_move (hk := ?_) | refine TL_assign (hk := ?_) | refine TL_load TE (hk := ?_) | refine TL_fieldAddr TE (hk := ?_) | refine TL_len TE (hk := ?_))
  exact T_ret1 rfl rfl ⟨rfl, e02.ext e3⟩
theorem EEq_c (x y : EM) (w : World) (X : PLies w x.m) (Y : PLies w y.m) (F : PFit x.m.p) (hr : rightP x.m.p = 0) (hxy : emE x = emE y) : Ret Tryz.prog 93 [eA x, eA y] w (fun v w' => v = .bool true ∧ Ext w w') := by
 obtain ⟨l1, l2, l3⟩ := X.len
 obtain ⟨m1, m2, m3⟩ := Y.len
 have hp : x.m.p = y.m.p := congrArg EE.p hxy
 have hsq : x.sq = y.sq := congrArg EE.sq hxy
 have hep : x.ep = y.ep := congrArg EE.ep hxy
 rw [← hp] at m1 m2 m3
 have na := F.na
 have qf := F.q
 have hw := F.how
 obtain ⟨nf1, nf2, -, -⟩ := norm_fit (show isNorm x.m.p.rd x.m.p.wr = true from (right_ok hr).2.2)
 obtain ⟨sq, ep, P, a, b, c⟩ := x
 obtain ⟨sq2, ep2, P2, a2, b2, c2⟩ := y
 obtain ⟨a, an, ac⟩ := a
 obtain ⟨b, bn, bc⟩ := b
 obtain ⟨c, cn, cc⟩ := c
 obtain ⟨a2, an2, ac2⟩ := a2
 obtain ⟨b2, bn2, bc2⟩ := b2
 obtain ⟨c2, cn2, cc2⟩ := c2
 simp only at hp hsq hep
 subst hp hsq hep
 simp only at l1 l2 l3 m1 m2 m3 na qf hw nf1 nf2
 have q1 : an2 = an := by omega
 have q2 : bn2 = bn := by omega
 have q3 : cn2 = cn := by omega
 subst q1 q2 q3
 obtain ⟨xa, xb, xc⟩ := X
 obtain ⟨ya, yb, yc⟩ := Y
 simp only at xa xb xc ya yb yc
 refine ret_T (n := 44) Tryz.func93 rfl rfl ?_
 repeat (first | refine T_seq ?_ | refine T_region ?_)
 refine TL_box (hk := ?_); intro p1 w1 e1 h1 h1' k1
 refine TL_box (hk := ?_); intro p2 w2 e2 h2 h2' k2
 replace k1 : Blk w1 p1 47 [.int .i64 sq, .int .i64 ep, .int .i64 P.q.cl, .int .u64 (P.q.tk : Int), .string (ofL P.q.nm), .slice a an2 ac, .int .i64 P.how, .slice b bn2 bc, .slice c cn2 cc] := k1
 replace k2 : Blk w2 p2 47 [.int .i64 sq, .int .i64 ep, .int .i64 P.q.cl, .int .u64 (P.q.tk : Int), .string (ofL P.q.nm), .slice a2 an2 ac2, .int .i64 P.how, .slice b2 bn2 bc2, .slice c2 cn2 cc2] := k2
 have k12 := k1.be e2
 have e02 := e1.ext e2
 clear k1
 repeat (first | refine T_seq ?_ | refine T_region ?_ | refine TL_eq_t (hk := ?_) | refine TL_nil ?_ | refine TL_move (hk := ?_) | refine TL_assign (hk := ?_) | refine TL_load TE (hk := ?_) | refine TL_fieldAddr TE (hk := ?_) | refine TL_yes (hk := ?_) | refine TL_pick_t (hk := ?_))
 refine TL_loadb TE (cs := [.int .i64 P.q.cl, .int .u64 (P.q.tk : Int), .string (ofL P.q.nm), .slice a an2 ac]) (o := 2) rfl rfl k12 rfl rfl (Nat.succ_pos _) (hk := ?_)
 repeat (first | refine TL_fieldAddr TE (hk := ?_) | refine TL_yes (hk := ?_))
 refine TL_loadb TE (cs := [.int .i64 P.q.cl, .int .u64 (P.q.tk : Int), .string (ofL P.q.nm), .slice a2 an2 ac2]) (o := 2) rfl rfl k2 rfl rfl (Nat.succ_pos _) (hk := ?_)
 repeat (refine TL_yes (hk := ?_))
 refine TL_call TE (hc := QEq_c P.q a a2 an2 ac ac2 w2 (xa.be e02) (ya.be e02) (by omega) qf) (hk := ?_)
 rintro _ w3 ⟨rfl, e3⟩
 have k13 := k12.be e3
 have k23 := k2.be e3
 have e03 := e02.ext e3
 clear k12 k2
 repeat (first | refine TL_move (hk := ?_) | refine TL_fieldAddr TE (hk := ?_) | refine TL_yes (hk := ?_) | refine TL_pick_t (hk := ?_))
 refine TL_loadb TE (cs := [.slice b bn2 bc, .slice c cn2 cc]) (o := 7) rfl rfl k13 rfl rfl (Nat.succ_pos _) (hk := ?_)
 repeat (first | refine TL_fieldAddr TE (hk := ?_) | refine TL_yes (hk := ?_))
 refine TL_loadb TE (cs := [.slice b2 bn2 bc2, .slice c2 cn2 cc2]) (o := 7) rfl rfl k23 rfl rfl (Nat.succ_pos _) (hk := ?_)
 repeat (refine TL_yes (hk := ?_))
 refine TL_call TE (hc := Same_c b c b2 c2 bn2 cn2 bn2 cn2 bc cc bc2 cc2 P.rd P.wr P.rd P.wr w3 (xb.be e03) (xc.be e03) (yb.be e03) (yc.be e03) (by omega) (by omega) (by omega) (by omega)) (hk := ?_)
 rintro _ w4 ⟨rfl, e4⟩
 rw [show decide (P.rd = P.rd ∧ P.wr = P.wr) = true by simp]
 repeat (first | refine TL_nil ?_ | refine TL_assign (hk := ?_) | refine TL_pick_t (hk := ?_))
 exact T_ret1 rfl rfl ⟨rfl, e03.ext e4⟩
theorem entries_c (y z : SL) (ys zs : List EM) (w : World) (h : Rd w y.1 y.2.1 9 (rowV emV ys)) (g : Rd w z.1 z.2.1 9 (rowV emV zs)) (hn : y.2.1 ≤ 1000000) (he : ys.map emE = zs.map emE) (hy : ∀ u ∈ ys, PLies w u.m ∧ PFit u.m.p ∧ rightP u.m.p = 0) (hz : ∀ u ∈ zs, PLies w u.m) :
  Ret Tryz.prog 44 [sL y, sL z] w (fun v w' => v = .bool true ∧ Ext w w') := by
 have l1 := h.1
 have l2 := g.1
 rw [rowV_len emV_len] at l1 l2
 have l3 := congrArg List.length he
 rw [List.length_map, List.length_map] at l3
 obtain ⟨y, n, c⟩ := y
 obtain ⟨z, n2, c2⟩ := z
 simp only at h g hn l1 l2
 obtain rfl : n = n2 := by omega
 show Ret Tryz.prog 44 [.slice y n c, .slice z n c2] w _
 refine ret_T (n := 27) Tryz.func44 rfl rfl ?_
 repeat (first | refine T_seq ?_ | refine T_region ?_ | refine T_cond_false rfl ?_ | refine T_block ?_ | refine T_skip ?_ | refine TL_ne_f (hk := ?_) | refine TL_nil ?_ | refine TL_move (hk := ?_) | refine TL_assign (hk := ?_) | refine TL_len TE (hk := ?_))
 refine T_loop (ι := Nat) (fun i => [(5, .int .i64 (i : Int)), (0, .slice y n c), (1, .slice z n c2)]) (fun i w' => Ext w w' ∧ i ≤ n) (fun i => n - i) 0 (.c rfl (.c rfl (.c rfl (.n)))) ⟨Mod.refl _ _, Nat.zero_le _⟩ ?_
 rintro i w1 ⟨e1, hi⟩ ih
 have h1 := h.be e1
 have g1 := g.be e1
 by_cases hlt : i < n
 ·have hA : y ≠ none := by obtain ⟨_, _, hq, _⟩ := h1.2 (by omega); rw [hq]; simp
  have hB : z ≠ none := by obtain ⟨_, _, hq, _⟩ := g1.2 (by omega); rw [hq]; simp
  have t1 := rowV_elem emV_len ys i em0 (by omega)
  have t2 := rowV_elem emV_len zs i em0 (by omega)
  have hm1 : ys.getD i em0 ∈ ys := by rw [List.getD_eq_getElem?_getD, List.getElem?_eq_getElem (by omega)]; exact List.getElem_mem _
  have hm2 : zs.getD i em0 ∈ zs := by rw [List.getD_eq_getElem?_getD, List.getElem?_eq_getElem (by omega)]; exact List.getElem_mem _
  have hee : emE (ys.getD i em0) = emE (zs.getD i em0) := by
   have q : (ys.map emE)[i]? = (zs.map emE)[i]? := by rw [he]
   rw [List.getElem?_map, List.getElem?_map, List.getElem?_eq_getElem (by omega), List.getElem?_eq_getElem (by omega)] at q
   rw [List.getD_eq_getElem?_getD, List.getD_eq_getElem?_getD, List.getElem?_eq_getElem (by omega), List.getElem?_eq_getElem (by omega)]
   exact Option.some.inj q
  obtain ⟨X, F, hr⟩ := hy _ hm1
  have Y := hz _ hm2
  obtain ⟨u, hu⟩ : ∃ u, ys.getD i em0 = u := ⟨_, rfl⟩
  obtain ⟨v, hv⟩ : ∃ v, zs.getD i em0 = v := ⟨_, rfl⟩
  rw [hu] at t1 hee X F hr
  rw [hv] at t2 hee Y
  repeat (first | refine T_seq ?_ | refine T_region ?_ | refine T_region_q TE.mixed (by kernel_rfl) ?_ | refine T_cond_true rfl ?_ | refine T_block ?_ | refine T_skip ?_ | refine TL_lt_t (hk := ?_) | refine TL_nil ?_ | refine TL_move (hk := ?_) | refine TL_indexAddrn TE (hk := ?_) | refine TL_len TE (hk := ?_))
  refine TL_loada TE (cs := emV u) (hx := rfl) (ht := rfl) (hi := rfl) (hr := h1) (hc := t1) (h0 := Nat.succ_pos _) (hk := ?_)
  repeat (first | refine TL_move (hk := ?_) | refine TL_indexAddrn TE (hk := ?_))
  refine TL_loada TE (cs := emV v) (hx := rfl) (ht := rfl) (hi := rfl) (hr := g1) (hc := t2) (h0 := Nat.succ_pos _) (hk := ?_)
  --
  refine TL_call_q TE rfl rfl rfl ((fun w' e' => EEq_c u v w' ((X.be e1).be e') ((Y.be e1).be e') F hr hee)) ?_
  repeat (refine TL_not (hk := ?_))
  refine TL_nil_q ?_; intro w2 e2
  repeat (first | refine T_region ?_ | refine T_cond_false rfl ?_ | refine T_inBlock ?_ | refine T_skip ?_ | refine TL_add (hk := ?_) | refine TL_nil ?_ | refine TL_move (hk := ?_) | refine TL_assign (hk := ?_))
  exact ih (i + 1) _ _ (by omega) ⟨e1.ext e2, by omega⟩ (.c rfl (.c rfl (.c rfl (.n))))
 ·clear ih
  repeat (first | refine T_seq ?_ | refine T_region ?_ | refine T_cond_false rfl ?_ | refine T_exit rfl ?_ | refine TL_lt_f (hk := ?_) | refine TL_nil ?_ | refine TL_move (hk := ?_) | refine TL_assign (hk := ?_) | refine TL_len TE (hk := ?_))
  exact T_ret1 rfl rfl ⟨rfl, e1⟩
set_option maxHeartbeats 3200000
abbrev tyCallJ : Ty := .struct (.cons (.int .i64) (.cons (.int .i64) (.cons (.slice tyPlanJ) (.cons (.int .i64) .unit))))
structure CM where
 hkd : Int
 hep : Int
 y : SL
 xs : List PM
 hnn : Int
def cm0 : CM := ⟨0, 0, (none, 0, 0), [], 0⟩
def cmV (x : CM) : List Value := [.int .i64 x.hkd, .int .i64 x.hep, sL x.y, .int .i64 x.hnn]
theorem cmV_len (x : CM) : (cmV x).length = 4 := rfl
structure CIn (w : World) (x : CM) : Prop where
 rd : Rd w x.y.1 x.y.2.1 7 (rowV pmV x.xs)
 pl : ∀ p ∈ x.xs, PIn w p
 kd : -9223372036854775808 ≤ x.hkd ∧ x.hkd ≤ 9223372036854775807
 ep : -9223372036854775808 ≤ x.hep ∧ x.hep ≤ 9223372036854775807
 nn : -9223372036854775808 ≤ x.hnn ∧ x.hnn ≤ 9223372036854775807
 n : x.y.2.1 ≤ 1048576
 len : x.xs.length = x.y.2.1
theorem CIn.be {w w' : World} {x : CM} (h : CIn w x) (e : Ext w w') : CIn w' x := ⟨h.rd.be e, fun p hp => (h.pl p hp).be e, h.kd, h.ep, h.nn, h.n, h.len⟩
theorem callJ_of {w : World} (x : List Value) (k : Nat) (hk : k ≤ 1048576) (h : FitB w tyCallJ x k) : 1 ≤ k ∧ ∃ a : CM, x = cmV a ∧ CIn w a := by
 obtain ⟨x1, y1, p, q, rfl, h1, h2, ⟨h3, kd, rfl, f1⟩, x2, y2, p2, q2, rfl, h4, h5, ⟨h6, ep, rfl, f2⟩, x3, y3, p3, q3, rfl, h7, h8, hP, x4, y4, p4, q4, rfl, h9, h10, ⟨h11, nn, rfl, f3⟩, hz⟩ := h
 have hz : y4 = [] := hz
 subst hz
 obtain ⟨_, A, n, c, xs, rfl, q1, q2, q3, q4, q5, q6⟩ := FitB.row (g := pmV) (Q := PIn w) (M := 1048576) planJ_of hP (by omega)
 exact ⟨by omega, ⟨kd, ep, (A, n, c), xs, nn⟩, rfl, ⟨q5, q6, f1, f2, f3, by simp only; omega, q4⟩⟩
theorem calls_in {w : World} {base : Nat} {v : Value} (h : ReadsB Tryz.prog w base 83 v 1048576) :
  ∃ A n c l, v = .slice A n c ∧ Rd w A n 4 (rowV cmV l) ∧ (∀ x ∈ l, CIn w x) ∧ l.length = n ∧ n ≤ 1048576 := by
 obtain ⟨A, n, c, rfl⟩ := h.slice TE rfl
 obtain ⟨_, A', n', c', l, hv, h1, h2, h3, h4, h5, h6⟩ := FitB.row (g := cmV) (Q := CIn w) (M := 1048576) callJ_of (h.fit TE (.slice tyCallJ) (by decide +kernel)) (Nat.le_refl _)
 cases hv
 exact ⟨A, n, c, l, rfl, h5, h6, h4, by omega⟩
def totC (l : List CM) (i : Nat) : Nat := ((l.take i).map fun x => x.y.2.1).sum
theorem totC_succ (l : List CM) (i : Nat) (hi : i < l.length) : totC l (i + 1) = totC l i + (l.getD i cm0).y.2.1 := by
 unfold totC
 rw [List.take_succ_eq_append_getElem hi, List.map_append, List.sum_append]
 simp only [List.map_cons, List.map_nil, List.sum_cons, List.sum_nil, Nat.add_zero]
 rw [List.getD_eq_getElem?_getD, List.getElem?_eq_getElem hi]
 rfl
theorem totC_le (l : List CM) : ∀ {i j : Nat}, i ≤ j → j ≤ l.length → totC l i ≤ totC l j
 |i, j, hij, hj => by
  induction j with
  |zero => rw [Nat.le_zero.1 hij]; exact Nat.le_refl _
  |succ j ih =>
   by_cases q : i = j + 1
   ·rw [q]; exact Nat.le_refl _
   ·have h1 := ih (by omega) (by omega)
    have h2 := totC_succ l j (by omega)
    omega
theorem cm_at {l : List CM} {i : Nat} (hi : i < l.length) : l.getD i cm0 ∈ l := by rw [List.getD_eq_getElem?_getD, List.getElem?_eq_getElem hi]; exact List.getElem_mem _
theorem calls_c (A : Option Addr) (m c : Nat) (l : List CM) (w : World) (hr : Rd w A m 4 (rowV cmV l)) (hl : ∀ x ∈ l, CIn w x) (hlm : l.length = m) (hm : m ≤ 1048576) :
  Ret Tryz.prog 37 [.slice A m c] w (fun v w' => ∃ b, v = .bool b ∧ Ext w w' ∧ (b = true → m ≤ 200 ∧ totC l m ≤ 300)) := by
 refine ret_T (n := 75) Tryz.func37 rfl rfl ?_
 repeat (first | refine T_seq ?_ | refine T_region ?_ | refine T_block ?_ | refine TL_nil ?_ | refine TL_assign (hk := ?_))
 refine T_loop (ι := Nat × Nat) (fun i => [(5, .int .i64 (i.1 : Int)), (4, .int .i64 (i.2 : Int)), (3, .int .i64 ((totC l i.1 : Nat) : Int)), (0, .slice A m c)]) (fun i w' => Ext w w' ∧ i.1 ≤ m ∧ i.1 ≤ 201 ∧ i.2 ≤ i.1 * 946864128 ∧ totC l i.1 ≤ i.1 * 1048576) (fun i => m - i.1) (0, 0) (.c rfl (.c rfl (.c rfl (.c rfl (.n))))) ⟨Mod.refl _ _, Nat.zero_le _, Nat.zero_le _, Nat.zero_le _, by simp [totC]⟩ ?_
 rintro ⟨i, n⟩ w1 ⟨e1, hi, hi2, hn, ht⟩ ih
 simp only at hi hi2 hn ht ih ⊢
 by_cases hlt : i < m
 ·by_cases h200 : i ≤ 200
  ·have hr1 := hr.be e1
   have hA : A ≠ none := by obtain ⟨_, _, hq, _⟩ := hr1.2 (by omega); rw [hq]; simp
   have hx := hl _ (cm_at (l := l) (i := i) (by omega))
   have hts := totC_succ l i (by omega)
   have t1 := rowV_at cmV_len l i 2 cm0 (by omega) (by decide)
   obtain ⟨x, hxd⟩ : ∃ x, l.getD i cm0 = x := ⟨_, rfl⟩
   rw [hxd] at hx hts t1
   have hxn := hx.n
   have hxl := hx.len
   replace t1 : (rowV cmV l)[i * 4 + 2]? = some (.slice x.y.1 x.y.2.1 x.y.2.2) := t1
   have hsum : ((totC l i : Nat) : Int) + (x.y.2.1 : Int) = ((totC l (i + 1) : Nat) : Int) := by omega
   repeat (first | refine T_seq ?_ | refine T_region ?_ | refine T_cond_true rfl ?_ | refine T_block ?_ | refine T_skip ?_ | refine TL_add (hk := ?_) | refine TL_lt_t (hk := ?_) | refine TL_le_t (hk := ?_) | refine TL_nil ?_ | refine TL_move (hk := ?_) | refine TL_assign (hk := ?_) | refine TL_load_rd TE (hk := ?_) | refine TL_fieldAddr_e TE (hk := ?_) | refine TL_indexAddrn TE (hk := ?_) | refine TL_len TE (hk := ?_) | refine TL_yes (hk := ?_) | refine TL_pick_t (hk := ?_))
   rw [hsum]
   --
   refine T_loop (ι := Nat × Nat) (fun k => [(6, .int .i64 (k.1 : Int)), (5, .int .i64 (i : Int)), (4, .int .i64 (k.2 : Int)), (3, .int .i64 ((totC l (i + 1) : Nat) : Int)), (0, .slice A m c)]) (fun k w' => Ext w w' ∧ k.1 ≤ x.y.2.1 ∧ k.1 ≤ 301 ∧ k.2 ≤ i * 946864128 + k.1 * 3145728) (fun k => x.y.2.1 - k.1) (0, n) (.c rfl (.c rfl (.c rfl (.c rfl (.c rfl (.n)))))) ⟨e1, Nat.zero_le _, Nat.zero_le _, Nat.le_trans hn (Nat.le_add_right _ _)⟩ ?_
   rintro ⟨k, n2⟩ w2 ⟨e2, hk, hk2, hn2⟩ ih2
   simp only at hk hk2 hn2 ih2 ⊢
   have hr2 := hr.be e2
   by_cases hkl : k < x.y.2.1
   ·by_cases h300 : k ≤ 300
    ·have hp2 := hx.rd.be e2
     have hP : x.y.1 ≠ none := by obtain ⟨_, _, hq, _⟩ := hp2.2 (by omega); rw [hq]; simp
     have tp := rowV_elem pmV_len x.xs k pm0 (by omega)
     have hin := in_at (xs := x.xs) (i := k) (by omega)
     obtain ⟨p, hpd⟩ : ∃ p, x.xs.getD k pm0 = p := ⟨_, rfl⟩
     rw [hpd] at tp hin
     obtain ⟨X, F⟩ := hx.pl p hin
     obtain ⟨l1, l2, l3⟩ := X.len
     have na := F.na
     have nb := F.nb
     have nc := F.nc
     unfold pmV at tp
     have hsum2 : (n2 : Int) + (p.a.2.1 : Int) + (p.b.2.1 : Int) + (p.c.2.1 : Int) = ((n2 + p.a.2.1 + p.b.2.1 + p.c.2.1 : Nat) : Int) := by omega
     repeat (first | refine T_seq ?_ | refine T_region ?_ | refine T_cond_true rfl ?_ | refine T_block ?_ | refine T_skip ?_ | refine TL_lt_t (hk := ?_) | refine TL_le_t (hk := ?_) | refine TL_nil ?_ | refine TL_move (hk := ?_) | refine TL_load_rd TE (hk := ?_) | refine TL_fieldAddr_e TE (hk := ?_) | refine TL_indexAddrn TE (hk := ?_) | refine TL_len TE (hk := ?_) | refine TL_yes (hk := ?_) | refine TL_pick_t (hk := ?_))
     refine TL_loada TE (cs := [.int .i64 p.p.q.cl, .int .u64 (p.p.q.tk : Int), .string (ofL p.p.q.nm), sL p.a, .int .i64 p.p.how, sL p.b, sL p.c]) (hx := rfl) (ht := rfl) (hi := rfl) (hr := hp2) (hc := tp) (h0 := Nat.succ_pos _) (hk := ?_)
     --
     refine TL_alloc TE (hk := ?_); intro b3 w3 e3 h3 h3' k3
     --
     refine TL_storea TE (hk := ?_); intro w4 m4 z4 k4
     replace k4 : Blk w4 b3 45 [.int .i64 p.p.q.cl, .int .u64 (p.p.q.tk : Int), .string (ofL p.p.q.nm), sL p.a, .int .i64 p.p.how, sL p.b, sL p.c] := k4
     have e24 : Ext w2 w4 := e3.step m4 (fun u hu => .inr (by rw [List.mem_singleton.1 hu]; omega))
     repeat (first | refine T_region ?_ | refine T_inBlock ?_ | refine TL_add (hk := ?_) | refine TL_nil ?_ | refine TL_move (hk := ?_) | refine TL_assign (hk := ?_) | refine TL_load TE (hk := ?_) | refine TL_fieldAddr TE (hk := ?_) | refine TL_len TE (hk := ?_))
     rw [hsum2]
     exact ih2 (k + 1, n2 + p.a.2.1 + p.b.2.1 + p.c.2.1) w4 _ (by simp only; omega) ⟨e2.ext e24, by simp only; omega, by simp only; omega, by simp only; omega⟩ (.c rfl (.c rfl (.c rfl (.c rfl (.c rfl (.n))))))
    ·clear ih2
     repeat (first | refine T_seq ?_ | refine T_region ?_ | refine T_cond_false rfl ?_ | refine T_inBlock ?_ | refine T_exit rfl ?_ | refine TL_add (hk := ?_) | refine TL_lt_t (hk := ?_) | refine TL_le_f (hk := ?_) | refine TL_nil ?_ | refine TL_move (hk := ?_) | refine TL_assign (hk := ?_) | refine TL_load_rd TE (hk := ?_) | refine TL_fieldAddr_e TE (hk := ?_) | refine TL_indexAddrn TE (hk := ?_) | refine TL_len TE (hk := ?_) | refine TL_yes (hk := ?_) | refine TL_pick_t (hk := ?_))
     exact ih (i + 1, n2) w2 _ (by simp only; omega) ⟨e2, by simp only; omega, by simp only; omega, by simp only; omega, by simp only; omega⟩ (.c rfl (.c rfl (.c rfl (.c rfl (.n)))))
   ·clear ih2
    repeat (first | refine T_seq ?_ | refine T_region ?_ | refine T_cond_false rfl ?_ | refine T_inBlock ?_ | refine T_exit rfl ?_ | refine TL_add (hk := ?_) | refine TL_lt_f (hk := ?_) | refine TL_nil ?_ | refine TL_move (hk := ?_) | refine TL_assign (hk := ?_) | refine TL_load_rd TE (hk := ?_) | refine TL_fieldAddr_e TE (hk := ?_) | refine TL_indexAddrn TE (hk := ?_) | refine TL_len TE (hk := ?_) | refine TL_no (hk := ?_) | refine TL_pick_f (hk := ?_))
    exact ih (i + 1, n2) w2 _ (by simp only; omega) ⟨e2, by simp only; omega, by simp only; omega, by simp only; omega, by simp only; omega⟩ (.c rfl (.c rfl (.c rfl (.c rfl (.n)))))
  ·clear ih
   have hmb : ¬ (m : Int) ≤ 200 := by omega
   repeat (first | refine T_seq ?_ | refine T_region ?_ | refine T_cond_false rfl ?_ | refine T_exit rfl ?_ | refine TL_lt_t (hk := ?_) | refine TL_le_f (hk := ?_) | refine TL_nil ?_ | refine TL_move (hk := ?_) | refine TL_assign (hk := ?_) | refine TL_len TE (hk := ?_) | refine TL_yes (hk := ?_) | refine TL_no (hk := ?_) | refine TL_pick_t (hk := ?_) | refine TL_pick_f (hk := ?_))
   exact T_ret1 rfl rfl ⟨_, rfl, e1, fun q => by cases q⟩
 ·clear ih
  obtain rfl : m = i := by omega
  by_cases hmb : (m : Int) ≤ 200
  ·by_cases hpb : ((totC l m : Nat) : Int) ≤ 300
   ·by_cases hnb : (n : Int) ≤ 50000
    ·repeat (first | refine T_seq ?_ | refine T_region ?_ | refine T_cond_false rfl ?_ | refine T_exit rfl ?_ | refine TL_lt_f (hk := ?_) | refine TL_le_t (hk := ?_) | refine TL_nil ?_ | refine TL_move (hk := ?_) | refine TL_assign (hk := ?_) | refine TL_len TE (hk := ?_) | refine TL_yes (hk := ?_) | refine TL_no (hk := ?_) | refine TL_pick_t (hk := ?_) | refine TL_pick_f (hk := ?_))
     exact T_ret1 rfl rfl ⟨_, rfl, e1, fun _ => by omega⟩
    ·repeat (first | refine T_seq ?_ | refine T_region ?_ | refine T_cond_false rfl ?_ | refine T_exit rfl ?_ | refine TL_lt_f (hk := ?_) | refine TL_le_t (hk := ?_) | refine TL_le_f (hk := ?_) | refine TL_nil ?_ | refine TL_move (hk := ?_) | refine TL_assign (hk := ?_) | refine TL_len TE (hk := ?_) | refine TL_yes (hk := ?_) | refine TL_no (hk := ?_) | refine TL_pick_t (hk := ?_) | refine TL_pick_f (hk := ?_))
     exact T_ret1 rfl rfl ⟨_, rfl, e1, fun q => by cases q⟩
   ·repeat (first | refine T_seq ?_ | refine T_region ?_ | refine T_cond_false rfl ?_ | refine T_exit rfl ?_ | refine TL_lt_f (hk := ?_) | refine TL_le_t (hk := ?_) | refine TL_le_f (hk := ?_) | refine TL_nil ?_ | refine TL_move (hk := ?_) | refine TL_assign (hk := ?_) | refine TL_len TE (hk := ?_) | refine TL_yes (hk := ?_) | refine TL_no (hk := ?_) | refine TL_pick_t (hk := ?_) | refine TL_pick_f (hk := ?_))
    exact T_ret1 rfl rfl ⟨_, rfl, e1, fun q => by cases q⟩
  ·repeat (first | refine T_seq ?_ | refine T_region ?_ | refine T_cond_false rfl ?_ | refine T_exit rfl ?_ | refine TL_lt_f (hk := ?_) | refine TL_le_f (hk := ?_) | refine TL_nil ?_ | refine TL_move (hk := ?_) | refine TL_assign (hk := ?_) | refine TL_len TE (hk := ?_) | refine TL_no (hk := ?_) | refine TL_pick_f (hk := ?_))
   exact T_ret1 rfl rfl ⟨_, rfl, e1, fun q => by cases q⟩
end Go.Proofs.YtjlaomcankmdjaaGreat
namespace Go.Proofs.YtjlaomcankmdjaaGreat
open Go.Proofs.Eng Go.Proofs.Codec Go.Proofs.Foot Go.Proofs.Journal
theorem HI.trims {sz m : Nat} {z : SR} {ep : Int} {l : List EP} : ∀ (k : Nat) {cs : List SR} {pre : List EP} {ls : List (List EP)}, HI sz cs z ep pre ls l m → k ≤ cs.length → ∃ pre' ls', HI sz (cs.drop k) z ep pre' ls' l m ∧ pre' ++ ls'.flatten = pre ++ ls.flatten
 | 0, cs, pre, ls, H, _ => ⟨pre, ls, by rw [List.drop_zero]; exact H, rfl⟩
 |k + 1, [], pre, ls, H, h => absurd h (by simp)
 |k + 1, c :: cs, pre, ls, H, h => by
  obtain ⟨l0, ls', rfl, H', e⟩ := H.trim
  obtain ⟨p2, ls2, H2, e2⟩ := HI.trims k H' (by simpa using h)
  exact ⟨p2, ls2, H2, by rw [e2, e]⟩
theorem from_mem {l : List EE} {n : Int} {e : EE} (h : e ∈ fromE l n) : e ∈ l := (List.mem_filter.1 h).1
theorem tail_at {A B T : List EE} (hT : A ++ T = B) (i : Nat) (h : i < T.length) : ∃ h2 : A.length + i < B.length, T[i] = B[A.length + i] := by
 subst hT
 refine ⟨by rw [List.length_append]; omega, ?_⟩
 rw [List.getElem_append_right (by omega)]
 congr 1
 omega
section
variable {sz m : Nat} {cs : List SR} {z : SR} {ep : Int} {pre : List EP} {ls : List (List EP)} {l : List EP}
theorem HI.entsR (H : HI sz cs z ep pre ls l m) : (logF L0 pre).l ++ entsR (cs ++ [z]) = (allE pre ls l).l := H.ents
theorem HI.from_eq (H : HI sz cs z ep pre ls l m) {N : Int} (hp : ((logF L0 pre).l.length : Int) ≤ N) : fromE (Go.Proofs.YtjlaomcankmdjaaGreat.entsR (cs ++ [z])) N = (allE pre ls l).l.drop N.toNat := by
 have hT := H.entsR
 have hk := H.ok
 rw [fromE_drop N _ (logF L0 pre).l.length (fun i hi => by
  obtain ⟨h2, e⟩ := tail_at hT i hi
  rw [e, hk.at _ h2])]
 have h0 : (logF L0 pre).l.drop N.toNat = [] := List.drop_of_length_le (by omega)
 rw [← hT, List.drop_append, h0, List.nil_append]
 congr 1
 omega
theorem HI.entOk (H : HI sz cs z ep pre ls l m) : ∀ e ∈ Go.Proofs.YtjlaomcankmdjaaGreat.entsR (cs ++ [z]), EOk e := fun e he => (H.ok.run.le e (by rw [← H.entsR]; exact List.mem_append_right _ he)).2
theorem HI.entLen (H : HI sz cs z ep pre ls l m) : (Go.Proofs.YtjlaomcankmdjaaGreat.entsR (cs ++ [z])).length ≤ 65536 := by
 have h1 := congrArg List.length H.entsR
 have h2 := H.ok.n
 rw [List.length_append] at h1
 omega
end
theorem back_from {B Lp T : List EE} (hk : ∀ i (h : i < B.length), B[i].sq = ((i : Nat) : Int)) (hT : Lp ++ T = B) (mark : Int) : ∃ d, ∀ i (h : i < (fromE T mark).length), ∃ h2 : Lp.length + d + i < B.length, (fromE T mark)[i] = B[Lp.length + d + i] := by
 have hd : fromE T mark = T.drop (mark - (Lp.length : Int)).toNat := fromE_drop mark T Lp.length (fun i hi => by
  obtain ⟨h2, e⟩ := tail_at hT i hi
  rw [e, hk _ h2])
 refine ⟨(mark - (Lp.length : Int)).toNat, fun i h => ?_⟩
 simp only [hd] at h ⊢
 rw [List.length_drop] at h
 obtain ⟨h2, e⟩ := tail_at hT ((mark - (Lp.length : Int)).toNat + i) (by omega)
 refine ⟨by omega, ?_⟩
 rw [List.getElem_drop, e]
 congr 1
 omega
end Go.Proofs.YtjlaomcankmdjaaGreat
namespace Go.Proofs.YtjlaomcankmdjaaGreat
open Go.RowKit Go.Proofs.Eng Go.Proofs.Codec Go.Proofs.Foot Go.Proofs.Journal
set_option linter.unusedVariables false set_option maxRecDepth 10000
attribute [local irreducible] T TL LV TH TA
set_option maxHeartbeats 3200000
theorem ShM.imlen {w : World} {base sb : Nat} {sz ep : Int} {R : SL} {cs : List SR} {z : SR} {h : Nat → Nat} (S : ShM w base sb sz R cs z ep h) (keep : Int) (i : Nat) (hi : i < (imgsR cs z keep).length) : ((imgsR cs z keep).getD i []).length ≤ 4194304 := by
 have hm : (imgsR cs z keep).getD i [] ∈ imgsR cs z keep := by rw [List.getD_eq_getElem?_getD, List.getElem?_eq_getElem hi]; exact List.getElem_mem _
 rcases List.mem_append.1 hm with q | q
 ·obtain ⟨r, hr, e⟩ := List.mem_map.1 q
  have := (S.cl r hr).dk.ok.ln
  rw [← e]
  unfold bytesD
  split
  ·exact Nat.zero_le _
  ·exact this
 ·have := S.la.dk.ok.ln
  rw [List.mem_singleton.1 q]
  unfold leftD
  rw [List.length_take]; omega
theorem HI.imsz {sz m : Nat} {cs : List SR} {z : SR} {ep : Int} {pre : List EP} {ls : List (List EP)} {l : List EP} (H : HI sz cs z ep pre ls l m) (keep : Int) (i : Nat) (hi : i < cs.length) : sz ≤ ((imgsR cs z keep).getD i []).length := by
 obtain ⟨h1, h2⟩ := H.ch.size cs[i] (List.getElem_mem hi)
 have e : (imgsR cs z keep).getD i [] = bytesD cs[i].k := by
  unfold imgsR
  rw [List.getD_eq_getElem?_getD, List.getElem?_append_left (by rw [List.length_map]; exact hi), List.getElem?_map, List.getElem?_eq_getElem hi]
  rfl
 rw [e]
 unfold bytesD
 rw [h2]
 exact h1
theorem take_ce (A B : List EP) (c : Nat) : (A ++ B).take (A.length + c) = A ++ B.take c := by
 rw [List.take_append, List.take_of_length_le (by omega)]
 congr 2
 omega
structure KG where
 R : SL
 cs : List SR
 z : SR
 ep : Int
 pre : List EP
 ls : List (List EP)
 l : List EP
 mf : Nat
 h : Nat → Nat
 Y : SL
 ps : List PM
 lp : List EP
 Z : SL
 lq : List EP
abbrev KG.all (s : KG) : List EP := (s.pre ++ s.ls.flatten) ++ s.l
structure KI (w0 w : World) (base sb szn : Nat) (s : KG) : Prop where
 e : Ext w0 w
 hb : w0.heap.size ≤ base
 S : ShM w base sb (szn : Int) s.R s.cs s.z s.ep s.h
 H : HI szn s.cs s.z s.ep s.pre s.ls s.l s.mf
 oy : Own w base 45 7 s.Y.1 s.Y.2.1 s.Y.2.2 (rowV pmV s.ps)
 pp : s.ps.map (·.p) = (s.lp.map (·.2)).flatten
 pin : ∀ x ∈ s.ps, PIn w0 x
 oz : Own w base 2 1 s.Z.1 s.Z.2.1 s.Z.2.2 (rowV iV (endsL s.lq))
 gy : ∀ b ∈ blkL s.Y.1, s.h b = 0
 gz : ∀ b ∈ blkL s.Z.1, s.h b = 0
 yz : ∀ b ∈ blkL s.Y.1, b ∉ blkL s.Z.1
section
variable {w0 w w' : World} {base sb szn : Nat} {s : KG}
theorem KI.size (K : KI w0 w base sb szn s) : base ≤ w.heap.size := by have := K.S.old sb (by rw [K.S.h1]; decide); omega
theorem KI.new (K : KI w0 w base sb szn s) {b : Nat} (hb : w.heap.size ≤ b) : s.h b = 0 := by
 by_cases q : s.h b = 0
 ·exact q
 ·have := (K.S.old b q).2; omega
theorem KI.tn (K : KI w0 w base sb szn s) {R' : SL} {cs' : List SR} {z' : SR} {ep' : Int} {pre' : List EP} {ls' : List (List EP)} {l' : List EP} {m' : Nat} {h' : Nat → Nat} (S' : ShM w' base sb (szn : Int) R' cs' z' ep' h') (t : Tn s.h h' w w') (H' : HI szn cs' z' ep' pre' ls' l' m') :
  KI w0 w' base sb szn { s with R := R', cs := cs', z := z', ep := ep', pre := pre', ls := ls', l := l', mf := m', h := h' } :=
 ⟨t.ext0 K.e (fun b hb => Nat.le_trans K.hb (K.S.old b hb).1), K.hb, S', H', (K.oy.tn t K.gy).1, K.pp, K.pin, (K.oz.tn t K.gz).1, (K.oy.tn t K.gy).2, (K.oz.tn t K.gz).2, K.yz⟩
theorem KI.ext (K : KI w0 w base sb szn s) (e : Ext w w') : KI w0 w' base sb szn s := K.tn (K.S.ext e) (Tn.ext e) K.H
theorem KI.allp (K : KI w0 w base sb szn s) {A : Option Addr} {n c : Nat} {ps : List PM} {lp : List EP} (m : Eng.Mod (blkL s.Y.1) w w') (nr : Near s.Y.1 A w) (o : Own w' base 45 7 A n c (rowV pmV ps)) (hp : ps.map (·.p) = (lp.map (·.2)).flatten) (hi : ∀ x ∈ ps, PIn w0 x) :
  KI w0 w' base sb szn { s with Y := (A, n, c), ps := ps, lp := lp } :=
 ⟨K.e.step m (fun u hu => .inr (Nat.le_trans K.hb (K.oy.bl u hu).1)), K.hb, K.S.modz m K.gy, K.H, o, hp, hi, K.oz.modL m (fun b hb q => K.yz b q hb), fun b hb => (Near.mem nr b hb).elim (K.gy b) K.new, K.gz, fun b hb q => (Near.mem nr b hb).elim (fun h => K.yz b h q) (fun h => by have := (K.oz.bl b q).2; omega)⟩
theorem KI.ends (K : KI w0 w base sb szn s) {A : Option Addr} {n c : Nat} {lq : List EP} (m : Eng.Mod (blkL s.Z.1) w w') (nr : Near s.Z.1 A w) (o : Own w' base 2 1 A n c (rowV iV (endsL lq))) :
  KI w0 w' base sb szn { s with Z := (A, n, c), lq := lq } :=
 ⟨K.e.step m (fun u hu => .inr (Nat.le_trans K.hb (K.oz.bl u hu).1)), K.hb, K.S.modz m K.gz, K.H, K.oy.modL m K.yz, K.pp, K.pin, o, K.gy, fun b hb => (Near.mem nr b hb).elim (K.gz b) K.new, fun b hb q => (Near.mem nr b q).elim (fun h => K.yz b hb h) (fun h => by have := (K.oy.bl b hb).2; omega)⟩
end
set_option maxHeartbeats 6400000
theorem JournalKept_c (size : Int) (A : Option Addr) (m c : Nat) (l : List CM) (keep mark : Int) (w : World) (hr : Rd w A m 4 (rowV cmV l)) (hl : ∀ x ∈ l, CIn w x) (hlm : l.length = m) (hm : m ≤ 1048576) (hsize : iOk size) (hkeep : iOk keep) (hmark : iOk mark) :
  Ret Tryz.prog 8 [.int .i64 size, .slice A m c, .int .i64 keep, .int .i64 mark] w (fun v w' => v = .bool true ∧ Ext w w') := by
 have hkeep1 : -9223372036854775808 ≤ keep ∧ keep ≤ 9223372036854775807 := hkeep
 have hmark1 : -9223372036854775808 ≤ mark ∧ mark ≤ 9223372036854775807 := hmark
 refine ret_T (n := 274) Tryz.func8 rfl rfl ?_
 repeat (first | refine T_seq ?_ | refine T_region ?_ | refine TL_nil ?_ | refine TL_move (hk := ?_) | refine TL_assign (hk := ?_))
 refine TL_call TE (hc := calls_c A m c l w hr hl hlm hm) (hk := ?_)
 rintro _ w1 ⟨bb, rfl, e1, hbb⟩
 cases bb with
 |false =>
  repeat (first | refine T_seq ?_ | refine T_region ?_ | refine T_cond_true rfl ?_ | refine TL_nil ?_ | refine TL_move (hk := ?_) | refine TL_no (hk := ?_) | refine TL_pick_t (hk := ?_) | refine TL_not (hk := ?_))
  refine TL_call TE (hc := jlive_c w1) (hk := ?_)
  rintro _ w2 ⟨rfl, e2⟩
  repeat (first | refine TL_nil ?_ | refine TL_assign (hk := ?_))
  exact T_ret1 rfl rfl ⟨rfl, e1.ext e2⟩
 |true => ?_
 obtain ⟨hm200, htot⟩ := hbb rfl
 by_cases hs1 : size < 1
 ·repeat (first | refine T_seq ?_ | refine T_region ?_ | refine T_cond_true rfl ?_ | refine TL_lt_t (hk := ?_) | refine TL_nil ?_ | refine TL_move (hk := ?_) | refine TL_yes (hk := ?_) | refine TL_no (hk := ?_) | refine TL_pick_t (hk := ?_) | refine TL_pick_f (hk := ?_) | refine TL_not (hk := ?_))
  refine TL_call TE (hc := jlive_c w1) (hk := ?_)
  rintro _ w2 ⟨rfl, e2⟩
  repeat (first | refine TL_nil ?_ | refine TL_assign (hk := ?_))
  exact T_ret1 rfl rfl ⟨rfl, e1.ext e2⟩
 by_cases hs2 : 100000 < size
 ·repeat (first | refine T_seq ?_ | refine T_region ?_ | refine T_cond_true rfl ?_ | refine TL_lt_f (hk := ?_) | refine TL_gt_t (hk := ?_) | refine TL_nil ?_ | refine TL_move (hk := ?_) | refine TL_yes (hk := ?_) | refine TL_pick_f (hk := ?_) | refine TL_not (hk := ?_))
  refine TL_call TE (hc := jlive_c w1) (hk := ?_)
  rintro _ w2 ⟨rfl, e2⟩
  repeat (first | refine TL_nil ?_ | refine TL_assign (hk := ?_))
  exact T_ret1 rfl rfl ⟨rfl, e1.ext e2⟩
 obtain ⟨szn, rfl⟩ : ∃ szn : Nat, size = (szn : Int) := ⟨size.toNat, by omega⟩
 have hszn : 1 ≤ szn ∧ szn ≤ 100000 := by omega
 have zw1 := e1.size
 repeat (first | refine T_seq ?_ | refine T_region ?_ | refine T_cond_false rfl ?_ | refine T_skip ?_ | refine TL_lt_f (hk := ?_) | refine TL_gt_f (hk := ?_) | refine TL_nil ?_ | refine TL_move (hk := ?_) | refine TL_yes (hk := ?_) | refine TL_pick_f (hk := ?_) | refine TL_not (hk := ?_))
 refine TL_call TE (hc := OpenNil_c szn w1 hszn) (hk := ?_)
 rintro _ w2 ⟨sb, R2, z2, h2, rfl, S2, H2, e2⟩
 repeat (first | refine T_seq ?_ | refine T_region ?_ | refine TL_nil ?_ | refine TL_move (hk := ?_) | refine TL_assign (hk := ?_) | refine TL_extract (hk := ?_))
 refine TL_call TE (hc := jnum_c _ w2) (hk := ?_)
 rintro _ w3 ⟨rfl, hw⟩
 rw [hw]
 clear hw w3
 repeat (first | refine T_seq ?_ | refine T_region ?_ | refine T_cond_false rfl ?_ | refine T_skip ?_ | refine TL_ne_f (hk := ?_) | refine TL_pnil_f TE (hk := ?_) | refine TL_nil ?_ | refine TL_move (hk := ?_) | refine TL_assign (hk := ?_) | refine TL_yes (hk := ?_) | refine TL_pick_f (hk := ?_))
 refine TL_buildSlice TE (hk := ?_); intro b3 w3 e3 h3 h3' k3
 have zz2 := e2.size
 have oz3 : Own w3 w1.heap.size 2 1 (some ⟨b3, 0, none⟩) 1 1 (rowV iV (endsL [])) := Own.of_blk k3 (by omega) rfl (by decide)
 have S3 := S2.ext e3
 have gz3 : ∀ b ∈ blkL (some (⟨b3, 0, none⟩ : Addr)), h2 b = 0 := fun b hb => by
  have : b = b3 := by simpa [blkL] using hb
  by_cases q : h2 b = 0
  ·exact q
  ·have := (S2.old b q).2; omega
 have K3 : KI w w3 w1.heap.size sb szn ⟨R2, [], z2, 0, [], [], [], 0, h2, (none, 0, 0), [], [], (some ⟨b3, 0, none⟩, 1, 1), []⟩ :=
  ⟨(e1.ext e2).ext e3, zw1, S3, H2, Own.nil _ _ _ _, rfl, (fun x hx => by cases hx), oz3, (fun b hb => by cases hb), gz3, (fun b hb => by cases hb)⟩
 clear S2 S3 H2 oz3 gz3 k3
 repeat (first | refine T_seq ?_ | refine T_region ?_ | refine T_block ?_ | refine TL_nil ?_ | refine TL_assign (hk := ?_))
 refine T_loop (ι := Nat × KG) (fun j => [(13, .int .i64 (j.1 : Int)), (12, .slice j.2.Z.1 j.2.Z.2.1 j.2.Z.2.2), (11, .slice j.2.Y.1 j.2.Y.2.1 j.2.Y.2.2), (9, pB sb), (3, .int .i64 mark), (2, .int .i64 keep), (1, .slice A m c), (0, .int .i64 (szn : Int))])
  (fun j w' => KI w w' w1.heap.size sb szn j.2 ∧ j.1 ≤ m ∧ j.2.lp = j.2.all ∧ j.2.lq = j.2.all ∧ j.2.ps.length ≤ totC l j.1 ∧ j.2.all.length ≤ j.1 ∧ j.2.cs.length ≤ j.1) (fun j => m - j.1) (0, _) (.c rfl (.c rfl (.c rfl (.c rfl (.c rfl (.c rfl (.c rfl (.c rfl (.n))))))))) ⟨K3, Nat.zero_le _, rfl, rfl, Nat.zero_le _, Nat.zero_le _, Nat.zero_le _⟩ ?_
 clear K3
 rintro ⟨j, s⟩ w6 ⟨K, hj, hlp, hlq, hps, hle, hcs⟩ ih
 simp only at K hj hlp hlq hps hle hcs ih ⊢
 have hyl := K.oy.len
 rw [rowV_len pmV_len] at hyl
 have hzl := K.oz.len
 rw [rowV_len iV_len, endsL_len, hlq] at hzl
 have hsz6 := K.size
 have hle2 : ((s.pre ++ s.ls.flatten) ++ s.l).length ≤ j := hle
 by_cases hlt : j < m
 ·have hr6 := hr.be K.e
  have hA : A ≠ none := by obtain ⟨_, _, hq, _⟩ := hr.2 (by omega); rw [hq]; simp
  have hAl := hr.lo (by omega)
  have hDA : Off A (ownB w6 s.h) := off_ofL fun b hb q => by
   have h1 := (K.S.old b (ownB_mem q)).1
   have h2 := Lo.mem hAl b hb
   omega
  have hx0 := hl _ (cm_at (l := l) (i := j) (by omega))
  have hts := totC_succ l j (by omega)
  have htm := totC_le l (i := j + 1) (j := m) (by omega) (by omega)
  have t0 := rowV_at cmV_len l j 0 cm0 (by omega) (by decide)
  have t1 := rowV_at cmV_len l j 1 cm0 (by omega) (by decide)
  have t2 := rowV_at cmV_len l j 2 cm0 (by omega) (by decide)
  have t3 := rowV_at cmV_len l j 3 cm0 (by omega) (by decide)
  obtain ⟨x, hxd⟩ : ∃ x, l.getD j cm0 = x := ⟨_, rfl⟩
  rw [hxd] at hx0 hts t0 t1 t2 t3
  replace t0 : (rowV cmV l)[j * 4 + 0]? = some (.int .i64 x.hkd) := t0
  replace t1 : (rowV cmV l)[j * 4 + 1]? = some (.int .i64 x.hep) := t1
  replace t2 : (rowV cmV l)[j * 4 + 2]? = some (.slice x.y.1 x.y.2.1 x.y.2.2) := t2
  replace t3 : (rowV cmV l)[j * 4 + 3]? = some (.int .i64 x.hnn) := t3
  have hxl := hx0.len
  have hyb : s.Y.2.1 ≤ 300 := by omega
  have hzb : s.Z.2.1 ≤ 201 := by omega
  have hxb : x.y.2.1 ≤ 300 := by omega
  have hkd := hx0.kd
  have hnn := hx0.nn
  have hc900 : s.cs.length ≤ 900 := by omega
  by_cases k1 : x.hkd = 1
  ·repeat (first | refine T_seq ?_ | refine T_region ?_ | refine T_cond_true rfl ?_ | refine T_block ?_ | refine T_skip ?_ | refine TL_lt_t (hk := ?_) | refine TL_eq_t (hk := ?_) | refine TL_nil ?_ | refine TL_move (hk := ?_) | refine TL_assign (hk := ?_) | refine TL_load_rd TE (hk := ?_) | refine TL_fieldAddr_e TE (hk := ?_) | refine TL_indexAddrn TE (hk := ?_) | refine TL_len TE (hk := ?_))
   refine T_region_any TE.mixed (ownB w6 s.h) ?_; intro w7 e7 z7
   have K7 := K.ext e7
   have hr7 := hr6.be e7
   have hx7 := hx0.be K7.e
   have hin := ownB_in (o := s.h) z7
   (refine TA_take 0 rfl (by kernel_rfl) (by kernel_rfl) (by kernel_rfl) ?_; (repeat (first | refine TL_move (hk := ?_) | refine TLP_load_rd TE (hk := ?_) | refine TL_fieldAddr_e TE (hk := ?_) | refine TL_indexAddrn TE (hk := ?_))); refine TL_nil_p ?_); (refine TA_take 1 rfl (by kernel_rfl) (by kernel_rfl) (by kernel_rfl) ?_; (repeat (first | refine TL_move (hk := ?_) | refine TLP_load_rd TE (hk := ?_) | refine TL_fieldAddr_e TE (hk := ?_) | refine TL_indexAddrn TE (hk := ?_))); refine TL_nil_p ?_); (refine TA_take 2 rfl (by kernel_rfl) (by kernel_rfl) (by kernel_rfl) ?_; (repeat (first | refine TL_move (hk := ?_) | refine TLP_load_rd TE (hk := ?_) | refine TL_fieldAddr_e TE (hk := ?_) | refine TL_indexAddrn TE (hk := ?_))); refine TL_nil_p ?_); (refine TA_take 3 rfl (by kernel_rfl) (by kernel_rfl) (by kernel_rfl) ?_; (repeat (first | refine TL_move (hk := ?_) | refine TLP_load_rd TE (hk := ?_) | refine TL_fieldAddr_e TE (hk := ?_) | refine TL_indexAddrn TE (hk := ?_))); refine TL_nil_p ?_); (refine TA_take 4 rfl (by kernel_rfl) (by kernel_rfl) (by kernel_rfl) ?_; (repeat (first | refine TL_move (hk := ?_) | refine TLP_load_rd TE (hk := ?_) | refine TL_fieldAddr_e TE (hk := ?_) | refine TL_indexAddrn TE (hk := ?_))); refine TL_nil_p ?_); (refine TA_take 5 rfl (by kernel_rfl) (by kernel_rfl) (by kernel_rfl) ?_; (repeat (first | refine TL_move (hk := ?_) | refine TLP_load_rd TE (hk := ?_) | refine TL_fieldAddr_e TE (hk := ?_) | refine TL_indexAddrn TE (hk := ?_))); refine TL_nil_p ?_); (refine TA_take 6 rfl (by kernel_rfl) (by kernel_rfl) (by kernel_rfl) ?_; (repeat (first | refine TL_move (hk := ?_) | refine TLP_load_rd TE (hk := ?_) | refine TL_fieldAddr_e TE (hk := ?_) | refine TL_indexAddrn TE (hk := ?_))); refine TL_nil_p ?_); (refine TA_take 7 rfl (by kernel_rfl) (by kernel_rfl) (by kernel_rfl) ?_; (repeat (first | refine TL_move (hk := ?_) | refine TLP_load_rd TE (hk := ?_) | refine TL_fieldAddr_e TE (hk := ?_) | refine TL_indexAddrn TE (hk := ?_))); refine TL_nil_p ?_); (refine TA_take 8 rfl (by kernel_rfl) (by kernel_rfl) (by kernel_rfl) ?_; (repeat (first | refine TL_move (hk := ?_) | refine TLP_load_rd TE (hk := ?_) | refine TL_fieldAddr_e TE (hk := ?_) | refine TL_indexAddrn TE (hk := ?_))); refine TL_nil_p ?_); (refine TA_take 9 rfl (by kernel_rfl) (by kernel_rfl) (by kernel_rfl) ?_; (repeat (first | refine TL_move (hk := ?_) | refine TLP_load_rd TE (hk := ?_) | refine TL_fieldAddr_e TE (hk := ?_) | refine TL_indexAddrn TE (hk := ?_))); refine TL_nil_p ?_); (refine TA_take 10 rfl (by kernel_rfl) (by kernel_rfl) (by kernel_rfl) ?_; (repeat (first | refine TL_move (hk := ?_) | refine TLP_load_rd TE (hk := ?_) | refine TL_fieldAddr_e TE (hk := ?_) | refine TL_indexAddrn TE (hk := ?_))); refine TL_nil_p ?_)
   refine TA_one 11 rfl (by kernel_rfl) (by kernel_rfl) ?_; (try refine TL_yes (hk := ?_)); refine TL_call TE (hc := (plans_c x.y.1 x.y.2.1 x.y.2.2 x.xs w7 hx7.rd hx7.pl hx7.n)) (hq := (by rintro _ w8 ⟨y, ys, rfl, _, _, e, _⟩; exact Ext.un e)) (hk := ?_)
   rintro _ w8 ⟨y, ys, rfl, hyn, hyp, e8, oy, hyo⟩
   have K8 := K7.ext e8
   have wr := SWrite_c x.hep y.1 y.2.1 y.2.2 ys w8 K8.S K8.H hc900 (by omega) oy.rd (fun z hz => ⟨(hyo z hz).1.lies, (hyo z hz).2⟩) (by omega) hx7.ep
   rw [hyp] at wr
   refine TL_nil_p ?_
   refine TA_one 12 rfl (by kernel_rfl) (by kernel_rfl) ?_; (try refine TL_yes (hk := ?_)); refine TL_call TE (hc := wr) (hq := (by rintro _ w9 ⟨f, code, rfl, R', cs', z', e', ls', l', m', h', _, _, t', _⟩; exact t'.inD (Ext.un e8) hin)) (hk := ?_)
   rintro _ w9 ⟨f, code, rfl, R9, cs9, z9, ep9, ls9, l9, m9, h9, S9, H9, T9, hc9, hcase⟩
   refine TL_nil_p ?_
   (refine TA_take 13 rfl (by kernel_rfl) (by kernel_rfl) (by kernel_rfl) ?_; (repeat (first | refine TL_move (hk := ?_) | refine TL_assign (hk := ?_) | refine TL_extract (hk := ?_))); refine TL_nil_p ?_); (refine TA_take 14 rfl (by kernel_rfl) (by kernel_rfl) (by kernel_rfl) ?_; (repeat (first | refine TL_move (hk := ?_) | refine TL_assign (hk := ?_) | refine TL_extract (hk := ?_))); refine TL_nil_p ?_); (refine TA_take 15 rfl (by kernel_rfl) (by kernel_rfl) (by kernel_rfl) ?_; (repeat (first | refine TL_move (hk := ?_) | refine TL_assign (hk := ?_) | refine TL_extract (hk := ?_))); refine TL_nil_p ?_); (refine TA_take 16 rfl (by kernel_rfl) (by kernel_rfl) (by kernel_rfl) ?_; (repeat (first | refine TL_move (hk := ?_) | refine TL_assign (hk := ?_) | refine TL_extract (hk := ?_))); refine TL_nil_p ?_); (refine TA_take 17 rfl (by kernel_rfl) (by kernel_rfl) (by kernel_rfl) ?_; (repeat (first | refine TL_move (hk := ?_) | refine TL_assign (hk := ?_) | refine TL_extract (hk := ?_))); refine TL_nil_p ?_)
   refine TA_done (by kernel_rfl) ?_
   repeat (first | refine T_seq ?_ | refine T_region ?_ | refine TL_move (hk := ?_))
   refine TL_call TE (hc := jnum_c _ w9) (hk := ?_)
   rintro _ w10 ⟨rfl, hw⟩
   rw [hw]
   clear hw w10
   have K9 := K8.tn S9 T9 H9
   have hr9 := hr.be K9.e
   have hx9 := hx0.be K9.e
   have zb9 := K9.size
   clear oy hyo wr K8 K7 hr7 hx7 hin S9 H9 T9
   rcases hcase with ⟨hne, hsame⟩ | ⟨rfl, hf, hall⟩
   ·repeat (first | refine T_region ?_ | refine T_cond_false rfl ?_ | refine T_inBlock ?_ | refine T_skip ?_ | refine TL_add (hk := ?_) | refine TL_eq_f (hk := ?_) | refine TL_nil ?_ | refine TL_move (hk := ?_) | refine TL_assign (hk := ?_))
    exact ih (j + 1, _) w9 _ (by simp only; omega) ⟨K9, by show j + 1 ≤ m; omega, by show s.lp = _; rw [hlp]; exact hsame.symm, by show s.lq = _; rw [hlq]; exact hsame.symm, by show s.ps.length ≤ totC l (j + 1); omega, by show ((s.pre ++ ls9.flatten) ++ l9).length ≤ j + 1; rw [hsame]; omega, by show cs9.length ≤ j + 1; omega⟩ (.c rfl (.c rfl (.c rfl (.c rfl (.c rfl (.c rfl (.c rfl (.c rfl (.n)))))))))
   ·have hlen6 : (logF L0 ((s.pre ++ s.ls.flatten) ++ s.l)).l.length = s.ps.length := logF_len (by rw [K9.pp]; simp only; rw [hlp])
    have hfi : f = (s.Y.2.1 : Int) := by rw [hf, hlen6]; omega
    rw [hfi]
    have oy9 : Own w9 w1.heap.size 45 7 s.Y.1 s.Y.2.1 s.Y.2.2 (rowV pmV s.ps) := K9.oy
    repeat (first | refine T_seq ?_ | refine T_region ?_ | refine T_cond_true rfl ?_ | refine T_cond_false rfl ?_ | refine T_skip ?_ | refine TL_eq_t (hk := ?_) | refine TL_ne_f (hk := ?_) | refine TL_nil ?_ | refine TL_move (hk := ?_) | refine TL_load_rd TE (hk := ?_) | refine TL_fieldAddr_e TE (hk := ?_) | refine TL_indexAddrn TE (hk := ?_) | refine TL_len TE (hk := ?_))
    refine TL_append TE (ho := oy9) (hr := hx9.rd) (h1 := rowV_one pmV_one _) (hk := ?_); intro A10 c10 w10 o10 m10 n10
    rw [← rowV_append] at o10
    have hfl2 : (s.ps ++ x.xs).map (·.p) = ((s.all ++ [(x.hep, x.xs.map (·.p))]).map (·.2)).flatten := by
     rw [List.map_append, K9.pp]
     simp only
     rw [hlp, List.map_append, List.flatten_append]
     simp
    have K10 := K9.allp (lp := s.all ++ [(x.hep, x.xs.map (·.p))]) m10 n10 o10 hfl2 (fun z hz => (List.mem_append.1 hz).elim (K9.pin z) (hx0.pl z))
    have hlen := logF_len hfl2
    clear K9 oy9 hr9 hx9 o10 m10 n10
    repeat (first | refine T_region ?_ | refine TL_nil ?_ | refine TL_move (hk := ?_) | refine TL_assign (hk := ?_) | refine TL_len TE (hk := ?_))
    refine TL_buildSlice TE (hk := ?_); intro b11 w11 e11 h11 h11' k11
    have K11 := K10.ext e11
    have zb11 := K11.size
    have oz11 : Own w11 w1.heap.size 2 1 s.Z.1 s.Z.2.1 s.Z.2.2 (rowV iV (endsL s.lq)) := K11.oz
    replace k11 : Blk w11 b11 2 (rowV iV [((s.Y.2.1 + x.y.2.1 : Nat) : Int)]) := k11
    have r11 : Rd w11 (some ⟨b11, 0, none⟩) 1 1 (rowV iV [((s.Y.2.1 + x.y.2.1 : Nat) : Int)]) := Rd.blk k11 rfl
    --
    refine TL_append TE (ho := oz11) (hr := r11) (h1 := rowV_one iV_one _) (hk := ?_); intro A12 c12 w12 o12 m12 n12
    rw [← rowV_append] at o12
    have hend : endsL s.lq ++ [((s.Y.2.1 + x.y.2.1 : Nat) : Int)] = endsL (s.all ++ [(x.hep, x.xs.map (·.p))]) := by
     rw [endsL_snoc, hlq, hlen, List.length_append, show s.ps.length = s.Y.2.1 by omega, hxl]
    rw [hend] at o12
    have K12 := K11.ends m12 n12 o12
    have hlen2 : (s.ps ++ x.xs).length ≤ totC l (j + 1) := by rw [List.length_append]; omega
    have hlen3 : ((s.pre ++ ls9.flatten) ++ l9).length ≤ j + 1 := by rw [hall, List.length_append, List.length_singleton]; omega
    clear K11 oz11 r11 k11 o12 m12 n12 K10
    repeat (first | refine T_region ?_ | refine T_inBlock ?_ | refine TL_add (hk := ?_) | refine TL_nil ?_ | refine TL_move (hk := ?_) | refine TL_assign (hk := ?_))
    exact ih (j + 1, _) w12 _ (by simp only; omega) ⟨K12, by show j + 1 ≤ m; omega, hall.symm, hall.symm, hlen2, hlen3, by show cs9.length ≤ j + 1; omega⟩ (.c rfl (.c rfl (.c rfl (.c rfl (.c rfl (.c rfl (.c rfl (.c rfl (.n)))))))))
  by_cases k2 : x.hkd = 2
  ·repeat (first | refine T_seq ?_ | refine T_region ?_ | refine T_cond_true rfl ?_ | refine T_cond_false rfl ?_ | refine T_block ?_ | refine T_skip ?_ | refine TL_lt_t (hk := ?_) | refine TL_eq_t (hk := ?_) | refine TL_eq_f (hk := ?_) | refine TL_nil ?_ | refine TL_move (hk := ?_) | refine TL_assign (hk := ?_) | refine TL_load_rd TE (hk := ?_) | refine TL_fieldAddr_e TE (hk := ?_) | refine TL_indexAddrn TE (hk := ?_) | refine TL_len TE (hk := ?_))
   refine TL_call TE (hc := SFlush_c w6 K.S (by omega)) (hk := ?_)
   rintro _ w7 ⟨rfl, sd7, gd7, h7, S7, T7⟩
   have K7 := K.tn S7 T7 (K.H.flush rfl rfl (by show (opD s.z.k synD).1 = _; rw [opd_syn K.H.la.off K.H.la.lf]) rfl)
   repeat (first | refine T_region ?_ | refine T_inBlock ?_ | refine TL_add (hk := ?_) | refine TL_nil ?_ | refine TL_move (hk := ?_) | refine TL_assign (hk := ?_))
   exact ih (j + 1, _) w7 _ (by simp only; omega) ⟨K7, by show j + 1 ≤ m; omega, hlp, hlq, by show s.ps.length ≤ totC l (j + 1); omega, by show s.all.length ≤ j + 1; omega, by show s.cs.length ≤ j + 1; omega⟩ (.c rfl (.c rfl (.c rfl (.c rfl (.c rfl (.c rfl (.c rfl (.c rfl (.n)))))))))
  by_cases k3 : x.hkd = 3
  ·have V6 := K.S.view (by omega)
   have hfirst : ((s.cs ++ [s.z])[0]'(by simp)).f = (logF L0 s.pre).l.length := by
    have q := K.H.first
    rw [List.getD_eq_getElem?_getD, List.getElem?_eq_getElem (by simp)] at q
    exact q
   obtain ⟨p, hp⟩ : ∃ p, (logF L0 s.pre).l.length = p := ⟨_, rfl⟩
   have hEl := K.H.entLen
   repeat (first | refine T_seq ?_ | refine T_region ?_ | refine T_cond_true rfl ?_ | refine T_cond_false rfl ?_ | refine T_block ?_ | refine T_skip ?_ | refine TL_lt_t (hk := ?_) | refine TL_eq_t (hk := ?_) | refine TL_eq_f (hk := ?_) | refine TL_nil ?_ | refine TL_move (hk := ?_) | refine TL_assign (hk := ?_) | refine TL_load_rd TE (hk := ?_) | refine TL_fieldAddr_e TE (hk := ?_) | refine TL_indexAddrn TE (hk := ?_) | refine TL_len TE (hk := ?_))
   refine TL_call TE (hc := First_c w6 V6 (by simp)) (hk := ?_)
   rintro _ w7 ⟨rfl, hw⟩
   rw [hw, hfirst, hp]
   clear hw w7
   repeat (first | refine T_seq ?_ | refine T_region ?_ | refine TL_nil ?_ | refine TL_move (hk := ?_) | refine TL_assign (hk := ?_) | refine TL_load_rd TE (hk := ?_) | refine TL_fieldAddr_e TE (hk := ?_) | refine TL_indexAddrn TE (hk := ?_))
   refine TL_call TE (hc := SFrom_c x.hnn w6 V6 hnn (by omega)) (hk := ?_)
   rintro _ w7 ⟨y, ys, rfl, e7, O7⟩
   have K7 := K.ext e7
   have hr7 := hr6.be e7
   repeat (first | refine T_seq ?_ | refine T_region ?_ | refine TL_nil ?_ | refine TL_move (hk := ?_) | refine TL_assign (hk := ?_) | refine TL_load_rd TE (hk := ?_) | refine TL_fieldAddr_e TE (hk := ?_) | refine TL_indexAddrn TE (hk := ?_))
   refine TL_call TE (hc := Trim_c x.hnn w7 K7.S (by omega) hnn) (hk := ?_)
   rintro _ w8 ⟨⟨nt, rfl⟩, R8, k, hk, S8, T8, hmk⟩
   obtain ⟨pre8, ls8, H8, hfl8⟩ := K7.H.trims k hk
   have K8 := K7.tn S8 T8 H8
   have hr8 := hr.be K8.e
   have O8 : OutM w8 w6.heap.size y ys (fromE (entsR (s.cs ++ [s.z])) x.hnn) := by
    obtain ⟨⟨Q, m8, s8⟩, -, -⟩ := id T8
    exact outM_low O7 m8 (fun b hb => (K.S.old b (s8 b hb)).2)
   have hall8 : (pre8 ++ ls8.flatten) ++ s.l = (s.pre ++ s.ls.flatten) ++ s.l := by rw [hfl8]
   have hcl8 : (s.cs.drop k).length ≤ s.cs.length := by rw [List.length_drop]; omega
   by_cases hle8 : (p : Int) ≤ x.hnn
   ·have V8 := S8.view (by omega)
    have hfirst8 : ((s.cs.drop k ++ [s.z])[0]'(by simp)).f = (logF L0 pre8).l.length := by
     have q := H8.first
     rw [List.getD_eq_getElem?_getD, List.getElem?_eq_getElem (by simp)] at q
     exact q
    obtain ⟨p8, hp8⟩ : ∃ p8, (logF L0 pre8).l.length = p8 := ⟨_, rfl⟩
    have hgt : ¬ x.hnn < (p8 : Int) := by
     by_cases q : 0 < k
     ·have h1 := hmk q
      rw [H8.first, hp8] at h1
      omega
     ·obtain rfl : k = 0 := by omega
      have h1 := H8.first
      rw [List.drop_zero, K.H.first, hp, hp8] at h1
      omega
    have hEl8 := H8.entLen
    have hfe : fromE (entsR (s.cs.drop k ++ [s.z])) x.hnn = fromE (entsR (s.cs ++ [s.z])) x.hnn := by
     rw [H8.from_eq (by rw [hp8]; omega), K.H.from_eq (by rw [hp]; omega)]
     unfold allE
     rw [hall8]
    repeat (first | refine T_seq ?_ | refine TL_nil ?_)
    refine T_region_any TE.mixed ([] : List Nat) ?_; intro w9 e9 z9
    have V9 := V8.ext e9
    have hr9 := hr8.be e9
    (refine TA_take 0 rfl (by kernel_rfl) (by kernel_rfl) (by kernel_rfl) ?_; (repeat (first | refine TL_le_t (hk := ?_) | refine TL_move (hk := ?_) | refine TLP_load_rd TE (hk := ?_) | refine TL_fieldAddr_e TE (hk := ?_) | refine TL_indexAddrn TE (hk := ?_) | refine TL_yes (hk := ?_))); refine TL_nil_p ?_); (refine TA_take 1 rfl (by kernel_rfl) (by kernel_rfl) (by kernel_rfl) ?_; (repeat (first | refine TL_le_t (hk := ?_) | refine TL_move (hk := ?_) | refine TLP_load_rd TE (hk := ?_) | refine TL_fieldAddr_e TE (hk := ?_) | refine TL_indexAddrn TE (hk := ?_) | refine TL_yes (hk := ?_))); refine TL_nil_p ?_); (refine TA_take 2 rfl (by kernel_rfl) (by kernel_rfl) (by kernel_rfl) ?_; (repeat (first | refine TL_le_t (hk := ?_) | refine TL_move (hk := ?_) | refine TLP_load_rd TE (hk := ?_) | refine TL_fieldAddr_e TE (hk := ?_) | refine TL_indexAddrn TE (hk := ?_) | refine TL_yes (hk := ?_))); refine TL_nil_p ?_); (refine TA_take 3 rfl (by kernel_rfl) (by kernel_rfl) (by kernel_rfl) ?_; (repeat (first | refine TL_le_t (hk := ?_) | refine TL_move (hk := ?_) | refine TLP_load_rd TE (hk := ?_) | refine TL_fieldAddr_e TE (hk := ?_) | refine TL_indexAddrn TE (hk := ?_) | refine TL_yes (hk := ?_))); refine TL_nil_p ?_); (refine TA_take 4 rfl (by kernel_rfl) (by kernel_rfl) (by kernel_rfl) ?_; (repeat (first | refine TL_le_t (hk := ?_) | refine TL_move (hk := ?_) | refine TLP_load_rd TE (hk := ?_) | refine TL_fieldAddr_e TE (hk := ?_) | refine TL_indexAddrn TE (hk := ?_) | refine TL_yes (hk := ?_))); refine TL_nil_p ?_); (refine TA_take 5 rfl (by kernel_rfl) (by kernel_rfl) (by kernel_rfl) ?_; (repeat (first | refine TL_le_t (hk := ?_) | refine TL_move (hk := ?_) | refine TLP_load_rd TE (hk := ?_) | refine TL_fieldAddr_e TE (hk := ?_) | refine TL_indexAddrn TE (hk := ?_) | refine TL_yes (hk := ?_))); refine TL_nil_p ?_); (refine TA_take 6 rfl (by kernel_rfl) (by kernel_rfl) (by kernel_rfl) ?_; (repeat (first | refine TL_le_t (hk := ?_) | refine TL_move (hk := ?_) | refine TLP_load_rd TE (hk := ?_) | refine TL_fieldAddr_e TE (hk := ?_) | refine TL_indexAddrn TE (hk := ?_) | refine TL_yes (hk := ?_))); refine TL_nil_p ?_); (refine TA_take 7 rfl (by kernel_rfl) (by kernel_rfl) (by kernel_rfl) ?_; (repeat (first | refine TL_le_t (hk := ?_) | refine TL_move (hk := ?_) | refine TLP_load_rd TE (hk := ?_) | refine TL_fieldAddr_e TE (hk := ?_) | refine TL_indexAddrn TE (hk := ?_) | refine TL_yes (hk := ?_))); refine TL_nil_p ?_); (refine TA_take 8 rfl (by kernel_rfl) (by kernel_rfl) (by kernel_rfl) ?_; (repeat (first | refine TL_le_t (hk := ?_) | refine TL_move (hk := ?_) | refine TLP_load_rd TE (hk := ?_) | refine TL_fieldAddr_e TE (hk := ?_) | refine TL_indexAddrn TE (hk := ?_) | refine TL_yes (hk := ?_))); refine TL_nil_p ?_); (refine TA_take 10 rfl (by kernel_rfl) (by kernel_rfl) (by kernel_rfl) ?_; (repeat (first | refine TL_le_t (hk := ?_) | refine TL_move (hk := ?_) | refine TLP_load_rd TE (hk := ?_) | refine TL_fieldAddr_e TE (hk := ?_) | refine TL_indexAddrn TE (hk := ?_) | refine TL_yes (hk := ?_))); refine TL_nil_p ?_); (refine TA_take 11 rfl (by kernel_rfl) (by kernel_rfl) (by kernel_rfl) ?_; (repeat (first | refine TL_le_t (hk := ?_) | refine TL_move (hk := ?_) | refine TLP_load_rd TE (hk := ?_) | refine TL_fieldAddr_e TE (hk := ?_) | refine TL_indexAddrn TE (hk := ?_) | refine TL_yes (hk := ?_))); refine TL_nil_p ?_); (refine TA_take 12 rfl (by kernel_rfl) (by kernel_rfl) (by kernel_rfl) ?_; (repeat (first | refine TL_le_t (hk := ?_) | refine TL_move (hk := ?_) | refine TLP_load_rd TE (hk := ?_) | refine TL_fieldAddr_e TE (hk := ?_) | refine TL_indexAddrn TE (hk := ?_) | refine TL_yes (hk := ?_))); refine TL_nil_p ?_); (refine TA_take 13 rfl (by kernel_rfl) (by kernel_rfl) (by kernel_rfl) ?_; (repeat (first | refine TL_le_t (hk := ?_) | refine TL_move (hk := ?_) | refine TLP_load_rd TE (hk := ?_) | refine TL_fieldAddr_e TE (hk := ?_) | refine TL_indexAddrn TE (hk := ?_) | refine TL_yes (hk := ?_))); refine TL_nil_p ?_); (refine TA_take 14 rfl (by kernel_rfl) (by kernel_rfl) (by kernel_rfl) ?_; (repeat (first | refine TL_le_t (hk := ?_) | refine TL_move (hk := ?_) | refine TLP_load_rd TE (hk := ?_) | refine TL_fieldAddr_e TE (hk := ?_) | refine TL_indexAddrn TE (hk := ?_) | refine TL_yes (hk := ?_))); refine TL_nil_p ?_)
    refine TA_one 9 rfl (by kernel_rfl) (by kernel_rfl) ?_; (try refine TL_yes (hk := ?_)); refine TL_call TE (hc := (First_c w9 V9 (by simp))) (hq := (by rintro _ w' ⟨_, h⟩; rw [h]; exact Mod.refl _ _)) (hk := ?_)
    rintro _ w10 ⟨rfl, hw⟩
    rw [hw, hfirst8, hp8]
    clear hw w10
    refine TL_nil_p ?_
    (refine TA_take 15 rfl (by kernel_rfl) (by kernel_rfl) (by kernel_rfl) ?_; (repeat (first | refine TL_gt_f (hk := ?_) | refine TL_move (hk := ?_) | refine TLP_load_rd TE (hk := ?_) | refine TL_fieldAddr_e TE (hk := ?_) | refine TL_indexAddrn TE (hk := ?_) | refine TL_yes (hk := ?_))); refine TL_nil_p ?_); (refine TA_take 16 rfl (by kernel_rfl) (by kernel_rfl) (by kernel_rfl) ?_; (repeat (first | refine TL_gt_f (hk := ?_) | refine TL_move (hk := ?_) | refine TLP_load_rd TE (hk := ?_) | refine TL_fieldAddr_e TE (hk := ?_) | refine TL_indexAddrn TE (hk := ?_) | refine TL_yes (hk := ?_))); refine TL_nil_p ?_); (refine TA_take 17 rfl (by kernel_rfl) (by kernel_rfl) (by kernel_rfl) ?_; (repeat (first | refine TL_gt_f (hk := ?_) | refine TL_move (hk := ?_) | refine TLP_load_rd TE (hk := ?_) | refine TL_fieldAddr_e TE (hk := ?_) | refine TL_indexAddrn TE (hk := ?_) | refine TL_yes (hk := ?_))); refine TL_nil_p ?_); (refine TA_take 18 rfl (by kernel_rfl) (by kernel_rfl) (by kernel_rfl) ?_; (repeat (first | refine TL_gt_f (hk := ?_) | refine TL_move (hk := ?_) | refine TLP_load_rd TE (hk := ?_) | refine TL_fieldAddr_e TE (hk := ?_) | refine TL_indexAddrn TE (hk := ?_) | refine TL_yes (hk := ?_))); refine TL_nil_p ?_); (refine TA_take 19 rfl (by kernel_rfl) (by kernel_rfl) (by kernel_rfl) ?_; (repeat (first | refine TL_gt_f (hk := ?_) | refine TL_move (hk := ?_) | refine TLP_load_rd TE (hk := ?_) | refine TL_fieldAddr_e TE (hk := ?_) | refine TL_indexAddrn TE (hk := ?_) | refine TL_yes (hk := ?_))); refine TL_nil_p ?_); (refine TA_take 20 rfl (by kernel_rfl) (by kernel_rfl) (by kernel_rfl) ?_; (repeat (first | refine TL_gt_f (hk := ?_) | refine TL_move (hk := ?_) | refine TLP_load_rd TE (hk := ?_) | refine TL_fieldAddr_e TE (hk := ?_) | refine TL_indexAddrn TE (hk := ?_) | refine TL_yes (hk := ?_))); refine TL_nil_p ?_); (refine TA_take 21 rfl (by kernel_rfl) (by kernel_rfl) (by kernel_rfl) ?_; (repeat (first | refine TL_gt_f (hk := ?_) | refine TL_move (hk := ?_) | refine TLP_load_rd TE (hk := ?_) | refine TL_fieldAddr_e TE (hk := ?_) | refine TL_indexAddrn TE (hk := ?_) | refine TL_yes (hk := ?_))); refine TL_nil_p ?_); (refine TA_take 22 rfl (by kernel_rfl) (by kernel_rfl) (by kernel_rfl) ?_; (repeat (first | refine TL_gt_f (hk := ?_) | refine TL_move (hk := ?_) | refine TLP_load_rd TE (hk := ?_) | refine TL_fieldAddr_e TE (hk := ?_) | refine TL_indexAddrn TE (hk := ?_) | refine TL_yes (hk := ?_))); refine TL_nil_p ?_); (refine TA_take 24 rfl (by kernel_rfl) (by kernel_rfl) (by kernel_rfl) ?_; (repeat (first | refine TL_gt_f (hk := ?_) | refine TL_move (hk := ?_) | refine TLP_load_rd TE (hk := ?_) | refine TL_fieldAddr_e TE (hk := ?_) | refine TL_indexAddrn TE (hk := ?_) | refine TL_yes (hk := ?_))); refine TL_nil_p ?_)
    refine TA_one 23 rfl (by kernel_rfl) (by kernel_rfl) ?_; (try refine TL_yes (hk := ?_)); refine TL_call TE (hc := (SFrom_c x.hnn w9 V9 hnn (by omega))) (hq := (by rintro _ w' ⟨_, _, _, e, _⟩; exact Ext.un e)) (hk := ?_)
    rintro _ w10 ⟨y2, ys2, rfl, e10, O10⟩
    rw [hfe] at O10
    have O8' := outM_mod O8 (e9.ext e10) (fun b _ q => by cases q) (fun u _ b _ q => by cases q)
    have hl10 : y2.2.1 ≤ 1000000 := by
     rw [O10.len]
     unfold fromE
     exact Nat.le_trans (List.length_filter_le _ _) (by omega)
    have hy10 : ∀ u ∈ ys2, PLies w10 u.m ∧ PFit u.m.p ∧ rightP u.m.p = 0 := fun u hu => by
     have hmem : emE u ∈ fromE (entsR (s.cs ++ [s.z])) x.hnn := by rw [← O10.ee]; exact List.mem_map.2 ⟨u, hu, rfl⟩
     exact ⟨(O10.ek u hu).1.lies, (O10.ek u hu).2.1, (K.H.entOk _ (from_mem hmem)).rt⟩
    refine TL_nil_p ?_
    refine TA_one 25 rfl (by kernel_rfl) (by kernel_rfl) ?_; (try refine TL_yes (hk := ?_)); refine TL_call TE (hc := (entries_c y2 y ys2 ys w10 O10.ow.rd O8'.ow.rd hl10 (by rw [O10.ee, O8'.ee]) hy10 (fun u hu => (O8'.ek u hu).1.lies))) (hq := (by rintro _ w' ⟨_, e⟩; exact Ext.un (e10.ext e))) (hk := ?_)
    rintro _ w11 ⟨rfl, e11⟩
    refine TL_nil_p ?_
    (refine TA_take 26 rfl (by kernel_rfl) (by kernel_rfl) (by kernel_rfl) ?_; (repeat (first | refine TL_yes (hk := ?_) | refine TL_pick_t (hk := ?_) | refine TL_pick_f (hk := ?_) | refine TL_not (hk := ?_))); refine TL_nil_p ?_); (refine TA_take 27 rfl (by kernel_rfl) (by kernel_rfl) (by kernel_rfl) ?_; (repeat (first | refine TL_yes (hk := ?_) | refine TL_pick_t (hk := ?_) | refine TL_pick_f (hk := ?_) | refine TL_not (hk := ?_))); refine TL_nil_p ?_); (refine TA_take 28 rfl (by kernel_rfl) (by kernel_rfl) (by kernel_rfl) ?_; (repeat (first | refine TL_yes (hk := ?_) | refine TL_pick_t (hk := ?_) | refine TL_pick_f (hk := ?_) | refine TL_not (hk := ?_))); refine TL_nil_p ?_)
    refine TA_done (by kernel_rfl) ?_
    repeat (first | refine T_region ?_ | refine T_cond_false rfl ?_ | refine T_inBlock ?_ | refine T_skip ?_ | refine TL_add (hk := ?_) | refine TL_nil ?_ | refine TL_move (hk := ?_) | refine TL_assign (hk := ?_))
    exact ih (j + 1, _) w11 _ (by simp only; omega) ⟨K8.ext ((e9.ext e10).ext e11), by show j + 1 ≤ m; omega, by show s.lp = _; rw [hlp]; exact hall8.symm, by show s.lq = _; rw [hlq]; exact hall8.symm, by show s.ps.length ≤ totC l (j + 1); omega, by show ((pre8 ++ ls8.flatten) ++ s.l).length ≤ j + 1; rw [hall8]; omega, by show (s.cs.drop k).length ≤ j + 1; omega⟩ (.c rfl (.c rfl (.c rfl (.c rfl (.c rfl (.c rfl (.c rfl (.c rfl (.n)))))))))
   ·repeat (first | refine T_seq ?_ | refine T_region_q TE.mixed (by kernel_rfl) ?_ | refine TL_le_f (hk := ?_) | refine TL_nil ?_ | refine TL_move (hk := ?_) | refine TL_load_rd TE (hk := ?_) | refine TL_fieldAddr_e TE (hk := ?_) | refine TL_indexAddrn TE (hk := ?_) | refine TL_no (hk := ?_) | refine TL_pick_f (hk := ?_))
    refine TL_nil_q ?_; intro w9 e9
    repeat (first | refine T_region ?_ | refine T_cond_false rfl ?_ | refine T_inBlock ?_ | refine T_skip ?_ | refine TL_add (hk := ?_) | refine TL_nil ?_ | refine TL_move (hk := ?_) | refine TL_assign (hk := ?_))
    exact ih (j + 1, _) w9 _ (by simp only; omega) ⟨K8.ext e9, by show j + 1 ≤ m; omega, by show s.lp = _; rw [hlp]; exact hall8.symm, by show s.lq = _; rw [hlq]; exact hall8.symm, by show s.ps.length ≤ totC l (j + 1); omega, by show ((pre8 ++ ls8.flatten) ++ s.l).length ≤ j + 1; rw [hall8]; omega, by show (s.cs.drop k).length ≤ j + 1; omega⟩ (.c rfl (.c rfl (.c rfl (.c rfl (.c rfl (.c rfl (.c rfl (.c rfl (.n)))))))))
  ·repeat (first | refine T_seq ?_ | refine T_region ?_ | refine T_cond_true rfl ?_ | refine T_cond_false rfl ?_ | refine T_block ?_ | refine T_inBlock ?_ | refine T_skip ?_ | refine TL_add (hk := ?_) | refine TL_lt_t (hk := ?_) | refine TL_eq_f (hk := ?_) | refine TL_nil ?_ | refine TL_move (hk := ?_) | refine TL_assign (hk := ?_) | refine TL_load_rd TE (hk := ?_) | refine TL_fieldAddr_e TE (hk := ?_) | refine TL_indexAddrn TE (hk := ?_) | refine TL_len TE (hk := ?_))
   exact ih (j + 1, s) w6 _ (by simp only; omega) ⟨K, by show j + 1 ≤ m; omega, hlp, hlq, by show s.ps.length ≤ totC l (j + 1); omega, by show s.all.length ≤ j + 1; omega, by show s.cs.length ≤ j + 1; omega⟩ (.c rfl (.c rfl (.c rfl (.c rfl (.c rfl (.c rfl (.c rfl (.c rfl (.n)))))))))
 ·obtain rfl : m = j := by omega
  clear ih
  have V6 := K.S.view (by omega)
  have hflush := K.H.flushed
  obtain ⟨cc, ss, c1, c2, himg, hT, hlast⟩ := K.H.imgs K.S.la.dk.ok.sf keep
  obtain ⟨ce, hce⟩ : ∃ ce, (s.pre ++ s.ls.flatten).length + cc = ce := ⟨_, rfl⟩
  have htk : s.all.take ce = (s.pre ++ s.ls.flatten) ++ s.l.take cc := by rw [← hce]; exact take_ce _ _ _
  rw [← htk] at hT hlast
  obtain ⟨W, hW⟩ : ∃ W, (logF L0 (s.all.take ce)).l.length = W := ⟨_, rfl⟩
  rw [hW] at hlast
  have hpp : s.ps.map (·.p) = (s.all.map (·.2)).flatten := by rw [K.pp, hlp]
  have hWp : W ≤ s.ps.length := by
   obtain ⟨t, ht⟩ := logF_part s.all ce
   rw [← logF_len hpp, ht, List.length_append, hW]
   omega
  have hlf : (logF L0 ((s.pre ++ s.ls.flatten) ++ s.l.take s.mf)).l.length ≤ W := by
   obtain ⟨t, ht⟩ := logF_pre (logF L0 ((s.pre ++ s.ls.flatten) ++ s.l.take s.mf)) ((s.l.take cc).drop s.mf)
   have e : logF (logF L0 ((s.pre ++ s.ls.flatten) ++ s.l.take s.mf)) ((s.l.take cc).drop s.mf) = logF L0 (s.all.take ce) := by
    rw [← logF_app, htk, List.append_assoc]
    congr 2
    have : s.l.take s.mf = (s.l.take cc).take s.mf := by rw [List.take_take, Nat.min_eq_left c1]
    rw [this, List.take_append_drop]
   rw [e] at ht
   rw [← hW, ht, List.length_append]
   omega
  obtain ⟨fl, hfl⟩ : ∃ fl, s.z.f + s.z.fl = fl := ⟨_, rfl⟩
  have hflW : fl ≤ W := by omega
  have hfirst : ((s.cs ++ [s.z])[0]'(by simp)).f = (logF L0 s.pre).l.length := by
   have q := K.H.first
   rw [List.getD_eq_getElem?_getD, List.getElem?_eq_getElem (by simp)] at q
   exact q
  obtain ⟨p, hp⟩ : ∃ p, (logF L0 s.pre).l.length = p := ⟨_, rfl⟩
  have hBk : ∀ i (h : i < (logF L0 (s.all.take ce)).l.length), (logF L0 (s.all.take ce)).l[i].sq = ((i : Nat) : Int) := (logF_ok L0_ok (GoodF_take ce K.H.g)).at
  have hlen0 : (imgsR s.cs s.z keep).length = s.cs.length + 1 := by unfold imgsR; rw [List.length_append, List.length_map, List.length_singleton]
  repeat (first | refine T_seq ?_ | refine T_region ?_ | refine T_cond_false rfl ?_ | refine T_exit rfl ?_ | refine TL_lt_f (hk := ?_) | refine TL_nil ?_ | refine TL_move (hk := ?_) | refine TL_len TE (hk := ?_))
  refine TL_call TE (hc := SFlushed_c w6 V6) (hk := ?_)
  rintro _ w7 ⟨rfl, e7⟩
  rw [hfl]
  have K7 := K.ext e7
  repeat (first | refine T_seq ?_ | refine T_region ?_ | refine TL_nil ?_ | refine TL_move (hk := ?_) | refine TL_assign (hk := ?_))
  refine TL_call TE (hc := Images_c keep w7 K7.S (by omega) hkeep1) (hk := ?_)
  rintro _ w8 ⟨y, ys, rfl, S8, T8, O8⟩
  have K8 := K7.tn S8 T8 K7.H
  obtain ⟨bs, hbs⟩ : ∃ bs, imgsR s.cs s.z keep = bs := ⟨_, rfl⟩
  have himl := K.S.imlen keep
  have hims := K.H.imsz keep
  rw [hbs] at himg hlen0 O8 himl hims
  have hO8 := O8.len
  have hln8 := O8.ln
  have rO8 := O8.ow.rd
  have cO8 := O8.ow.cap.1
  have hY8 : y.1 ≠ none := by obtain ⟨_, _, hq, _⟩ := rO8.2 (by omega); rw [hq]; simp
  repeat (first | refine T_seq ?_ | refine T_region ?_ | refine T_block ?_ | refine TL_nil ?_ | refine TL_assign (hk := ?_))
  refine T_loop (ι := Nat) (fun i => [(20, .int .i64 (i : Int)), (19, sL y), (18, .int .i64 (fl : Int)), (12, .slice s.Z.1 s.Z.2.1 s.Z.2.2), (11, .slice s.Y.1 s.Y.2.1 s.Y.2.2), (9, pB sb), (3, .int .i64 mark), (0, .int .i64 (szn : Int))]) (fun i w' => w' = w8 ∧ i ≤ s.cs.length) (fun i => s.cs.length - i) 0 (.c rfl (.c rfl (.c rfl (.c rfl (.c rfl (.c rfl (.c rfl (.c rfl (.n))))))))) ⟨rfl, Nat.zero_le _⟩ ?_
  rintro i w9 ⟨rfl, hi⟩ ih
  by_cases hlt2 : i < s.cs.length
  ·have ht := rowV_at imV_len ys i 0 sl0 (by omega) (by decide)
   have hex := (O8.ek i (by omega)).1.len
   rw [bv_length, Nat.mul_one] at hex
   have hsx := hims i hlt2
   obtain ⟨x, hx⟩ : ∃ x, ys.getD i sl0 = x := ⟨_, rfl⟩
   rw [hx] at ht hex
   rw [Nat.mul_one, Nat.add_zero] at ht
   replace ht : (rowV imV ys)[i]? = some (sL x) := ht
   have h1 : (i : Int) + 1 < (y.2.1 : Int) := by omega
   have h2 : ¬ (x.2.1 : Int) < (szn : Int) := by omega
   repeat (first | refine T_seq ?_ | refine T_region ?_ | refine T_cond_true rfl ?_ | refine T_cond_false rfl ?_ | refine T_block ?_ | refine T_inBlock ?_ | refine T_skip ?_ | refine TL_add (hk := ?_) | refine TL_lt_t (hk := ?_) | refine TL_lt_f (hk := ?_) | refine TL_nil ?_ | refine TL_move (hk := ?_) | refine TL_assign (hk := ?_) | refine TL_load_rd TE (hk := ?_) | refine TL_indexAddr1n TE (hk := ?_) | refine TL_len TE (hk := ?_))
   exact ih (i + 1) _ _ (by omega) ⟨rfl, by omega⟩ (.c rfl (.c rfl (.c rfl (.c rfl (.c rfl (.c rfl (.c rfl (.c rfl (.n)))))))))
  clear ih
  obtain rfl : i = s.cs.length := by omega
  have h1 : ¬ ((s.cs.length : Nat) : Int) + 1 < (y.2.1 : Int) := by omega
  repeat (first | refine T_seq ?_ | refine T_region ?_ | refine T_cond_false rfl ?_ | refine T_exit rfl ?_ | refine TL_add (hk := ?_) | refine TL_lt_f (hk := ?_) | refine TL_nil ?_ | refine TL_move (hk := ?_) | refine TL_len TE (hk := ?_))
  refine TL_call TE (hc := OpenShelf_c szn p (logF L0 s.pre).ep y ys bs ss w9 hszn rO8 cO8 hln8 (fun i hi => ⟨(O8.ek i hi).1.rd, (O8.ek i hi).1.cap.1, himl i hi⟩) (by omega) (by omega) (by rw [← hp]; exact himg)) (hk := ?_)
  rintro _ w10 ⟨tb, R10, rs, ec, rfl, V10, hrd, hrl, hfst, e10⟩
  obtain ⟨cs2, z2, rfl⟩ : ∃ cs2 z2, rs = cs2 ++ [z2] := by
   rcases List.eq_nil_or_concat rs with q | ⟨a, b, q⟩
   ·rw [q] at hrl; simp at hrl; omega
   ·exact ⟨a, b, by simpa using q⟩
  have K10 := K8.ext e10
  have hnext : z2.f + z2.ys.length = W := by rw [hrd.last 0, hlast]
  have hents := hrd.ents
  rw [← hents] at hT
  have hfst2 := hfst (by simp)
  have hWl : (W : Int) ≤ (s.Y.2.1 : Int) := by omega
  have hn1 : ¬ (W : Int) < (fl : Int) := by omega
  have hn2 : ¬ (s.Y.2.1 : Int) < (W : Int) := by omega
  repeat (first | refine T_seq ?_ | refine T_region ?_ | refine TL_nil ?_ | refine TL_move (hk := ?_) | refine TL_assign (hk := ?_) | refine TL_extract (hk := ?_))
  refine TL_call TE (hc := jnum_c _ w10) (hk := ?_)
  rintro _ w11 ⟨rfl, hw⟩
  rw [hw]
  clear hw w11
  repeat (first | refine TL_ne_f (hk := ?_) | refine TL_pnil_f TE (hk := ?_) | refine TL_move (hk := ?_) | refine TL_yes (hk := ?_) | refine TL_pick_f (hk := ?_))
  refine TL_call TE (hc := Next_c w10 V10) (hk := ?_)
  rintro _ w11 ⟨rfl, e11⟩
  rw [hnext]
  have V11 := V10.ext e11
  repeat (first | refine TL_lt_f (hk := ?_) | refine TL_move (hk := ?_) | refine TL_yes (hk := ?_) | refine TL_pick_f (hk := ?_))
  refine TL_call TE (hc := Next_c w11 V11) (hk := ?_)
  rintro _ w12 ⟨rfl, e12⟩
  rw [hnext]
  have V12 := V11.ext e12
  have K12 := (K10.ext e11).ext e12
  repeat (first | refine TL_gt_f (hk := ?_) | refine TL_move (hk := ?_) | refine TL_len TE (hk := ?_) | refine TL_yes (hk := ?_) | refine TL_pick_f (hk := ?_))
  refine TL_call TE (hc := First_c w12 V12 (by simp)) (hk := ?_)
  rintro _ w13 ⟨rfl, hw⟩
  rw [hw, hfst2]
  clear hw w13
  repeat (first | refine TL_move (hk := ?_) | refine TL_yes (hk := ?_))
  refine TL_call TE (hc := First_c w12 (K12.S.view (show s.cs.length ≤ 900000 by omega)) (by simp)) (hk := ?_)
  rintro _ w13 ⟨rfl, hw⟩
  rw [hw, hfirst, hp]
  clear hw w13
  have oZ12 : Own w12 w1.heap.size 2 1 s.Z.1 s.Z.2.1 s.Z.2.2 (rowV iV (endsL s.all)) := by have q := K12.oz; simp only at q; rw [hlq] at q; exact q
  have oY12 : Own w12 w1.heap.size 45 7 s.Y.1 s.Y.2.1 s.Y.2.2 (rowV pmV s.ps) := K12.oy
  have e012 : Ext w w12 := K12.e
  have hpin := K.pin
  have hcel : ce ≤ s.all.length := by
   show ce ≤ ((s.pre ++ s.ls.flatten) ++ s.l).length
   rw [List.length_append]; omega
  have hBl := K.H.ok.n
  have hEl : (entsR (cs2 ++ [z2])).length ≤ 65536 := by
   have h1 := congrArg List.length hT
   have h2 := (logF_ok L0_ok (GoodF_take ce K.H.g)).n
   rw [List.length_append] at h1
   have h3 : (logF L0 (List.take ce (s.pre ++ s.ls.flatten ++ s.l))).l.length = (logF L0 (s.all.take ce)).l.length := rfl
   omega
  clear K7 K8 K10 K12 S8 T8 O8 rO8 V6 V10 V11 himg himl hims hrd hents hfst hO8 K
  repeat (first | refine T_seq ?_ | refine T_region ?_ | refine T_cond_false rfl ?_ | refine T_block ?_ | refine T_skip ?_ | refine TL_ne_f (hk := ?_) | refine TL_nil ?_ | refine TL_assign (hk := ?_) | refine TL_yes (hk := ?_) | refine TL_pick_f (hk := ?_))
  refine T_loop (ι := Nat × Bool) (fun a => [(24, .int .i64 (a.1 : Int)), (23, .bool a.2), (21, pB tb), (12, .slice s.Z.1 s.Z.2.1 s.Z.2.2), (11, .slice s.Y.1 s.Y.2.1 s.Y.2.2), (3, .int .i64 mark)]) (fun a w' => Ext w12 w' ∧ a.1 ≤ s.Z.2.1 ∧ (ce < a.1 → a.2 = true)) (fun a => s.Z.2.1 - a.1) (0, false) (.c rfl (.c rfl (.c rfl (.c rfl (.c rfl (.c rfl (.n))))))) ⟨Mod.refl _ _, Nat.zero_le _, fun h => absurd h (Nat.not_lt_zero _)⟩ ?_
  rintro ⟨a, bb⟩ w13 ⟨e13, haz, hbb⟩ ih
  simp only at haz hbb ih ⊢
  have V13 := V12.ext e13
  have hNx : ∀ w', Ext w13 w' → Ret Tryz.prog 47 [pB tb] w' (fun v w'' => v = .int .i64 (W : Int) ∧ Ext w' w'') := fun w' e' => by
   have h := Next_c w' (V13.ext e')
   rw [hnext] at h
   exact h
  by_cases hlt3 : a < s.Z.2.1
  ·have rZ := oZ12.rd.be e13
   have hZn : s.Z.1 ≠ none := by obtain ⟨_, _, hq, _⟩ := rZ.2 (by omega); rw [hq]; simp
   have hla : a < (endsL s.all).length := by rw [endsL_len]; omega
   have t0 := rowV_at iV_len (endsL s.all) a 0 0 hla (by decide)
   have hend := endsL_at s.all a
   obtain ⟨z, hzd⟩ : ∃ z, (endsL s.all).getD a 0 = z := ⟨_, rfl⟩
   rw [hzd] at t0 hend
   replace t0 : (rowV iV (endsL s.all))[a * 1 + 0]? = some (.int .i64 z) := t0
   rw [Nat.mul_one, Nat.add_zero] at t0
   cases bb with
   |true =>
    repeat (first | refine T_seq ?_ | refine T_region ?_ | refine T_region_q TE.mixed (by kernel_rfl) ?_ | refine T_cond_true rfl ?_ | refine T_block ?_ | refine T_skip ?_ | refine TL_lt_t (hk := ?_) | refine TL_nil ?_ | refine TL_move (hk := ?_) | refine TL_assign (hk := ?_) | refine TL_len TE (hk := ?_) | refine TL_no (hk := ?_) | refine TL_pick_t (hk := ?_))
    refine TL_nil_q ?_; intro w14 e14
    repeat (first | refine T_region ?_ | refine T_inBlock ?_ | refine TL_add (hk := ?_) | refine TL_nil ?_ | refine TL_move (hk := ?_) | refine TL_assign (hk := ?_))
    exact ih (a + 1, true) w14 _ (by simp only; omega) ⟨e13.ext e14, by simp only; omega, fun _ => rfl⟩ (.c rfl (.c rfl (.c rfl (.c rfl (.c rfl (.c rfl (.n)))))))
   |false =>
    have hnc : ¬ ce < a := fun h => by have := hbb h; cases this
    by_cases hzW : z = (W : Int)
    ·repeat (first | refine T_seq ?_ | refine T_region ?_ | refine T_region_q TE.mixed (by kernel_rfl) ?_ | refine T_cond_true rfl ?_ | refine T_block ?_ | refine T_skip ?_ | refine TL_lt_t (hk := ?_) | refine TL_nil ?_ | refine TL_move (hk := ?_) | refine TL_load_rd TE (hk := ?_) | refine TL_indexAddr1n TE (hk := ?_) | refine TL_len TE (hk := ?_) | refine TL_yes (hk := ?_))
     refine TL_call_q TE rfl rfl rfl ((fun w' e' => hNx w' e')) ?_
     repeat (first | refine TL_eq_t (hk := ?_) | refine TL_assign (hk := ?_) | refine TL_yes (hk := ?_) | refine TL_pick_f (hk := ?_))
     refine TL_nil_q ?_; intro w14 e14
     repeat (first | refine T_region ?_ | refine T_inBlock ?_ | refine TL_add (hk := ?_) | refine TL_nil ?_ | refine TL_move (hk := ?_) | refine TL_assign (hk := ?_))
     exact ih (a + 1, true) w14 _ (by simp only; omega) ⟨e13.ext e14, by simp only; omega, fun _ => rfl⟩ (.c rfl (.c rfl (.c rfl (.c rfl (.c rfl (.c rfl (.n)))))))
    ·have hca : ce ≠ a := fun h => by
      rw [← h, hW] at hend
      exact hzW (hend hcel)
     repeat (first | refine T_seq ?_ | refine T_region ?_ | refine T_region_q TE.mixed (by kernel_rfl) ?_ | refine T_cond_true rfl ?_ | refine T_block ?_ | refine T_skip ?_ | refine TL_lt_t (hk := ?_) | refine TL_nil ?_ | refine TL_move (hk := ?_) | refine TL_load_rd TE (hk := ?_) | refine TL_indexAddr1n TE (hk := ?_) | refine TL_len TE (hk := ?_) | refine TL_yes (hk := ?_))
     refine TL_call_q TE rfl rfl rfl ((fun w' e' => hNx w' e')) ?_
     repeat (first | refine TL_eq_f (hk := ?_) | refine TL_assign (hk := ?_) | refine TL_yes (hk := ?_) | refine TL_pick_f (hk := ?_))
     refine TL_nil_q ?_; intro w14 e14
     repeat (first | refine T_region ?_ | refine T_inBlock ?_ | refine TL_add (hk := ?_) | refine TL_nil ?_ | refine TL_move (hk := ?_) | refine TL_assign (hk := ?_))
     exact ih (a + 1, false) w14 _ (by simp only; omega) ⟨e13.ext e14, by simp only; omega, fun h => absurd h (by simp only; omega)⟩ (.c rfl (.c rfl (.c rfl (.c rfl (.c rfl (.c rfl (.n)))))))
  clear ih
  obtain rfl : bb = true := hbb (by omega)
  repeat (first | refine T_seq ?_ | refine T_region ?_ | refine T_cond_false rfl ?_ | refine T_exit rfl ?_ | refine TL_lt_f (hk := ?_) | refine TL_nil ?_ | refine TL_move (hk := ?_) | refine TL_len TE (hk := ?_))
  refine TL_call TE (hc := SFrom_c mark w13 V13 hmark1 (by omega)) (hk := ?_)
  rintro _ w14 ⟨y14, ys, rfl, e14, O14⟩
  obtain ⟨d, hd⟩ := back_from hBk hT mark
  rw [hp] at hd
  obtain ⟨F, hF⟩ : ∃ F, fromE (entsR (cs2 ++ [z2])) mark = F := ⟨_, rfl⟩
  rw [hF] at O14
  simp only [hF] at hd
  have hy14 := O14.len
  have hysl : ys.length = F.length := by have := congrArg List.length O14.ee; rwa [List.length_map] at this
  have hFl : F.length ≤ 65536 := by
   rw [← hF]
   unfold fromE
   exact Nat.le_trans (List.length_filter_le _ _) hEl
  have e1214 := e13.ext e14
  clear hNx hbb V13 V12
  repeat (first | refine T_seq ?_ | refine T_region ?_ | refine T_block ?_ | refine TL_nil ?_ | refine TL_assign (hk := ?_))
  refine T_loop (ι := Nat) (fun a => [(26, .int .i64 (a : Int)), (25, sL y14), (23, .bool true), (11, .slice s.Y.1 s.Y.2.1 s.Y.2.2)]) (fun a w' => Ext w14 w' ∧ a ≤ F.length) (fun a => F.length - a) 0 (.c rfl (.c rfl (.c rfl (.c rfl (.n))))) ⟨Mod.refl _ _, Nat.zero_le _⟩ ?_
  rintro a2 w15 ⟨e15, ha2⟩ ih
  by_cases hlt4 : a2 < F.length
  ·have rY := oY12.rd.be (e1214.ext e15)
   have rO := O14.ow.rd.be e15
   have hYn : s.Y.1 ≠ none := by
    obtain ⟨h2, _⟩ := hd a2 hlt4
    obtain ⟨_, _, hq, _⟩ := rY.2 (by omega); rw [hq]; simp
   have hOn : y14.1 ≠ none := by obtain ⟨_, _, hq, _⟩ := rO.2 (by omega); rw [hq]; simp
   have hsqs : ∀ i, i < F.length → (ys.getD i em0).sq = ((p + d + i : Nat) : Int) := fun i hi => by
    obtain ⟨h2, h3⟩ := hd i hi
    have h4 : (ys.map emE)[i]? = F[i]? := by rw [O14.ee]
    rw [List.getElem?_map, List.getElem?_eq_getElem (by omega), List.getElem?_eq_getElem hi, h3] at h4
    rw [List.getD_eq_getElem?_getD, List.getElem?_eq_getElem (by omega)]
    have h5 := congrArg EE.sq (Option.some.inj h4)
    rw [hBk _ h2] at h5
    exact h5
   obtain ⟨h2, h3⟩ := hd a2 hlt4
   obtain ⟨g1, g2⟩ := back_at hpp ce (p + d + a2) h2
   have hqW : p + d + a2 < W := by rw [← hW]; exact h2
   have hyE : emE (ys.getD a2 em0) = F[a2] := by
    have h4 : (ys.map emE)[a2]? = F[a2]? := by rw [O14.ee]
    rw [List.getElem?_map, List.getElem?_eq_getElem (by omega), List.getElem?_eq_getElem hlt4] at h4
    rw [List.getD_eq_getElem?_getD, List.getElem?_eq_getElem (by omega)]
    exact Option.some.inj h4
   rw [← h3, ← hyE] at g2
   have hsq := hsqs a2 hlt4
   have tY := rowV_elem pmV_len s.ps (p + d + a2) pm0 g1
   have tO := em_plan ys a2 (by omega)
   have tS := rowV_at emV_len ys a2 0 em0 (by omega) (by decide)
   have hym : ys.getD a2 em0 ∈ ys := by rw [List.getD_eq_getElem?_getD, List.getElem?_eq_getElem (by omega)]; exact List.getElem_mem _
   obtain ⟨X1, X2, -⟩ := O14.ek _ hym
   have hPi := (hpin _ (in_at (xs := s.ps) (i := p + d + a2) g1)).be (e012.ext (e1214.ext e15))
   obtain ⟨x, hxd⟩ : ∃ x, ys.getD a2 em0 = x := ⟨_, rfl⟩
   obtain ⟨u, hud⟩ : ∃ u, s.ps.getD (p + d + a2) pm0 = u := ⟨_, rfl⟩
   rw [hxd] at tO tS hsq g2 X1 X2
   rw [hud] at tY g2 hPi
   obtain ⟨q, hq⟩ : ∃ q, p + d + a2 = q := ⟨_, rfl⟩
   rw [hq] at hsq tY g1 hqW
   have hmp : x.m.p = u.p := g2
   replace tS : (rowV emV ys)[a2 * 9 + 0]? = some (.int .i64 x.sq) := tS
   rw [hsq] at tS
   unfold pmV at tY tO
   have X15 := (X1.be e15).lies
   have hq1 : ¬ (q : Int) < 0 := by omega
   have hq2 : ¬ (s.Y.2.1 : Int) ≤ (q : Int) := by omega
   have hlt5 : (a2 : Int) < (y14.2.1 : Int) := by omega
   repeat (first | refine T_seq ?_ | refine T_region ?_ | refine T_region_q TE.mixed (by kernel_rfl) ?_ | refine T_cond_true rfl ?_ | refine T_block ?_ | refine T_skip ?_ | refine TL_lt_t (hk := ?_) | refine TL_lt_f (hk := ?_) | refine TL_ge_f (hk := ?_) | refine TL_nil ?_ | refine TL_move (hk := ?_) | refine TL_assign (hk := ?_) | refine TL_load_rd TE (hk := ?_) | refine TL_fieldAddr_e TE (hk := ?_) | refine TL_indexAddrn TE (hk := ?_) | refine TL_len TE (hk := ?_) | refine TL_yes (hk := ?_) | refine TL_pick_f (hk := ?_))
   refine TL_loada TE (cs := [.int .i64 x.m.p.q.cl, .int .u64 (x.m.p.q.tk : Int), .string (ofL x.m.p.q.nm), sL x.m.a, .int .i64 x.m.p.how, sL x.m.b, sL x.m.c]) (hx := rfl) (ht := rfl) (hi := rfl) (hr := rO) (hc := tO) (h0 := Nat.succ_pos _) (hk := ?_)
   repeat (first | refine TL_move (hk := ?_) | refine TL_indexAddrn TE (hk := ?_) | refine TL_yes (hk := ?_))
   refine TL_loada TE (cs := [.int .i64 u.p.q.cl, .int .u64 (u.p.q.tk : Int), .string (ofL u.p.q.nm), sL u.a, .int .i64 u.p.how, sL u.b, sL u.c]) (hx := rfl) (ht := rfl) (hi := rfl) (hr := rY) (hc := tY) (h0 := Nat.succ_pos _) (hk := ?_)
   repeat (refine TL_yes (hk := ?_))
   refine TL_call_q TE rfl rfl rfl ((fun w' e' => PSame_c x.m u w' (X15.be e') (hPi.1.be e') X2 hmp)) ?_
   cases a2 with
   |zero =>
    repeat (first | refine TL_gt_f (hk := ?_) | refine TL_move (hk := ?_) | refine TL_yes (hk := ?_) | refine TL_no (hk := ?_) | refine TL_pick_f (hk := ?_) | refine TL_not (hk := ?_))
    refine TL_nil_q ?_; intro w16 e16
    repeat (first | refine T_region ?_ | refine T_cond_false rfl ?_ | refine T_inBlock ?_ | refine T_skip ?_ | refine TL_add (hk := ?_) | refine TL_nil ?_ | refine TL_move (hk := ?_) | refine TL_assign (hk := ?_))
    exact ih 1 w16 _ (by omega) ⟨e15.ext e16, by omega⟩ (.c rfl (.c rfl (.c rfl (.c rfl (.n)))))
   |succ a3 =>
    have hsq3 := hsqs a3 (by omega)
    have tS3 := rowV_at emV_len ys a3 0 em0 (by omega) (by decide)
    obtain ⟨q3, hq3⟩ : ∃ q3, p + d + a3 = q3 := ⟨_, rfl⟩
    rw [hq3] at hsq3
    replace tS3 : (rowV emV ys)[a3 * 9 + 0]? = some (.int .i64 (ys.getD a3 em0).sq) := tS3
    rw [hsq3] at tS3
    have hpos : (0 : Int) < ((a3 + 1 : Nat) : Int) := by omega
    have hidx : ((a3 + 1 : Nat) : Int) - 1 = (a3 : Int) := by omega
    have hqq : (q : Int) = (q3 : Int) + 1 := by omega
    have hlt6 : (a3 : Int) < (y14.2.1 : Int) := by omega
    repeat (first | refine TL_sub (hk := ?_) | refine TL_gt_t (hk := ?_) | refine TL_move (hk := ?_) | refine TL_fieldAddr_e TE (hk := ?_) | refine TL_indexAddr TE (hk := ?_) | refine TL_yes (hk := ?_) | refine TL_pick_f (hk := ?_) | refine TL_not (hk := ?_))
    rw [hidx]
    repeat (first | refine TL_add (hk := ?_) | refine TL_ne_f (hk := ?_) | refine TL_load_rd TE (hk := ?_) | refine TL_yes (hk := ?_) | refine TL_pick_t (hk := ?_) | refine TL_pick_f (hk := ?_))
    refine TL_nil_q ?_; intro w16 e16
    repeat (first | refine T_region ?_ | refine T_cond_false rfl ?_ | refine T_inBlock ?_ | refine T_skip ?_ | refine TL_add (hk := ?_) | refine TL_nil ?_ | refine TL_move (hk := ?_) | refine TL_assign (hk := ?_))
    exact ih (a3 + 1 + 1) w16 _ (by omega) ⟨e15.ext e16, by omega⟩ (.c rfl (.c rfl (.c rfl (.c rfl (.n)))))
  ·clear ih
   have hlt5 : ¬ (a2 : Int) < (y14.2.1 : Int) := by omega
   repeat (first | refine T_seq ?_ | refine T_region ?_ | refine T_cond_false rfl ?_ | refine T_exit rfl ?_ | refine TL_lt_f (hk := ?_) | refine TL_nil ?_ | refine TL_move (hk := ?_) | refine TL_len TE (hk := ?_) | refine TL_yes (hk := ?_))
   refine TL_call TE (hc := jlive_c w15) (hk := ?_)
   rintro _ w16 ⟨rfl, e16⟩
   repeat (first | refine TL_nil ?_ | refine TL_assign (hk := ?_) | refine TL_pick_t (hk := ?_))
   exact T_ret1 rfl rfl ⟨rfl, (e012.ext (e1214.ext e15)).ext e16⟩
theorem JournalKept_u (size : Int) (v1 : Value) (keep mark : Int) (w : World) {base1 : Nat} (hsize : -9223372036854775808 ≤ size ∧ size ≤ 9223372036854775807) (hM1 : 1048576 ≤ 1048576) (hv1 : ReadsB Tryz.prog w base1 83 v1 1048576) (hkeep : -9223372036854775808 ≤ keep ∧ keep ≤ 9223372036854775807) (hmark : -9223372036854775808 ≤ mark ∧ mark ≤ 9223372036854775807) :
  Ret Tryz.prog 8 [.int .i64 size, v1, .int .i64 keep, .int .i64 mark] w (fun v w' => v = .bool true ∧ Ext w w') := by
 obtain ⟨A, n, c, l, rfl, h1, h2, h3, h4⟩ := calls_in hv1
 exact JournalKept_c size A n c l keep mark w h1 h2 h3 h4 hsize hkeep hmark
end Go.Proofs.YtjlaomcankmdjaaGreat
