import Derived.Test.YtjlaomcankmdjaaGreatJk3
import Derived.RangeFuncSeq
import Derived.RangeFuncLeaves
import Derived.Lib.ConvBytes
/- Parts: PW6 PW7 JLaw1 FLaw2 FW19 FLaw3 FLaw4 JLaw2 JLaw3 CW13 FW20 FW21 VW7 VW8 VW9 EngR Eng39 CW14 PW8 JLaw4 CW3 CW5 CW11 CW12 CW15 CW16 CW17 CW19 CW20 WSpec CLaw2 CLaw3 CLaw5 PW9 PW10 PW11 WW1. -/
set_option linter.unusedSimpArgs false
set_option linter.unusedVariables false
set_option linter.unusedSectionVars false
namespace Go.Proofs.YtjlaomcankmdjaaGreat
open Go.RowKit Go.Proofs.Eng Go.Proofs.Codec Go.Proofs.Foot Go.Proofs.Journal
set_option linter.unusedVariables false set_option maxRecDepth 10000
attribute [local irreducible] T TL LV TH TA
set_option maxHeartbeats 1600000
structure OutM (w : World) (base : Nat) (y : SL) (ys : List EM) (l : List EE) : Prop where
 ow : Own w base 47 9 y.1 y.2.1 y.2.2 (rowV emV ys)
 ee : ys.map emE = l
 ek : ∀ z ∈ ys, POwn w base z.m ∧ PFit z.m.p ∧ ∀ b ∈ pmB z.m, b ∉ blkL y.1
theorem POwn.modL {w w' : World} {base : Nat} {x : PM} {S : List Nat} (X : POwn w base x) (m : Eng.Mod S w w') (h : ∀ b ∈ pmB x, b ∉ S) : POwn w' base x :=
 ⟨X.ra.modL m (fun b hb => h b (List.mem_append_left _ hb)), X.rb.modL m (fun b hb => h b (List.mem_append_right _ (List.mem_append_left _ hb))), X.rc.modL m (fun b hb => h b (List.mem_append_right _ (List.mem_append_right _ hb)))⟩
theorem OutM.len {w : World} {base : Nat} {y : SL} {ys : List EM} {l : List EE} (O : OutM w base y ys l) : y.2.1 = l.length := by
 have h1 := O.ow.len
 rw [rowV_len emV_len] at h1
 have h2 := congrArg List.length O.ee
 rw [List.length_map] at h2
 omega
theorem OutM.push {w w1 w2 : World} {base : Nat} {y y' : SL} {ys : List EM} {l : List EE} {z : EM} (O : OutM w base y ys l) (e1 : Ext w w1) (X : POwn w1 w.heap.size z.m) (F : PFit z.m.p) (hb : base ≤ w.heap.size) (m : Eng.Mod (blkL y.1) w1 w2) (ho : Own w2 base 47 9 y'.1 y'.2.1 y'.2.2 (rowV emV (ys ++ [z]))) (hn : Near y.1 y'.1 w1) : OutM w2 base y' (ys ++ [z]) (l ++ [emE z]) := by
 have z1 := e1.size
 refine ⟨ho, by rw [List.map_append, O.ee]; rfl, fun u hu => ?_⟩
 rcases List.mem_append.1 hu with q | q
 ·obtain ⟨h1, h2, h3⟩ := O.ek u q
  refine ⟨(h1.be e1).modL m h3, h2, fun b hb' hc => ?_⟩
  rcases Near.mem hn b hc with a | a
  ·exact h3 b hb' a
  ·have := (h1.bl b hb').2; omega
 ·rw [List.mem_singleton.1 q]
  have hd : ∀ b ∈ pmB z.m, b ∉ blkL y.1 := fun b hb' hc => by have := (X.bl b hb').1; have := (O.ow.bl b hc).2; omega
  refine ⟨(X.weaken hb).modL m hd, F, fun b hb' hc => ?_⟩
  rcases Near.mem hn b hc with a | a
  ·exact hd b hb' a
  ·have := (X.bl b hb').2; omega
def fromL (L : LE) (s m : Nat) : List EE := (L.l.drop s).take m
theorem from_succ (L : LE) (s m : Nat) (h : s + m < L.l.length) : fromL L s (m + 1) = fromL L s m ++ [L.l.getD (s + m) (emE em0)] := by
 unfold fromL
 rw [List.take_succ_eq_append_getElem (by rw [List.length_drop]; omega), List.getElem_drop, List.getD_eq_getElem?_getD, List.getElem?_eq_getElem h]
 rfl
section
variable {base lg : Nat} {sl : SL} {es : List EM} {g : Nat → Nat} {L : LE}
theorem LFrom_c (seq most : Int) (w : World) (D : LogM w base lg sl es g L) (hl : L.l.length ≤ 65536) (hs : -9223372036854775808 ≤ seq ∧ seq ≤ 9223372036854775807) :
  Ret Tryz.prog 30 [pB lg, .int .i64 seq, .int .i64 most] w (fun v w' => ∃ y ys, v = sL y ∧ Ext w w' ∧ OutM w' w.heap.size y ys (fromL L seq.toNat most.toNat)) := by
 obtain ⟨s, hsd⟩ : ∃ s, seq.toNat = s := ⟨_, rfl⟩
 have hsi : (if seq < 0 then 0 else seq) = (s : Int) := by split <;> omega
 rw [hsd]
 refine ret_T (n := 35) Tryz.func30 rfl rfl ?_
 repeat (first | refine T_seq ?_ | refine T_region ?_ | refine TL_nil ?_ | refine TL_move (hk := ?_) | refine TL_assign (hk := ?_))
 refine TL_max (hk := ?_)
 rw [hsi]
 repeat (first | refine T_block ?_ | refine TL_nil ?_ | refine TL_assign (hk := ?_))
 refine T_loop (ι := Nat × SL) (fun q => [(8, .int .i64 ((s + q.1 : Nat) : Int)), (7, sL q.2), (0, pB lg), (2, .int .i64 most)]) (fun q w' => Ext w w' ∧ q.1 ≤ most.toNat ∧ (0 < q.1 → s + q.1 ≤ L.l.length) ∧ ∃ ys, OutM w' w.heap.size q.2 ys (fromL L s q.1)) (fun q => L.l.length - q.1) (0, (none, 0, 0)) (.c rfl (.c rfl (.c rfl (.c rfl (.n))))) ⟨Mod.refl _ _, Nat.zero_le _, fun h => absurd h (by simp), [], ⟨Own.nil _ _ _ _, by unfold fromL; simp, fun z hz => (by cases hz)⟩⟩ ?_
 rintro ⟨j, y⟩ w1 ⟨e1, hj, hjl, ys, O⟩ ih
 simp only at hj hjl O ih ⊢
 have D1 := D.ext e1
 have hb := D1.blk
 have hyl := O.len
 have hl1 := D.len.1
 have z1 := e1.size
 have hfl : (fromL L s j).length = min j (L.l.length - s) := by unfold fromL; rw [List.length_take, List.length_drop]
 by_cases c1 : s + j < L.l.length
 ·by_cases c2 : j < most.toNat
  ·have hr := D1.ow.rd
   have hA : sl.1 ≠ none := by obtain ⟨_, _, hq, _⟩ := hr.2 (by omega); rw [hq]; simp
   have t1 := rowV_elem emV_len es (s + j) em0 (by have := D.len.2; omega)
   have hmem : es.getD (s + j) em0 ∈ es := by
    have := D.len.2
    rw [List.getD_eq_getElem?_getD, List.getElem?_eq_getElem (by omega)]; exact List.getElem_mem _
   obtain ⟨hX, hF, -⟩ := D1.ek _ hmem
   have hat := D.at c1
   have hsu := from_succ L s j c1
   rw [← hat] at hsu
   generalize es.getD (s + j) em0 = x at t1 hX hF hsu
   have hcj : ((y.2.1 : Nat) : Int) < most := by omega
   repeat (first | refine T_seq ?_ | refine T_region ?_ | refine TL_move (hk := ?_))
   refine TL_call TE (hc := LLen_c w1 D1) (hk := ?_)
   rintro _ w2 ⟨rfl, rfl⟩
   repeat (first | refine T_seq ?_ | refine T_region ?_ | refine T_cond_true rfl ?_ | refine T_block ?_ | refine T_skip ?_ | refine TL_lt_t (hk := ?_) | refine TL_nil ?_ | refine TL_move (hk := ?_) | refine TL_load TE (hk := ?_) | refine TL_fieldAddr TE (hk := ?_) | refine TL_indexAddrn TE (hk := ?_) | refine TL_len TE (hk := ?_) | refine TL_yes (hk := ?_) | refine TL_pick_t (hk := ?_) | refine TL_nilCheck (hk := ?_))
   refine TL_loada TE (cs := emV x) (hx := rfl) (ht := rfl) (hi := rfl) (hr := hr) (hc := t1) (h0 := Nat.succ_pos _) (hk := ?_)
   --
   refine TL_call TE (hc := told_c x w2 hX hF) (hk := ?_)
   rintro _ w3 ⟨x', rfl, hxe, e3, o3⟩
   have O3 := O.ow.be e3
   have z3 := e3.size
   --
   refine TL_buildSliceA TE (hk := ?_); intro b4 w4 e4 h4 h4' k4
   replace k4 : Blk w4 b4 47 (rowV emV [x']) := k4
   have r4 : Rd w4 (some ⟨b4, 0, none⟩) 1 9 (rowV emV [x']) := Rd.blk k4 rfl
   have O4 := O3.be e4
   have z4 := e4.size
   --
   refine TL_append TE (ho := O4) (hr := r4) (h1 := rowV_one emV_one _) (hk := ?_); intro A5 c5 w5 o5 m5 n5
   rw [← rowV_append] at o5
   have hF' : PFit x'.m.p := by
    have : x'.m.p = x.m.p := by have := congrArg EE.p hxe; exact this
    rw [this]; exact hF
   have O5 := O.push (z := x') (y' := (A5, y.2.1 + 1, c5)) (e3.ext e4) (o3.be e4) hF' z1 m5 o5 n5
   rw [hxe, ← hsu] at O5
   repeat (first | refine T_region ?_ | refine T_inBlock ?_ | refine TL_add (hk := ?_) | refine TL_nil ?_ | refine TL_move (hk := ?_) | refine TL_assign (hk := ?_))
   exact ih (j + 1, (A5, y.2.1 + 1, c5)) _ _ (by simp only; omega) ⟨(((e1.ext e3).ext e4).own m5 O.ow.hi), by simp only; omega, fun _ => by simp only; omega, _, O5⟩ (.c rfl (.c rfl (.c rfl (.c rfl (.n)))))
  ·have hcj : ¬ ((y.2.1 : Nat) : Int) < most := by omega
   obtain rfl : j = most.toNat := by omega
   clear ih
   repeat (first | refine T_seq ?_ | refine T_region ?_ | refine TL_move (hk := ?_))
   refine TL_call TE (hc := LLen_c w1 D1) (hk := ?_)
   rintro _ w2 ⟨rfl, rfl⟩
   repeat (first | refine T_seq ?_ | refine T_region ?_ | refine T_cond_false rfl ?_ | refine T_exit rfl ?_ | refine TL_lt_t (hk := ?_) | refine TL_lt_f (hk := ?_) | refine TL_nil ?_ | refine TL_move (hk := ?_) | refine TL_assign (hk := ?_) | refine TL_len TE (hk := ?_) | refine TL_yes (hk := ?_) | refine TL_pick_t (hk := ?_))
   exact T_ret1 rfl rfl ⟨y, ys, rfl, e1, O⟩
 ·clear ih
  have hE : fromL L s j = fromL L s most.toNat := by
   unfold fromL
   rw [List.take_of_length_le (by rw [List.length_drop]; omega), List.take_of_length_le (by rw [List.length_drop]; omega)]
  rw [hE] at O
  repeat (first | refine T_seq ?_ | refine T_region ?_ | refine TL_move (hk := ?_))
  refine TL_call TE (hc := LLen_c w1 D1) (hk := ?_)
  rintro _ w2 ⟨rfl, rfl⟩
  repeat (first | refine T_seq ?_ | refine T_region ?_ | refine T_cond_false rfl ?_ | refine T_exit rfl ?_ | refine TL_lt_f (hk := ?_) | refine TL_nil ?_ | refine TL_move (hk := ?_) | refine TL_assign (hk := ?_) | refine TL_no (hk := ?_) | refine TL_pick_f (hk := ?_))
  exact T_ret1 rfl rfl ⟨y, ys, rfl, e1, O⟩
end
set_option maxHeartbeats 1600000
theorem reqB_len {b : List UInt8} {r : RE} (hf : RFit r) (h : checkR r = 0) : (reqB b r).length ≤ b.length + 1000 := by
 obtain ⟨h1, h2, h3, h4⟩ := check_ok h
 have hn := nm_len h2
 have htk := hf.tk
 have u1 := encU_len64 (show r.cl.toNat < 2 ^ 64 by omega)
 have u2 := encU_len64 (show r.tk < 2 ^ 64 by omega)
 have u3 := encU_len64 (show r.nm.length < 2 ^ 64 by omega)
 have u4 := encU_len64 (show r.ar.length < 2 ^ 64 by omega)
 unfold reqB
 have := fold_len (l := r.ar) (b := (((b ++ encU r.cl.toNat) ++ encU r.tk) ++ (encU r.nm.length ++ r.nm)) ++ encU r.ar.length) hf.ar
 simp only [List.length_append] at this
 omega
theorem right_ok {p : PE} (h : rightP p = 0) : checkR p.q = 0 ∧ (p.how = 1 ∨ p.how = 2) ∧ normB p.rd p.wr = true := by
 unfold rightP at h
 split at h
 ·rename_i h1; exact absurd h h1
 ·rename_i h1
  split at h
  ·cases h
  ·rename_i h2
   split at h
   ·cases h
   ·rename_i h3
    exact ⟨by omega, by omega, by simpa using h3⟩
theorem EPut_c (x : EM) (B : Option Addr) (nb cb : Nat) (b : List UInt8) (w : World) (X : PLies w x.m) (F : PFit x.m.p) (hsq : x.sq ≤ 9223372036854775807) (hep : x.ep ≤ 9223372036854775807) (hb : Rd w B nb 1 (bv b)) (hnb : nb ≤ 100000) :
  Ret Tryz.prog 64 [.slice B nb cb, eA x] w (fun v w' => ∃ A' n' c', v = .tuple #[.slice A' n' c', .int .i64 ((putEn b (emE x)).2 : Int)] ∧ Ext w w' ∧ Own w' w.heap.size 5 1 A' n' c' (bv (putEn b (emE x)).1)) := by
 obtain ⟨l1, l2, l3⟩ := X.len
 have na := F.na
 have nb' := F.nb
 have nc := F.nc
 have hbl : b.length = nb := by simpa using hb.1
 unfold putEn emE
 simp only
 refine ret_T (n := 56) Tryz.func64 rfl rfl ?_
 repeat (first | refine T_seq ?_ | refine T_region ?_)
 refine TL_box (hk := ?_); intro b1 w1 e1 h1 h1' k1
 replace k1 : Blk w1 b1 47 [.int .i64 x.sq, .int .i64 x.ep, .int .i64 x.m.p.q.cl, .int .u64 (x.m.p.q.tk : Int), .string (ofL x.m.p.q.nm), sL x.m.a, .int .i64 x.m.p.how, sL x.m.b, sL x.m.c] := k1
 have z1 := e1.size
 have hb1lt := k1.lt
 by_cases c1 : x.sq < 0
 ·rw [if_pos (.inl c1)]
  repeat (first | refine T_seq ?_ | refine T_region ?_ | refine T_cond_true rfl ?_ | refine TL_lt_t (hk := ?_) | refine TL_nil ?_ | refine TL_move (hk := ?_) | refine TL_assign (hk := ?_) | refine TL_load TE (hk := ?_) | refine TL_fieldAddr TE (hk := ?_) | refine TL_no (hk := ?_) | refine TL_pick_t (hk := ?_))
  exact T_ret2 rfl rfl rfl ⟨none, 0, 0, rfl, e1, Own.nil _ _ _ _⟩
 by_cases c2 : x.ep < 0
 ·rw [if_pos (.inr c2)]
  repeat (first | refine T_seq ?_ | refine T_region ?_ | refine T_cond_true rfl ?_ | refine TL_lt_t (hk := ?_) | refine TL_lt_f (hk := ?_) | refine TL_nil ?_ | refine TL_move (hk := ?_) | refine TL_assign (hk := ?_) | refine TL_load TE (hk := ?_) | refine TL_fieldAddr TE (hk := ?_) | refine TL_yes (hk := ?_) | refine TL_pick_f (hk := ?_))
  exact T_ret2 rfl rfl rfl ⟨none, 0, 0, rfl, e1, Own.nil _ _ _ _⟩
 rw [if_neg (fun q => q.elim c1 c2)]
 repeat (first | refine T_seq ?_ | refine T_region ?_ | refine T_cond_false rfl ?_ | refine T_skip ?_ | refine TL_lt_f (hk := ?_) | refine TL_nil ?_ | refine TL_move (hk := ?_) | refine TL_assign (hk := ?_) | refine TL_load TE (hk := ?_) | refine TL_fieldAddr TE (hk := ?_) | refine TL_yes (hk := ?_) | refine TL_pick_f (hk := ?_))
 refine TL_loadb TE (cs := [.int .i64 x.m.p.q.cl, .int .u64 (x.m.p.q.tk : Int), .string (ofL x.m.p.q.nm), sL x.m.a, .int .i64 x.m.p.how, sL x.m.b, sL x.m.c]) (o := 2) rfl rfl k1 rfl rfl (Nat.succ_pos _) (hk := ?_)
 --
 refine TL_call TE (hc := Right_c x.m w1 (X.be e1) F) (hk := ?_)
 rintro _ w2 ⟨rfl, e2⟩
 have k2 := k1.be e2
 have e02 := e1.ext e2
 clear k1
 by_cases c3 : rightP x.m.p = 0
 ·rw [if_neg (by omega)]
  obtain ⟨hc, hhow, hnorm⟩ := right_ok c3
  have hrl := reqB_len (b := []) F.q hc
  simp only [List.length_nil] at hrl
  have hp2 : (putR [] x.m.p.q) = (reqB [] x.m.p.q, 0) := by unfold putR; rw [if_neg (by omega)]
  have rn : Rd w2 none 0 1 (bv []) := (Own.nil w2 w2.heap.size 5 1).rd
  rw [c3]
  repeat (first | refine T_seq ?_ | refine T_region ?_ | refine T_cond_false rfl ?_ | refine T_skip ?_ | refine TL_ne_f (hk := ?_) | refine TL_nil ?_ | refine TL_move (hk := ?_) | refine TL_assign (hk := ?_) | refine TL_fieldAddr TE (hk := ?_))
  refine TL_loadb TE (cs := [.int .i64 x.m.p.q.cl, .int .u64 (x.m.p.q.tk : Int), .string (ofL x.m.p.q.nm), sL x.m.a]) (o := 2) rfl rfl k2 rfl rfl (Nat.succ_pos _) (hk := ?_)
  --
  refine TL_call TE (hc := RqPut_c x.m.p.q none x.m.a.1 0 0 x.m.a.2.1 x.m.a.2.2 [] w2 F.q rn (X.ra.be e02) (by omega) (by omega)) (hk := ?_)
  rintro _ w3 ⟨A3, n3, c3', rfl, e3, o3⟩
  rw [hp2] at o3 ⊢
  simp only at o3 ⊢
  have l3' := o3.len
  simp only [bv_length, Nat.mul_one] at l3'
  have k3 := k2.be e3
  have e03 := e02.ext e3
  clear k2
  repeat (first | refine T_seq ?_ | refine TL_nil ?_ | refine TL_move (hk := ?_) | refine TL_assign (hk := ?_) | refine TL_extract (hk := ?_))
  have hsq1 : x.sq = ((x.sq.toNat : Nat) : Int) := by omega
  have hep1 : x.ep = ((x.ep.toNat : Nat) : Int) := by omega
  have hbD : b1 ∉ ([] : List Nat) := by simp
  refine T_region_any TE.mixed ([] : List Nat) ?_; intro w4 e4 z4
  have k4 := k3.be e4
  have o4 := o3.be e4
  have r4 := o4.rd
  have hb4 := hb.be (e03.ext e4)
  (refine TA_take 0 rfl (by kernel_rfl) (by kernel_rfl) (by kernel_rfl) ?_; (repeat (first | refine TL_move (hk := ?_) | refine TLP_load TE (hk := ?_) | refine TL_fieldAddr TE (hk := ?_) | refine TL_conv TE (hk := ?_) | refine TLP_conv_bs TE (hk := ?_))); refine TL_nil_p ?_); (refine TA_take 1 rfl (by kernel_rfl) (by kernel_rfl) (by kernel_rfl) ?_; (repeat (first | refine TL_move (hk := ?_) | refine TLP_load TE (hk := ?_) | refine TL_fieldAddr TE (hk := ?_) | refine TL_conv TE (hk := ?_) | refine TLP_conv_bs TE (hk := ?_))); refine TL_nil_p ?_); (refine TA_take 2 rfl (by kernel_rfl) (by kernel_rfl) (by kernel_rfl) ?_; (repeat (first | refine TL_move (hk := ?_) | refine TLP_load TE (hk := ?_) | refine TL_fieldAddr TE (hk := ?_) | refine TL_conv TE (hk := ?_) | refine TLP_conv_bs TE (hk := ?_))); refine TL_nil_p ?_); (refine TA_take 3 rfl (by kernel_rfl) (by kernel_rfl) (by kernel_rfl) ?_; (repeat (first | refine TL_move (hk := ?_) | refine TLP_load TE (hk := ?_) | refine TL_fieldAddr TE (hk := ?_) | refine TL_conv TE (hk := ?_) | refine TLP_conv_bs TE (hk := ?_))); refine TL_nil_p ?_); (refine TA_take 5 rfl (by kernel_rfl) (by kernel_rfl) (by kernel_rfl) ?_; (repeat (first | refine TL_move (hk := ?_) | refine TLP_load TE (hk := ?_) | refine TL_fieldAddr TE (hk := ?_) | refine TL_conv TE (hk := ?_) | refine TLP_conv_bs TE (hk := ?_))); refine TL_nil_p ?_); (refine TA_take 6 rfl (by kernel_rfl) (by kernel_rfl) (by kernel_rfl) ?_; (repeat (first | refine TL_move (hk := ?_) | refine TLP_load TE (hk := ?_) | refine TL_fieldAddr TE (hk := ?_) | refine TL_conv TE (hk := ?_) | refine TLP_conv_bs TE (hk := ?_))); refine TL_nil_p ?_); (refine TA_take 7 rfl (by kernel_rfl) (by kernel_rfl) (by kernel_rfl) ?_; (repeat (first | refine TL_move (hk := ?_) | refine TLP_load TE (hk := ?_) | refine TL_fieldAddr TE (hk := ?_) | refine TL_conv TE (hk := ?_) | refine TLP_conv_bs TE (hk := ?_))); refine TL_nil_p ?_); (refine TA_take 9 rfl (by kernel_rfl) (by kernel_rfl) (by kernel_rfl) ?_; (repeat (first | refine TL_move (hk := ?_) | refine TLP_load TE (hk := ?_) | refine TL_fieldAddr TE (hk := ?_) | refine TL_conv TE (hk := ?_) | refine TLP_conv_bs TE (hk := ?_))); refine TL_nil_p ?_); (refine TA_take 10 rfl (by kernel_rfl) (by kernel_rfl) (by kernel_rfl) ?_; (repeat (first | refine TL_move (hk := ?_) | refine TLP_load TE (hk := ?_) | refine TL_fieldAddr TE (hk := ?_) | refine TL_conv TE (hk := ?_) | refine TLP_conv_bs TE (hk := ?_))); refine TL_nil_p ?_)
  refine TA_one 4 rfl (by kernel_rfl) (by kernel_rfl) ?_; (try refine TL_yes (hk := ?_)); refine TL_call TE (hc := (PutUint_c B nb cb b x.sq.toNat w4 hsq1 hb4 (by omega) (by omega))) (hq := (by rintro _ w' ⟨A', n', c', rfl, e, o⟩; exact e)) (hk := ?_)
  rintro _ w5 ⟨A5, n5, c5, rfl, e5, o5⟩
  have u5 := encU_len64 (show x.sq.toNat < 2 ^ 64 by omega)
  have l5 := o5.len
  simp only [bv_length, List.length_append, Nat.mul_one] at l5
  refine TL_nil_p ?_
  refine TA_one 8 rfl (by kernel_rfl) (by kernel_rfl) ?_; (try refine TL_yes (hk := ?_)); refine TL_call TE (hc := (PutUint_c A5 n5 c5 _ x.ep.toNat w5 hep1 o5.rd (by omega) (by omega))) (hq := (by rintro _ w' ⟨A', n', c', rfl, e, o⟩; exact e5.ext e)) (hk := ?_)
  rintro _ w6 ⟨A6, n6, c6, rfl, e6, o6⟩
  have u6 := encU_len64 (show x.ep.toNat < 2 ^ 64 by omega)
  have l6 := o6.len
  simp only [bv_length, List.length_append, Nat.mul_one] at l6
  refine TL_nil_p ?_
  have hs7 : (ofL (reqB [] x.m.p.q)).size = (reqB [] x.m.p.q).length := ofL_size _
  refine TA_one 11 rfl (by kernel_rfl) (by kernel_rfl) ?_; (try refine TL_yes (hk := ?_)); refine TL_call TE (hc := (PutText_c A6 n6 c6 _ (ofL (reqB [] x.m.p.q)) w6 o6.rd (by omega) (by rw [hs7]; omega))) (hq := (by rintro _ w' ⟨A', n', c', rfl, e, o⟩; exact (e5.ext e6).ext e)) (hk := ?_)
  rintro _ w7 ⟨A7, n7, c7, rfl, e7, o7⟩
  rw [hs7, show (ofL (reqB [] x.m.p.q)).data.toList = reqB [] x.m.p.q by simp [ofL]] at o7
  have u7 := encU_len64 (show (reqB [] x.m.p.q).length < 2 ^ 64 by omega)
  have l7 := o7.len
  simp only [bv_length, List.length_append, Nat.mul_one] at l7
  refine TL_nil_p ?_
  (refine TA_one 12 rfl (by kernel_rfl) (by kernel_rfl) ?_; (repeat (refine TL_assign (hk := ?_))); refine TL_nil_p ?_)
  refine TA_done (by kernel_rfl) ?_
  have e47 := ((e4.ext e5).ext e6).ext e7
  have k7 := k3.be e47
  have e07 := e03.ext e47
  clear k3 k4 o4 r4
  have hh : x.m.p.how = ((x.m.p.how.toNat : Nat) : Int) ∧ x.m.p.how.toNat < 256 := by omega
  have hlt3 := (hb1lt : b1 < w1.heap.size)
  have hb1D : b1 ∉ blkL A7 := fun q => by have := (o7.bl b1 q).1; have := e2.size; have := e3.size; have := e4.size; have := e5.size; have := e6.size; omega
  repeat (refine T_seq ?_)
  refine T_region_any TE.mixed (blkL A7) ?_; intro w8 e8 z8
  have k8 := k7.be e8
  have o8 := o7.be e8
  have hhr : 0 ≤ x.m.p.how ∧ x.m.p.how ≤ 255 := by omega
  have hbv : bv [UInt8.ofNat x.m.p.how.toNat] = [.int .u8 x.m.p.how] := by
   simp only [bv, List.map_cons, List.map_nil]
   rw [ofNat_u8 hh.2, ← hh.1]
  (refine TA_take 0 rfl (by kernel_rfl) (by kernel_rfl) (by kernel_rfl) ?_; (repeat (first | refine TL_move (hk := ?_) | refine TLP_load TE (hk := ?_) | refine TL_fieldAddr TE (hk := ?_) | refine TL_conv TE (hk := ?_))); refine TL_nil_p ?_); (refine TA_take 1 rfl (by kernel_rfl) (by kernel_rfl) (by kernel_rfl) ?_; (repeat (first | refine TL_move (hk := ?_) | refine TLP_load TE (hk := ?_) | refine TL_fieldAddr TE (hk := ?_) | refine TL_conv TE (hk := ?_))); refine TL_nil_p ?_); (refine TA_take 2 rfl (by kernel_rfl) (by kernel_rfl) (by kernel_rfl) ?_; (repeat (first | refine TL_move (hk := ?_) | refine TLP_load TE (hk := ?_) | refine TL_fieldAddr TE (hk := ?_) | refine TL_conv TE (hk := ?_))); refine TL_nil_p ?_); (refine TA_take 3 rfl (by kernel_rfl) (by kernel_rfl) (by kernel_rfl) ?_; (repeat (first | refine TL_move (hk := ?_) | refine TLP_load TE (hk := ?_) | refine TL_fieldAddr TE (hk := ?_) | refine TL_conv TE (hk := ?_))); refine TL_nil_p ?_); (refine TA_take 4 rfl (by kernel_rfl) (by kernel_rfl) (by kernel_rfl) ?_; (repeat (first | refine TL_move (hk := ?_) | refine TLP_load TE (hk := ?_) | refine TL_fieldAddr TE (hk := ?_) | refine TL_conv TE (hk := ?_))); refine TL_nil_p ?_); (refine TA_take 7 rfl (by kernel_rfl) (by kernel_rfl) (by kernel_rfl) ?_; (repeat (first | refine TL_move (hk := ?_) | refine TLP_load TE (hk := ?_) | refine TL_fieldAddr TE (hk := ?_) | refine TL_conv TE (hk := ?_))); refine TL_nil_p ?_); (refine TA_take 8 rfl (by kernel_rfl) (by kernel_rfl) (by kernel_rfl) ?_; (repeat (first | refine TL_move (hk := ?_) | refine TLP_load TE (hk := ?_) | refine TL_fieldAddr TE (hk := ?_) | refine TL_conv TE (hk := ?_))); refine TL_nil_p ?_)
  refine TA_take 9 rfl (by kernel_rfl) (by kernel_rfl) (by kernel_rfl) ?_
  refine TLP_loadb TE (cs := [sL x.m.b, sL x.m.c]) (o := 7) (hb := k8) (hD := hb1D) (hk := ?_)
  refine TL_nil_p ?_
  refine TA_one 5 rfl (by kernel_rfl) (by kernel_rfl) ?_
  refine TL_buildSlice TE (hf := rfl) (hq := fun w' h => Ext.un h) (hk := ?_); intro b9 w9 e9 h9 h9' k9
  have r9 : Rd w9 (some ⟨b9, 0, none⟩) 1 1 (bv [UInt8.ofNat x.m.p.how.toNat]) := by rw [hbv]; exact Rd.blk k9 rfl
  have o9 := o8.be e9
  have zz : w6.heap.size ≤ w9.heap.size := by have := e7.size; have := e8.size; have := e9.size; omega
  refine TL_nil_p ?_
  refine TA_one 6 rfl (by kernel_rfl) (by kernel_rfl) ?_
  refine TL_append TE (ho := o9) (hr := r9) (h1 := bv_one _) (hf := rfl) (hq := fun w' m => (Ext.un e9).trans m) (hk := ?_); intro A10 c10 w10 o10 m10 n10
  rw [← bv_append] at o10
  have e010 : Ext w w10 := ((e07.ext e8).ext e9).step m10 (fun u hu => .inr (by have := (o7.bl u hu).1; have := (e03.ext ((e4.ext e5).ext e6)).size; omega))
  have l10 := o10.len
  simp only [bv_length, List.length_append, List.length_cons, List.length_nil, Nat.mul_one] at l10
  refine TL_nil_p ?_
  refine TA_one 10 rfl (by kernel_rfl) (by kernel_rfl) ?_; (try refine TL_yes (hk := ?_)); refine TL_call TE (hc := (Put_c A10 x.m.b.1 x.m.c.1 (n7 + 1) c10 x.m.b.2.1 x.m.b.2.2 x.m.c.2.1 x.m.c.2.2 _ x.m.p.rd x.m.p.wr w10 o10.rd (X.rb.be e010) (X.rc.be e010) (by omega) (by omega) (by omega) F.sr F.sk)) (hq := (by rintro _ w' ⟨P, np, cp, rfl, e, o⟩; exact ((Ext.un e9).trans m10).ext e)) (hk := ?_)
  rintro _ w11 ⟨P, np, cp, rfl, e11, o11⟩
  have hin : isNorm x.m.p.rd x.m.p.wr = true := hnorm
  rw [hin] at o11 ⊢
  rw [if_pos rfl] at o11 ⊢
  refine TL_nil_p ?_
  (refine TA_take 11 rfl (by kernel_rfl) (by kernel_rfl) (by kernel_rfl) ?_; (repeat (refine TL_extract (hk := ?_))); refine TL_nil_p ?_); (refine TA_take 12 rfl (by kernel_rfl) (by kernel_rfl) (by kernel_rfl) ?_; (repeat (refine TL_extract (hk := ?_))); refine TL_nil_p ?_)
  (refine TA_one 13 rfl (by kernel_rfl) (by kernel_rfl) ?_; (repeat (refine TL_assign (hk := ?_))); refine TL_nil_p ?_); (refine TA_one 14 rfl (by kernel_rfl) (by kernel_rfl) ?_; (repeat (refine TL_assign (hk := ?_))); refine TL_nil_p ?_)
  refine TA_done (by kernel_rfl) ?_
  --
  exact T_ret2 rfl rfl rfl ⟨P, np, cp, rfl, e010.ext e11, Own.weaken o11 e010.size⟩
 ·rw [if_pos c3]
  have c3'' : ¬ ((rightP x.m.p : Nat) : Int) = 0 := by omega
  repeat (first | refine T_seq ?_ | refine T_region ?_ | refine T_cond_true rfl ?_ | refine TL_ne_t (hk := ?_) | refine TL_nil ?_ | refine TL_move (hk := ?_) | refine TL_assign (hk := ?_))
  exact T_ret2 rfl rfl rfl ⟨none, 0, 0, rfl, e02, Own.nil _ _ _ _⟩
end Go.Proofs.YtjlaomcankmdjaaGreat
namespace Go.Proofs.YtjlaomcankmdjaaGreat
open Go.Proofs.Eng Go.Proofs.Codec Go.Proofs.Foot Go.Proofs.Journal
def Lf (s : RS) (B r : List UInt8) : Prop := s.err = 0 ∧ s.b = B ∧ s.b.drop s.pos = r
section
variable {s : RS} {B r : List UInt8}
theorem Lf.start (B : List UInt8) : Lf ⟨B, 0, 0, 0, 0⟩ B B := ⟨rfl, rfl, rfl⟩
theorem Lf.take {α : Type} {z v : α} {k : Nat} {t : List UInt8 → Except Int (α × Nat)} (h : Lf s B r) (ht : t r = .ok (v, k)) : ∃ s', s.take z t = (v, s') ∧ Lf s' B (r.drop k) ∧ s' = { s with pos := s.pos + k, last := s.pos } := by
 obtain ⟨h1, h2, h3⟩ := h
 refine ⟨_, take_ok h1 (by rw [h3]; exact ht), ⟨h1, h2, ?_⟩, rfl⟩
 show s.b.drop (s.pos + k) = _
 rw [← h3, List.drop_drop]
theorem Lf.num {n : Nat} (h : Lf s B (encU n ++ r)) (hn : n < 2 ^ 64) : ∃ s', s.take (0 : Nat) num0 = (n, s') ∧ Lf s' B r := by
 obtain ⟨s', h1, h2, -⟩ := h.take (z := (0 : Nat)) (num0_enc r hn)
 rw [List.drop_left] at h2
 exact ⟨s', h1, h2⟩
theorem Lf.lim {n : Nat} {most e : Int} (h : Lf s B (encU n ++ r)) (hn : n < 2 ^ 64) (hm : (n : Int) ≤ most) : ∃ s', s.take (0 : Nat) (tLim most e) = (n, s') ∧ Lf s' B r := by
 have : tLim most e (encU n ++ r) = .ok (n, (encU n).length) := by
  unfold tLim
  rw [num0_enc r hn]
  simp only
  rw [if_neg (by omega)]
 obtain ⟨s', h1, h2, -⟩ := h.take (z := (0 : Nat)) this
 rw [List.drop_left] at h2
 exact ⟨s', h1, h2⟩
theorem Lf.int {i : Int} (h : Lf s B (encU (zig i) ++ r)) (hi : -9223372036854775808 ≤ i ∧ i ≤ 9223372036854775807) : ∃ s', s.take (0 : Int) tInt = (i, s') ∧ Lf s' B r := by
 obtain ⟨s', h1, h2, -⟩ := h.take (z := (0 : Int)) (tInt_enc i r hi)
 rw [List.drop_left] at h2
 exact ⟨s', h1, h2⟩
theorem Lf.byte {c : UInt8} (h : Lf s B (c :: r)) : ∃ s', s.take (0 : Nat) tByte = (c.toNat, s') ∧ Lf s' B r := by
 obtain ⟨s', h1, h2, -⟩ := h.take (z := (0 : Nat)) (t := tByte) (v := c.toNat) (k := 1) rfl
 exact ⟨s', h1, h2⟩
theorem Lf.text {t : List UInt8} {most : Int} (h : Lf s B (encU t.length ++ (t ++ r))) (ht : t.length < 2 ^ 63) (hm : (t.length : Int) ≤ most) : ∃ s', s.take ([] : List UInt8) (tText most) = (t, s') ∧ Lf s' B r := by
 have : tText most (encU t.length ++ (t ++ r)) = .ok (t, (encU t.length).length + t.length) := by
  unfold tText tLim
  rw [num0_enc _ (by omega)]
  simp only
  rw [if_neg (by omega)]
  simp only [List.length_append]
  rw [if_neg (by omega)]
  simp
 obtain ⟨s', h1, h2, -⟩ := h.take (z := ([] : List UInt8)) this
 rw [← List.append_assoc, ← List.length_append, List.drop_left] at h2
 exact ⟨s', h1, h2⟩
end
theorem putV_app (b : List UInt8) (v : VE) : putV b v = b ++ putV [] v := by
 unfold putV
 split
 ·simp
 ·split
  ·simp
  ·split <;> simp
theorem fold_app : ∀ (l : List VE) (b : List UInt8), l.foldl putV b = b ++ (l.map (putV [])).flatten
 | [], b => by simp
 |v :: l, b => by rw [List.foldl_cons, fold_app l, putV_app b v]; simp
theorem reqB_app (b : List UInt8) (r : RE) : reqB b r = b ++ (encU r.cl.toNat ++ (encU r.tk ++ (encU r.nm.length ++ (r.nm ++ (encU r.ar.length ++ (r.ar.map (putV [])).flatten))))) := by
 unfold reqB
 rw [fold_app]
 simp
theorem takeV_put {s : RS} {B r : List UInt8} {v : VE} (hv : validV v = true) (hf : VFit v) (h : Lf s B (putV [] v ++ r)) : ∃ s', takeV s = (v, s') ∧ Lf s' B r := by
 obtain ⟨kd, n, t⟩ := v
 unfold putV at h
 rw [if_neg (by rw [hv]; decide)] at h
 unfold validV at hv
 simp only at h hv
 unfold takeV
 by_cases h1 : kd = 1
 ·rw [if_pos h1] at h
  rw [if_neg (by omega), if_pos h1, decide_eq_true_eq] at hv
  subst h1 hv
  rw [List.nil_append, List.append_assoc] at h
  obtain ⟨s1, e1, l1⟩ := h.byte
  obtain ⟨s2, e2, l2⟩ := l1.int hf.n
  refine ⟨s2, ?_, l2⟩
  rw [e1]
  have : takeV0 s1 1 = (⟨1, n, []⟩, s2) := by unfold takeV0; rw [if_pos rfl, e2]
  show endV (takeV0 s1 1) = _
  rw [this]
  exact if_neg (fun q => q l2.1)
 by_cases h2 : kd = 2
 ·rw [if_neg h1, if_pos h2] at h
  rw [if_neg (by omega), if_neg h1, if_pos h2, Bool.and_eq_true, decide_eq_true_eq] at hv
  obtain ⟨⟨rfl, ht⟩, hp⟩ := hv
  subst h2
  rw [List.nil_append, List.append_assoc, List.append_assoc] at h
  obtain ⟨s1, e1, l1⟩ := h.byte
  obtain ⟨s2, e2, l2⟩ := l1.text (most := 64) (by omega) (by omega)
  refine ⟨s2, ?_, l2⟩
  rw [e1]
  have : takeV0 s1 2 = (⟨2, 0, t⟩, s2) := by unfold takeV0; rw [if_neg (by decide), if_pos rfl, e2]; simp only; rw [if_neg (by rw [hp]; decide)]
  show endV (takeV0 s1 2) = _
  rw [this]
  exact if_neg (fun q => q l2.1)
 ·by_cases h0 : kd = 0
  ·rw [if_neg h1, if_neg h2] at h
   rw [if_pos h0, decide_eq_true_eq] at hv
   obtain ⟨rfl, rfl⟩ := hv
   subst h0
   obtain ⟨s1, e1, l1⟩ := h.byte
   refine ⟨s1, ?_, l1⟩
   rw [e1]
   have : takeV0 s1 0 = (vz, s1) := by unfold takeV0; rw [if_neg (by decide), if_neg (by decide), if_neg (by decide)]
   show endV (takeV0 s1 0) = _
   rw [this]
   exact if_neg (fun q => q l1.1)
  ·rw [if_neg h0, if_neg h1, if_neg h2] at hv; cases hv
theorem argsR_put {B : List UInt8} : ∀ (l acc : List VE) (s : RS) (r : List UInt8), l.all givenB = true → (∀ v ∈ l, VFit v) → Lf s B ((l.map (putV [])).flatten ++ r) → ∃ s', argsR l.length s acc = some (acc ++ l, s') ∧ Lf s' B r
 | [], acc, s, r, _, _, h => ⟨s, by rw [List.append_nil]; rfl, h⟩
 |v :: l, acc, s, r, hg, hf, h => by
  rw [List.all_cons, Bool.and_eq_true] at hg
  have hv := hg.1
  unfold givenB at hv
  rw [Bool.and_eq_true, decide_eq_true_eq] at hv
  rw [List.map_cons, List.flatten_cons, List.append_assoc] at h
  obtain ⟨s1, e1, l1⟩ := takeV_put hv.1 (hf v List.mem_cons_self) h
  obtain ⟨s2, e2, l2⟩ := argsR_put l (acc ++ [v]) s1 r hg.2 (fun u hu => hf u (List.mem_cons_of_mem _ hu)) l1
  refine ⟨s2, ?_, l2⟩
  rw [List.length_cons, argsR, e1, if_neg (fun q => hv.2 q.2)]
  rw [e2, List.append_assoc]
  rfl
theorem Lf.fin {s : RS} {B : List UInt8} (h : Lf s B []) : s.fin = s := by
 unfold RS.fin
 rw [if_neg]
 intro q
 have := List.drop_eq_nil_iff.1 h.2.2
 omega
theorem getR_put {r : RE} (hc : checkR r = 0) (hf : RFit r) : getR (reqB [] r) = some r := by
 obtain ⟨h1, h2, h3, h4⟩ := check_ok hc
 have hl := reqB_len (b := []) hf hc
 have hnm := nm_len h2
 have hb := reqB_app [] r
 rw [List.nil_append] at hb
 generalize reqB [] r = B at hl hb ⊢
 have l0 := Lf.start B
 have l0' : Lf ⟨B, 0, 0, 0, 0⟩ B (encU r.cl.toNat ++ (encU r.tk ++ (encU r.nm.length ++ (r.nm ++ (encU r.ar.length ++ (r.ar.map (putV [])).flatten))))) := by rw [← hb]; exact l0
 obtain ⟨s1, e1, l1⟩ := l0'.lim (most := 63) (e := 6) (by omega) (by omega)
 obtain ⟨s2, e2, l2⟩ := l1.num hf.tk
 obtain ⟨s3, e3, l3⟩ := l2.text (most := 16) (by omega) (by omega)
 obtain ⟨s4, e4, l4⟩ := l3.lim (most := 8) (e := 6) (by omega) (by omega)
 obtain ⟨s5, e5, l5⟩ := argsR_put (B := B) r.ar [] s4 [] h4 hf.ar (by rw [List.append_nil]; exact l4)
 have q1 : rq1 B = (r.cl.toNat, s1) := e1
 have q2 : rq2 B = (r.tk, s2) := by unfold rq2; rw [q1]; exact e2
 have q3 : rq3 B = (r.nm, s3) := by unfold rq3; rw [q2]; exact e3
 have q4 : rq4 B = s3 := by unfold rq4; rw [q3]; simp only; rw [if_neg (by rw [h2]; decide)]
 have q5 : rq5 B = (r.ar.length, s4) := by unfold rq5; rw [q4]; exact e4
 unfold getR
 rw [if_neg (by simp only [List.length_nil] at hl; omega), q5]
 simp only
 rw [e5, List.nil_append]
 unfold endR
 simp only
 rw [l5.fin, if_pos l5.1, q1, q2, q3]
 have : ((r.cl.toNat : Nat) : Int) = r.cl := by omega
 simp only
 rw [this]
end Go.Proofs.YtjlaomcankmdjaaGreat
namespace Go.Proofs.YtjlaomcankmdjaaGreat
open Go.Proofs.Eng Go.Proofs.Foot
end Go.Proofs.YtjlaomcankmdjaaGreat
namespace Go.Proofs.YtjlaomcankmdjaaGreat
open Go.RowKit Go.Proofs.Eng Go.Proofs.Foot Go.Proofs.Codec
set_option linter.unusedVariables false set_option maxRecDepth 10000
attribute [local irreducible] T TL LV TH TA
end Go.Proofs.YtjlaomcankmdjaaGreat
namespace Go.Proofs.YtjlaomcankmdjaaGreat
open Go.Proofs.Eng Go.Proofs.Foot
theorem norm_ok {r k ra ka : List Tx} (h : normF r k = ((ra, ka), 0)) : r.all validT = true ∧ k.all validT = true ∧ ra = setT r ∧ ka = setT k ∧ (setT (r ++ k)).length ≤ 64 := by
 rw [norm_eq] at h
 by_cases q : (r.all validT && k.all validT) = true
 ·rw [if_pos q] at h
  by_cases g : 64 < (setT (r ++ k)).length
  ·rw [if_pos g] at h
   injection h with _ h
   cases h
  ·rw [if_neg g] at h
   injection h with h _
   injection h with h1 h2
   simp only [Bool.and_eq_true] at q
   exact ⟨q.1, q.2, h1.symm, h2.symm, by omega⟩
 ·rw [if_neg q] at h
  injection h with _ h
  cases h
theorem norm_ok_of {r k : List Tx} (h1 : r.all validT = true) (h2 : k.all validT = true) (h3 : (setT (r ++ k)).length ≤ 64) : normF r k = ((setT r, setT k), 0) := by
 rw [norm_eq, h1, h2, if_pos (by rfl), if_neg (by omega)]
def meetL (la lb : List (Tx × Bool)) : Bool := la.any fun x => lb.any fun y => decide (x.1 = y.1) && (x.2 || y.2)
end Go.Proofs.YtjlaomcankmdjaaGreat
namespace Go.Proofs.YtjlaomcankmdjaaGreat
open Go.Proofs.Eng Go.Proofs.Foot Go.Proofs.Codec
abbrev Ent := Tx × Nat
def eB (p : Ent) : List UInt8 := (encU p.1.length ++ p.1) ++ [UInt8.ofNat p.2]
def esB (es : List Ent) : List UInt8 := (es.map eB).flatten
def rdE (es : List Ent) : List Tx := (es.filter fun p => p.2 &&& 1 != 0).map (·.1)
def wrE (es : List Ent) : List Tx := (es.filter fun p => p.2 &&& 2 != 0).map (·.1)
def lastE (es : List Ent) : Tx := ((es.map (·.1)).getLast?).getD []
theorem esB_snoc (es : List Ent) (p : Ent) : esB (es ++ [p]) = esB es ++ eB p := by simp [esB]
theorem rdE_snoc (es : List Ent) (p : Ent) : rdE (es ++ [p]) = if p.2 &&& 1 = 0 then rdE es else rdE es ++ [p.1] := by
 unfold rdE
 rw [List.filter_append, List.map_append]
 by_cases h : p.2 &&& 1 = 0
 ·have : (p.2 &&& 1 != 0) = false := by rw [h]; rfl
  rw [if_pos h]
  simp only [List.filter_cons, this, Bool.false_eq_true, if_false, List.filter_nil, List.map_nil, List.append_nil]
 ·have : (p.2 &&& 1 != 0) = true := by rw [bne_iff_ne]; exact h
  rw [if_neg h]
  simp only [List.filter_cons, this, if_true, List.filter_nil, List.map_cons, List.map_nil]
theorem wrE_snoc (es : List Ent) (p : Ent) : wrE (es ++ [p]) = if p.2 &&& 2 = 0 then wrE es else wrE es ++ [p.1] := by
 unfold wrE
 rw [List.filter_append, List.map_append]
 by_cases h : p.2 &&& 2 = 0
 ·have : (p.2 &&& 2 != 0) = false := by rw [h]; rfl
  rw [if_pos h]
  simp only [List.filter_cons, this, Bool.false_eq_true, if_false, List.filter_nil, List.map_nil, List.append_nil]
 ·have : (p.2 &&& 2 != 0) = true := by rw [bne_iff_ne]; exact h
  rw [if_neg h]
  simp only [List.filter_cons, this, if_true, List.filter_nil, List.map_cons, List.map_nil]
theorem lastE_snoc (es : List Ent) (p : Ent) : lastE (es ++ [p]) = p.1 := by simp [lastE]
structure At (b : List UInt8) (p0 : Nat) (es : List Ent) (g : GS) : Prop where
 hb : g.s.b = b
 he : g.s.err = 0
 hp : g.s.pos = p0 + (esB es).length
 hle : g.s.pos ≤ b.length
 ht : b.take g.s.pos = b.take p0 ++ esB es
 hl : g.last = lastE es
 hr : g.rd = rdE es
 hw : g.wr = wrE es
theorem tText32_ok {l v : List UInt8} {k : Nat} (h : tText 32 l = .ok (v, k)) : k = (encU v.length ++ v).length ∧ k ≤ l.length ∧ l.take k = encU v.length ++ v := by
 unfold tText tLim at h
 cases hq : num0 l with
 |error e => rw [hq] at h; cases h
 |ok x =>
  obtain ⟨n, j⟩ := x
  rw [hq] at h
  simp only at h
  have h1 := num0_ok hq
  have h2 := num0_back hq
  split at h
  ·rename_i hc
   split at hc
   ·cases hc
   ·cases hc
    split at h
    ·cases h
    ·rename_i hn
     cases h
     have hlen : ((l.drop j).take n).length = n := by rw [List.length_take, List.length_drop]; omega
     rw [hlen]
     have h3 : (encU n).length = j := by rw [h2, List.length_take]; omega
     refine ⟨by rw [List.length_append, h3, hlen], by omega, ?_⟩
     rw [List.take_add, h2]
  ·cases h
theorem tText32_enc (v t : List UInt8) (h : v.length ≤ 32) : tText 32 (encU v.length ++ (v ++ t)) = .ok (v, (encU v.length).length + v.length) := by
 unfold tText tLim
 rw [num0_enc _ (by omega)]
 simp only
 rw [if_neg (by omega)]
 simp only [List.length_append]
 rw [if_neg (by omega)]
 simp
theorem tLim_ne {most e x : Int} {l : List UInt8} (he : ¬ e = 0) (h : tLim most e l = .error x) : ¬ x = 0 := by
 unfold tLim at h
 cases hq : num0 l with
 |error y => rw [hq] at h; cases h; exact num0_err hq
 |ok y =>
  obtain ⟨n, j⟩ := y
  rw [hq] at h
  simp only at h
  split at h
  ·cases h; exact he
  ·cases h
theorem tText_ne {most x : Int} {l : List UInt8} (h : tText most l = .error x) : ¬ x = 0 := by
 unfold tText at h
 cases hq : tLim most 1 l with
 |error y => rw [hq] at h; cases h; exact tLim_ne (by decide) hq
 |ok y =>
  obtain ⟨n, j⟩ := y
  rw [hq] at h
  simp only at h
  split at h
  ·cases h; decide
  ·cases h
theorem fail_ne {s : RS} {e : Int} (he : ¬ e = 0) : ¬ (s.fail e).err = 0 := by
 unfold RS.fail
 split
 ·exact he
 ·rename_i h
  intro q
  exact h ⟨q, he⟩
theorem use_eq (g : GS) : gUse g = (gRise g).take (0 : Nat) tByte := rfl
theorem step_err {g : GS} (h : (gStep g).s.err = 0) : (gUse g).2.err = 0 ∧ 1 ≤ (gUse g).1 ∧ (gUse g).1 ≤ 3 := by
 have h : (gEnd g).err = 0 := h
 unfold gEnd at h
 split at h
 ·exact absurd h (fail_ne (by decide))
 ·exact ⟨h, by omega⟩
theorem take_ok_of {α : Type} {s : RS} {z : α} {t : List UInt8 → Except Int (α × Nat)} (hne : ∀ l x, t l = .error x → ¬ x = 0) (h : (s.take z t).2.err = 0) : s.err = 0 ∧ ∃ v k, t (s.b.drop s.pos) = .ok (v, k) ∧ s.take z t = (v, { s with pos := s.pos + k, last := s.pos }) := by
 unfold RS.take at h ⊢
 by_cases he : s.err = 0
 ·rw [if_pos he] at h ⊢
  cases hq : t (s.b.drop s.pos) with
  |ok y =>
   obtain ⟨v, k⟩ := y
   exact ⟨he, v, k, rfl, rfl⟩
  |error x =>
   rw [hq] at h
   exact absurd h (hne _ _ hq)
 ·rw [if_neg he] at h
  exact absurd h he
theorem byte_ne (l : List UInt8) (x : Int) (h : tByte l = .error x) : ¬ x = 0 := by
 unfold tByte at h
 split at h
 ·cases h; decide
 ·cases h
theorem step_ok {g : GS} (h : (gStep g).s.err = 0) : g.s.err = 0 ∧ ∃ v k c t, tText 32 (g.s.b.drop g.s.pos) = .ok (v, k) ∧ validT v = true ∧ ¬ v ≤ g.last ∧ g.s.b.drop (g.s.pos + k) = c :: t ∧ 1 ≤ c.toNat ∧ c.toNat ≤ 3 ∧
  gStep g = ⟨{ g.s with pos := g.s.pos + k + 1, last := g.s.pos + k }, v, if c.toNat &&& 1 = 0 then g.rd else g.rd ++ [v], if c.toNat &&& 2 = 0 then g.wr else g.wr ++ [v]⟩ := by
 obtain ⟨h1, h2, h3⟩ := step_err h
 rw [use_eq] at h1
 obtain ⟨q1, u, j, q2, q3⟩ := take_ok_of byte_ne h1
 have q0 := q1
 unfold gRise at q0
 split at q0
 ·exact absurd q0 (fail_ne (by decide))
 rename_i hv
 have q4 := q0
 unfold gKey at q4
 by_cases hk : validT (gText g).1 = true
 case neg => rw [if_neg hk] at q4; exact absurd q4 (fail_ne (by decide))
 rw [if_pos hk] at q4
 obtain ⟨q5, v, k, q6, q7⟩ := take_ok_of (fun l x => tText_ne) q4
 have eT : gText g = (v, { g.s with pos := g.s.pos + k, last := g.s.pos }) := q7
 have eK : gKey g = { g.s with pos := g.s.pos + k, last := g.s.pos } := by unfold gKey; rw [if_pos hk, eT]
 have eR : gRise g = { g.s with pos := g.s.pos + k, last := g.s.pos } := by unfold gRise; rw [if_neg hv, eK]
 rw [eT] at hv hk
 rw [eR] at q2 q3
 have eU : gUse g = (u, { g.s with pos := g.s.pos + k + j, last := g.s.pos + k }) := by rw [use_eq, eR, q3]
 rw [eU] at h2 h3
 simp only at h2 h3 hv hk q2
 have hc : ∃ c t, g.s.b.drop (g.s.pos + k) = c :: t ∧ u = c.toNat ∧ j = 1 := by
  unfold tByte at q2
  split at q2
  ·cases q2
  ·rename_i c t hc
   cases q2
   exact ⟨c, t, hc, rfl, rfl⟩
 obtain ⟨c, t, hc, rfl, rfl⟩ := hc
 refine ⟨q5, v, k, c, t, q6, hk, hv, hc, h2, h3, ?_⟩
 have eE : gEnd g = { g.s with pos := g.s.pos + k + 1, last := g.s.pos + k } := by
  unfold gEnd
  rw [eU]
  simp only
  rw [if_neg (by omega)]
 unfold gStep
 rw [eE, eT, eU]
theorem step_fwd {g : GS} {v : List UInt8} {k : Nat} {c : UInt8} {t : List UInt8} (h0 : g.s.err = 0) (h1 : tText 32 (g.s.b.drop g.s.pos) = .ok (v, k)) (h2 : validT v = true) (h3 : ¬ v ≤ g.last) (h4 : g.s.b.drop (g.s.pos + k) = c :: t) (h5 : 1 ≤ c.toNat) (h6 : c.toNat ≤ 3) :
  gStep g = ⟨{ g.s with pos := g.s.pos + k + 1, last := g.s.pos + k }, v, if c.toNat &&& 1 = 0 then g.rd else g.rd ++ [v], if c.toNat &&& 2 = 0 then g.wr else g.wr ++ [v]⟩ := by
 have eT : gText g = (v, { g.s with pos := g.s.pos + k, last := g.s.pos }) := by
  unfold gText RS.take
  rw [if_pos h0, h1]
 have eK : gKey g = { g.s with pos := g.s.pos + k, last := g.s.pos } := by unfold gKey; rw [eT, if_pos h2]
 have eR : gRise g = { g.s with pos := g.s.pos + k, last := g.s.pos } := by unfold gRise; rw [eT, if_neg h3, eK]
 have eU : gUse g = (c.toNat, { g.s with pos := g.s.pos + k + 1, last := g.s.pos + k }) := by
  rw [use_eq, eR]
  unfold RS.take
  rw [if_pos h0]
  simp only [h4, tByte]
 have eE : gEnd g = { g.s with pos := g.s.pos + k + 1, last := g.s.pos + k } := by
  unfold gEnd
  rw [eU]
  simp only
  rw [if_neg (by omega)]
 unfold gStep
 rw [eE, eT, eU]
def Ok1 (p : Ent) : Prop := validT p.1 = true ∧ 1 ≤ p.2 ∧ p.2 ≤ 3
theorem At.snoc {b : List UInt8} {p0 : Nat} {es : List Ent} {g : GS} (h : At b p0 es g) {v : List UInt8} {k : Nat} {c : UInt8} {t : List UInt8} (h1 : k = (encU v.length ++ v).length) (h2 : (b.drop g.s.pos).take k = encU v.length ++ v) (h4 : b.drop (g.s.pos + k) = c :: t) :
  At b p0 (es ++ [(v, c.toNat)]) ⟨{ g.s with pos := g.s.pos + k + 1, last := g.s.pos + k }, v, if c.toNat &&& 1 = 0 then g.rd else g.rd ++ [v], if c.toNat &&& 2 = 0 then g.wr else g.wr ++ [v]⟩ where
 hb := h.hb
 he := h.he
 hp := by
  have := h.hp
  rw [esB_snoc]
  simp only [eB, List.length_append, List.length_cons, List.length_nil] at h1 ⊢
  omega
 hle := by
  show g.s.pos + k + 1 ≤ b.length
  have : (b.drop (g.s.pos + k)).length = (c :: t).length := by rw [h4]
  rw [List.length_drop, List.length_cons] at this
  omega
 ht := by
  show b.take (g.s.pos + k + 1) = _
  rw [List.take_add, List.take_add, h.ht, h2, h4, esB_snoc]
  simp [eB, UInt8.ofNat_toNat]
 hl := by rw [lastE_snoc]
 hr := by rw [rdE_snoc, h.hr]
 hw := by rw [wrE_snoc, h.hw]
theorem le_of_not_lt' {a b : Tx} (h : ¬ a ≤ b) : b < a := by
 rcases Classical.em (b < a) with q | q
 ·exact q
 ·exact absurd (show a ≤ b from q) h
theorem last_mem {es : List Ent} {x : Tx} (hr : Rises (es.map (·.1))) (hx : x ∈ es.map (·.1)) : x = lastE es ∨ x < lastE es := by
 unfold lastE
 generalize es.map (·.1) = l at hr hx
 induction l with
 |nil => cases hx
 |cons y l ih =>
  have hr' := List.pairwise_cons.1 hr
  cases l with
  |nil => left; simpa using hx
  |cons z l =>
   have e : ((y :: z :: l).getLast?).getD [] = ((z :: l).getLast?).getD [] := by simp [List.getLast?_cons_cons]
   rw [e]
   rcases List.mem_cons.1 hx with q | q
   ·right
    rw [q]
    refine hr'.1 _ ?_
    rw [List.getLast?_eq_some_getLast (List.cons_ne_nil _ _)]
    exact List.getLast_mem _
   ·exact ih hr'.2 q
theorem rises_snoc {es : List Ent} {p : Ent} (hr : Rises (es.map (·.1))) (h : lastE es < p.1) : Rises ((es ++ [p]).map (·.1)) := by
 rw [List.map_append]
 refine List.pairwise_append.2 ⟨hr, by simp, fun x hx y hy => ?_⟩
 simp only [List.map_cons, List.map_nil, List.mem_singleton] at hy
 subst hy
 rcases last_mem hr hx with q | q
 ·rw [q]; exact h
 ·exact tx_trans q h
structure Good (es : List Ent) : Prop where
 up : Rises (es.map (·.1))
 ok : ∀ p ∈ es, Ok1 p
theorem run_back {b : List UInt8} {p0 : Nat} {g0 : GS} (h0 : At b p0 [] g0) : ∀ n, (gIter n g0).s.err = 0 → ∃ es, es.length = n ∧ Good es ∧ At b p0 es (gIter n g0)
 | 0, _ => ⟨[], rfl, ⟨List.Pairwise.nil, fun p hp => by cases hp⟩, h0⟩
 |n + 1, h => by
  have h : (gStep (gIter n g0)).s.err = 0 := h
  obtain ⟨q0, v, k, c, t, q1, q2, q3, q4, q5, q6, q7⟩ := step_ok h
  obtain ⟨es, e1, e2, e3⟩ := run_back h0 n q0
  obtain ⟨a1, a2, a3⟩ := tText32_ok q1
  rw [e3.hb] at q1 a2 a3 q4
  refine ⟨es ++ [(v, c.toNat)], by simp [e1], ⟨rises_snoc e2.up (by rw [← e3.hl]; exact le_of_not_lt' q3), fun p hp => ?_⟩, ?_⟩
  ·rcases List.mem_append.1 hp with hp | hp
   ·exact e2.ok p hp
   ·simp only [List.mem_singleton] at hp
    subst hp
    exact ⟨q2, q5, q6⟩
  ·show At b p0 _ (gStep (gIter n g0))
   rw [q7]
   exact e3.snoc a1 a3 q4
theorem valid_pos {t : Tx} (h : validT t = true) : 1 ≤ t.length ∧ t.length ≤ 32 := by
 simp only [validT, Bool.and_eq_true, decide_eq_true_eq] at h
 exact h.2
theorem run_fwd {b tail : List UInt8} {p0 : Nat} {g0 : GS} {es : List Ent} (h0 : At b p0 [] g0) (hg : Good es) (hb : b.drop p0 = esB es ++ tail) : ∀ n, n ≤ es.length → At b p0 (es.take n) (gIter n g0)
 | 0, _ => h0
 |n + 1, hn => by
  have ih := run_fwd h0 hg hb n (by omega)
  obtain ⟨p, hp⟩ : ∃ p, es[n] = p := ⟨_, rfl⟩
  have e1 : es.take (n + 1) = es.take n ++ [p] := by rw [List.take_succ_eq_append_getElem (by omega), hp]
  have e2 : es = es.take n ++ p :: es.drop (n + 1) := by
   rw [← hp, ← List.drop_eq_getElem_cons (by omega), List.take_append_drop]
  have hok := hg.ok p (by rw [← hp]; exact List.getElem_mem _)
  obtain ⟨v, u⟩ := p
  obtain ⟨o1, o2, o3⟩ := hok
  simp only at o1 o2 o3
  have hv := valid_pos o1
  have hd : b.drop (gIter n g0).s.pos = encU v.length ++ (v ++ (UInt8.ofNat u :: (esB (es.drop (n + 1)) ++ tail))) := by
   rw [ih.hp, ← List.drop_drop, hb]
   have e3 : esB es = esB (es.take n) ++ (eB (v, u) ++ esB (es.drop (n + 1))) := by
    conv => lhs; rw [e2]
    simp [esB]
   rw [e3, List.append_assoc, List.drop_left]
   simp [eB]
  have ht := tText32_enc v (UInt8.ofNat u :: (esB (es.drop (n + 1)) ++ tail)) hv.2
  rw [← hd] at ht
  have hc : b.drop ((gIter n g0).s.pos + ((encU v.length).length + v.length)) = UInt8.ofNat u :: (esB (es.drop (n + 1)) ++ tail) := by
   rw [← List.drop_drop, hd, ← List.append_assoc, ← List.length_append, List.drop_left]
  have hu : (UInt8.ofNat u).toNat = u := toNat_ofNat (by omega)
  have hlt : ¬ v ≤ (gIter n g0).last := by
   rw [ih.hl]
   have hup := hg.up
   rw [e2, List.map_append] at hup
   have h3 := (List.pairwise_append.1 hup).2.2
   intro hle
   have hlast : lastE (es.take n) < v := by
    unfold lastE
    cases hq : ((es.take n).map (·.1)).getLast? with
    |none =>
     simp only [Option.getD_none]
     cases v with
     |nil => simp at hv
     |cons a l => exact List.nil_lt_cons _ _
    |some x =>
     simp only [Option.getD_some]
     exact h3 x (List.mem_of_getLast? hq) v (by simp)
   exact (show ¬ lastE (es.take n) < v from hle) hlast
  have hs := step_fwd (g := gIter n g0) ih.he (by rw [ih.hb]; exact ht) o1 hlt (by rw [ih.hb]; exact hc) (by rw [hu]; exact o2) (by rw [hu]; exact o3)
  have h5 := ih.snoc (v := v) (k := (encU v.length).length + v.length) (by rw [List.length_append]) (by rw [hd, ← List.append_assoc, ← List.length_append, List.take_left]) hc
  show At b p0 _ (gStep (gIter n g0))
  rw [hs, e1]
  rw [hu] at h5 ⊢
  exact h5
theorem bits13 : ∀ u : Fin 4, 1 ≤ u.val → (if u.val &&& 1 ≠ 0 then 1 else 0) + (if u.val &&& 2 ≠ 0 then 2 else 0) = u.val := by decide
theorem mem_rdE {es : List Ent} {t : Tx} : t ∈ rdE es ↔ ∃ u, (t, u) ∈ es ∧ u &&& 1 ≠ 0 := by
 unfold rdE
 simp only [List.mem_map, List.mem_filter, bne_iff_ne]
 exact ⟨fun ⟨p, ⟨h1, h2⟩, e⟩ => ⟨p.2, by rw [← e]; exact h1, h2⟩, fun ⟨u, h1, h2⟩ => ⟨(t, u), ⟨h1, h2⟩, rfl⟩⟩
theorem mem_wrE {es : List Ent} {t : Tx} : t ∈ wrE es ↔ ∃ u, (t, u) ∈ es ∧ u &&& 2 ≠ 0 := by
 unfold wrE
 simp only [List.mem_map, List.mem_filter, bne_iff_ne]
 exact ⟨fun ⟨p, ⟨h1, h2⟩, e⟩ => ⟨p.2, by rw [← e]; exact h1, h2⟩, fun ⟨u, h1, h2⟩ => ⟨(t, u), ⟨h1, h2⟩, rfl⟩⟩
theorem uniq {es : List Ent} (hr : Rises (es.map (·.1))) {t : Tx} {u v : Nat} (h1 : (t, u) ∈ es) (h2 : (t, v) ∈ es) : u = v := by
 induction es with
 |nil => cases h1
 |cons p es ih =>
  have hr' := List.pairwise_cons.1 hr
  rcases List.mem_cons.1 h1 with q1 | q1 <;> rcases List.mem_cons.1 h2 with q2 | q2
  ·rw [← q1] at q2; injection q2 with _ q; exact q.symm
  ·have := hr'.1 t (List.mem_map.2 ⟨_, q2, rfl⟩); rw [← q1] at this; exact absurd this (tx_irrefl t)
  ·have := hr'.1 t (List.mem_map.2 ⟨_, q1, rfl⟩); rw [← q2] at this; exact absurd this (tx_irrefl t)
  ·exact ih hr'.2 q1 q2
theorem rises_rdE {es : List Ent} (h : Rises (es.map (·.1))) : Rises (rdE es) := h.sublist (List.Sublist.map _ List.filter_sublist)
theorem rises_wrE {es : List Ent} (h : Rises (es.map (·.1))) : Rises (wrE es) := h.sublist (List.Sublist.map _ List.filter_sublist)
theorem ent_set {es : List Ent} (h : Good es) : setT (rdE es ++ wrE es) = es.map (·.1) :=
 rises_eq (set_rises _) h.up fun t => by
  rw [set_mem, List.mem_append, mem_rdE, mem_wrE, List.mem_map]
  constructor
  ·rintro (⟨u, h1, _⟩ | ⟨u, h1, _⟩) <;> exact ⟨_, h1, rfl⟩
  ·rintro ⟨⟨t', u⟩, h1, rfl⟩
   have ho := h.ok _ h1
   have hb := bits13 ⟨u, by have := ho.2.2; simp at this; omega⟩ ho.2.1
   simp only at hb
   have := ho.2.1
   simp only at this
   by_cases q : u &&& 1 ≠ 0
   ·exact .inl ⟨u, h1, q⟩
   ·by_cases q2 : u &&& 2 ≠ 0
    ·exact .inr ⟨u, h1, q2⟩
    ·rw [if_neg q, if_neg q2] at hb; omega
theorem ent_bits {es : List Ent} (h : Good es) {t : Tx} {u : Nat} (hm : (t, u) ∈ es) : bitsM (ofM (rdE es) (wrE es)) t = u := by
 have ho := h.ok _ hm
 have hb := bits13 ⟨u, by have := ho.2.2; simp at this; omega⟩ ho.2.1
 simp only at hb
 rw [bits_of]
 have e1 : (t ∈ rdE es) ↔ u &&& 1 ≠ 0 := by
  rw [mem_rdE]
  exact ⟨fun ⟨v, h1, h2⟩ => by rw [uniq h.up hm h1]; exact h2, fun q => ⟨u, hm, q⟩⟩
 have e2 : (t ∈ wrE es) ↔ u &&& 2 ≠ 0 := by
  rw [mem_wrE]
  exact ⟨fun ⟨v, h1, h2⟩ => by rw [uniq h.up hm h1]; exact h2, fun q => ⟨u, hm, q⟩⟩
 simp only [e1, e2]
 exact hb
theorem ent_put {es : List Ent} (h : Good es) : putB (ofM (rdE es) (wrE es)) = encU es.length ++ esB es := by
 unfold putB bodyB esB
 rw [keys3, ent_set h, List.length_map, List.map_map]
 congr 2
 refine List.map_congr_left fun p hp => ?_
 obtain ⟨t, u⟩ := p
 show entryB _ t = eB (t, u)
 unfold entryB eB
 rw [ent_bits h hp]
theorem ent_norm {es : List Ent} (h : Good es) (hl : es.length ≤ 64) : isNorm (rdE es) (wrE es) = true := by
 have a1 : (rdE es).all validT = true := by
  rw [List.all_eq_true]
  intro t ht
  obtain ⟨u, hu, _⟩ := mem_rdE.1 ht
  exact (h.ok _ hu).1
 have a2 : (wrE es).all validT = true := by
  rw [List.all_eq_true]
  intro t ht
  obtain ⟨u, hu, _⟩ := mem_wrE.1 ht
  exact (h.ok _ hu).1
 have := norm_ok_of a1 a2 (by rw [ent_set h, List.length_map]; exact hl)
 unfold isNorm
 rw [this, set_of_rises (rises_rdE h.up), set_of_rises (rises_wrE h.up)]
 simp
theorem norm_of_is {r k : List Tx} (h : isNorm r k = true) : normF r k = ((r, k), 0) := by
 unfold isNorm at h
 have h := of_decide_eq_true h
 generalize normF r k = x at h
 obtain ⟨⟨a, b⟩, e⟩ := x
 obtain ⟨h1, h2, h3⟩ := h
 simp only at h1 h2 h3
 rw [h1, h2, h3]
def entsOf (r k : List Tx) : List Ent := (setT (r ++ k)).map fun t => (t, bitsM (ofM r k) t)
theorem ents_good {r k : List Tx} (h : isNorm r k = true) : Good (entsOf r k) ∧ (entsOf r k).length ≤ 64 ∧ rdE (entsOf r k) = r ∧ wrE (entsOf r k) = k := by
 obtain ⟨h1, h2, h3, h4, h5⟩ := norm_ok (norm_of_is h)
 have em : (entsOf r k).map (·.1) = setT (r ++ k) := by unfold entsOf; rw [List.map_map]; exact List.map_id' _
 have hm : ∀ p, p ∈ entsOf r k ↔ (p.1 ∈ r ∨ p.1 ∈ k) ∧ p.2 = bitsM (ofM r k) p.1 := fun p => by
  unfold entsOf
  rw [List.mem_map]
  constructor
  ·rintro ⟨t, ht, rfl⟩
   rw [set_mem, List.mem_append] at ht
   exact ⟨ht, rfl⟩
  ·rintro ⟨a, b⟩
   exact ⟨p.1, by rw [set_mem, List.mem_append]; exact a, by rw [← b]⟩
 have up : Rises ((entsOf r k).map (·.1)) := by rw [em]; exact set_rises _
 have hr' : Rises r := by rw [h3]; exact set_rises _
 have hk' : Rises k := by rw [h4]; exact set_rises _
 refine ⟨⟨up, fun p hp => ?_⟩, by unfold entsOf; rw [List.length_map]; exact h5, ?_, ?_⟩
 ·obtain ⟨a, b⟩ := (hm p).1 hp
  refine ⟨?_, ?_⟩
  ·rcases a with a | a
   ·exact List.all_eq_true.1 h1 _ a
   ·exact List.all_eq_true.1 h2 _ a
  ·rw [b, bits_of]
   rcases a with a | a <;> (rw [if_pos a]; split <;> omega)
 ·refine rises_eq (rises_rdE up) hr' fun t => ?_
  rw [mem_rdE]
  constructor
  ·rintro ⟨u, hu, hb⟩
   obtain ⟨a, b⟩ := (hm _).1 hu
   simp only at a b
   rw [b, bits_of] at hb
   apply Classical.byContradiction
   intro hn
   rw [if_neg hn] at hb
   split at hb <;> simp at hb
  ·intro ht
   refine ⟨bitsM (ofM r k) t, (hm _).2 ⟨.inl ht, rfl⟩, ?_⟩
   rw [bits_of, if_pos ht]
   split <;> decide
 ·refine rises_eq (rises_wrE up) hk' fun t => ?_
  rw [mem_wrE]
  constructor
  ·rintro ⟨u, hu, hb⟩
   obtain ⟨a, b⟩ := (hm _).1 hu
   simp only at a b
   rw [b, bits_of] at hb
   apply Classical.byContradiction
   intro hn
   rw [if_neg hn] at hb
   split at hb <;> simp at hb
  ·intro ht
   refine ⟨bitsM (ofM r k) t, (hm _).2 ⟨.inr ht, rfl⟩, ?_⟩
   rw [bits_of, if_pos ht]
   split <;> decide
theorem init_at {b : List UInt8} {n j : Nat} (h : num0 b = .ok (n, j)) (hn : n ≤ 64) : gInit b = (n, ⟨b, j, 0, 0, 0⟩) := by
 unfold gInit RS.take tLim
 simp only [if_true, List.drop_zero]
 rw [h]
 simp only
 rw [if_neg (by omega)]
 simp
theorem at0 {b : List UInt8} {n j : Nat} (h : num0 b = .ok (n, j)) : At b j [] ⟨⟨b, j, 0, 0, 0⟩, [], [], []⟩ :=
 ⟨rfl, rfl, by simp [esB], (num0_ok h).2.2, by simp [esB], rfl, rfl, rfl⟩
theorem get_put {r k : List Tx} (tail : List UInt8) (h : isNorm r k = true) : getF (putB (ofM r k) ++ tail) = (((r, k), (putB (ofM r k)).length), 0) := by
 obtain ⟨hg, hl, e1, e2⟩ := ents_good h
 generalize entsOf r k = es at hg hl e1 e2
 rw [← e1, ← e2, ent_put hg]
 have hb : num0 (encU es.length ++ esB es ++ tail) = .ok (es.length, (encU es.length).length) := by
  rw [List.append_assoc]
  exact num0_enc _ (by omega)
 generalize hB : encU es.length ++ esB es ++ tail = b at hb
 have ha := run_fwd (at0 hb) hg (tail := tail) (by rw [← hB, List.append_assoc, List.drop_left]) es.length (Nat.le_refl _)
 rw [List.take_length] at ha
 have hA : gAll b = gIter es.length ⟨⟨b, (encU es.length).length, 0, 0, 0⟩, [], [], []⟩ := by
  unfold gAll
  rw [init_at hb hl]
 rw [← hA] at ha
 unfold getF
 rw [if_pos ha.he]
 have hrest : (gAll b).s.rest = b.length - (gAll b).s.pos := by unfold RS.rest; rw [if_pos ha.he, ha.hb]
 have hle := ha.hle
 have hp := ha.hp
 rw [hrest, ha.hr, ha.hw]
 congr 2
 rw [List.length_append]
 omega
theorem put_get {b : List UInt8} (h : (getF b).2 = 0) : isNorm (getF b).1.1.1 (getF b).1.1.2 = true ∧ (getF b).1.2 ≤ b.length ∧ putB (ofM (getF b).1.1.1 (getF b).1.1.2) = b.take (getF b).1.2 := by
 by_cases he : (gAll b).s.err = 0
 case neg => unfold getF at h; rw [if_neg he] at h; exact absurd h he
 have hn : ∃ n j, num0 b = .ok (n, j) ∧ n ≤ 64 := by
  have h1 : ∀ n, ∀ g : GS, ¬ g.s.err = 0 → ¬ (gIter n g).s.err = 0 := by
   intro n g hg
   induction n with
   |zero => exact hg
   |succ n ih => exact fun q => ih (step_ok (g := gIter n g) q).1
  have h2 : (gInit b).2.err = 0 := Classical.byContradiction fun q => h1 (gInit b).1 ⟨(gInit b).2, [], [], []⟩ q he
  obtain ⟨_, v, k, h3, _⟩ := take_ok_of (fun l x hx => tLim_ne (by decide) hx) h2
  have h4 := tLim_le h3
  unfold tLim at h3
  cases hq : num0 b with
  |error e => simp only [List.drop_zero] at h3; rw [hq] at h3; cases h3
  |ok y =>
   obtain ⟨n, j⟩ := y
   simp only [List.drop_zero] at h3
   rw [hq] at h3
   simp only at h3
   split at h3
   ·cases h3
   ·cases h3
    exact ⟨_, _, rfl, by omega⟩
 obtain ⟨n, j, hb, hn⟩ := hn
 have hA : gAll b = gIter n ⟨⟨b, j, 0, 0, 0⟩, [], [], []⟩ := by
  unfold gAll
  rw [init_at hb hn]
 obtain ⟨es, e1, e2, e3⟩ := run_back (at0 hb) n (by rw [← hA]; exact he)
 rw [← hA] at e3
 have hrest : (gAll b).s.rest = b.length - (gAll b).s.pos := by unfold RS.rest; rw [if_pos he, e3.hb]
 have hle := e3.hle
 have hg : getF b = (((rdE es, wrE es), (gAll b).s.pos), 0) := by
  unfold getF
  rw [if_pos he, hrest, e3.hr, e3.hw]
  congr 2
  omega
 rw [hg]
 refine ⟨ent_norm e2 (by omega), hle, ?_⟩
 rw [ent_put e2]
 show _ = b.take (gAll b).s.pos
 rw [e3.ht, e1, num0_back hb]
end Go.Proofs.YtjlaomcankmdjaaGreat
namespace Go.Proofs.YtjlaomcankmdjaaGreat
open Go.Proofs.Eng Go.Proofs.Codec Go.Proofs.Foot Go.Proofs.Journal
theorem jbodyB_len (m : TM) : ∀ l : List Tx, (∀ t ∈ l, t.length ≤ 32) → (bodyB m l).length ≤ 43 * l.length
 | [], _ => by simp [bodyB]
 |t :: l, h => by
  have h1 := entryB_len m t (h t (by simp))
  have h2 := jbodyB_len m l (fun x hx => h x (by simp [hx]))
  unfold bodyB at h2 ⊢
  simp only [List.map_cons, List.flatten_cons, List.length_append, List.length_cons]
  omega
theorem jputB_len {r k : List Tx} (h : isNorm r k = true) : (putB (ofM r k)).length ≤ 4000 := by
 have h1 := (norm_short h).2
 rw [of_len3] at h1
 have h2 := jbodyB_len (ofM r k) _ (keys3_short h)
 have h3 := encU_len64 (n := (keysM (ofM r k) 3).length) (by omega)
 unfold putB
 rw [List.length_append]
 omega
structure EOk (e : EE) : Prop where
 sq : 0 ≤ e.sq ∧ e.sq ≤ 9223372036854775807
 ep : 0 ≤ e.ep ∧ e.ep ≤ 9223372036854775807
 rt : rightP e.p = 0
 ft : PFit e.p
theorem entB_app (b : List UInt8) (e : EE) : entB b e = b ++ (encU e.sq.toNat ++ (encU e.ep.toNat ++ (encU (reqB [] e.p.q).length ++ (reqB [] e.p.q ++ (UInt8.ofNat e.p.how.toNat :: putB (ofM e.p.rd e.p.wr)))))) := by
 unfold entB
 simp
theorem entB_len {e : EE} (h : EOk e) : (entB [] e).length ≤ 5100 := by
 obtain ⟨hc, hh, hn⟩ := right_ok h.rt
 have h1 := reqB_len (b := []) h.ft.q hc
 have h2 := jputB_len (show isNorm e.p.rd e.p.wr = true from hn)
 have := h.sq
 have := h.ep
 have u1 := encU_len64 (show e.sq.toNat < 2 ^ 64 by omega)
 have u2 := encU_len64 (show e.ep.toNat < 2 ^ 64 by omega)
 simp only [List.length_nil] at h1
 have u3 := encU_len64 (show (reqB [] e.p.q).length < 2 ^ 64 by omega)
 rw [entB_app]
 simp only [List.length_append, List.length_cons, List.length_nil]
 omega
theorem putEn_ok {e : EE} (h : EOk e) : putEn [] e = (entB [] e, 0) := by
 unfold putEn
 have := h.sq
 have := h.ep
 rw [if_neg (by omega), if_neg (fun q => q h.rt)]
theorem Lf.rest {s : RS} {B r : List UInt8} (h : Lf s B r) : s.rest = r.length ∧ B.drop (B.length - s.rest) = r := by
 obtain ⟨h1, rfl, h3⟩ := h
 have hl := congrArg List.length h3
 rw [List.length_drop] at hl
 unfold RS.rest
 rw [if_pos h1]
 refine ⟨hl, ?_⟩
 by_cases q : s.pos ≤ s.b.length
 ·rw [show s.b.length - (s.b.length - s.pos) = s.pos by omega, h3]
 ·rw [show s.b.length - (s.b.length - s.pos) = s.b.length by omega, ← h3, List.drop_length, List.drop_eq_nil_iff.2 (by omega)]
theorem getEn_put {e : EE} (h : EOk e) : getEn (entB [] e) = some e := by
 obtain ⟨hc, hh, hn⟩ := right_ok h.rt
 have hl := entB_len h
 have h1 := reqB_len (b := []) h.ft.q hc
 have hg := getR_put hc h.ft.q
 have hsq := h.sq
 have hep := h.ep
 have hp := get_put [] (show isNorm e.p.rd e.p.wr = true from hn)
 rw [List.append_nil] at hp
 have hb := entB_app [] e
 rw [List.nil_append] at hb
 simp only [List.length_nil] at h1
 generalize entB [] e = B at hl hb ⊢
 have l0 : Lf ⟨B, 0, 0, 0, 0⟩ B (encU e.sq.toNat ++ (encU e.ep.toNat ++ (encU (reqB [] e.p.q).length ++ (reqB [] e.p.q ++ (UInt8.ofNat e.p.how.toNat :: putB (ofM e.p.rd e.p.wr)))))) := by rw [← hb]; exact Lf.start B
 have hlen : (reqB [] e.p.q).length ≤ B.length := by rw [hb]; simp only [List.length_append, List.length_cons]; omega
 obtain ⟨s1, e1, l1⟩ := l0.num (by omega)
 obtain ⟨s2, e2, l2⟩ := l1.num (by omega)
 obtain ⟨s3, e3, l3⟩ := l2.text (most := (B.length : Int)) (by omega) (by omega)
 obtain ⟨s4, e4, l4⟩ := l3.byte
 have hho : (UInt8.ofNat e.p.how.toNat).toNat = e.p.how.toNat := toNat_ofNat (by omega)
 rw [hho] at e4
 have q1 : ge1 B = (e.sq.toNat, s1) := e1
 have q2 : ge2 B = (e.ep.toNat, s2) := by unfold ge2; rw [q1]; exact e2
 have q3 : ge3 B = (reqB [] e.p.q, s3) := by unfold ge3; rw [q2]; exact e3
 have q4 : ge4 B = (e.p.how.toNat, s4) := by unfold ge4; rw [q3]; exact e4
 obtain ⟨r1, r2⟩ := l4.rest
 have q5 : geF B = (((e.p.rd, e.p.wr), (putB (ofM e.p.rd e.p.wr)).length), 0) := by unfold geF; rw [q4]; simp only; rw [r2, hp]
 unfold getEn
 rw [q4, q1, q2, q3]
 simp only
 rw [if_neg (by rintro (q | q | q | q) <;> first | exact q l4.1 | omega), hg]
 unfold geQ
 simp only
 rw [q5, q4, q1, q2]
 simp only
 rw [if_pos ⟨trivial, r1.symm⟩]
 have a1 : ((e.sq.toNat : Nat) : Int) = e.sq := by omega
 have a2 : ((e.ep.toNat : Nat) : Int) = e.ep := by omega
 have a3 : ((e.p.how.toNat : Nat) : Int) = e.p.how := by omega
 rw [a1, a2, a3]
def Run (ep : Int) : Int → Nat → List EE → Prop
 | _, _, [] => True
 |last, n, e :: l => e.sq = (n : Int) ∧ last ≤ e.ep ∧ e.ep ≤ ep ∧ EOk e ∧ Run ep e.ep (n + 1) l
structure LOk (L : LE) : Prop where
 n : L.l.length ≤ 65536
 ep : 0 ≤ L.ep ∧ L.ep ≤ 9223372036854775807
 run : Run L.ep 0 0 L.l
theorem Run.snoc {ep : Int} : ∀ {l : List EE} {last : Int} {n : Nat} {e : EE}, Run ep last n l → e.sq = ((n + l.length : Nat) : Int) → (∀ x ∈ l, x.ep ≤ e.ep) → last ≤ e.ep → e.ep ≤ ep → EOk e → Run ep last n (l ++ [e])
 | [], last, n, e, _, h1, _, h3, h4, h5 => ⟨by simpa using h1, h3, h4, h5, trivial⟩
 |x :: l, last, n, e, h, h1, h2, _, h4, h5 => ⟨h.1, h.2.1, h.2.2.1, h.2.2.2.1, Run.snoc h.2.2.2.2 (by rw [h1, List.length_cons]; omega) (fun u hu => h2 u (List.mem_cons_of_mem _ hu)) (h2 x List.mem_cons_self) h4 h5⟩
theorem Run.mono {ep ep' : Int} (he : ep ≤ ep') : ∀ {l : List EE} {last : Int} {n : Nat}, Run ep last n l → Run ep' last n l
 | [], _, _, _ => trivial
 |x :: l, last, n, h => ⟨h.1, h.2.1, by have := h.2.2.1; omega, h.2.2.2.1, Run.mono he h.2.2.2.2⟩
theorem Run.le {ep : Int} : ∀ {l : List EE} {last : Int} {n : Nat}, Run ep last n l → ∀ x ∈ l, x.ep ≤ ep ∧ EOk x
 |y :: l, last, n, h, x, hx => by
  rcases List.mem_cons.1 hx with rfl | hx
  ·exact ⟨h.2.2.1, h.2.2.2.1⟩
  ·exact Run.le h.2.2.2.2 x hx
theorem first_none : ∀ {ps : List PE} {k : Nat}, firstP ps k = none → ∀ p ∈ ps, rightP p = 0
 | [], _, _, p, hp => by cases hp
 |q :: ps, k, h, p, hp => by
  unfold firstP at h
  by_cases c : rightP q = 0
  ·rw [if_neg (fun x => x c)] at h
   rcases List.mem_cons.1 hp with rfl | hp
   ·exact c
   ·exact first_none h p hp
  ·rw [if_pos c] at h; cases h
theorem first_some : ∀ {ps : List PE} {k e i : Nat}, firstP ps k = some (e, i) → e ≠ 0
 | [], _, _, _, h => by cases h
 |q :: ps, k, e, i, h => by
  unfold firstP at h
  by_cases c : rightP q = 0
  ·rw [if_neg (fun x => x c)] at h
   exact first_some h
  ·rw [if_pos c] at h; cases h; exact c
theorem app_ok {L : LE} {ep : Int} {ps : List PE} (h : (appL L ep ps).2.2.1 = 0) : L.ep ≤ ep ∧ 0 ≤ ep ∧ L.l.length + ps.length ≤ 65536 ∧ (∀ p ∈ ps, rightP p = 0) ∧ appL L ep ps = (addL L ep ps, (L.l.length : Int), 0, 0) := by
 unfold appL at h ⊢
 split at h
 ·cases h
 ·rename_i h1
  rw [if_neg h1]
  split at h
  ·cases h
  ·rename_i h2
   rw [if_neg h2]
   cases hf : firstP ps 0 with
   |some r =>
    rw [hf] at h
    exact absurd h (first_some hf)
   |none =>
    exact ⟨by omega, by omega, by omega, first_none hf, rfl⟩
theorem app_no {L : LE} {ep : Int} {ps : List PE} (h : (appL L ep ps).2.2.1 ≠ 0) : (appL L ep ps).1 = L ∧ (appL L ep ps).2.1 = 0 := by
 unfold appL at h ⊢
 split
 ·exact ⟨rfl, rfl⟩
 ·rename_i h1
  rw [if_neg h1] at h
  split
  ·exact ⟨rfl, rfl⟩
  ·rename_i h2
   rw [if_neg h2] at h
   cases hf : firstP ps 0 with
   |some r => exact ⟨rfl, rfl⟩
   |none => rw [hf] at h; exact absurd rfl h
theorem addK_run {L : LE} (hL : LOk L) {ep : Int} {ps : List PE} (h1 : L.ep ≤ ep) (h3 : ep ≤ 9223372036854775807) (h4 : ∀ p ∈ ps, rightP p = 0) (hf : ∀ p ∈ ps, PFit p) (hn : L.l.length + ps.length ≤ 65536) : ∀ i, i ≤ ps.length → Run ep 0 0 (addK L ep ps i).l
 | 0, _ => by
  have := hL.run.mono h1
  unfold addK
  simpa using this
 |i + 1, h => by
  have hi := addK_run hL h1 h3 h4 hf hn i (by omega)
  have hm : ps.getD i pe0 ∈ ps := by rw [List.getD_eq_getElem?_getD, List.getElem?_eq_getElem (by omega)]; exact List.getElem_mem _
  have hep := hL.ep
  rw [addK_succ]
  refine Run.snoc hi ?_ (fun x hx => (hi.le x hx).1) (by show 0 ≤ ep; omega) (Int.le_refl _) ⟨?_, ?_, h4 _ hm, hf _ hm⟩
  ·rw [addK_len]; simp
  ·constructor
   ·show (0 : Int) ≤ ((L.l.length + i : Nat) : Int); omega
   ·show ((L.l.length + i : Nat) : Int) ≤ _; omega
  ·exact ⟨by show 0 ≤ ep; omega, h3⟩
theorem addL_ok {L : LE} (hL : LOk L) {ep : Int} {ps : List PE} (h1 : L.ep ≤ ep) (h3 : ep ≤ 9223372036854775807) (h4 : ∀ p ∈ ps, rightP p = 0) (hf : ∀ p ∈ ps, PFit p) (hn : L.l.length + ps.length ≤ 65536) : LOk (addL L ep ps) := by
 have hep := hL.ep
 refine ⟨?_, ⟨?_, h3⟩, addK_run hL h1 h3 h4 hf hn ps.length (Nat.le_refl _)⟩
 ·show (addK L ep ps ps.length).l.length ≤ _
  rw [addK_len]; exact hn
 ·show 0 ≤ ep; omega
theorem appL_ok {L : LE} (hL : LOk L) {ep : Int} {ps : List PE} (h3 : ep ≤ 9223372036854775807) (hf : ∀ p ∈ ps, PFit p) : LOk (appL L ep ps).1 := by
 by_cases h : (appL L ep ps).2.2.1 = 0
 ·obtain ⟨a1, a2, a3, a4, a5⟩ := app_ok h
  rw [a5]
  exact addL_ok hL a1 h3 a4 hf a3
 ·rw [(app_no h).1]; exact hL
end Go.Proofs.YtjlaomcankmdjaaGreat
namespace Go.Proofs.YtjlaomcankmdjaaGreat
open Go.RowKit Go.Proofs.Eng Go.Proofs.Codec
set_option linter.unusedVariables false set_option maxRecDepth 10000
attribute [local irreducible] T TL LV TH TA
set_option maxHeartbeats 1000000
def numV : Except Int (Nat × Nat) → Value
 | .ok (r, k) => .tuple #[.int .u64 (r : Int), .int .i64 (k : Int), .int .i64 0]
 | .error e => .tuple #[.int .u64 0, .int .i64 0, .int .i64 e]
end Go.Proofs.YtjlaomcankmdjaaGreat
namespace Go.Proofs.YtjlaomcankmdjaaGreat
open Go.RowKit Go.Proofs.Eng Go.Proofs.Foot Go.Proofs.Codec
set_option linter.unusedVariables false set_option maxRecDepth 10000
attribute [local irreducible] T TL LV TH TA
theorem off_none (S : List Nat) : Off none S := fun _ h => by cases h
theorem Count_s (b : Nat) (s : RS) (A : Option Addr) (n c : Nat) (w : World) (h : Rdr w 218 b s A n c) :
  Ret Tryz.prog 150 [ptr b, .int .i64 64] w (fun v w' => v = .int .i64 (((s.take (0 : Nat) (tLim 64 6)).1 : Nat) : Int) ∧ Mod [b] w w' ∧ Rdr w' 218 b (s.take (0 : Nat) (tLim 64 6)).2 A n c) :=
 Count_c b s A n c 64 (by decide) w h
theorem Text_s (b : Nat) (s : RS) (A : Option Addr) (n c : Nat) (w : World) (h : Rdr w 218 b s A n c) :
  Ret Tryz.prog 121 [ptr b, .int .i64 32] w (fun v w' => v = .string (ofL (s.take ([] : List UInt8) (tText 32)).1) ∧ Mod [b] w w' ∧ Rdr w' 218 b (s.take ([] : List UInt8) (tText 32)).2 A n c) :=
 Text_c b s A n c 32 (by decide) w h
theorem Byte_s (b : Nat) (s : RS) (A : Option Addr) (n c : Nat) (w : World) (h : Rdr w 218 b s A n c) :
  Ret Tryz.prog 122 [ptr b] w (fun v w' => v = .int .u8 (((s.take (0 : Nat) tByte).1 : Nat) : Int) ∧ Mod [b] w w' ∧ Rdr w' 218 b (s.take (0 : Nat) tByte).2 A n c) :=
 Byte_c b s A n c w h
def more (l : List Tx) (t : Tx) (z : Nat) : List Tx := if z = 0 then l else l ++ [t]
structure GInv (tR : TypeId) (w w5 w' : World) (bR b6 : Nat) (s : RS) (A : Option Addr) (n c : Nat) (x y : Option Addr × Nat × Nat) (rd wr : List Tx) : Prop where
 ext : Ext w w'
 mod : Eng.Mod [bR, b6] w5 w'
 rdr : Rdr w' tR bR s A n c
 blk : Blk w' b6 43 [.slice x.1 x.2.1 x.2.2, .slice y.1 y.2.1 y.2.2]
 own1 : Own w' w5.heap.size 9 1 x.1 x.2.1 x.2.2 (sv rd)
 own2 : Own w' w5.heap.size 9 1 y.1 y.2.1 y.2.2 (sv wr)
 off1 : Off y.1 (blkL x.1)
 off2 : Off x.1 (blkL y.1)
 hR : w.heap.size ≤ bR
 hR5 : bR < w5.heap.size
 h6 : w.heap.size ≤ b6
 h65 : b6 < w5.heap.size
 hne : bR ≠ b6
 hA : Lo A w5.heap.size
 hA6 : Off A [b6]
theorem GInv.step {tR : TypeId} {w w5 w' w2 : World} {bR b6 : Nat} {s s' : RS} {A : Option Addr} {n c : Nat} {x y : Option Addr × Nat × Nat} {rd wr : List Tx} (I : GInv tR w w5 w' bR b6 s A n c x y rd wr) (m : Eng.Mod [bR] w' w2) (r : Rdr w2 tR bR s' A n c) : GInv tR w w5 w2 bR b6 s' A n c x y rd wr := by
 have z := I.mod.size
 have h1 := I.hR
 have h2 := I.hR5
 have h3 := I.hne
 exact ⟨Mod.step I.ext m (by simp; omega), Mod.step I.mod m (by simp), r, I.blk.mod m (by simp; omega), I.own1.mod m (Off.hi I.own1.hi (by omega)), I.own2.mod m (Off.hi I.own2.hi (by omega)), I.off1, I.off2, I.hR, I.hR5, I.h6, I.h65, I.hne, I.hA, I.hA6⟩
theorem GInv.ext2 {tR : TypeId} {w w5 w' w2 : World} {bR b6 : Nat} {s : RS} {A : Option Addr} {n c : Nat} {x y : Option Addr × Nat × Nat} {rd wr : List Tx} (I : GInv tR w w5 w' bR b6 s A n c x y rd wr) (m : Ext w' w2) : GInv tR w w5 w2 bR b6 s A n c x y rd wr :=
 ⟨I.ext.ext m, I.mod.ext m, I.rdr.ext m, I.blk.ext m, I.own1.ext m, I.own2.ext m, I.off1, I.off2, I.hR, I.hR5, I.h6, I.h65, I.hne, I.hA, I.hA6⟩
theorem Get_c (B : Option Addr) (nb cb : Nat) (b : List UInt8) (w : World) (hb : Rd w B nb 1 (bv b)) (hnb : nb ≤ 200000) :
  Ret Tryz.prog 125 [.slice B nb cb] w (fun v w' => ∃ u, v = .tuple #[u, .int .i64 ((getF b).1.2 : Nat), .int .i64 (getF b).2] ∧ Ext w w' ∧ FootO w' w.heap.size 9 u (getF b).1.1) := by
 have hlb := hb.1
 simp only [bv_length, Nat.mul_one] at hlb
 refine ret_T (n := 75) Tryz.func125 rfl rfl ?_
 repeat (first | refine T_seq ?_ | refine T_region ?_)
 refine TL_alloc TE (hk := ?_); intro b2 w2 e2 h2 h2' k2
 have z2 := e2.size
 repeat (first | refine T_seq ?_ | refine T_region ?_ | refine TL_nil ?_ | refine TL_move (hk := ?_) | refine TL_assign (hk := ?_))
 refine TL_call TE (hc := NewReader_c B nb cb b _ (hb.be e2) (by omega)) (hk := ?_)
 rintro _ w3 ⟨bR, A3, n3, c3, rfl, e3, hbR, hi3, lo3, rr⟩
 have z3 := e3.size
 have lR := rr.blk.lt
 have hn3 : b.length = n3 := rr.len
 repeat (first | refine T_seq ?_ | refine T_region ?_ | refine TL_nil ?_ | refine TL_assign (hk := ?_))
 refine TL_alloc TE (hk := ?_); intro b6 w4 e4 h6 h6' k6
 have k24 := (k2.be e3).be e4
 have rr4 := rr.ext e4
 have z4 := e4.size
 have e04 := (e2.ext e3).ext e4
 clear k2 rr
 repeat (first | refine T_seq ?_ | refine T_region ?_ | refine TL_nil ?_ | refine TL_move (hk := ?_) | refine TL_assign (hk := ?_))
 refine TL_call TE (hc := Count_s bR _ A3 n3 c3 w4 rr4) (hk := ?_)
 rintro _ w5 ⟨rfl, m5, rr5⟩
 obtain ⟨c0, hc0⟩ : ∃ c0, (RS.mk b 0 0 0 0).take (0 : Nat) (tLim 64 6) = c0 := ⟨_, rfl⟩
 have hgi : gInit b = c0 := hc0
 have hg64 := gInit_le b
 rw [hgi] at hg64
 rw [hc0] at rr5
 rw [hc0]
 have z5 := m5.size
 have e05 : Ext w w5 := Mod.step e04 m5 (by simp; omega)
 have k25 := k24.bm m5 (by simp; omega)
 have k65 := k6.bm m5 (by simp; omega)
 have hA3 : Lo A3 w5.heap.size := Lo.mono lo3 (by omega)
 obtain ⟨n0, hn0⟩ : ∃ n0, c0.1 = n0 := ⟨_, rfl⟩
 rw [hn0] at hg64 ⊢
 clear k24 k6 rr4 hb
 repeat (first | refine T_block ?_ | refine TL_nil ?_ | refine TL_move (hk := ?_))
 have I0 : GInv 218 w w5 w5 bR b6 c0.2 A3 n3 c3 (none, 0, 0) (none, 0, 0) [] [] := ⟨e05, Mod.refl _ _, rr5, k65, Own.nil _ _ _ _, Own.nil _ _ _ _, off_none _, off_none _, by omega, by omega, by omega, by omega, by omega, hA3, Off.lo lo3 (by omega)⟩
 have h25 : b2 < w3.heap.size := by omega
 refine T_loop (ι := (GS × Nat) × (Option Addr × Nat × Nat) × (Option Addr × Nat × Nat)) (fun i => [(16, .int .i64 (i.1.2 : Int)), (15, .int .i64 (n0 : Int)), (7, .string (ofL i.1.1.last)), (6, .pointer (some ⟨b6, 0, none⟩)), (5, ptr bR), (2, .pointer (some ⟨b2, 0, none⟩)), (0, .slice B nb cb)])
  (fun i w' => i.1.2 ≤ n0 ∧ i.1.1 = gIter i.1.2 ⟨c0.2, [], [], []⟩ ∧ GInv 218 w w5 w' bR b6 i.1.1.s A3 n3 c3 i.2.1 i.2.2 i.1.1.rd i.1.1.wr ∧ i.2.1.2.1 ≤ i.1.2 ∧ i.2.2.2.1 ≤ i.1.2) (fun i => n0 - i.1.2) ((⟨c0.2, [], [], []⟩, 0), (none, 0, 0), (none, 0, 0)) (.c rfl (.c rfl (.c rfl (.c rfl (.c rfl (.c rfl (.c rfl (.n))))))))
  ⟨Nat.zero_le _, rfl, I0, Nat.zero_le _, Nat.zero_le _⟩ ?_
 rintro ⟨⟨g, i⟩, x, y⟩ w6 ⟨hi, hg, I6, hnr, hnw⟩ ih
 simp only at hi hg I6 hnr hnw ih ⊢
 by_cases hlt : i < n0
 ·repeat (first | refine T_seq ?_ | refine T_region ?_ | refine T_cond_true rfl ?_ | refine T_block ?_ | refine T_skip ?_ | refine TL_lt_t (hk := ?_) | refine TL_nil ?_ | refine TL_move (hk := ?_))
  refine TL_call TE (hc := Text_s bR _ A3 n3 c3 w6 I6.rdr) (hk := ?_)
  rintro _ w7 ⟨rfl, m7, rr7⟩
  have I7 := I6.step m7 rr7
  obtain ⟨p, hp⟩ : ∃ p, g.s.take ([] : List UInt8) (tText 32) = p := ⟨_, rfl⟩
  have hgt : gText g = p := hp
  have hp32 := gText_le g
  have hu256 := gUse_lt g
  rw [hgt] at hp32
  rw [hp] at I7
  rw [hp]
  repeat (first | refine T_seq ?_ | refine T_region ?_ | refine TL_nil ?_ | refine TL_move (hk := ?_) | refine TL_assign (hk := ?_))
  refine TL_call TE (hc := Valid_c p.1 (by omega) _) (hk := ?_)
  rintro _ _ ⟨rfl, rfl⟩
  repeat (first | refine TL_nil ?_ | refine TL_not (hk := ?_))
  refine T_join (ι := Unit) (fun _ => [(8, .string (ofL p.1)), (16, .int .i64 (i : Int)), (15, .int .i64 (n0 : Int)), (7, .string (ofL g.last)), (6, .pointer (some ⟨b6, 0, none⟩)), (5, ptr bR), (2, .pointer (some ⟨b2, 0, none⟩)), (0, .slice B nb cb)])
   (fun _ w' => GInv 218 w w5 w' bR b6 (gKey g) A3 n3 c3 x y g.rd g.wr) (fun kk join => ?_) ?_
  ·by_cases hv : validT p.1 = true
   ·rw [hv]
    repeat (first | refine T_cond_false rfl ?_ | refine T_skip ?_)
    have hgk : gKey g = p.2 := by unfold gKey; rw [hgt, if_pos hv]
    exact T.sub (join () _ (by rw [hgk]; exact I7)) (.c rfl (.c rfl (.c rfl (.c rfl (.c rfl (.c rfl (.c rfl (.c rfl (.n)))))))))
   ·have hv' : validT p.1 = false := by simpa using hv
    rw [hv']
    repeat (first | refine T_region ?_ | refine T_cond_true rfl ?_ | refine TL_move (hk := ?_))
    refine TL_call TE (hc := Fail_c bR _ A3 n3 c3 30 _ I7.rdr) (hk := ?_)
    rintro _ w8 ⟨_, m8, rr8⟩
    repeat (refine TL_nil ?_)
    have hgk : gKey g = p.2.fail 30 := by unfold gKey; rw [hgt, if_neg hv]
    exact T.sub (join () _ (by rw [hgk]; exact I7.step m8 rr8)) (.c rfl (.c rfl (.c rfl (.c rfl (.c rfl (.c rfl (.c rfl (.c rfl (.n)))))))))
  rintro _ w8 I8
  clear I7 I6 rr7
  repeat (first | refine T_seq ?_ | refine T_region ?_ | refine TL_move (hk := ?_))
  refine TL_sle_d (hk := ?_)
  repeat (refine TL_nil ?_)
  refine T_join (ι := Unit) (fun _ => [(8, .string (ofL p.1)), (16, .int .i64 (i : Int)), (15, .int .i64 (n0 : Int)), (6, .pointer (some ⟨b6, 0, none⟩)), (5, ptr bR), (2, .pointer (some ⟨b2, 0, none⟩)), (0, .slice B nb cb)])
   (fun _ w' => GInv 218 w w5 w' bR b6 (gRise g) A3 n3 c3 x y g.rd g.wr) (fun kk join => ?_) ?_
  ·by_cases hv : p.1 ≤ g.last
   ·rw [decide_eq_true hv]
    repeat (first | refine T_region ?_ | refine T_cond_true rfl ?_ | refine TL_move (hk := ?_))
    refine TL_call TE (hc := Fail_c bR _ A3 n3 c3 31 _ I8.rdr) (hk := ?_)
    rintro _ w9 ⟨_, m9, rr9⟩
    repeat (refine TL_nil ?_)
    have hgk : gRise g = (gKey g).fail 31 := by unfold gRise; rw [hgt, if_pos hv]
    exact T.sub (join () _ (by rw [hgk]; exact I8.step m9 rr9)) (.c rfl (.c rfl (.c rfl (.c rfl (.c rfl (.c rfl (.c rfl (.n))))))))
   ·rw [decide_eq_false hv]
    repeat (first | refine T_cond_false rfl ?_ | refine T_skip ?_)
    have hgk : gRise g = gKey g := by unfold gRise; rw [hgt, if_neg hv]
    exact T.sub (join () _ (by rw [hgk]; exact I8)) (.c rfl (.c rfl (.c rfl (.c rfl (.c rfl (.c rfl (.c rfl (.n))))))))
  rintro _ w9 I9
  clear I8
  repeat (first | refine T_seq ?_ | refine T_region ?_ | refine TL_nil ?_ | refine TL_move (hk := ?_) | refine TL_assign (hk := ?_))
  refine TL_call TE (hc := Byte_s bR _ A3 n3 c3 w9 I9.rdr) (hk := ?_)
  rintro _ w10 ⟨rfl, m10, rr10⟩
  have I10 := I9.step m10 rr10
  obtain ⟨q, hq⟩ : ∃ q, (gRise g).take (0 : Nat) tByte = q := ⟨_, rfl⟩
  have hgu : gUse g = q := hq
  rw [hgu] at hu256
  rw [hq] at I10
  rw [hq]
  obtain ⟨u, hu⟩ : ∃ u, q.1 = u := ⟨_, rfl⟩
  rw [hu] at hu256 ⊢
  clear I9 rr10
  repeat (first | refine TL_nil ?_ | refine TL_assign (hk := ?_))
  refine T_seq ?_
  refine T_join (ι := Unit) (fun _ => [(9, .int .u8 (u : Int)), (8, .string (ofL p.1)), (7, .string (ofL p.1)), (16, .int .i64 (i : Int)), (15, .int .i64 (n0 : Int)), (6, .pointer (some ⟨b6, 0, none⟩)), (5, ptr bR), (2, .pointer (some ⟨b2, 0, none⟩)), (0, .slice B nb cb)])
   (fun _ w' => GInv 218 w w5 w' bR b6 (gEnd g) A3 n3 c3 x y g.rd g.wr) (fun kk join => ?_) ?_
  ·by_cases hv : u < 1
   ·repeat (first | refine T_seq ?_ | refine T_region ?_ | refine T_cond_true rfl ?_ | refine TL_lt_t (hk := ?_) | refine TL_nil ?_ | refine TL_move (hk := ?_) | refine TL_no (hk := ?_) | refine TL_pick_t (hk := ?_))
    refine TL_call TE (hc := Fail_c bR _ A3 n3 c3 31 _ I10.rdr) (hk := ?_)
    rintro _ w11 ⟨_, m11, rr11⟩
    repeat (refine TL_nil ?_)
    have hgk : gEnd g = q.2.fail 31 := by unfold gEnd; rw [hgu, hu, if_pos (.inl hv)]
    exact T.sub (join () _ (by rw [hgk]; exact I10.step m11 rr11)) (.c rfl (.c rfl (.c rfl (.c rfl (.c rfl (.c rfl (.c rfl (.c rfl (.c rfl (.n))))))))))
   ·by_cases hv3 : 3 < u
    ·repeat (first | refine T_seq ?_ | refine T_region ?_ | refine T_cond_true rfl ?_ | refine TL_lt_f (hk := ?_) | refine TL_gt_t (hk := ?_) | refine TL_nil ?_ | refine TL_move (hk := ?_) | refine TL_yes (hk := ?_) | refine TL_pick_f (hk := ?_))
     refine TL_call TE (hc := Fail_c bR _ A3 n3 c3 31 _ I10.rdr) (hk := ?_)
     rintro _ w11 ⟨_, m11, rr11⟩
     repeat (refine TL_nil ?_)
     have hgk : gEnd g = q.2.fail 31 := by unfold gEnd; rw [hgu, hu, if_pos (.inr hv3)]
     exact T.sub (join () _ (by rw [hgk]; exact I10.step m11 rr11)) (.c rfl (.c rfl (.c rfl (.c rfl (.c rfl (.c rfl (.c rfl (.c rfl (.c rfl (.n))))))))))
    ·repeat (first | refine T_seq ?_ | refine T_region ?_ | refine T_cond_false rfl ?_ | refine T_skip ?_ | refine TL_lt_f (hk := ?_) | refine TL_gt_f (hk := ?_) | refine TL_nil ?_ | refine TL_move (hk := ?_) | refine TL_yes (hk := ?_) | refine TL_pick_f (hk := ?_))
     have hgk : gEnd g = q.2 := by unfold gEnd; rw [hgu, hu, if_neg (by omega)]
     exact T.sub (join () _ (by rw [hgk]; exact I10)) (.c rfl (.c rfl (.c rfl (.c rfl (.c rfl (.c rfl (.c rfl (.c rfl (.c rfl (.n))))))))))
  rintro _ w11 I11
  clear I10
  repeat (first | refine T_seq ?_ | refine T_region ?_ | refine TL_move (hk := ?_))
  refine TL_and (hk := ?_); intro _
  refine TL_ne_d (hk := ?_)
  repeat (refine TL_nil ?_)
  refine T_join (ι := Option Addr × Nat × Nat) (fun _ => [(9, .int .u8 (u : Int)), (8, .string (ofL p.1)), (7, .string (ofL p.1)), (16, .int .i64 (i : Int)), (15, .int .i64 (n0 : Int)), (6, .pointer (some ⟨b6, 0, none⟩)), (5, ptr bR), (2, .pointer (some ⟨b2, 0, none⟩)), (0, .slice B nb cb)])
   (fun x' w' => GInv 218 w w5 w' bR b6 (gEnd g) A3 n3 c3 x' y (if u &&& 1 = 0 then g.rd else g.rd ++ [p.1]) g.wr ∧ x'.2.1 ≤ i + 1) (fun kk join => ?_) ?_
  ·by_cases hv : u &&& 1 = 0
   ·rw [if_pos hv] at join
    rw [show decide (((u &&& 1 : Nat) : Int) = 0) = true from decide_eq_true (by omega)]
    repeat (first | refine T_cond_false rfl ?_ | refine T_skip ?_)
    exact T.sub (join x _ ⟨I11, by omega⟩) (.c rfl (.c rfl (.c rfl (.c rfl (.c rfl (.c rfl (.c rfl (.c rfl (.c rfl (.n))))))))))
   ·rw [if_neg hv] at join
    rw [show decide (((u &&& 1 : Nat) : Int) = 0) = false from decide_eq_false (by omega)]
    have k6 := I11.blk
    have o1 := I11.own1
    repeat (first | refine T_region ?_ | refine T_cond_true rfl ?_ | refine TL_move (hk := ?_) | refine TL_load TE (hk := ?_) | refine TL_fieldAddr TE (hk := ?_))
    refine TL_buildSlice TE (hk := ?_); intro b12 w12 e12 h12 h12' k12
    replace k12 : Blk w12 b12 9 [.string (ofL p.1)] := k12
    have z12 := e12.size
    have o12 := o1.be e12
    have z11 := I11.mod.size
    refine TL_append TE (hk := ?_); intro A13 c13 w13 o13 m13 n13
    have J12 := I11.ext2 e12
    have h65 := I11.h65
    have hRR := I11.hR5
    have hne := I11.hne
    have h6 := I11.h6
    have z13 := m13.size
    have k13 := J12.blk.mod m13 (hi_not o12.hi h65)
    have rr13 := J12.rdr.mod m13 (hi_not o12.hi hRR) (Off.lohi J12.hA o12.hi)
    have own2 := J12.own2.mod m13 J12.off1
    have e13 : Ext w w13 := J12.ext.own m13 (Hi.mono o12.hi (by have := e05.size; omega))
    have mm13 : Eng.Mod [bR, b6] w5 w13 := Mod.step J12.mod m13 (fun z hz => .inr (by
     cases hx : x.1 with
     |none => rw [hx] at hz; simp [blkL] at hz
     |some ad => rw [hx] at hz; simp [blkL] at hz; rw [hz]; exact o12.hi ad hx))
    have noff : Off y.1 (blkL A13) := by
     intro ad had hm
     cases A13 with
     |none => simp [blkL] at hm
     |some a2 =>
      simp [blkL] at hm
      rcases n13 a2 rfl with h | h
      ·exact J12.off1 ad had (by rw [h]; simp [blkL, hm])
      ·have := J12.own2.lo ad had; omega
    have noff2 : Off A13 (blkL y.1) := by
     intro ad had hm
     cases hy : y.1 with
     |none => rw [hy] at hm; simp [blkL] at hm
     |some a2 =>
      rw [hy] at hm
      simp [blkL] at hm
      rcases n13 ad had with h | h
      ·exact J12.off2 ad h (by rw [hy]; simp [blkL, hm])
      ·have := J12.own2.lo a2 hy; omega
    clear k6 o1 k12 I11
    repeat (refine TL_fieldAddr TE (hk := ?_))
    refine TL_store TE (hk := ?_); intro w14 m14 z14 k14
    repeat (refine TL_nil ?_)
    refine T.sub (join (A13, x.2.1 + 1, c13) _ ⟨⟨Mod.step e13 m14 (by simp; omega), Mod.step mm13 m14 (by simp), rr13.mod m14 (by simp; omega) J12.hA6, k14, ?_, own2.mod m14 (Off.hi own2.hi (by omega)), noff, noff2, J12.hR, J12.hR5, J12.h6, J12.h65, J12.hne, J12.hA, J12.hA6⟩, by show x.2.1 + 1 ≤ i + 1; omega⟩) (.c rfl (.c rfl (.c rfl (.c rfl (.c rfl (.c rfl (.c rfl (.c rfl (.c rfl (.n))))))))))
    rw [sv_append]
    exact o13.mod m14 (Off.hi o13.hi (by omega))
  rintro x' w12 ⟨I12, hnx⟩
  obtain ⟨rd', hrd⟩ : ∃ rd', (if u &&& 1 = 0 then g.rd else g.rd ++ [p.1]) = rd' := ⟨_, rfl⟩
  rw [hrd] at I12
  repeat (first | refine T_seq ?_ | refine T_region ?_ | refine TL_move (hk := ?_))
  refine TL_and (hk := ?_); intro _
  refine TL_ne_d (hk := ?_)
  repeat (refine TL_nil ?_)
  refine T_join (ι := Option Addr × Nat × Nat) (fun _ => [(9, .int .u8 (u : Int)), (8, .string (ofL p.1)), (7, .string (ofL p.1)), (16, .int .i64 (i : Int)), (15, .int .i64 (n0 : Int)), (6, .pointer (some ⟨b6, 0, none⟩)), (5, ptr bR), (2, .pointer (some ⟨b2, 0, none⟩)), (0, .slice B nb cb)])
   (fun y' w' => GInv 218 w w5 w' bR b6 (gEnd g) A3 n3 c3 x' y' rd' (if u &&& 2 = 0 then g.wr else g.wr ++ [p.1]) ∧ y'.2.1 ≤ i + 1) (fun kk join => ?_) ?_
  ·by_cases hv : u &&& 2 = 0
   ·rw [if_pos hv] at join
    rw [show decide (((u &&& 2 : Nat) : Int) = 0) = true from decide_eq_true (by omega)]
    repeat (first | refine T_cond_false rfl ?_ | refine T_skip ?_)
    exact T.sub (join y _ ⟨I12, by omega⟩) (.c rfl (.c rfl (.c rfl (.c rfl (.c rfl (.c rfl (.c rfl (.c rfl (.c rfl (.n))))))))))
   ·rw [if_neg hv] at join
    rw [show decide (((u &&& 2 : Nat) : Int) = 0) = false from decide_eq_false (by omega)]
    have k6 := I12.blk
    have o1 := I12.own2
    repeat (first | refine T_region ?_ | refine T_cond_true rfl ?_ | refine TL_move (hk := ?_) | refine TL_load TE (hk := ?_) | refine TL_fieldAddr TE (hk := ?_))
    refine TL_buildSlice TE (hk := ?_); intro b12 w12 e12 h12 h12' k12
    replace k12 : Blk w12 b12 9 [.string (ofL p.1)] := k12
    have z12 := e12.size
    have o12 := o1.be e12
    have z11 := I12.mod.size
    refine TL_append TE (hk := ?_); intro A13 c13 w13 o13 m13 n13
    have J12 := I12.ext2 e12
    have h65 := I12.h65
    have hRR := I12.hR5
    have hne := I12.hne
    have h6 := I12.h6
    have z13 := m13.size
    have k13 := J12.blk.mod m13 (hi_not o12.hi h65)
    have rr13 := J12.rdr.mod m13 (hi_not o12.hi hRR) (Off.lohi J12.hA o12.hi)
    have own1 := J12.own1.mod m13 J12.off2
    have e13 : Ext w w13 := J12.ext.own m13 (Hi.mono o12.hi (by have := e05.size; omega))
    have mm13 : Eng.Mod [bR, b6] w5 w13 := Mod.step J12.mod m13 (fun z hz => .inr (by
     cases hx : y.1 with
     |none => rw [hx] at hz; simp [blkL] at hz
     |some ad => rw [hx] at hz; simp [blkL] at hz; rw [hz]; exact o12.hi ad hx))
    have noff : Off x'.1 (blkL A13) := by
     intro ad had hm
     cases A13 with
     |none => simp [blkL] at hm
     |some a2 =>
      simp [blkL] at hm
      rcases n13 a2 rfl with h | h
      ·exact J12.off2 ad had (by rw [h]; simp [blkL, hm])
      ·have := J12.own1.lo ad had; omega
    have noff2 : Off A13 (blkL x'.1) := by
     intro ad had hm
     cases hy : x'.1 with
     |none => rw [hy] at hm; simp [blkL] at hm
     |some a2 =>
      rw [hy] at hm
      simp [blkL] at hm
      rcases n13 ad had with h | h
      ·exact J12.off1 ad h (by rw [hy]; simp [blkL, hm])
      ·have := J12.own1.lo a2 hy; omega
    clear k6 o1 k12 I12
    repeat (refine TL_fieldAddr TE (hk := ?_))
    refine TL_store TE (hk := ?_); intro w14 m14 z14 k14
    repeat (refine TL_nil ?_)
    refine T.sub (join (A13, y.2.1 + 1, c13) _ ⟨⟨Mod.step e13 m14 (by simp; omega), Mod.step mm13 m14 (by simp), rr13.mod m14 (by simp; omega) J12.hA6, k14, own1.mod m14 (Off.hi own1.hi (by omega)), ?_, noff2, noff, J12.hR, J12.hR5, J12.h6, J12.h65, J12.hne, J12.hA, J12.hA6⟩, by show y.2.1 + 1 ≤ i + 1; omega⟩) (.c rfl (.c rfl (.c rfl (.c rfl (.c rfl (.c rfl (.c rfl (.c rfl (.c rfl (.n))))))))))
    rw [sv_append]
    exact o13.mod m14 (Off.hi o13.hi (by omega))
  rintro y' w13 ⟨I13, hny⟩
  obtain ⟨wr', hwr⟩ : ∃ wr', (if u &&& 2 = 0 then g.wr else g.wr ++ [p.1]) = wr' := ⟨_, rfl⟩
  rw [hwr] at I13
  have hstep : gStep g = ⟨gEnd g, p.1, rd', wr'⟩ := by unfold gStep; rw [hgt, hgu, hu, hrd, hwr]
  repeat (first | refine T_region ?_ | refine T_inBlock ?_ | refine TL_add (hk := ?_) | refine TL_nil ?_ | refine TL_move (hk := ?_))
  refine ih ((⟨gEnd g, p.1, rd', wr'⟩, i + 1), x', y') _ _ (by simp only; omega) ⟨by show i + 1 ≤ n0; omega, ?_, I13, hnx, hny⟩ (.c rfl (.c rfl (.c rfl (.c rfl (.c rfl (.c rfl (.c rfl (.n))))))))
  show _ = gStep (gIter i _)
  rw [← hg, hstep]
 ·have hin : i = n0 := by omega
  have hall : gAll b = g := by unfold gAll; rw [hgi, hn0, ← hin]; exact hg.symm
  repeat (first | refine T_seq ?_ | refine T_region ?_ | refine T_cond_false rfl ?_ | refine T_exit rfl ?_ | refine TL_lt_f (hk := ?_) | refine TL_nil ?_ | refine TL_move (hk := ?_))
  refine TL_call TE (hc := Why_c bR _ A3 n3 c3 w6 I6.rdr) (hk := ?_)
  rintro _ w7 ⟨rfl, e7⟩
  have I7 := I6.ext2 e7
  have k27 : Blk w7 b2 43 [.slice none 0 0, .slice none 0 0] := (k25.mod I6.mod (by simp; omega)).ext e7
  have hrest : g.s.rest ≤ nb := by
   have h1 := I7.rdr.len
   unfold RS.rest
   split <;> omega
  clear I6
  by_cases he : g.s.err = 0
  ·have hf : getF b = (((g.rd, g.wr), b.length - g.s.rest), 0) := by unfold getF; rw [hall, if_pos he]
   rw [hf]
   repeat (first | refine T_seq ?_ | refine T_region ?_ | refine T_cond_false rfl ?_ | refine T_skip ?_ | refine TL_ne_f (hk := ?_) | refine TL_nil ?_ | refine TL_move (hk := ?_) | refine TL_assign (hk := ?_) | refine TL_extract (hk := ?_))
   refine T_region_any TE.mixed [b2] ?_; intro w8 e8 z8
   have I8 := I7.ext2 e8
   have k28 := k27.ext e8
   have h62 : b6 ∉ [b2] := by simp; omega
   refine TA_take 0 rfl (by kernel_rfl) (by kernel_rfl) (by kernel_rfl) ?_
   refine TLP_loadb TE (cs := [.slice x.1 x.2.1 x.2.2, .slice y.1 y.2.1 y.2.2]) (o := 0) (hb := I8.blk) (hD := h62) (hk := ?_)
   refine TL_nil_p ?_
   (refine TA_take 1 rfl (by kernel_rfl) (by kernel_rfl) (by kernel_rfl) ?_; (repeat (first | refine TL_move (hk := ?_) | refine TL_len TE (hk := ?_))); refine TL_nil_p ?_); (refine TA_take 2 rfl (by kernel_rfl) (by kernel_rfl) (by kernel_rfl) ?_; (repeat (first | refine TL_move (hk := ?_) | refine TL_len TE (hk := ?_))); refine TL_nil_p ?_); (refine TA_take 3 rfl (by kernel_rfl) (by kernel_rfl) (by kernel_rfl) ?_; (repeat (first | refine TL_move (hk := ?_) | refine TL_len TE (hk := ?_))); refine TL_nil_p ?_)
   refine TA_one 4 rfl (by kernel_rfl) (by kernel_rfl) ?_
   refine TL_call TE (hc := Rest_c bR _ A3 n3 c3 w8 I8.rdr) (hq := fun v w' h => h.2.un) (hk := ?_)
   rintro _ w9 ⟨rfl, e9⟩
   have I9 := I8.ext2 e9
   have k29 := k28.ext e9
   refine TL_nil_p ?_
   (refine TA_take 5 rfl (by kernel_rfl) (by kernel_rfl) (by kernel_rfl) ?_; (repeat (refine TL_sub (hk := ?_))); refine TL_nil_p ?_)
   refine TA_one 6 rfl (by kernel_rfl) (by kernel_rfl) ?_
   refine TL_storea TE (hf := rfl) (hq := fun w' h _ => e9.un.trans h) (hk := ?_); intro w10 m10 z10 k10
   refine TL_nil_p ?_
   (refine TA_take 7 rfl (by kernel_rfl) (by kernel_rfl) (by kernel_rfl) ?_; (repeat (refine TL_assign (hk := ?_))); refine TL_nil_p ?_); (refine TA_take 8 rfl (by kernel_rfl) (by kernel_rfl) (by kernel_rfl) ?_; (repeat (refine TL_assign (hk := ?_))); refine TL_nil_p ?_)
   refine TA_done (by kernel_rfl) ?_
   --
   have hsub : (((nb : Nat) : Int) - ((g.s.rest : Nat) : Int)) = ((b.length - g.s.rest : Nat) : Int) := by omega
   have z6 := I9.mod.size
   refine T_retA3 TE (vs := [.slice x.1 x.2.1 x.2.2, .slice y.1 y.2.1 y.2.2]) (o := 0) rfl rfl rfl rfl rfl rfl k10 rfl (Nat.succ_pos _) ⟨.agg #[.slice x.1 x.2.1 x.2.2, .slice y.1 y.2.1 y.2.2], ?_, Mod.step I9.ext m10 (by simp; omega), x.1, x.2.1, x.2.2, y.1, y.2.1, y.2.2, rfl, ?_, ?_, I9.off1⟩
   ·rw [hsub]
   ·exact (I9.own1.mod m10 (Off.hi I9.own1.hi (by omega))).weaken (by have := e05.size; omega)
   ·exact (I9.own2.mod m10 (Off.hi I9.own2.hi (by omega))).weaken (by have := e05.size; omega)
  ·have hf : getF b = ((([], []), 0), g.s.err) := by unfold getF; rw [hall, if_neg he]
   rw [hf]
   repeat (first | refine T_seq ?_ | refine T_region ?_ | refine T_cond_true rfl ?_ | refine TL_ne_t (hk := ?_) | refine TL_nil ?_ | refine TL_move (hk := ?_) | refine TL_assign (hk := ?_) | refine TL_extract (hk := ?_) | refine TL_build TE (hk := ?_))
   refine TL_storea TE (hk := ?_); intro w8 m8 s8 k8
   repeat (first | refine TL_nil ?_ | refine TL_assign (hk := ?_))
   exact T_retA3 TE (vs := [.slice none 0 0, .slice none 0 0]) (o := 0) rfl rfl rfl rfl rfl rfl k8 rfl (Nat.succ_pos _) ⟨.agg #[.slice none 0 0, .slice none 0 0], rfl, Mod.step I7.ext m8 (by simp; omega), FootO.nil _ _ _⟩
end Go.Proofs.YtjlaomcankmdjaaGreat
namespace Go.Proofs.YtjlaomcankmdjaaGreat
open Go.RowKit Go.Proofs.Eng Go.Proofs.Codec Go.Proofs.Foot Go.Proofs.Journal
set_option linter.unusedVariables false set_option maxRecDepth 10000
attribute [local irreducible] T TL LV TH TA
set_option maxHeartbeats 1600000
theorem Of_c (z : Int) (w : World) : Ret Tryz.prog 198 [.int .i64 z] w (fun v w' => v = vA ⟨1, z, []⟩ ∧ Ext w w') := by
 refine ret_T (n := 5) Tryz.func198 rfl rfl ?_
 repeat (first | refine T_seq ?_ | refine T_region ?_)
 refine TL_alloc TE (hk := ?_); intro b2 w2 e2 h2 h2' k2
 repeat (first | refine T_seq ?_ | refine T_region ?_ | refine TL_nil ?_ | refine TL_move (hk := ?_) | refine TL_build TE (hk := ?_))
 refine TL_storea TE (hk := ?_); intro w4 m4 z4 k4
 have z2 := e2.size
 repeat (refine TL_nil ?_)
 refine T_retA1 TE (vs := [.int .i64 1, .int .i64 z, .string (ofL [])]) (o := 0) rfl rfl rfl rfl k4 rfl (Nat.succ_pos _) ⟨rfl, Mod.step e2 m4 (fun u hu => .inr (by rw [List.mem_singleton.1 hu]; omega))⟩
theorem Word_c (t : List UInt8) (w : World) : Ret Tryz.prog 200 [.string (ofL t)] w (fun v w' => v = vA ⟨2, 0, t⟩ ∧ Ext w w') := by
 refine ret_T (n := 5) Tryz.func200 rfl rfl ?_
 repeat (first | refine T_seq ?_ | refine T_region ?_)
 refine TL_alloc TE (hk := ?_); intro b2 w2 e2 h2 h2' k2
 repeat (first | refine T_seq ?_ | refine T_region ?_ | refine TL_nil ?_ | refine TL_move (hk := ?_) | refine TL_build TE (hk := ?_))
 refine TL_storea TE (hk := ?_); intro w4 m4 z4 k4
 have z2 := e2.size
 repeat (refine TL_nil ?_)
 refine T_retA1 TE (vs := [.int .i64 2, .int .i64 0, .string (ofL t)]) (o := 0) rfl rfl rfl rfl k4 rfl (Nat.succ_pos _) ⟨rfl, Mod.step e2 m4 (fun u hu => .inr (by rw [List.mem_singleton.1 hu]; omega))⟩
set_option maxHeartbeats 1600000
theorem VTake_c (b : Nat) (s : RS) (A : Option Addr) (n c : Nat) (w : World) (h : Rdr w 218 b s A n c) (hA : Lo A w.heap.size) :
  Ret Tryz.prog 171 [ptr b] w (fun v w' => v = vA (takeV s).1 ∧ Eng.Mod [b] w w' ∧ Rdr w' 218 b (takeV s).2 A n c) := by
 have hbl := h.blk.lt
 unfold takeV
 refine ret_T (n := 41) Tryz.func171 rfl rfl ?_
 repeat (first | refine T_seq ?_ | refine T_region ?_)
 refine TL_alloc TE (hk := ?_); intro b2 w2 e2 h2 h2' k2
 repeat (first | refine T_seq ?_ | refine T_region ?_ | refine TL_nil ?_)
 refine TL_alloc TE (hk := ?_); intro b3 w3 e3 h3 h3' k3
 have k23 := k2.be e3
 have z2 := e2.size
 have z3 := e3.size
 have h3' := h.ext (e2.ext e3)
 clear k2
 repeat (first | refine T_seq ?_ | refine T_region ?_ | refine TL_nil ?_ | refine TL_move (hk := ?_))
 refine TL_call TE (hc := Byte_c b s A n c w3 h3') (hk := ?_)
 rintro _ w4 ⟨rfl, m4, h4⟩
 obtain ⟨x, hx⟩ : ∃ x, (s.take (0 : Nat) tByte).1 = x := ⟨_, rfl⟩
 obtain ⟨s1, hs1⟩ : ∃ s1, (s.take (0 : Nat) tByte).2 = s1 := ⟨_, rfl⟩
 rw [hs1] at h4
 rw [hx, hs1]
 have d2 : b2 ∉ [b] := fun q => by rw [List.mem_singleton] at q; omega
 have d3 : b3 ∉ [b] := fun q => by rw [List.mem_singleton] at q; omega
 have k24 := k23.mod m4 d2
 have k34 : Blk w4 b3 161 [.int .i64 0, .int .i64 0, .string (ofL [])] := k3.mod m4 d3
 have z4 := m4.size
 have off2 : Off A [b2] := Off.lo hA (by omega)
 have off3 : Off A [b3] := Off.lo hA (by omega)
 have M04 : Eng.Mod [b] w w4 := ((e2.ext e3).mono (fun u hu => by cases hu)).trans m4
 clear k23 k3 h3'
 by_cases c1 : x = 1
 ·obtain ⟨z, hz⟩ : ∃ z, (s1.take (0 : Int) tInt).1 = z := ⟨_, rfl⟩
  obtain ⟨s2, hs2⟩ : ∃ s2, (s1.take (0 : Int) tInt).2 = s2 := ⟨_, rfl⟩
  rw [show takeV0 s1 x = (⟨1, z, []⟩, s2) by unfold takeV0; rw [if_pos c1, hz, hs2]]
  repeat (first | refine T_seq ?_ | refine T_region ?_ | refine T_cond_true rfl ?_ | refine T_block ?_ | refine TL_eq_t (hk := ?_) | refine TL_nil ?_ | refine TL_move (hk := ?_) | refine TL_assign (hk := ?_))
  refine TL_call TE (hc := Int_c b s1 A n c w4 h4) (hk := ?_)
  rintro _ w5 ⟨rfl, m5, h5⟩
  rw [hz]
  rw [hs2] at h5
  have z5 := m5.size
  --
  refine TL_call TE (hc := Of_c z w5) (hk := ?_)
  rintro _ w6 ⟨rfl, e6⟩
  have z6 := e6.size
  have k26 := (k24.mod m5 d2).be e6
  have k36 := (k34.mod m5 d3).be e6
  have h6 := h5.ext e6
  --
  refine TL_storea TE (hk := ?_); intro w7 m7 z7 k7
  replace k7 : Blk w7 b3 161 [.int .i64 1, .int .i64 z, .string (ofL [])] := k7
  have k27 := k26.mod m7 (by simp; omega)
  have h7 := h6.mod m7 (fun q => by rw [List.mem_singleton] at q; omega) off3
  have M7 : Eng.Mod [b] w w7 := ((M04.trans m5).trans (e6.mono (fun u hu => by cases hu))).step m7 (fun u hu => .inr (by rw [List.mem_singleton.1 hu]; omega))
  repeat (first | refine T_seq ?_ | refine T_region ?_ | refine T_inBlock ?_ | refine TL_nil ?_ | refine TL_move (hk := ?_))
  refine TL_call TE (hc := Why_c b s2 A n c w7 h7) (hk := ?_)
  rintro _ w20 ⟨rfl, e20⟩
  have k220 := k27.be e20
  have k320 := k7.be e20
  have R20 := h7.ext e20
  have M20 : Eng.Mod [b] w w20 := M7.trans (e20.mono (fun u hu => by cases hu))
  have z20 := e20.size
  by_cases ce : (s2).err = 0
  ·rw [show endV ((⟨1, z, []⟩ : VE), s2) = ((⟨1, z, []⟩ : VE), s2) from if_neg (fun q => q ce)]
   repeat (first | refine T_seq ?_ | refine T_region ?_ | refine T_cond_false rfl ?_ | refine T_skip ?_ | refine TL_ne_f (hk := ?_) | refine TL_nil ?_ | refine TL_move (hk := ?_) | refine TL_assign (hk := ?_) | refine TL_extract (hk := ?_))
   refine TL_loadb TE (cs := [.int .i64 1, .int .i64 z, .string (ofL [])]) (o := 0) rfl rfl k320 rfl rfl (Nat.succ_pos _) (hk := ?_)
   --
   refine TL_storea TE (hk := ?_); intro w21 m21 z21 k21
   repeat (refine TL_nil ?_)
   refine T_retA1 TE (vs := [.int .i64 1, .int .i64 z, .string (ofL [])]) (o := 0) rfl rfl rfl rfl k21 rfl (Nat.succ_pos _) ⟨rfl, M20.step m21 (fun u hu => .inr (by rw [List.mem_singleton.1 hu]; omega)), R20.mod m21 (fun q => by rw [List.mem_singleton] at q; omega) off2⟩
  ·rw [show endV ((⟨1, z, []⟩ : VE), s2) = (vz, s2) from if_pos ce]
   repeat (first | refine T_seq ?_ | refine T_region ?_ | refine T_cond_true rfl ?_ | refine TL_ne_t (hk := ?_) | refine TL_nil ?_ | refine TL_move (hk := ?_) | refine TL_assign (hk := ?_) | refine TL_extract (hk := ?_) | refine TL_build TE (hk := ?_))
   refine TL_storea TE (hk := ?_); intro w21 m21 z21 k21
   repeat (refine TL_nil ?_)
   refine T_retA1 TE (vs := [.int .i64 0, .int .i64 0, .string (ofL [])]) (o := 0) rfl rfl rfl rfl k21 rfl (Nat.succ_pos _) ⟨rfl, M20.step m21 (fun u hu => .inr (by rw [List.mem_singleton.1 hu]; omega)), R20.mod m21 (fun q => by rw [List.mem_singleton] at q; omega) off2⟩
 by_cases c2 : x = 2
 ·obtain ⟨t, ht⟩ : ∃ t, (s1.take ([] : List UInt8) (tText 64)).1 = t := ⟨_, rfl⟩
  obtain ⟨s2, hs2⟩ : ∃ s2, (s1.take ([] : List UInt8) (tText 64)).2 = s2 := ⟨_, rfl⟩
  have htl : t.length ≤ 7036874417 := by
   have h1 := text_len s1 64
   rw [ht, h4.len] at h1
   have := h4.big
   omega
  rw [show takeV0 s1 x = (⟨2, 0, t⟩, if prB t = false then s2.fail 20 else s2) by unfold takeV0; rw [if_neg c1, if_pos c2, ht, hs2]]
  repeat (first | refine T_seq ?_ | refine T_region ?_ | refine T_cond_true rfl ?_ | refine T_cond_false rfl ?_ | refine T_block ?_ | refine TL_eq_t (hk := ?_) | refine TL_eq_f (hk := ?_) | refine TL_nil ?_ | refine TL_move (hk := ?_) | refine TL_assign (hk := ?_))
  refine TL_call TE (hc := Text_c b s1 A n c 64 (by decide) w4 h4) (hk := ?_)
  rintro _ w5 ⟨rfl, m5, h5⟩
  rw [ht]
  rw [hs2] at h5
  have z5 := m5.size
  --
  refine TL_call TE (hc := Word_c t w5) (hk := ?_)
  rintro _ w6 ⟨rfl, e6⟩
  have z6 := e6.size
  have k26 := (k24.mod m5 d2).be e6
  have k36 := (k34.mod m5 d3).be e6
  have h6 := h5.ext e6
  --
  refine TL_storea TE (hk := ?_); intro w7 m7 z7 k7
  replace k7 : Blk w7 b3 161 [.int .i64 2, .int .i64 0, .string (ofL t)] := k7
  have k27 := k26.mod m7 (by simp; omega)
  have h7 := h6.mod m7 (fun q => by rw [List.mem_singleton] at q; omega) off3
  have M7 : Eng.Mod [b] w w7 := ((M04.trans m5).trans (e6.mono (fun u hu => by cases hu))).step m7 (fun u hu => .inr (by rw [List.mem_singleton.1 hu]; omega))
  repeat (first | refine T_seq ?_ | refine T_region ?_ | refine TL_nil ?_ | refine TL_load TE (hk := ?_) | refine TL_fieldAddr TE (hk := ?_))
  refine TL_call TE (hc := printable_c t (by omega) w7) (hk := ?_)
  rintro _ w8 ⟨rfl, rfl⟩
  cases hp : prB t with
  |true =>
   rw [if_neg (by simp)]
   repeat (first | refine T_seq ?_ | refine T_region ?_ | refine T_cond_false rfl ?_ | refine T_inBlock ?_ | refine T_skip ?_ | refine TL_nil ?_ | refine TL_move (hk := ?_) | refine TL_not (hk := ?_))
   refine TL_call TE (hc := Why_c b s2 A n c w8 h7) (hk := ?_)
   rintro _ w20 ⟨rfl, e20⟩
   have k220 := k27.be e20
   have k320 := k7.be e20
   have R20 := h7.ext e20
   have M20 : Eng.Mod [b] w w20 := M7.trans (e20.mono (fun u hu => by cases hu))
   have z20 := e20.size
   by_cases ce : (s2).err = 0
   ·rw [show endV ((⟨2, 0, t⟩ : VE), s2) = ((⟨2, 0, t⟩ : VE), s2) from if_neg (fun q => q ce)]
    repeat (first | refine T_seq ?_ | refine T_region ?_ | refine T_cond_false rfl ?_ | refine T_skip ?_ | refine TL_ne_f (hk := ?_) | refine TL_nil ?_ | refine TL_move (hk := ?_) | refine TL_assign (hk := ?_) | refine TL_extract (hk := ?_))
    refine TL_loadb TE (cs := [.int .i64 2, .int .i64 0, .string (ofL t)]) (o := 0) rfl rfl k320 rfl rfl (Nat.succ_pos _) (hk := ?_)
    --
    refine TL_storea TE (hk := ?_); intro w21 m21 z21 k21
    repeat (refine TL_nil ?_)
    refine T_retA1 TE (vs := [.int .i64 2, .int .i64 0, .string (ofL t)]) (o := 0) rfl rfl rfl rfl k21 rfl (Nat.succ_pos _) ⟨rfl, M20.step m21 (fun u hu => .inr (by rw [List.mem_singleton.1 hu]; omega)), R20.mod m21 (fun q => by rw [List.mem_singleton] at q; omega) off2⟩
   ·rw [show endV ((⟨2, 0, t⟩ : VE), s2) = (vz, s2) from if_pos ce]
    repeat (first | refine T_seq ?_ | refine T_region ?_ | refine T_cond_true rfl ?_ | refine TL_ne_t (hk := ?_) | refine TL_nil ?_ | refine TL_move (hk := ?_) | refine TL_assign (hk := ?_) | refine TL_extract (hk := ?_) | refine TL_build TE (hk := ?_))
    refine TL_storea TE (hk := ?_); intro w21 m21 z21 k21
    repeat (refine TL_nil ?_)
    refine T_retA1 TE (vs := [.int .i64 0, .int .i64 0, .string (ofL [])]) (o := 0) rfl rfl rfl rfl k21 rfl (Nat.succ_pos _) ⟨rfl, M20.step m21 (fun u hu => .inr (by rw [List.mem_singleton.1 hu]; omega)), R20.mod m21 (fun q => by rw [List.mem_singleton] at q; omega) off2⟩
  |false =>
   rw [if_pos rfl]
   repeat (first | refine T_region ?_ | refine T_cond_true rfl ?_ | refine TL_nil ?_ | refine TL_move (hk := ?_) | refine TL_not (hk := ?_))
   refine TL_call TE (hc := Fail_c b s2 A n c 20 w8 h7) (hk := ?_)
   rintro _ w9 ⟨rfl, m9, h9⟩
   have z9 := m9.size
   have k29 := k27.mod m9 d2
   have k39 := k7.mod m9 d3
   have M9 := M7.trans m9
   obtain ⟨s3, hs3⟩ : ∃ s3, s2.fail 20 = s3 := ⟨_, rfl⟩
   rw [hs3] at h9 ⊢
   repeat (first | refine T_seq ?_ | refine T_region ?_ | refine T_inBlock ?_ | refine TL_nil ?_ | refine TL_move (hk := ?_))
   refine TL_call TE (hc := Why_c b s3 A n c w9 h9) (hk := ?_)
   rintro _ w20 ⟨rfl, e20⟩
   have k220 := k29.be e20
   have k320 := k39.be e20
   have R20 := h9.ext e20
   have M20 : Eng.Mod [b] w w20 := M9.trans (e20.mono (fun u hu => by cases hu))
   have z20 := e20.size
   by_cases ce : (s3).err = 0
   ·rw [show endV ((⟨2, 0, t⟩ : VE), s3) = ((⟨2, 0, t⟩ : VE), s3) from if_neg (fun q => q ce)]
    repeat (first | refine T_seq ?_ | refine T_region ?_ | refine T_cond_false rfl ?_ | refine T_skip ?_ | refine TL_ne_f (hk := ?_) | refine TL_nil ?_ | refine TL_move (hk := ?_) | refine TL_assign (hk := ?_) | refine TL_extract (hk := ?_))
    refine TL_loadb TE (cs := [.int .i64 2, .int .i64 0, .string (ofL t)]) (o := 0) rfl rfl k320 rfl rfl (Nat.succ_pos _) (hk := ?_)
    --
    refine TL_storea TE (hk := ?_); intro w21 m21 z21 k21
    repeat (refine TL_nil ?_)
    refine T_retA1 TE (vs := [.int .i64 2, .int .i64 0, .string (ofL t)]) (o := 0) rfl rfl rfl rfl k21 rfl (Nat.succ_pos _) ⟨rfl, M20.step m21 (fun u hu => .inr (by rw [List.mem_singleton.1 hu]; omega)), R20.mod m21 (fun q => by rw [List.mem_singleton] at q; omega) off2⟩
   ·rw [show endV ((⟨2, 0, t⟩ : VE), s3) = (vz, s3) from if_pos ce]
    repeat (first | refine T_seq ?_ | refine T_region ?_ | refine T_cond_true rfl ?_ | refine TL_ne_t (hk := ?_) | refine TL_nil ?_ | refine TL_move (hk := ?_) | refine TL_assign (hk := ?_) | refine TL_extract (hk := ?_) | refine TL_build TE (hk := ?_))
    refine TL_storea TE (hk := ?_); intro w21 m21 z21 k21
    repeat (refine TL_nil ?_)
    refine T_retA1 TE (vs := [.int .i64 0, .int .i64 0, .string (ofL [])]) (o := 0) rfl rfl rfl rfl k21 rfl (Nat.succ_pos _) ⟨rfl, M20.step m21 (fun u hu => .inr (by rw [List.mem_singleton.1 hu]; omega)), R20.mod m21 (fun q => by rw [List.mem_singleton] at q; omega) off2⟩
 by_cases c3 : 2 < x
 ·rw [show takeV0 s1 x = (vz, s1.fail 20) by unfold takeV0; rw [if_neg c1, if_neg c2, if_pos c3]]
  repeat (first | refine T_seq ?_ | refine T_region ?_ | refine T_cond_true rfl ?_ | refine T_cond_false rfl ?_ | refine T_block ?_ | refine TL_gt_t (hk := ?_) | refine TL_eq_f (hk := ?_) | refine TL_nil ?_ | refine TL_move (hk := ?_) | refine TL_assign (hk := ?_))
  refine TL_call TE (hc := Fail_c b s1 A n c 20 w4 h4) (hk := ?_)
  rintro _ w9 ⟨rfl, m9, h9⟩
  have z9 := m9.size
  have k29 := k24.mod m9 d2
  have k39 := k34.mod m9 d3
  have M9 := M04.trans m9
  obtain ⟨s3, hs3⟩ : ∃ s3, s1.fail 20 = s3 := ⟨_, rfl⟩
  rw [hs3] at h9 ⊢
  repeat (first | refine T_seq ?_ | refine T_region ?_ | refine T_inBlock ?_ | refine TL_nil ?_ | refine TL_move (hk := ?_))
  refine TL_call TE (hc := Why_c b s3 A n c w9 h9) (hk := ?_)
  rintro _ w20 ⟨rfl, e20⟩
  have k220 := k29.be e20
  have k320 := k39.be e20
  have R20 := h9.ext e20
  have M20 : Eng.Mod [b] w w20 := M9.trans (e20.mono (fun u hu => by cases hu))
  have z20 := e20.size
  by_cases ce : (s3).err = 0
  ·rw [show endV (vz, s3) = (vz, s3) from if_neg (fun q => q ce)]
   repeat (first | refine T_seq ?_ | refine T_region ?_ | refine T_cond_false rfl ?_ | refine T_skip ?_ | refine TL_ne_f (hk := ?_) | refine TL_nil ?_ | refine TL_move (hk := ?_) | refine TL_assign (hk := ?_) | refine TL_extract (hk := ?_))
   refine TL_loadb TE (cs := [.int .i64 0, .int .i64 0, .string (ofL [])]) (o := 0) rfl rfl k320 rfl rfl (Nat.succ_pos _) (hk := ?_)
   --
   refine TL_storea TE (hk := ?_); intro w21 m21 z21 k21
   repeat (refine TL_nil ?_)
   refine T_retA1 TE (vs := [.int .i64 0, .int .i64 0, .string (ofL [])]) (o := 0) rfl rfl rfl rfl k21 rfl (Nat.succ_pos _) ⟨rfl, M20.step m21 (fun u hu => .inr (by rw [List.mem_singleton.1 hu]; omega)), R20.mod m21 (fun q => by rw [List.mem_singleton] at q; omega) off2⟩
  ·rw [show endV (vz, s3) = (vz, s3) from if_pos ce]
   repeat (first | refine T_seq ?_ | refine T_region ?_ | refine T_cond_true rfl ?_ | refine TL_ne_t (hk := ?_) | refine TL_nil ?_ | refine TL_move (hk := ?_) | refine TL_assign (hk := ?_) | refine TL_extract (hk := ?_) | refine TL_build TE (hk := ?_))
   refine TL_storea TE (hk := ?_); intro w21 m21 z21 k21
   repeat (refine TL_nil ?_)
   refine T_retA1 TE (vs := [.int .i64 0, .int .i64 0, .string (ofL [])]) (o := 0) rfl rfl rfl rfl k21 rfl (Nat.succ_pos _) ⟨rfl, M20.step m21 (fun u hu => .inr (by rw [List.mem_singleton.1 hu]; omega)), R20.mod m21 (fun q => by rw [List.mem_singleton] at q; omega) off2⟩
 ·rw [show takeV0 s1 x = (vz, s1) by unfold takeV0; rw [if_neg c1, if_neg c2, if_neg c3]]
  repeat (first | refine T_seq ?_ | refine T_region ?_ | refine T_cond_false rfl ?_ | refine T_block ?_ | refine T_inBlock ?_ | refine T_skip ?_ | refine TL_gt_f (hk := ?_) | refine TL_eq_f (hk := ?_) | refine TL_nil ?_ | refine TL_move (hk := ?_) | refine TL_assign (hk := ?_))
  refine TL_call TE (hc := Why_c b s1 A n c w4 h4) (hk := ?_)
  rintro _ w20 ⟨rfl, e20⟩
  have k220 := k24.be e20
  have k320 := k34.be e20
  have R20 := h4.ext e20
  have M20 : Eng.Mod [b] w w20 := M04.trans (e20.mono (fun u hu => by cases hu))
  have z20 := e20.size
  by_cases ce : (s1).err = 0
  ·rw [show endV (vz, s1) = (vz, s1) from if_neg (fun q => q ce)]
   repeat (first | refine T_seq ?_ | refine T_region ?_ | refine T_cond_false rfl ?_ | refine T_skip ?_ | refine TL_ne_f (hk := ?_) | refine TL_nil ?_ | refine TL_move (hk := ?_) | refine TL_assign (hk := ?_) | refine TL_extract (hk := ?_))
   refine TL_loadb TE (cs := [.int .i64 0, .int .i64 0, .string (ofL [])]) (o := 0) rfl rfl k320 rfl rfl (Nat.succ_pos _) (hk := ?_)
   --
   refine TL_storea TE (hk := ?_); intro w21 m21 z21 k21
   repeat (refine TL_nil ?_)
   refine T_retA1 TE (vs := [.int .i64 0, .int .i64 0, .string (ofL [])]) (o := 0) rfl rfl rfl rfl k21 rfl (Nat.succ_pos _) ⟨rfl, M20.step m21 (fun u hu => .inr (by rw [List.mem_singleton.1 hu]; omega)), R20.mod m21 (fun q => by rw [List.mem_singleton] at q; omega) off2⟩
  ·rw [show endV (vz, s1) = (vz, s1) from if_pos ce]
   repeat (first | refine T_seq ?_ | refine T_region ?_ | refine T_cond_true rfl ?_ | refine TL_ne_t (hk := ?_) | refine TL_nil ?_ | refine TL_move (hk := ?_) | refine TL_assign (hk := ?_) | refine TL_extract (hk := ?_) | refine TL_build TE (hk := ?_))
   refine TL_storea TE (hk := ?_); intro w21 m21 z21 k21
   repeat (refine TL_nil ?_)
   refine T_retA1 TE (vs := [.int .i64 0, .int .i64 0, .string (ofL [])]) (o := 0) rfl rfl rfl rfl k21 rfl (Nat.succ_pos _) ⟨rfl, M20.step m21 (fun u hu => .inr (by rw [List.mem_singleton.1 hu]; omega)), R20.mod m21 (fun q => by rw [List.mem_singleton] at q; omega) off2⟩
set_option maxHeartbeats 1600000
def RqOut (w : World) (base : Nat) (o : Option RE) (q : Value) (e : Int) : Prop :=
 ∃ (r : RE) (Y : SL), q = .agg #[.int .i64 r.cl, .int .u64 (r.tk : Int), .string (ofL r.nm), sL Y] ∧ Own w base 161 3 Y.1 Y.2.1 Y.2.2 (rowV veV r.ar) ∧ (match o with
  |some r' => e = 0 ∧ r' = r
  |none => ¬ e = 0)
theorem RqOut.no {w : World} {base : Nat} {e : Int} (h : ¬ e = 0) : RqOut w base none (.agg #[.int .i64 0, .int .u64 0, .string (ofL []), .slice none 0 0]) e := ⟨⟨0, 0, [], []⟩, (none, 0, 0), rfl, Own.nil _ _ _ _, h⟩
structure QInv (w w6 w' : World) (bR b6 : Nat) (s : RS) (A : Option Addr) (n c : Nat) (cl tk : Nat) (nm : List UInt8) (Y : SL) (l : List VE) : Prop where
 ext : Ext w w'
 mod : Eng.Mod [bR, b6] w6 w'
 rdr : Rdr w' 218 bR s A n c
 blk : Blk w' b6 40 [.int .i64 (cl : Int), .int .u64 (tk : Int), .string (ofL nm), sL Y]
 own : Own w' w6.heap.size 161 3 Y.1 Y.2.1 Y.2.2 (rowV veV l)
 hR : w.heap.size ≤ bR ∧ bR < w6.heap.size
 h6 : w.heap.size ≤ b6 ∧ b6 < w6.heap.size
 hne : bR ≠ b6
 hA : Lo A w6.heap.size
 hA6 : Off A [b6]
section
variable {w w6 w' w2 : World} {bR b6 : Nat} {s s' : RS} {A : Option Addr} {n c cl tk : Nat} {nm : List UInt8} {Y : SL} {l : List VE}
theorem QInv.step (I : QInv w w6 w' bR b6 s A n c cl tk nm Y l) (m : Eng.Mod [bR] w' w2) (r : Rdr w2 218 bR s' A n c) : QInv w w6 w2 bR b6 s' A n c cl tk nm Y l := by
 have h1 := I.hR
 have h3 := I.hne
 exact ⟨Mod.step I.ext m (by simp; omega), Mod.step I.mod m (by simp), r, I.blk.mod m (by simp; omega), I.own.mod m (Off.hi I.own.hi (by omega)), h1, I.h6, h3, I.hA, I.hA6⟩
theorem QInv.ext2 (I : QInv w w6 w' bR b6 s A n c cl tk nm Y l) (m : Ext w' w2) : QInv w w6 w2 bR b6 s A n c cl tk nm Y l :=
 ⟨I.ext.ext m, I.mod.ext m, I.rdr.ext m, I.blk.ext m, I.own.ext m, I.hR, I.h6, I.hne, I.hA, I.hA6⟩
theorem QInv.step2 (I : QInv w w6 w' bR b6 s A n c cl tk nm Y l) {x : Nat} (m : Eng.Mod [x] w' w2) (hx : w6.heap.size ≤ x) (hY : x ∉ blkL Y.1) : QInv w w6 w2 bR b6 s A n c cl tk nm Y l := by
 have h1 := I.hR
 have h6 := I.h6
 have hs : w.heap.size ≤ w6.heap.size := by omega
 exact ⟨Mod.step I.ext m (by simp; omega), Mod.step I.mod m (by simp; omega), I.rdr.mod m (by simp; omega) (Off.lo I.hA hx), I.blk.mod m (by simp; omega), I.own.modL m (fun u hu q => by rw [List.mem_singleton] at q; rw [q] at hu; exact hY hu), h1, I.h6, I.hne, I.hA, I.hA6⟩
theorem QInv.push (I : QInv w w6 w' bR b6 s A n c cl tk nm Y l) {w3 : World} {A5 : Option Addr} {n5 c5 : Nat} {v : VE} (m : Eng.Mod (blkL Y.1) w' w2) (ho : Own w2 w6.heap.size 161 3 A5 n5 c5 (rowV veV (l ++ [v]))) (m3 : Eng.Mod [b6] w2 w3)
  (k : Blk w3 b6 40 [.int .i64 (cl : Int), .int .u64 (tk : Int), .string (ofL nm), .slice A5 n5 c5]) : QInv w w6 w3 bR b6 s A n c cl tk nm (A5, n5, c5) (l ++ [v]) := by
 have h1 := I.hR
 have h6 := I.h6
 have hne := I.hne
 have hb : ∀ u ∈ blkL Y.1, w6.heap.size ≤ u := fun u hu => (I.own.bl u hu).1
 exact ⟨(I.ext.step m (fun u hu => .inr (by have := hb u hu; omega))).step m3 (by simp; omega), (I.mod.step m (fun u hu => .inr (hb u hu))).step m3 (by simp),
  (I.rdr.mod m (fun q => by have := hb _ q; omega) (Off.lohi I.hA I.own.hi)).mod m3 (by simp; omega) I.hA6, k, ho.modL m3 (fun u hu q => by have := (ho.bl u hu).1; rw [List.mem_singleton] at q; omega), h1, h6, hne, I.hA, I.hA6⟩
end
theorem vw9_lim {s : RS} {most e : Int} : ((s.take (0 : Nat) (tLim most e)).1 : Int) ≤ most ∨ (s.take (0 : Nat) (tLim most e)).1 = 0 := by
 unfold RS.take
 split
 ·cases h : tLim most e (s.b.drop s.pos) with
  |error x => right; rfl
  |ok r => left; exact tLim_le (by rw [h])
 ·right; rfl
theorem RqGet_c (A : Option Addr) (n c : Nat) (b : List UInt8) (w : World) (h : Rd w A n 1 (bv b)) (hn : n ≤ 7036874417) (hcap : n ≤ c) :
  Ret Tryz.prog 124 [.slice A n c] w (fun v w' => ∃ q e x, v = .tuple #[q, .int .i64 e, .int .i64 x] ∧ Ext w w' ∧ RqOut w' w.heap.size (getR b) q e) := by
 have hbl : b.length = n := by simpa using h.1
 unfold getR
 refine ret_T (n := 78) Tryz.func124 rfl rfl ?_
 repeat (first | refine T_seq ?_ | refine T_region ?_)
 refine TL_alloc TE (hk := ?_); intro b2 w2 e2 h2 h2' k2
 have z2 := e2.size
 by_cases c1 : 1024 < b.length
 ·rw [if_pos c1]
  have c1' : (1024 : Int) < (n : Int) := by omega
  repeat (first | refine T_seq ?_ | refine T_region ?_ | refine T_cond_true rfl ?_ | refine TL_gt_t (hk := ?_) | refine TL_nil ?_ | refine TL_move (hk := ?_) | refine TL_assign (hk := ?_) | refine TL_len TE (hk := ?_) | refine TL_build TE (hk := ?_))
  refine TL_storea TE (hk := ?_); intro w4 m4 z4 k4
  repeat (first | refine TL_nil ?_ | refine TL_assign (hk := ?_))
  exact T_retA3 TE (vs := [.int .i64 0, .int .u64 0, .string (ofL []), .slice none 0 0]) (o := 0) rfl rfl rfl rfl rfl rfl k4 rfl (Nat.succ_pos _) ⟨_, 1, 0, rfl, e2.step m4 (fun u hu => .inr (by rw [List.mem_singleton.1 hu]; omega)), RqOut.no (by decide)⟩
 rw [if_neg c1]
 have c1' : ¬ (1024 : Int) < (n : Int) := by omega
 repeat (first | refine T_seq ?_ | refine T_region ?_ | refine T_cond_false rfl ?_ | refine T_skip ?_ | refine TL_gt_f (hk := ?_) | refine TL_nil ?_ | refine TL_move (hk := ?_) | refine TL_assign (hk := ?_) | refine TL_len TE (hk := ?_))
 refine TL_call TE (hc := NewReader_c A n c b _ (h.be e2) (by omega)) (hk := ?_)
 rintro _ w3 ⟨bR, A3, n3, c3, rfl, e3, hbR, hi3, lo3, rr⟩
 have z3 := e3.size
 have lR := rr.blk.lt
 have hn3 : b.length = n3 := rr.len
 have k23 := k2.be e3
 have e03 := e2.ext e3
 clear k2
 repeat (first | refine T_seq ?_ | refine T_region ?_ | refine TL_nil ?_ | refine TL_move (hk := ?_) | refine TL_assign (hk := ?_))
 refine TL_call TE (hc := Count_c bR _ A3 n3 c3 63 (by decide) w3 rr) (hk := ?_)
 rintro _ w4 ⟨rfl, m4, rr4⟩
 obtain ⟨p1, hp1⟩ : ∃ p1, rq1 b = p1 := ⟨_, rfl⟩
 have q1 : (RS.mk b 0 0 0 0).take (0 : Nat) (tLim 63 6) = p1 := hp1
 rw [q1] at rr4 ⊢
 have z4 := m4.size
 repeat (refine TL_move (hk := ?_))
 refine TL_call TE (hc := Uint_c bR _ A3 n3 c3 w4 rr4) (hk := ?_)
 rintro _ w5 ⟨rfl, m5, rr5⟩
 obtain ⟨p2, hp2⟩ : ∃ p2, rq2 b = p2 := ⟨_, rfl⟩
 have q2 : p1.2.take (0 : Nat) num0 = p2 := by rw [← hp1]; exact hp2
 rw [q2] at rr5 ⊢
 have z5 := m5.size
 repeat (refine TL_move (hk := ?_))
 refine TL_call TE (hc := Text_c bR _ A3 n3 c3 16 (by decide) w5 rr5) (hk := ?_)
 rintro _ w6 ⟨rfl, m6, rr6⟩
 obtain ⟨p3, hp3⟩ : ∃ p3, rq3 b = p3 := ⟨_, rfl⟩
 have q3 : p2.2.take ([] : List UInt8) (tText 16) = p3 := by rw [← hp2]; exact hp3
 rw [q3] at rr6 ⊢
 have z6 := m6.size
 have m36 := (m4.trans m5).trans m6
 clear rr4 rr5
 repeat (refine TL_build TE (hk := ?_))
 refine TL_alloc TE (hk := ?_); intro b6 w7 e7 h7 h7' k7
 have z7 := e7.size
 have l7 := k7.lt
 have rr7 := rr6.ext e7
 have lA7 : Lo A3 w7.heap.size := lo3.mono (by omega)
 have oA7 : Off A3 [b6] := Off.lo lo3 (by omega)
 --
 refine TL_storea TE (hk := ?_); intro w8 m8 z8 k8
 have e08 : Ext w w8 := ((e03.step m36 (fun u hu => .inr (by rw [List.mem_singleton.1 hu]; omega))).ext e7).step m8 (fun u hu => .inr (by rw [List.mem_singleton.1 hu]; omega))
 have k28 : Blk w8 b2 40 [.int .i64 0, .int .u64 0, .string (ofL []), .slice none 0 0] := ((k23.mod m36 (fun q => by rw [List.mem_singleton] at q; omega)).be e7).mod m8 (fun q => by rw [List.mem_singleton] at q; omega)
 have I8 : QInv w w8 w8 bR b6 p3.2 A3 n3 c3 p1.1 p2.1 p3.1 (none, 0, 0) [] := ⟨e08, Mod.refl _ _, rr7.mod m8 (fun q => by rw [List.mem_singleton] at q; omega) oA7, k8, Own.nil _ _ _ _, ⟨by omega, by omega⟩, ⟨by omega, by omega⟩, by omega, lA7.mono (by omega), oA7⟩
 have htl := text_len p2.2 16
 rw [q3] at htl
 have hb5 : p2.2.b.length = b.length := by rw [← hp2]; unfold rq2 rq1; rw [take_b, take_b]
 clear rr7 rr6 k7 k8 k23 rr
 have kb := I8.blk
 repeat (first | refine T_seq ?_ | refine T_region ?_ | refine TL_nil ?_ | refine TL_load TE (hk := ?_) | refine TL_fieldAddr TE (hk := ?_))
 refine TL_call TE (hc := isName_c p3.1 (by omega) _) (hk := ?_)
 rintro _ w0 ⟨rfl, hw⟩
 rw [hw]
 clear hw w0
 obtain ⟨p4, hp4⟩ : ∃ p4, rq4 b = p4 := ⟨_, rfl⟩
 have q4 : (if nameB p3.1 = false then p3.2.fail 90 else p3.2) = p4 := by rw [← hp3]; exact hp4
 have hb2 : b2 < w8.heap.size := k28.lt
 clear kb
 have hb2o : b2 ∉ [bR, b6] := by simp; omega
 repeat (first | refine TL_nil ?_ | refine TL_not (hk := ?_))
 refine T_join (ι := Unit) (fun _ => [(6, .pointer (some ⟨b6, 0, none⟩)), (5, ptr bR), (2, .pointer (some ⟨b2, 0, none⟩)), (0, .slice A n c)]) (fun _ w' => QInv w w8 w' bR b6 p4 A3 n3 c3 p1.1 p2.1 p3.1 (none, 0, 0) []) (fun kk join => ?_) ?_
 ·cases hnb : nameB p3.1 with
  |true =>
   rw [if_neg (by rw [hnb]; decide)] at q4
   repeat (first | refine T_cond_false rfl ?_ | refine T_skip ?_)
   exact T.sub (join () _ (by rw [← q4]; exact I8)) (.c rfl (.c rfl (.c rfl (.c rfl (.n)))))
  |false =>
   rw [if_pos hnb] at q4
   repeat (first | refine T_region ?_ | refine T_cond_true rfl ?_ | refine TL_move (hk := ?_))
   refine TL_call TE (hc := Fail_c bR _ A3 n3 c3 90 _ I8.rdr) (hk := ?_)
   rintro _ w9 ⟨_, m9, rr9⟩
   repeat (refine TL_nil ?_)
   exact T.sub (join () _ (by rw [← q4]; exact I8.step m9 rr9)) (.c rfl (.c rfl (.c rfl (.c rfl (.n)))))
 rintro _ w9 I9
 repeat (first | refine T_seq ?_ | refine T_region ?_ | refine TL_move (hk := ?_))
 refine TL_call TE (hc := Count_c bR _ A3 n3 c3 8 (by decide) w9 I9.rdr) (hk := ?_)
 rintro _ w10 ⟨rfl, m10, rr10⟩
 obtain ⟨p5, hp5⟩ : ∃ p5, rq5 b = p5 := ⟨_, rfl⟩
 have q5 : p4.take (0 : Nat) (tLim 8 6) = p5 := by rw [← hp4]; exact hp5
 have hlim := vw9_lim (s := p4) (most := 8) (e := 6)
 rw [q5] at rr10 hlim ⊢
 obtain ⟨n0, hn0⟩ : ∃ n0, p5.1 = n0 := ⟨_, rfl⟩
 rw [hp5, hn0]
 rw [hn0] at hlim
 have I10 := I9.step m10 rr10
 clear I8 I9 rr10
 have hn8 : n0 ≤ 8 := by omega
 repeat (first | refine T_block ?_ | refine TL_nil ?_ | refine TL_move (hk := ?_))
 refine T_loop (ι := (Nat × RS) × SL × List VE) (fun i => [(35, .int .i64 (i.1.1 : Int)), (34, .int .i64 (n0 : Int)), (6, .pointer (some ⟨b6, 0, none⟩)), (5, ptr bR), (2, .pointer (some ⟨b2, 0, none⟩)), (0, .slice A n c)])
  (fun i w' => i.1.1 ≤ n0 ∧ QInv w w8 w' bR b6 i.1.2 A3 n3 c3 p1.1 p2.1 p3.1 i.2.1 i.2.2 ∧ argsR (n0 - i.1.1) i.1.2 i.2.2 = argsR n0 p5.2 [] ∧ i.2.1.2.1 = i.1.1) (fun i => n0 - i.1.1) ((0, p5.2), (none, 0, 0), []) (.c rfl (.c rfl (.c rfl (.c rfl (.c rfl (.c rfl (.n)))))))
  ⟨Nat.zero_le _, I10, rfl, rfl⟩ ?_
 rintro ⟨⟨i, s⟩, Y, l⟩ w11 ⟨hi, I, hargs, hYi⟩ ih
 simp only at hi I hargs hYi ih ⊢
 by_cases hlt : i < n0
 ·have hr1 : s.rest ≤ n := by
   have h1 := I.rdr.len
   unfold RS.rest
   split <;> omega
  rw [show n0 - i = (n0 - (i + 1)) + 1 by omega, argsR] at hargs
  repeat (first | refine T_seq ?_ | refine T_region ?_ | refine T_cond_true rfl ?_ | refine T_block ?_ | refine T_skip ?_ | refine TL_lt_t (hk := ?_) | refine TL_nil ?_ | refine TL_move (hk := ?_) | refine TL_len TE (hk := ?_))
  refine TL_call TE (hc := Rest_c bR _ A3 n3 c3 w11 I.rdr) (hk := ?_)
  rintro _ w12 ⟨rfl, e12⟩
  have I12 := I.ext2 e12
  clear I
  repeat (first | refine T_seq ?_ | refine T_region ?_ | refine TL_sub (hk := ?_) | refine TL_nil ?_ | refine TL_move (hk := ?_) | refine TL_assign (hk := ?_))
  refine TL_call TE (hc := VTake_c bR s A3 n3 c3 w12 I12.rdr (I12.hA.mono (by have := I12.mod.size; omega))) (hk := ?_)
  rintro _ w13 ⟨rfl, m13, rr13⟩
  obtain ⟨t, ht⟩ : ∃ t, takeV s = t := ⟨_, rfl⟩
  rw [ht] at rr13 hargs ⊢
  have I13 := I12.step m13 rr13
  clear I12 rr13
  --
  refine TL_alloc TE (hk := ?_); intro b14 w14 e14 h14 h14' k14
  have I14 := I13.ext2 e14
  have hwb := I13.mod.size
  have hYb : b14 ∉ blkL Y.1 := fun q => by have := (I13.own.bl b14 q).2; omega
  clear I13
  have z14 := e14.size
  --
  refine TL_storea TE (hk := ?_); intro w15 m15 z15 k15
  have I15 := I14.step2 m15 (by omega) hYb
  replace k15 : Blk w15 b14 161 (veV t.1) := k15
  unfold veV at k15
  clear I14 k14
  repeat (first | refine T_seq ?_ | refine T_region ?_ | refine TL_nil ?_ | refine TL_move (hk := ?_))
  refine TL_call TE (hc := Why_c bR t.2 A3 n3 c3 w15 I15.rdr) (hk := ?_)
  rintro _ w16 ⟨rfl, e16⟩
  have I16 := I15.ext2 e16
  have k16 := k15.be e16
  have hwb6 := I15.mod.size
  clear I15 k15
  repeat (first | refine T_seq ?_ | refine T_region ?_ | refine TL_nil ?_ | refine TL_move (hk := ?_) | refine TL_assign (hk := ?_) | refine TL_extract (hk := ?_))
  by_cases he : t.2.err = 0
  ·by_cases hk0 : t.1.kd = 0
   ·rw [if_pos ⟨he, hk0⟩] at hargs
    rw [← hargs]
    repeat (first | refine T_seq ?_ | refine T_region ?_ | refine T_cond_true rfl ?_ | refine TL_eq_t (hk := ?_) | refine TL_nil ?_ | refine TL_move (hk := ?_) | refine TL_load TE (hk := ?_) | refine TL_fieldAddr TE (hk := ?_) | refine TL_yes (hk := ?_) | refine TL_pick_t (hk := ?_) | refine TL_build TE (hk := ?_))
    have k26 : Blk w16 b2 40 [.int .i64 0, .int .u64 0, .string (ofL []), .slice none 0 0] := k28.mod I16.mod hb2o
    refine TL_storea TE (hk := ?_); intro w17 m17 z17 k17
    repeat (first | refine TL_nil ?_ | refine TL_assign (hk := ?_))
    exact T_retA3 TE (vs := [.int .i64 0, .int .u64 0, .string (ofL []), .slice none 0 0]) (o := 0) rfl rfl rfl rfl rfl rfl k17 rfl (Nat.succ_pos _) ⟨_, 91, _, rfl, I16.ext.step m17 (fun u hu => .inr (by rw [List.mem_singleton.1 hu]; omega)), RqOut.no (by decide)⟩
   ·have hcond : ¬ (t.2.err = 0 ∧ t.1.kd = 0) := fun q => hk0 q.2
    rw [if_neg hcond] at hargs
    have kb := I16.blk
    have o16 := I16.own
    repeat (first | refine T_region ?_ | refine T_cond_false rfl ?_ | refine T_skip ?_ | refine TL_eq_t (hk := ?_) | refine TL_eq_f (hk := ?_) | refine TL_nil ?_ | refine TL_move (hk := ?_) | refine TL_load TE (hk := ?_) | refine TL_fieldAddr TE (hk := ?_) | refine TL_yes (hk := ?_) | refine TL_pick_t (hk := ?_))
    refine TL_loadb TE (cs := [.int .i64 t.1.kd, .int .i64 t.1.n, .string (ofL t.1.t)]) (o := 0) rfl rfl k16 rfl rfl (Nat.succ_pos _) (hk := ?_)
    --
    refine TL_buildSliceA TE (hk := ?_); intro b17 w17 e17 h17 h17' k17
    replace k17 : Blk w17 b17 161 (rowV veV [t.1]) := k17
    have r17 : Rd w17 (some ⟨b17, 0, none⟩) 1 3 (rowV veV [t.1]) := Rd.blk k17 rfl
    have I17 := I16.ext2 e17
    have o17 := I17.own
    have kb17 := I17.blk
    have zb17 := I17.mod.size
    clear kb o16 I16
    --
    refine TL_append TE (ho := o17) (hr := r17) (h1 := rowV_one veV_one _) (hk := ?_); intro A18 c18 w18 o18 m18 n18
    rw [← rowV_append] at o18
    have hbo : b6 ∉ blkL Y.1 := fun q => by have := (o17.bl b6 q).1; have := I17.h6; omega
    have kb18 := kb17.mod m18 hbo
    clear kb17
    repeat (refine TL_fieldAddr TE (hk := ?_))
    refine TL_store TE (hk := ?_); intro w19 m19 z19 k19
    have I19 := I17.push m18 o18 m19 k19
    clear I17 o17 o18
    repeat (first | refine T_region ?_ | refine T_inBlock ?_ | refine TL_add (hk := ?_) | refine TL_nil ?_ | refine TL_move (hk := ?_))
    refine ih ((i + 1, t.2), (A18, Y.2.1 + 1, c18), l ++ [t.1]) _ _ (by simp only; omega) ⟨by show i + 1 ≤ n0; omega, I19, hargs, by show Y.2.1 + 1 = i + 1; omega⟩ (.c rfl (.c rfl (.c rfl (.c rfl (.c rfl (.c rfl (.n)))))))
  ·have hcond : ¬ (t.2.err = 0 ∧ t.1.kd = 0) := fun q => he q.1
   rw [if_neg hcond] at hargs
   have kb := I16.blk
   have o16 := I16.own
   repeat (first | refine T_region ?_ | refine T_cond_false rfl ?_ | refine T_skip ?_ | refine TL_eq_f (hk := ?_) | refine TL_nil ?_ | refine TL_move (hk := ?_) | refine TL_load TE (hk := ?_) | refine TL_fieldAddr TE (hk := ?_) | refine TL_no (hk := ?_) | refine TL_pick_f (hk := ?_))
   refine TL_loadb TE (cs := [.int .i64 t.1.kd, .int .i64 t.1.n, .string (ofL t.1.t)]) (o := 0) rfl rfl k16 rfl rfl (Nat.succ_pos _) (hk := ?_)
   --
   refine TL_buildSliceA TE (hk := ?_); intro b17 w17 e17 h17 h17' k17
   replace k17 : Blk w17 b17 161 (rowV veV [t.1]) := k17
   have r17 : Rd w17 (some ⟨b17, 0, none⟩) 1 3 (rowV veV [t.1]) := Rd.blk k17 rfl
   have I17 := I16.ext2 e17
   have o17 := I17.own
   have kb17 := I17.blk
   have zb17 := I17.mod.size
   clear kb o16 I16
   --
   refine TL_append TE (ho := o17) (hr := r17) (h1 := rowV_one veV_one _) (hk := ?_); intro A18 c18 w18 o18 m18 n18
   rw [← rowV_append] at o18
   have hbo : b6 ∉ blkL Y.1 := fun q => by have := (o17.bl b6 q).1; have := I17.h6; omega
   have kb18 := kb17.mod m18 hbo
   clear kb17
   repeat (refine TL_fieldAddr TE (hk := ?_))
   refine TL_store TE (hk := ?_); intro w19 m19 z19 k19
   have I19 := I17.push m18 o18 m19 k19
   clear I17 o17 o18
   repeat (first | refine T_region ?_ | refine T_inBlock ?_ | refine TL_add (hk := ?_) | refine TL_nil ?_ | refine TL_move (hk := ?_))
   refine ih ((i + 1, t.2), (A18, Y.2.1 + 1, c18), l ++ [t.1]) _ _ (by simp only; omega) ⟨by show i + 1 ≤ n0; omega, I19, hargs, by show Y.2.1 + 1 = i + 1; omega⟩ (.c rfl (.c rfl (.c rfl (.c rfl (.c rfl (.c rfl (.n)))))))
 ·obtain rfl : i = n0 := by omega
  clear ih
  rw [show i - i = 0 by omega] at hargs
  replace hargs : some (l, s) = argsR i p5.2 [] := hargs
  rw [← hargs]
  unfold endR
  simp only
  repeat (first | refine T_seq ?_ | refine T_region ?_ | refine T_cond_false rfl ?_ | refine T_exit rfl ?_ | refine TL_lt_f (hk := ?_) | refine TL_nil ?_ | refine TL_move (hk := ?_))
  refine TL_call TE (hc := End_c bR _ A3 n3 c3 w11 I.rdr) (hk := ?_)
  rintro _ w12 ⟨rfl, m12, rr12⟩
  have I12 := I.step m12 rr12
  clear I
  have k212 : Blk w12 b2 40 [.int .i64 0, .int .u64 0, .string (ofL []), .slice none 0 0] := k28.mod I12.mod hb2o
  by_cases he : s.fin.err = 0
  ·rw [if_pos he]
   have kb := I12.blk
   repeat (first | refine T_seq ?_ | refine T_region ?_ | refine T_cond_false rfl ?_ | refine T_skip ?_ | refine TL_ne_f (hk := ?_) | refine TL_nil ?_ | refine TL_move (hk := ?_) | refine TL_assign (hk := ?_))
   refine TL_loadb TE (cs := [.int .i64 (p1.1 : Int), .int .u64 (p2.1 : Int), .string (ofL p3.1), sL Y]) (o := 0) rfl rfl kb rfl rfl (Nat.succ_pos _) (hk := ?_)
   --
   refine TL_storea TE (hk := ?_); intro w13 m13 z13 k13
   repeat (first | refine TL_nil ?_ | refine TL_assign (hk := ?_))
   refine T_retA3 TE (vs := [.int .i64 (p1.1 : Int), .int .u64 (p2.1 : Int), .string (ofL p3.1), sL Y]) (o := 0) rfl rfl rfl rfl rfl rfl k13 rfl (Nat.succ_pos _) ⟨_, 0, 0, rfl, I12.ext.step m13 (fun u hu => .inr (by rw [List.mem_singleton.1 hu]; omega)), ?_⟩
   rw [hp1, hp2, hp3]
   exact ⟨⟨(p1.1 : Int), p2.1, p3.1, l⟩, Y, rfl, Own.weaken (I12.own.modL m13 (fun u hu q => by have := (I12.own.bl u hu).1; rw [List.mem_singleton] at q; omega)) (by have := I12.hR; omega), rfl, rfl⟩
  ·rw [if_neg he]
   repeat (first | refine T_seq ?_ | refine T_region ?_ | refine T_cond_true rfl ?_ | refine TL_ne_t (hk := ?_) | refine TL_nil ?_ | refine TL_move (hk := ?_) | refine TL_assign (hk := ?_))
   refine TL_call TE (hc := Why_c bR _ A3 n3 c3 w12 I12.rdr) (hk := ?_)
   rintro _ w13 ⟨rfl, e13⟩
   have k213 := k212.be e13
   clear k212
   repeat (first | refine T_seq ?_ | refine T_region ?_ | refine TL_nil ?_ | refine TL_move (hk := ?_) | refine TL_assign (hk := ?_) | refine TL_extract (hk := ?_) | refine TL_build TE (hk := ?_))
   refine TL_storea TE (hk := ?_); intro w14 m14 z14 k14
   repeat (first | refine TL_nil ?_ | refine TL_assign (hk := ?_))
   exact T_retA3 TE (vs := [.int .i64 0, .int .u64 0, .string (ofL []), .slice none 0 0]) (o := 0) rfl rfl rfl rfl rfl rfl k14 rfl (Nat.succ_pos _) ⟨_, _, _, rfl, (I12.ext.ext e13).step m14 (fun u hu => .inr (by rw [List.mem_singleton.1 hu]; omega)), RqOut.no he⟩
end Go.Proofs.YtjlaomcankmdjaaGreat
namespace Go.Proofs.Eng
open Go.RowKit
def isCel : Obj → Bool
 | .cells .. => true
 | _ => false
theorem Mod.putObj (w : World) (l : Nat) (o : Obj) : Mod [l] w (w.putObj l o) :=
 ⟨rfl, rfl, rfl, by simp [World.putObj], fun k hk hn => World.putObj_heap_other (by simpa using hn)⟩
theorem Own.not_obj {w : World} {base : Nat} {e : TypeId} {s : Nat} {A : Option Addr} {n c : Nat} {xs : List Value} {l : Nat} {o : Obj} (h : Own w base e s A n c xs) (ho : w.heap[l]? = some o) (hc : isCel o = false) : l ∉ blkL A := fun hm => by
 rcases h.2 with ⟨hv, _⟩ | ⟨b, _, cur, hv, _, hh, _⟩
 ·cases hv; simp [blkL] at hm
 ·cases hv
  simp [blkL] at hm
  subst hm
  rw [hh] at ho
  cases ho
  cases hc
section
variable {P : Program} {fn : Func} {R : Ending → World → Prop} {M : Md} {n : Nat} {st : Slots} {k : List Item} {w : World} {ops rest : List Oper} {K : Act → World → Prop} {ds : List Deferred} {l : Nat}
 {d : Nat} {v : Value} {ty : TypeId} {ps : String} {af : Array Edge}
theorem T_endr (h : ∀ a, OK ⟨.r l K, ds⟩ n st a → K a w) : T P fn R ⟨.r l K, ds⟩ n st [] w := fun a ha b cs k2 hl => ⟨a, w, h a ha, .refl _ _⟩
theorem T_begin {r : Loop} (h : w.heap[l]? = some (.loop r)) (hr : r.state = .ready) (hk : ∀ w2, Mod [l] w w2 → w2.heap.size = w.heap.size → w2.heap[l]? = some (.loop { r with state := .busy }) → T P fn R ⟨.r l K, ds⟩ n st k w2) :
  T P fn R ⟨.r l K, ds⟩ n st (.beginRound :: k) w := by
 intro a ha b cs k2 hl
 have hb := run_beginRound (P := P) h hr
 have hlt := (Array.getElem?_eq_some_iff.1 h).1
 obtain ⟨a2, w2, hK, hs⟩ := hk _ (Mod.putObj w l _) (by simp) (World.putObj_heap_same hlt) a ha b cs k2 hl
 exact ⟨a2, w2, hK, Steps.trans (.one (stepR_beginRound hl hb)) hs⟩
theorem round_T {m f : Nat} {tmps : Array Value} {assign body : Code} {R' : Ending → World → Prop} (hOK : OK ⟨.r l K, []⟩ n st { tmps := tmps, defers := [] }) (h : T P fn R ⟨.r l K, []⟩ n st [.code assign, .beginRound, .code body] w)
  (hend : ∀ a' w', K a' w' → ∃ v w2, (Instr.endRound l none).run P w' = .ok v w2 ∧ R' (.returned v) w2) : RoundIn Fence.wide m P l f tmps assign body w R' := by
 refine ⟨trivial, fun c cs _ => ?_⟩
 let b : Frame := { (default : Frame) with fn := f, kind := .normal, roundOf := some l }
 have hb0 : Frame.round l f tmps assign body .normal = b.atR { tmps := tmps, defers := [] } [.code assign, .beginRound, .code body] := by simp [Frame.round, Frame.atR, b]
 obtain ⟨a', w', hK, hs⟩ := h _ hOK b (c :: cs) [] rfl
 obtain ⟨v, w2, he, hR⟩ := hend a' w' hK
 refine ⟨.returned v, w2, hR, ?_⟩
 rw [hb0]
 exact stepsIn_wide.2 (Steps.trans hs (.one (stepR_round_end rfl rfl he)))
def TI (P : Program) (fn : Func) (R : Ending → World → Prop) (M : Md) (n : Nat) (st : Slots) (ops l : List Oper) (k : List Item) (w : World) : Prop :=
 ∀ a, OK M n st a → wpListIn Fence.wide 0 P ops.toArray (LQ M.dfd P fn R k) l a w
theorem T_region_in {id : Nat} {l : List Oper} (h : TI P fn R M n st l l k w) (hpl : M.dfd.pl = true := by exact rfl) : T P fn R M n st (.code (.region id l.toArray false) :: k) w :=
 fun a ha => Tat.of_wp (wpIn_wide.1 (wpIn_region_lit (h a ha))) hpl
theorem TI_nil (h : T P fn R M n st k w) : TI P fn R M n st ops [] k w := fun a ha => h a ha
theorem TI_val {op : Op} (hd : Nat.blt d n = true) (h : RunV P w st ⟨some d, op, ty, ps, af, none⟩ v) (hnd : ∀ c, op ≠ .defer c) (hk : TI P fn R M n ((d, v) :: st) ops rest k w) : TI P fn R M n st ops (⟨some d, op, ty, ps, af, none⟩ :: rest) k w := by
 intro a ha
 unfold wpListIn
 rw [if_pos (by simp [Region.wanted])]
 refine ⟨fun _ _ => trivial, ?_⟩
 rw [Oper.semAt_eq _ _ _ hnd, h a.eval (fun x u hx => ha.ev hx)]
 exact hk _ (ha.put hd v)
theorem TI_move {x : Operand} (hx : ev st x = some v) (hd : Nat.blt d n = true) (hk : TI P fn R M n ((d, v) :: st) ops rest k w) : TI P fn R M n st ops (⟨some d, .move x, ty, ps, af, none⟩ :: rest) k w :=
 TI_val hd (fun ρ h => by simp [execOp, h _ _ hx]) (fun _ h => by cases h) hk
theorem TI_loadb {X : Operand} {t : TypeId} {by_ : Nat} {z : Value} {b o : Nat} {bt : TypeId} {xs cs : List Value} {fl : List (Nat × TypeId)} (E : Env P) (hx : ev st X = some (.pointer (some ⟨b, o, none⟩))) (ht : E.fld t = some fl) (hi : E.inf t = some (cs.length, by_, z)) (hb : Blk w b bt xs) (hc : (xs.drop o).take cs.length = cs) (h0 : 0 < cs.length) (hd : Nat.blt d n = true)
  (hk : TI P fn R M n ((d, .agg cs.toArray) :: st) ops rest k w) : TI P fn R M n st ops (⟨some d, .load t X, ty, ps, af, none⟩ :: rest) k w :=
 TI_val hd (fun ρ h => by
  have h1 := load_cells (P := P) (A := some ⟨b, 0, none⟩) (j := o) hb.rd hc h0
  have e : adr (some ⟨b, 0, none⟩) o = ⟨b, o, none⟩ := by simp [adr]
  rw [e] at h1
  simp [execOp, Instr.loadAt, h _ _ hx, Instr.sureAddr, loadVar, run_isAgg_fld E ht, run_sizeOf' (E.inf_ok _ _ _ _ hi), h1]) (fun _ h => by cases h) hk
theorem TI_call (E : Env P) {g : Nat} {f : Operand} {args : Array Operand} {ats : Array TypeId} {vs : List Value} {Φ : Value → World → Prop} (hf : ev st f = some (.func (.func g) #[] #[])) (ha : evs st args.toList = some vs) (hE : E.fn g = true) (hd : Nat.blt d n = true) (hc : Ret P g vs w Φ)
  (hk : ∀ v w', Φ v w' → TI P fn R M n ((d, v) :: st) ops rest k w') : TI P fn R M n st ops (⟨some d, .call { callee := .value f, args, argTypes := ats }, ty, ps, af, none⟩ :: rest) k w := by
 intro a ha'
 unfold wpListIn
 rw [if_pos (by simp [Region.wanted])]
 refine ⟨fun _ _ => trivial, ?_⟩
 rw [Oper.semAt_eq _ _ _ (fun _ h => by cases h), run_call E (fst := []) (cap := []) (fun x u hx => ha'.ev hx) hf ha hE, Oper.uponIn_enter]
 refine ⟨fun q => (by cases q), callsIn_wide.2 ?_⟩
 have hc' : Calls P g ([] ++ vs ++ []).toArray w (RR Φ) := by simpa [Ret] using hc
 refine hc'.mono (fun e w' he => ?_)
 cases e with
 |returned v => exact hk v w' he _ (ha'.put hd v)
 |panicked ch => exact he.elim
 |outgrown => exact he.elim
theorem TI_yield {f : Operand} {args : Array Operand} {ats : Array TypeId} {vs : List Value} {Φ : Value → World → Prop} (hf : ev st f = some (.func (.yield l) #[] #[])) (ha : evs st args.toList = some vs) (hd : Nat.blt d n = true)
  (hy : YieldAt Fence.wide 0 P l vs.toArray w (RR Φ)) (hk : ∀ v w', Φ v w' → TI P fn R M n ((d, v) :: st) ops rest k w') : TI P fn R M n st ops (⟨some d, .call { callee := .value f, args, argTypes := ats }, ty, ps, af, none⟩ :: rest) k w := by
 intro a ha'
 unfold wpListIn
 rw [if_pos (by simp [Region.wanted])]
 refine ⟨fun _ _ => trivial, ?_⟩
 obtain ⟨g, tmps, assign, body, hr, hR⟩ := hy
 have e1 : args.map a.eval = vs.toArray := by
  have := map_evs (fun x u hx => ha'.ev hx) _ _ ha
  rw [← this, ← Array.toList_map, Array.toArray_toList]
 have hrun : (execOp a.eval ⟨some d, .call { callee := .value f, args, argTypes := ats }, ty, ps, af, none⟩).run P w = .ok (.round l g tmps assign body) w := by
  simp only [execOp, resolve, ha'.ev hf, e1, Deferred.ofValue, Sem.run_bind, Sem.run_pure, Result.andThen_ok, invoke]
  simpa using hr
 rw [Oper.semAt_eq _ _ _ (fun _ h => by cases h), hrun]
 refine ⟨fun q => (by cases q), hR.mono (fun e w' he => ?_)⟩
 cases e with
 |returned v => exact hk v w' he _ (ha'.put hd v)
 |panicked ch => exact he.elim
 |outgrown => exact he.elim
theorem T_rangeFunc (E : Env P) {g : Operand} {p gf N : Nat} {cap : List Value} {assign body : Code} (hg : ev st g = some (.func (.func gf) #[] cap.toArray)) (hE : E.fn gf = true) (hp : Nat.blt p n = true) (I : Nat → World → Prop)
  (h0 : ∀ w1, Ext w w1 → I 0 w1) (hIe : ∀ i W W', I i W → Ext W W' → I i W') (hIo : ∀ i W l o o', w.heap.size ≤ l → I i W → W.heap[l]? = some o → isCel o = false → I i (W.putObj l o'))
  (hit : ∀ l D w1, w.heap.size ≤ l → w.heap.size ≤ D → l ≠ D → Ext w w1 → ∀ J : Nat → World → Prop, (∀ i W, J i W → I i W) → (∀ i W W', J i W → Ext W W' → J i W') →
   (∀ i W v, J i W → (∀ r : Loop, W.heap[l]? = some (.loop r) → r.state = .ready → W.heap[D]? = some (.deferred (some [])) →
     T P fn R ⟨.r l (fun _ w' => I (i + 1) w' ∧ w'.heap[l]? = some (.loop { r with state := .busy }) ∧ w'.heap[D]? = some (.deferred (some []))), []⟩ n ((p, v) :: st) [.code assign, .beginRound, .code body] W) →
    YieldAt Fence.wide 0 P l #[v] W (RR fun v W' => v = .bool true ∧ J (i + 1) W')) →
   J 0 w1 → Ret P gf (.func (.yield l) #[] #[] :: cap) w1 (fun _ w' => J N w'))
  (hk : ∀ D w', w.heap.size ≤ D → I N w' → w'.heap[D]? = some (.deferred (some [])) → T P fn R ⟨.b false, ⟨.collected D, #[]⟩ :: ds⟩ n st k w') :
  T P fn R ⟨.b false, ds⟩ n st (.code (.rangeFunc g #[p] assign body) :: k) w := by
 intro a ha
 refine Tat.of_wp (wpIn_wide.1 (wpIn_rangeFunc (n := 1) ?_)) rfl
 intro fn' hfn'
 obtain ⟨rec, hrec⟩ : ∃ rec : LoopState → Option Code → Loop, rec = fun st pe => { state := st, pending := pe, fn := fn', tmps := a.tmps, params := #[p], assign, body, defers := w.heap.size } := ⟨_, rfl⟩
 obtain ⟨W1, hW1⟩ : ∃ W1, (w.alloc (.deferred (some []))).alloc (.loop (rec .ready none)) = W1 := ⟨_, rfl⟩
 have hL1 : W1.heap[w.heap.size + 1]? = some (.loop (rec .ready none)) := by
  rw [← hW1]; have := World.alloc_heap_new (w.alloc (.deferred (some []))) (.loop (rec .ready none)); rwa [World.size_alloc] at this
 have hK1 : W1.heap[w.heap.size]? = some (.deferred (some [])) := by
  rw [← hW1]; exact (Below.heap_alloc _ _ _ (by simp)).trans (World.alloc_heap_new w _)
 have e1 : Ext w W1 := by rw [← hW1]; exact (Ext.alloc w _).ext (Ext.alloc _ _)
 refine ⟨w.heap.size + 1, [{ target := .collected w.heap.size, args := #[] }], W1, { target := .fn (.func gf) cap.toArray, args := #[.func (.yield (w.heap.size + 1)) #[] #[]] }, W1, gf,
  #[.func (.yield (w.heap.size + 1)) #[] #[]] ++ cap.toArray, W1, ?_, ?_, fun _ _ => trivial, ?_, fun q => (by cases q), callsIn_wide.2 ?_⟩
 ·rw [← hW1, hrec]; exact run_enterLoop_outer _ _ _ _ _
 ·simp only [resolve, ha.ev hg]
  simp [go_sem]
 ·simp only [invoke]
  rw [E.fn_ok gf hE]
 ·have hc := hit (w.heap.size + 1) w.heap.size W1 (by omega) (Nat.le_refl _) (by omega) e1
   (fun i W => I i W ∧ W.heap[w.heap.size + 1]? = some (.loop (rec .ready none)) ∧ W.heap[w.heap.size]? = some (.deferred (some []))) (fun i W h => h.1)
   (fun i W W' h e => ⟨hIe i W W' h.1 e, by rw [e.block _ (Array.getElem?_eq_some_iff.1 h.2.1).1 (by simp)]; exact h.2.1, by rw [e.block _ (Array.getElem?_eq_some_iff.1 h.2.2).1 (by simp)]; exact h.2.2⟩) ?_ ⟨h0 _ e1, hL1, hK1⟩
  ·refine Calls.mono (by simpa [Ret] using hc) ?_
   rintro e w2 he
   cases e with
   |returned v =>
    obtain ⟨hi, hl, hD⟩ := he
    refine ⟨none, _, by have := run_endLoop (P := P) hl (by rw [hrec]; simp); rw [hrec] at this; exact this, ?_⟩
    exact hk w.heap.size _ (Nat.le_refl _) (hIo N w2 _ _ _ (by omega) hi hl rfl) ((World.putObj_heap_other (by omega)).trans hD) _ ⟨ha.size, by simp [ha.defers], fun i v hv => ha.get i v hv⟩
   |panicked ch => exact he.elim
   |outgrown => exact he.elim
  ·rintro i W v ⟨hi, hl, hD⟩ hT
   have hy := run_yield (P := P) (args := #[v]) hl (by rw [hrec]; rfl)
   rw [hrec] at hy
   refine ⟨fn', _, assign, body, hy, ?_⟩
   have hlt := (Array.getElem?_eq_some_iff.1 hl).1
   have h1 := hT _ hl (by rw [hrec]) hD
   have hOK := ha.put hp v
   refine round_T (st := (p, v) :: st) ⟨?_, rfl, ?_⟩ h1 ?_
   ·have := hOK.size
    simpa [Act.put] using this
   ·intro j u hu
    have := hOK.get j u hu
    simpa [Act.put] using this
   ·rintro a' w' ⟨hi', hl', hD'⟩
    have he := run_endRound (P := P) none hl'
    rw [hrec] at he hl'
    refine ⟨_, _, he, rfl, hIo _ _ _ _ _ (by omega) hi' hl' rfl, ?_, (World.putObj_heap_other (by omega)).trans hD'⟩
    rw [hrec]
    exact World.putObj_heap_same (Array.getElem?_eq_some_iff.1 hl').1
theorem T_retM {D : Nat} {v : Value} (h : w.heap[D]? = some (.deferred (some []))) (hr : ∀ w2, Mod [D] w w2 → ∀ a, OK M0 n st a → (results fn a.tmps).run P w2 = .ok v w2) (hR : ∀ w2, Mod [D] w w2 → w2.heap.size = w.heap.size → R (.returned v) w2) :
  T P fn R ⟨.b false, [⟨.collected D, #[]⟩]⟩ n st (.code .ret :: k) w := by
 intro a ha b cs hk hf
 have hd := ha.defers
 simp only at hd
 have m := Mod.putObj w D (.deferred none)
 have hs : step P (lone { b.at a (.code .ret :: k) with mode := .returning } cs w) = .next (lone { b.at { a with defers := [] } (.code .ret :: k) with mode := .returning } cs (w.putObj D (.deferred none))) := by
  have := step_collected (P := P) (fr := { b.at a (.code .ret :: k) with mode := .returning }) (cs := cs) (w := w) (d := ⟨.collected D, #[]⟩) (ds := []) (r := D) (by simp) (by simp [Frame.at, hd]) rfl (run_takeDeferred h)
  rw [this]
  rfl
 have hv : OK M0 n st { a with defers := [] } := ⟨ha.size, rfl, fun i v hv => ha.get i v hv⟩
 obtain ⟨e2, w2, fr, hR2, hc, h1, h2⟩ := leave (d := false) (Lv.nil_ret (P := P) (fn := fn) (R := R) (a := { a with defers := [] }) rfl (hr _ m _ hv) (hR _ m (by simp))) (by simp) b (.code .ret :: k) cs hk hf
 exact ⟨e2, w2, fr, hR2, Comes.of_steps (.one step_ret) (Comes.of_steps (.one hs) hc), h1, h2⟩
end
section
variable {q : Qm} {P : Program} {fn : Func} {R : Ending → World → Prop} {M : Md} {n : Nat} {st : Slots} {k : List Item} {w : World} {ops rest : List Oper}
 {d : Nat} {v : Value} {ty : TypeId} {ps : String} {af : Array Edge} {X : Operand} {t t2 e : TypeId}
theorem TL_conv_sb {l : List UInt8} (E : Env P) {ds : TypeDesc} (hx : ev st X = some (.string (ofL l)) := by exact rfl) (h1 : E.und t = some ds := by exact rfl) (h2 : E.und t2 = some (.slice e) := by exact rfl) (h3 : E.und e = some (.int .u8) := by exact rfl) (hd : Nat.blt d n = true := by exact rfl)
  (hf : Fl q (rest.length + 1) := by first | exact trivial | exact rfl) (hq : ∀ w', Ext w w' → Kp q w' := by exact fun _ _ => trivial)
  (hk : ∀ b c w', Ext w w' → w.heap.size ≤ b → b < w'.heap.size → l.length ≤ c → Rd w' (some ⟨b, 0, none⟩) l.length 1 (bv l) → TL q P fn R M n ((d, .slice (some ⟨b, 0, none⟩) l.length c) :: st) ops rest k w') :
  TL q P fn R M n st ops (⟨some d, .convert t t2 X, ty, ps, af, none⟩ :: rest) k w := by
 have hs : (ofL l).size = l.length := ofL_size l
 have he : Ext w (Go.Lib.bytesWorld w e (ofL l)) := ⟨rfl, rfl, rfl, by rw [Go.Lib.bytesWorld_size]; omega, fun j hj _ => Go.Lib.bytesWorld_at_old _ _ _ j hj⟩
 have hrd : Rd (Go.Lib.bytesWorld w e (ofL l)) (some ⟨w.heap.size, 0, none⟩) l.length 1 (bv l) := by
  refine ⟨by simp, fun _ => ⟨w.heap.size, 0, rfl, by rw [Go.Lib.bytesWorld_size]; omega, fun j u hu => ?_⟩⟩
  have hj : j < l.length := by
   rcases Nat.lt_or_ge j l.length with h | h
   ·exact h
   ·rw [List.getElem?_eq_none (by simpa using h)] at hu; cases hu
  rw [Nat.zero_add, Go.Lib.bytesWorld_cell _ _ _ _ (by omega)]
  rw [← hu]
  simp [bv, ofL, hj, List.getD]
 refine TL_new (w' := Go.Lib.bytesWorld w e (ofL l)) (v := .slice (some ⟨w.heap.size, 0, none⟩) l.length (grownCap w l.length 0 e)) hd (fun ρ h => ?_) hf (hq _ he) (hk _ _ _ he (Nat.le_refl _) (by rw [Go.Lib.bytesWorld_size]; omega) ?_ hrd)
 ·have hr := Go.Lib.run_convert_string_bytes (P := P) w t t2 e (ofL l) (E.und_ok _ _ h1) (E.und_ok _ _ h2) (E.und_ok _ _ h3)
  rw [hs] at hr
  simp [execOp, h _ _ hx, hr]
 ·exact _root_.Go.grownCap_ge _ _ _ _
theorem TL_slice3n {Y Z : Operand} {A : Option Addr} {m c s by_ : Nat} {z : Value} {L L2 : IntKind} {j j2 : Int} (E : Env P) (hx : ev st X = some (.slice A m c) := by exact rfl) (hy : ev st Y = some (.int L j) := by exact rfl) (hZ : ev st Z = some (.int L2 j2) := by exact rfl) (ht : E.und t = some (.slice e) := by exact rfl) (he : E.inf e = some (s, by_, z) := by exact rfl) (hd : Nat.blt d n = true := by exact rfl) (h0 : 0 ≤ j := by first | assumption | omega) (h1 : j ≤ j2 := by first | assumption | omega) (h2 : j2 ≤ (c : Int) := by first | assumption | omega)
  (hk : TL q P fn R M n ((d, .slice A j.toNat j2.toNat) :: st) ops rest k w) : TL q P fn R M n st ops (⟨some d, .slice t X none (some Y) (some Z), ty, ps, af, none⟩ :: rest) k w :=
 TL_val_w hd (fun w ρ h => by
  have hA : A.map (·.add 0) = A := by cases A <;> simp [Addr.add]
  have a2 : 0 ≤ j2 := by omega
  have a3 : j ≤ (j2.toNat : Int) := by omega
  have a4 : j ≤ max j2 0 := by omega
  simp [execOp, Instr.sliceAt, Instr.slice, Instr.sliceBounds, Instr.sliceBound, asIntOf, run_underlying (E.und_ok _ _ ht), h _ _ hx, h _ _ hy, h _ _ hZ, h0, h1, h2, a2, a3, a4, run_sizeOf' (E.inf_ok _ _ _ _ he), hA]) hk
theorem TI_not {b : Bool} {t : TypeId} (hx : ev st X = some (.bool b)) (hd : Nat.blt d n = true) (hk : TI P fn R M n ((d, .bool (!b)) :: st) ops rest k w) : TI P fn R M n st ops (⟨some d, .unOp .not t X, ty, ps, af, none⟩ :: rest) k w :=
 TI_val hd (fun ρ h => by simp [execOp, h _ _ hx, Op.unary]) (fun _ h => by cases h) hk
end
end Go.Proofs.Eng
namespace Go.Proofs.YtjlaomcankmdjaaGreat
open Go.RowKit Go.Proofs.Eng Go.Proofs.Codec
set_option linter.unusedVariables false set_option maxRecDepth 10000
attribute [local irreducible] T TL LV TH TA
set_option maxHeartbeats 1000000
theorem Rd.tail1 {w : World} {A : Option Addr} {n c p : Nat} {l : List UInt8} (h : Rd w A n 1 (bv l)) (hp : p ≤ n) (hc : n ≤ c) : Rd w (cutA A c p 1) (n - p) 1 (bv (l.drop p)) := by
 have hlen : l.length = n := by simpa using h.1
 have h2 := h.cut (c := c) (l := p) (h := n) hp (Nat.le_refl _) hc
 have e : ((bv l).drop (p * 1)).take ((n - p) * 1) = bv (l.drop p) := by
  unfold bv
  rw [Nat.mul_one, Nat.mul_one, ← List.map_drop, List.take_of_length_le (by simp; omega)]
 rw [e] at h2
 exact h2
end Go.Proofs.YtjlaomcankmdjaaGreat
namespace Go.Proofs.YtjlaomcankmdjaaGreat
open Go.RowKit Go.Proofs.Eng Go.Proofs.Codec Go.Proofs.Foot Go.Proofs.Journal
set_option linter.unusedVariables false set_option maxRecDepth 10000
attribute [local irreducible] T TL LV TH TA
set_option maxHeartbeats 1600000
def EnOut (w : World) (base : Nat) (o : Option EE) (q : Value) (e : Int) : Prop :=
 ∃ x : EM, q = eA x ∧ POwn w base x.m ∧ (match o with
  |some r => e = 0 ∧ emE x = r
  |none => ¬ e = 0)
theorem EnOut.no {w : World} {base : Nat} {e : Int} (h : ¬ e = 0) : EnOut w base none (.agg #[.int .i64 0, .int .i64 0, .int .i64 0, .int .u64 0, .string (ofL []), .slice none 0 0, .int .i64 0, .slice none 0 0, .slice none 0 0]) e :=
 ⟨em0, rfl, ⟨Own.nil _ _ _ _, Own.nil _ _ _ _, Own.nil _ _ _ _⟩, h⟩
theorem take_lt {s : RS} : (s.take (0 : Nat) num0).1 < 2 ^ 64 := by
 unfold RS.take
 split
 ·cases h : num0 (s.b.drop s.pos) with
  |error x => simp
  |ok r => exact (num0_ok (by rw [h])).1
 ·simp
theorem byte_lt {s : RS} : (s.take (0 : Nat) tByte).1 < 256 := by
 unfold RS.take
 split
 ·cases h : tByte (s.b.drop s.pos) with
  |error x => simp
  |ok r =>
   obtain ⟨c, t, h1, h2, -⟩ := tByte_ok (x := r.1) (k := r.2) (by rw [h])
   have := c.toNat_lt
   simp only
   omega
 ·simp
theorem EGet_c (A : Option Addr) (n c : Nat) (b : List UInt8) (w : World) (h : Rd w A n 1 (bv b)) (hn : n ≤ 200000) (hcap : n ≤ c) :
  Ret Tryz.prog 89 [.slice A n c] w (fun v w' => ∃ q e, v = .tuple #[q, .int .i64 e] ∧ Ext w w' ∧ EnOut w' w.heap.size (getEn b) q e) := by
 have hbl : b.length = n := by simpa using h.1
 unfold getEn
 refine ret_T (n := 95) Tryz.func89 rfl rfl ?_
 repeat (first | refine T_seq ?_ | refine T_region ?_)
 refine TL_alloc TE (hk := ?_); intro b2 w2 e2 h2 h2' k2
 have z2 := e2.size
 repeat (first | refine T_seq ?_ | refine T_region ?_ | refine TL_nil ?_ | refine TL_move (hk := ?_) | refine TL_assign (hk := ?_))
 refine TL_call TE (hc := NewReader_c A n c b _ (h.be e2) (by omega)) (hk := ?_)
 rintro _ w3 ⟨bR, A3, n3, c3, rfl, e3, hbR, hi3, lo3, rr⟩
 have z3 := e3.size
 have lR := rr.blk.lt
 have hn3 : b.length = n3 := rr.len
 have k23 := k2.be e3
 have e03 := e2.ext e3
 clear k2
 repeat (first | refine T_seq ?_ | refine T_region ?_ | refine TL_nil ?_ | refine TL_move (hk := ?_) | refine TL_assign (hk := ?_))
 refine TL_call TE (hc := Uint_c bR _ A3 n3 c3 w3 rr) (hk := ?_)
 rintro _ w4 ⟨rfl, m4, rr4⟩
 obtain ⟨p1, hp1⟩ : ∃ p1, ge1 b = p1 := ⟨_, rfl⟩
 have q1 : (RS.mk b 0 0 0 0).take (0 : Nat) num0 = p1 := hp1
 have l1 := take_lt (s := RS.mk b 0 0 0 0)
 rw [q1] at rr4 l1 ⊢
 repeat (refine TL_move (hk := ?_))
 refine TL_call TE (hc := Uint_c bR _ A3 n3 c3 w4 rr4) (hk := ?_)
 rintro _ w5 ⟨rfl, m5, rr5⟩
 obtain ⟨p2, hp2⟩ : ∃ p2, ge2 b = p2 := ⟨_, rfl⟩
 have q2 : p1.2.take (0 : Nat) num0 = p2 := by rw [← hp1]; exact hp2
 have l2 := take_lt (s := p1.2)
 rw [q2] at rr5 l2 ⊢
 repeat (first | refine T_seq ?_ | refine T_region ?_ | refine TL_nil ?_ | refine TL_move (hk := ?_) | refine TL_assign (hk := ?_) | refine TL_len TE (hk := ?_))
 refine TL_call TE (hc := Text_c bR _ A3 n3 c3 (n : Int) (by omega) w5 rr5) (hk := ?_)
 rintro _ w6 ⟨rfl, m6, rr6⟩
 obtain ⟨p3, hp3⟩ : ∃ p3, ge3 b = p3 := ⟨_, rfl⟩
 have q3 : p2.2.take ([] : List UInt8) (tText n) = p3 := by rw [← hp2, ← hbl]; exact hp3
 have l3 := text_len p2.2 n
 have hb3 : p2.2.b.length = n := by rw [← hp2]; unfold ge2 ge1; rw [take_b, take_b]; exact hbl
 rw [q3] at rr6 l3 ⊢
 repeat (first | refine T_seq ?_ | refine T_region ?_ | refine TL_nil ?_ | refine TL_move (hk := ?_) | refine TL_assign (hk := ?_))
 refine TL_call TE (hc := Byte_c bR _ A3 n3 c3 w6 rr6) (hk := ?_)
 rintro _ w7 ⟨rfl, m7, rr7⟩
 obtain ⟨p4, hp4⟩ : ∃ p4, ge4 b = p4 := ⟨_, rfl⟩
 have q4 : p3.2.take (0 : Nat) tByte = p4 := by rw [← hp3]; exact hp4
 have l4 := byte_lt (s := p3.2)
 rw [q4] at rr7 l4 ⊢
 repeat (first | refine T_seq ?_ | refine T_region ?_ | refine TL_nil ?_ | refine TL_move (hk := ?_) | refine TL_assign (hk := ?_))
 refine TL_call TE (hc := Why_c bR _ A3 n3 c3 w7 rr7) (hk := ?_)
 rintro _ w8 ⟨rfl, e8⟩
 have m38 := (((m4.trans m5).trans m6).trans m7).ext e8
 have rr8 := rr7.ext e8
 have e08 : Ext w w8 := e03.step m38 (fun u hu => .inr (by rw [List.mem_singleton.1 hu]; omega))
 have k28 := k23.mod m38 (fun q => by rw [List.mem_singleton] at q; omega)
 have z8 := m38.size
 rw [hp1, hp2, hp3, hp4]
 clear rr rr4 rr5 rr6 rr7 k23
 obtain ⟨x1, hx1⟩ : ∃ x, p1.1 = x := ⟨_, rfl⟩
 obtain ⟨x2, hx2⟩ : ∃ x, p2.1 = x := ⟨_, rfl⟩
 obtain ⟨x4, hx4⟩ : ∃ x, p4.1 = x := ⟨_, rfl⟩
 rw [hx1] at l1 ⊢
 rw [hx2] at l2 ⊢
 rw [hx4] at l4 ⊢
 have hx1i : (9223372036854775807 : Int) < (x1 : Int) ↔ 9223372036854775807 < x1 := by omega
 have hx2i : (9223372036854775807 : Int) < (x2 : Int) ↔ 9223372036854775807 < x2 := by omega
 repeat (first | refine TL_nil ?_ | refine TL_move (hk := ?_) | refine TL_assign (hk := ?_) | refine TL_extract (hk := ?_))
 refine T_seq ?_
 refine T_join (ι := Bool) (fun t => [(51, .bool t), (8, .int .u8 (x4 : Int)), (7, .string (ofL p3.1)), (6, .int .u64 (x2 : Int)), (5, .int .u64 (x1 : Int)), (4, ptr bR), (2, .pointer (some ⟨b2, 0, none⟩)), (0, .slice A n c)]) (fun t w' => w' = w8 ∧ (t = true ↔ (p4.2.err ≠ 0 ∨ 9223372036854775807 < x1 ∨ 9223372036854775807 < x2 ∨ (x4 ≠ 1 ∧ x4 ≠ 2)))) (fun kk join => ?_) ?_
 ·by_cases d1 : p4.2.err = 0
  ·by_cases d2 : 9223372036854775807 < x1
   ·have d2' := hx1i.2 d2
    repeat (first | refine T_region ?_ | refine TL_gt_t (hk := ?_) | refine TL_ne_f (hk := ?_) | refine TL_nil ?_ | refine TL_move (hk := ?_) | refine TL_yes (hk := ?_) | refine TL_no (hk := ?_) | refine TL_pick_t (hk := ?_) | refine TL_pick_f (hk := ?_))
    exact T.sub (join true _ ⟨rfl, fun _ => .inr (.inl d2), fun _ => rfl⟩) (.c rfl (.c rfl (.c rfl (.c rfl (.c rfl (.c rfl (.c rfl (.c rfl (.n)))))))))
   ·have d2' := fun q => d2 (hx1i.1 q)
    by_cases d3 : 9223372036854775807 < x2
    ·have d3' := hx2i.2 d3
     repeat (first | refine T_region ?_ | refine TL_gt_t (hk := ?_) | refine TL_gt_f (hk := ?_) | refine TL_ne_f (hk := ?_) | refine TL_nil ?_ | refine TL_move (hk := ?_) | refine TL_yes (hk := ?_) | refine TL_no (hk := ?_) | refine TL_pick_t (hk := ?_) | refine TL_pick_f (hk := ?_))
     exact T.sub (join true _ ⟨rfl, fun _ => .inr (.inr (.inl d3)), fun _ => rfl⟩) (.c rfl (.c rfl (.c rfl (.c rfl (.c rfl (.c rfl (.c rfl (.c rfl (.n)))))))))
    ·have d3' := fun q => d3 (hx2i.1 q)
     by_cases d4 : x4 = 1
     ·repeat (first | refine T_region ?_ | refine TL_gt_f (hk := ?_) | refine TL_ne_f (hk := ?_) | refine TL_nil ?_ | refine TL_move (hk := ?_) | refine TL_yes (hk := ?_) | refine TL_no (hk := ?_) | refine TL_pick_f (hk := ?_))
      exact T.sub (join false _ ⟨rfl, fun q => (by cases q), fun q => absurd q (by omega)⟩) (.c rfl (.c rfl (.c rfl (.c rfl (.c rfl (.c rfl (.c rfl (.c rfl (.n)))))))))
     ·by_cases d5 : x4 = 2
      ·have d4' : ¬ (x4 : Int) = 1 := by omega
       repeat (first | refine T_region ?_ | refine TL_gt_f (hk := ?_) | refine TL_ne_t (hk := ?_) | refine TL_ne_f (hk := ?_) | refine TL_nil ?_ | refine TL_move (hk := ?_) | refine TL_yes (hk := ?_) | refine TL_pick_t (hk := ?_) | refine TL_pick_f (hk := ?_))
       exact T.sub (join false _ ⟨rfl, fun q => (by cases q), fun q => absurd q (by omega)⟩) (.c rfl (.c rfl (.c rfl (.c rfl (.c rfl (.c rfl (.c rfl (.c rfl (.n)))))))))
      ·have d4' : ¬ (x4 : Int) = 1 := by omega
       have d5' : ¬ (x4 : Int) = 2 := by omega
       repeat (first | refine T_region ?_ | refine TL_gt_f (hk := ?_) | refine TL_ne_t (hk := ?_) | refine TL_ne_f (hk := ?_) | refine TL_nil ?_ | refine TL_move (hk := ?_) | refine TL_yes (hk := ?_) | refine TL_pick_t (hk := ?_) | refine TL_pick_f (hk := ?_))
       exact T.sub (join true _ ⟨rfl, fun _ => .inr (.inr (.inr ⟨d4, d5⟩)), fun _ => rfl⟩) (.c rfl (.c rfl (.c rfl (.c rfl (.c rfl (.c rfl (.c rfl (.c rfl (.n)))))))))
  ·repeat (first | refine T_region ?_ | refine TL_ne_t (hk := ?_) | refine TL_nil ?_ | refine TL_move (hk := ?_) | refine TL_no (hk := ?_) | refine TL_pick_t (hk := ?_))
   exact T.sub (join true _ ⟨rfl, fun _ => .inl d1, fun _ => rfl⟩) (.c rfl (.c rfl (.c rfl (.c rfl (.c rfl (.c rfl (.c rfl (.c rfl (.n)))))))))
 rintro t w9 ⟨rfl, ht⟩
 cases t with
 |true =>
  rw [if_pos (ht.1 rfl)]
  repeat (first | refine T_seq ?_ | refine T_region ?_ | refine T_cond_true rfl ?_ | refine TL_build TE (hk := ?_))
  refine TL_storea TE (hk := ?_); intro w20 m20 z20 k20
  repeat (first | refine TL_nil ?_ | refine TL_assign (hk := ?_))
  exact T_retA2 TE (vs := [.int .i64 0, .int .i64 0, .int .i64 0, .int .u64 0, .string (ofL []), .slice none 0 0, .int .i64 0, .slice none 0 0, .slice none 0 0]) (o := 0) rfl rfl rfl rfl rfl k20 rfl (Nat.succ_pos _) ⟨_, 123, rfl, e08.step m20 (fun u hu => .inr (by rw [List.mem_singleton.1 hu]; omega)), EnOut.no (by decide)⟩
 |false => ?_
 have hd : ¬ (p4.2.err ≠ 0 ∨ 9223372036854775807 < x1 ∨ 9223372036854775807 < x2 ∨ (x4 ≠ 1 ∧ x4 ≠ 2)) := fun q => by have := ht.2 q; cases this
 rw [if_neg hd]
 have d1 : p4.2.err = 0 := by omega
 have d2 : x1 ≤ 9223372036854775807 := by omega
 have d3 : x2 ≤ 9223372036854775807 := by omega
 have d4 : x4 = 1 ∨ x4 = 2 := by omega
 clear hx1i hx2i ht
 repeat (first | refine T_seq ?_ | refine T_region ?_ | refine T_cond_false rfl ?_ | refine T_skip ?_ | refine TL_move (hk := ?_))
 refine TL_conv_sb TE (hk := ?_); intro b10 c10 w10 e10 h10 h10' hc10 r10
 --
 refine TL_call TE (hc := RqGet_c (some ⟨b10, 0, none⟩) p3.1.length c10 p3.1 w10 r10 (by omega) hc10) (hk := ?_)
 rintro _ w11 ⟨_, qe, _, rfl, e11, ⟨rq, Y, rfl, oY, hrq⟩⟩
 repeat (first | refine TL_move (hk := ?_) | refine TL_extract (hk := ?_))
 refine TL_alloc TE (hk := ?_); intro b12 w12 e12 h12 h12' k12
 --
 refine TL_storea TE (hk := ?_); intro w13 m13 z13 k13
 have e13 : Ext w w13 := ((((e08.ext e10).ext e11).ext e12)).step m13 (fun u hu => .inr (by rw [List.mem_singleton.1 hu]; have := e08.size; have := e10.size; have := e11.size; omega))
 have e813 : Ext w9 w13 := ((e10.ext e11).ext e12).step m13 (fun u hu => .inr (by rw [List.mem_singleton.1 hu]; have := e10.size; have := e11.size; omega))
 have rr13 := rr8.ext e813
 have k213 := k28.be e813
 have z10 := e10.size
 have z11 := e11.size
 have oY13 : Own w13 w10.heap.size 161 3 Y.1 Y.2.1 Y.2.2 (rowV veV rq.ar) := (oY.be e12).modL m13 (fun u hu q => by have := (oY.bl u hu).2; rw [List.mem_singleton] at q; omega)
 clear rr8 k28 k12 oY
 have hr1 : p4.2.rest ≤ n := by
  have h1 := rr13.len
  unfold RS.rest
  split <;> omega
 repeat (first | refine T_seq ?_ | refine T_region ?_ | refine TL_nil ?_ | refine TL_move (hk := ?_) | refine TL_assign (hk := ?_) | refine TL_len TE (hk := ?_))
 refine TL_call TE (hc := Rest_c bR _ A3 n3 c3 w13 rr13) (hk := ?_)
 rintro _ w14 ⟨rfl, e14⟩
 obtain ⟨y, hy⟩ : ∃ y, n - p4.2.rest = y := ⟨_, rfl⟩
 have hyi : (n : Int) - (p4.2.rest : Int) = (y : Int) := by omega
 repeat (first | refine TL_sub (hk := ?_) | refine TL_slice_lo TE (hk := ?_))
 have hyn : ((n : Int) - (p4.2.rest : Int)).toNat = y := by omega
 rw [hyn]
 have h14 := h.be (e13.ext e14)
 refine TL_call TE (hc := Get_c (cutA A c y 1) (n - y) (c - y) (b.drop y) w14 (Rd.tail1 h14 (by omega) hcap) (by omega)) (hk := ?_)
 rintro _ w15 ⟨_, rfl, e15, ⟨U, nu, cu, V, nv, cv, rfl, oU, oV, -⟩⟩
 have hgF : getF (b.drop y) = geF b := by unfold geF; rw [hp4, hbl, hy]
 obtain ⟨gF, hgf⟩ : ∃ g, geF b = g := ⟨_, rfl⟩
 rw [hgF, hgf] at oU oV ⊢
 repeat (first | refine TL_move (hk := ?_) | refine TL_extract (hk := ?_))
 refine TL_alloc TE (hk := ?_); intro b16 w16 e16 h16 h16' k16
 --
 refine TL_storea TE (hk := ?_); intro w17 m17 z17 k17
 have z14 := e14.size
 have z15 := e15.size
 have z16 := e16.size
 have k1317 := ((k13.be e14).be (e15.ext e16)).mod m17 (fun q => by have := k13.lt; rw [List.mem_singleton] at q; omega)
 have e1317 : Ext w13 w17 := ((e14.ext e15).ext e16).step m17 (fun u hu => .inr (by rw [List.mem_singleton.1 hu]; omega))
 have oU17 : Own w17 w14.heap.size 9 1 U nu cu (sv gF.1.1.1) := (oU.be e16).modL m17 (fun u hu q => by have := (oU.bl u hu).2; rw [List.mem_singleton] at q; omega)
 have oV17 : Own w17 w14.heap.size 9 1 V nv cv (sv gF.1.1.2) := (oV.be e16).modL m17 (fun u hu q => by have := (oV.bl u hu).2; rw [List.mem_singleton] at q; omega)
 have oY17 := oY13.be e1317
 have k217 := k213.be e1317
 have rr17 := rr13.ext e1317
 have e017 := e13.ext e1317
 replace k17 : Blk w17 b16 43 [.slice U nu cu, .slice V nv cv] := k17
 clear rr13 k213 k13 oU oV oY13 k16 h14
 repeat (first | refine TL_nil ?_ | refine TL_assign (hk := ?_))
 refine T_seq ?_
 refine T_seq ?_
 refine T_join (ι := Bool) (fun t => [(83, .bool t), (14, .pointer (some ⟨b16, 0, none⟩)), (11, .pointer (some ⟨b12, 0, none⟩)), (8, .int .u8 (x4 : Int)), (6, .int .u64 (x2 : Int)), (5, .int .u64 (x1 : Int)), (2, .pointer (some ⟨b2, 0, none⟩))]) (fun t w' => Ext w17 w' ∧ (t = false ↔ (qe = 0 ∧ gF.2 = 0 ∧ gF.1.2 = p4.2.rest))) (fun kk join => ?_) ?_
 ·by_cases d5 : qe = 0
  ·by_cases d6 : gF.2 = 0
   ·repeat (first | refine T_region ?_ | refine TL_ne_f (hk := ?_) | refine TL_move (hk := ?_) | refine TL_yes (hk := ?_) | refine TL_pick_f (hk := ?_))
    refine TL_call TE (hc := Rest_c bR _ A3 n3 c3 w17 rr17) (hk := ?_)
    rintro _ w18 ⟨rfl, e18⟩
    by_cases d7 : gF.1.2 = p4.2.rest
    ·have d7' : ((gF.1.2 : Nat) : Int) = ((p4.2.rest : Nat) : Int) := by omega
     repeat (first | refine TL_ne_f (hk := ?_) | refine TL_nil ?_ | refine TL_yes (hk := ?_) | refine TL_pick_f (hk := ?_))
     exact T.sub (join false _ ⟨e18, fun _ => ⟨d5, d6, d7⟩, fun _ => rfl⟩) (.c rfl (.c rfl (.c rfl (.c rfl (.c rfl (.c rfl (.c rfl (.n))))))))
    ·have d7' : ¬ ((gF.1.2 : Nat) : Int) = ((p4.2.rest : Nat) : Int) := by omega
     repeat (first | refine TL_ne_t (hk := ?_) | refine TL_nil ?_ | refine TL_yes (hk := ?_) | refine TL_pick_f (hk := ?_))
     exact T.sub (join true _ ⟨e18, fun q => (by cases q), fun q => absurd q.2.2 d7⟩) (.c rfl (.c rfl (.c rfl (.c rfl (.c rfl (.c rfl (.c rfl (.n))))))))
   ·repeat (first | refine T_region ?_ | refine TL_ne_t (hk := ?_) | refine TL_ne_f (hk := ?_) | refine TL_nil ?_ | refine TL_move (hk := ?_) | refine TL_yes (hk := ?_) | refine TL_no (hk := ?_) | refine TL_pick_t (hk := ?_) | refine TL_pick_f (hk := ?_))
    exact T.sub (join true _ ⟨Mod.refl _ _, fun q => (by cases q), fun q => absurd q.2.1 d6⟩) (.c rfl (.c rfl (.c rfl (.c rfl (.c rfl (.c rfl (.c rfl (.n))))))))
  ·repeat (first | refine T_region ?_ | refine TL_ne_t (hk := ?_) | refine TL_nil ?_ | refine TL_move (hk := ?_) | refine TL_no (hk := ?_) | refine TL_pick_t (hk := ?_))
   exact T.sub (join true _ ⟨Mod.refl _ _, fun q => (by cases q), fun q => absurd q.1 d5⟩) (.c rfl (.c rfl (.c rfl (.c rfl (.c rfl (.c rfl (.c rfl (.n))))))))
 rintro t w18 ⟨e18, ht⟩
 have k218 := k217.be e18
 clear k217 rr17
 cases t with
 |true =>
  have hno : geQ b (getR p3.1) = none := by
   cases hg : getR p3.1 with
   |none => rfl
   |some r' =>
    rw [hg] at hrq
    unfold geQ
    rw [hgf, hp4]
    simp only
    rw [if_neg]
    intro q
    have := ht.2 ⟨hrq.1, q.1, q.2⟩
    cases this
  rw [hno]
  repeat (first | refine T_seq ?_ | refine T_region ?_ | refine T_cond_true rfl ?_ | refine TL_build TE (hk := ?_))
  refine TL_storea TE (hk := ?_); intro w20 m20 z20 k20
  repeat (first | refine TL_nil ?_ | refine TL_assign (hk := ?_))
  exact T_retA2 TE (vs := [.int .i64 0, .int .i64 0, .int .i64 0, .int .u64 0, .string (ofL []), .slice none 0 0, .int .i64 0, .slice none 0 0, .slice none 0 0]) (o := 0) rfl rfl rfl rfl rfl k20 rfl (Nat.succ_pos _) ⟨_, 123, rfl, (e017.ext e18).step m20 (fun u hu => .inr (by rw [List.mem_singleton.1 hu]; omega)), EnOut.no (by decide)⟩
 |false => ?_
 obtain ⟨d5, d6, d7⟩ := ht.1 rfl
 have hyes : geQ b (getR p3.1) = some ⟨(x1 : Int), (x2 : Int), ⟨rq, (x4 : Int), gF.1.1.1, gF.1.1.2⟩⟩ := by
  cases hg : getR p3.1 with
  |none => rw [hg] at hrq; exact absurd d5 hrq
  |some r' =>
   rw [hg] at hrq
   obtain rfl := hrq.2
   unfold geQ
   rw [hgf, hp4, hp1, hp2]
   simp only
   rw [if_pos ⟨d6, d7⟩, hx1, hx2, hx4]
 rw [hyes]
 have k1318 := k1317.be e18
 have k1718 := k17.be e18
 repeat (first | refine T_seq ?_ | refine T_region ?_ | refine T_cond_false rfl ?_ | refine T_skip ?_ | refine TL_move (hk := ?_) | refine TL_conv TE (hk := ?_))
 refine TL_loadb TE (cs := [.int .i64 rq.cl, .int .u64 (rq.tk : Int), .string (ofL rq.nm), sL Y]) (o := 0) rfl rfl k1318 rfl rfl (Nat.succ_pos _) (hk := ?_)
 repeat (first | refine TL_move (hk := ?_) | refine TL_conv TE (hk := ?_))
 refine TL_loadb TE (cs := [.slice U nu cu, .slice V nv cv]) (o := 0) rfl rfl k1718 rfl rfl (Nat.succ_pos _) (hk := ?_)
 repeat (refine TL_build TE (hk := ?_))
 refine TL_storea TE (hk := ?_); intro w20 m20 z20 k20
 repeat (first | refine TL_nil ?_ | refine TL_assign (hk := ?_))
 have z13 := e13.size
 have z8' := e08.size
 have z17' := e1317.size
 have z18 := e18.size
 have hne : ∀ u, w9.heap.size ≤ u → u ∉ [b2] := fun u hu q => by rw [List.mem_singleton] at q; omega
 exact T_retA2 TE (vs := [.int .i64 (x1 : Int), .int .i64 (x2 : Int), .int .i64 rq.cl, .int .u64 (rq.tk : Int), .string (ofL rq.nm), sL Y, .int .i64 (x4 : Int), .slice U nu cu, .slice V nv cv]) (o := 0) rfl rfl rfl rfl rfl k20 rfl (Nat.succ_pos _) ⟨_, 0, rfl, (e017.ext e18).step m20 (fun u hu => .inr (by rw [List.mem_singleton.1 hu]; omega)), ⟨(x1 : Int), (x2 : Int), ⟨⟨rq, (x4 : Int), gF.1.1.1, gF.1.1.2⟩, Y, (U, nu, cu), (V, nv, cv)⟩⟩, rfl,
  ⟨Own.weaken ((oY17.be e18).modL m20 (fun u hu => hne u (by have := (oY17.bl u hu).1; omega))) (by omega), Own.weaken ((oU17.be e18).modL m20 (fun u hu => hne u (by have := (oU17.bl u hu).1; omega))) (by omega), Own.weaken ((oV17.be e18).modL m20 (fun u hu => hne u (by have := (oV17.bl u hu).1; omega))) (by omega)⟩, rfl, rfl⟩
end Go.Proofs.YtjlaomcankmdjaaGreat
namespace Go.Proofs.YtjlaomcankmdjaaGreat
open Go.Proofs.Eng Go.Proofs.Codec Go.Proofs.Foot Go.Proofs.Journal
theorem lim_le {s : RS} {most e : Int} (h0 : 0 ≤ most) : ((s.take (0 : Nat) (tLim most e)).1 : Int) ≤ most := by
 unfold RS.take
 split
 ·cases h : tLim most e (s.b.drop s.pos) with
  |error x => simpa using h0
  |ok r => exact tLim_le (by rw [h])
 ·simpa using h0
theorem text_le {s : RS} {most : Int} (h0 : 0 ≤ most) : ((s.take ([] : List UInt8) (tText most)).1.length : Int) ≤ most := by
 unfold RS.take
 split
 ·cases h : tText most (s.b.drop s.pos) with
  |error x => simpa using h0
  |ok r => exact tText_le (by rw [h])
 ·simpa using h0
theorem zag_fit {n : Nat} (h : n < 2 ^ 64) : -9223372036854775808 ≤ zag n ∧ zag n ≤ 9223372036854775807 := by
 unfold zag
 split <;> omega
theorem int_fit {s : RS} : -9223372036854775808 ≤ (s.take (0 : Int) tInt).1 ∧ (s.take (0 : Int) tInt).1 ≤ 9223372036854775807 := by
 unfold RS.take
 split
 ·cases h : tInt (s.b.drop s.pos) with
  |error x => simp
  |ok r =>
   obtain ⟨v, k⟩ := r
   simp only
   unfold tInt at h
   cases hq : num0 (s.b.drop s.pos) with
   |error x => rw [hq] at h; cases h
   |ok q =>
    obtain ⟨m, j⟩ := q
    rw [hq] at h
    cases h
    exact zag_fit (num0_ok hq).1
 ·simp
theorem takeV_fit (s : RS) : VFit (takeV s).1 := by
 have hz : VFit vz := ⟨by decide, by decide, by decide⟩
 have h0 : ∀ s a, VFit (takeV0 s a).1 := fun s a => by
  unfold takeV0
  split
  ·exact ⟨⟨by simp, by simp⟩, int_fit, by simp⟩
  ·split
   ·have := text_le (s := s) (most := 64) (by decide)
    exact ⟨⟨by simp, by simp⟩, ⟨by simp, by simp⟩, by simp only; omega⟩
   ·split <;> exact hz
 unfold takeV endV
 split
 ·exact hz
 ·exact h0 _ _
theorem argsR_fit : ∀ (n : Nat) (s : RS) (acc : List VE) (r : List VE × RS), argsR n s acc = some r → (∀ v ∈ acc, VFit v) → r.1.length = acc.length + n ∧ ∀ v ∈ r.1, VFit v
 | 0, s, acc, r, h, hf => by cases h; exact ⟨rfl, hf⟩
 |n + 1, s, acc, r, h, hf => by
  unfold argsR at h
  split at h
  ·cases h
  ·obtain ⟨h1, h2⟩ := argsR_fit n _ _ r h (fun v hv => by
    rcases List.mem_append.1 hv with q | q
    ·exact hf v q
    ·rw [List.mem_singleton.1 q]; exact takeV_fit s)
   refine ⟨?_, h2⟩
   rw [h1, List.length_append]
   simp only [List.length_cons, List.length_nil]
   omega
theorem getR_fit {b : List UInt8} {r : RE} (h : getR b = some r) : RFit r ∧ r.ar.length ≤ 8 := by
 unfold getR at h
 split at h
 ·cases h
 ·cases ha : argsR (rq5 b).1 (rq5 b).2 [] with
  |none => rw [ha] at h; cases h
  |some q =>
   rw [ha] at h
   unfold endR at h
   simp only at h
   split at h
   ·cases h
    obtain ⟨h1, h2⟩ := argsR_fit _ _ _ _ ha (fun v hv => by cases hv)
    have n1 : ((rq1 b).1 : Int) ≤ 63 := lim_le (by decide)
    have n5 : ((rq5 b).1 : Int) ≤ 8 := lim_le (by decide)
    have n3 : (((rq3 b).1).length : Int) ≤ 16 := text_le (by decide)
    refine ⟨⟨by simp only; omega, by have := take_lt (s := (rq1 b).2); exact this, by simp only; omega, h2⟩, ?_⟩
    simp only
    rw [h1]
    simp only [List.length_nil]
    omega
   ·cases h
theorem norm_fit {r k : List Tx} (h : isNorm r k = true) : r.length ≤ 64 ∧ k.length ≤ 64 ∧ Short r ∧ Short k := by
 have h1 := norm_short h
 have h2 := h
 unfold isNorm at h2
 rw [decide_eq_true_eq] at h2
 have h3 : r = keysM (ofM r k) 1 ∧ k = keysM (ofM r k) 2 := by
  obtain ⟨a, b, c⟩ := h2
  unfold normF at a b c
  split at a
  ·rename_i q1
   rw [if_pos q1] at b c
   split at a
   ·cases a
   ·rename_i q2
    rw [if_neg q2] at b c
    exact ⟨b.symm, c.symm⟩
  ·cases a
 have hk : ∀ m u, (keysM m u).length ≤ m.length := fun m u => by
  unfold keysM used
  rw [List.length_mergeSort, List.length_map]
  exact List.length_filter_le _ _
 refine ⟨by rw [h3.1]; exact Nat.le_trans (hk _ _) h1.2, by rw [h3.2]; exact Nat.le_trans (hk _ _) h1.2, fun i hi => ?_, fun i hi => ?_⟩
 ·have := h1.1 (r.getD i []) (List.mem_append_left _ (by rw [List.getD_eq_getElem?_getD, List.getElem?_eq_getElem hi]; exact List.getElem_mem _))
  omega
 ·have := h1.1 (k.getD i []) (List.mem_append_right _ (by rw [List.getD_eq_getElem?_getD, List.getElem?_eq_getElem hi]; exact List.getElem_mem _))
  omega
theorem getEn_fit (b : List UInt8) (e : EE) (h : getEn b = some e) : PFit e.p := by
 unfold getEn at h
 split at h
 ·cases h
 ·rename_i hc
  cases hq : getR (ge3 b).1 with
  |none => rw [hq] at h; cases h
  |some q =>
   rw [hq] at h
   unfold geQ at h
   simp only at h
   split at h
   ·rename_i hg
    cases h
    obtain ⟨f1, f2⟩ := getR_fit hq
    obtain ⟨g1, -, -⟩ := put_get (b := b.drop (b.length - (ge4 b).2.rest)) hg.1
    obtain ⟨n1, n2, n3, n4⟩ := norm_fit g1
    have hb := byte_lt (s := (ge3 b).2)
    exact ⟨f1, by simp only; show _ ∧ ((ge4 b).1 : Int) ≤ _; have : (ge4 b).1 < 256 := hb; omega, by simp only; omega, Nat.le_trans n1 (by decide), Nat.le_trans n2 (by decide), n3, n4⟩
   ·cases h
end Go.Proofs.YtjlaomcankmdjaaGreat
namespace Go.Proofs.YtjlaomcankmdjaaGreat
open Go.RowKit Go.Proofs.Eng Go.Proofs.Codec
set_option linter.unusedVariables false set_option maxRecDepth 10000
attribute [local irreducible] T TL LV TH TA
set_option maxHeartbeats 1000000
theorem Sum_c (A : Option Addr) (n c : Nat) (l : List UInt8) (w : World) (h : Rd w A n 1 (bv l)) (hn : n ≤ 70368744177664) :
  Ret Tryz.prog 130 [.slice A n c] w (fun v w' => v = .int .u32 (crc l : Nat) ∧ w' = w) := by
 have hlen : l.length = n := by simpa using h.1
 refine ret_T (n := 30) Tryz.func130 rfl rfl ?_
 repeat (first | refine T_seq ?_ | refine T_region ?_ | refine T_block ?_ | refine TL_nil ?_ | refine TL_move (hk := ?_) | refine TL_assign (hk := ?_) | refine TL_len TE (hk := ?_))
 refine T_loop (ι := Nat × Nat) (fun i => [(6, .slice A n c), (7, .int .i64 (n : Int)), (8, .int .i64 (i.1 : Int)), (3, .int .u32 (i.2 : Int))])
  (fun i w' => w' = w ∧ i.1 ≤ n ∧ i.2 < 2 ^ 32 ∧ crcAll (l.drop i.1) i.2 = crcAll l 4294967295) (fun i => n - i.1) (0, 4294967295) (.c rfl (.c rfl (.c rfl (.c rfl (.n))))) ⟨rfl, by simp, by simp, rfl⟩ ?_
 rintro ⟨k, z⟩ w1 ⟨rfl, hk, hz, hinv⟩ ih
 simp only at hk hz hinv ih ⊢
 by_cases hkn : k < n
 ·repeat (first | refine T_seq ?_ | refine T_region ?_ | refine T_cond_true rfl ?_ | refine T_block ?_ | refine T_skip ?_ | refine TL_lt_t (hk := ?_) | (refine TL_xor (hk := ?_); intro _) | refine TL_nil ?_ | refine TL_move (hk := ?_) | refine TL_assign (hk := ?_) | (refine TL_load_b TE (hk := ?_); intro _) | refine TL_indexAddr1n TE (hk := ?_) | refine TL_conv TE (hk := ?_))
  refine T_loop (ι := Nat × Nat) (fun i => [(16, .int .i64 (i.1 : Int)), (3, .int .u32 (i.2 : Int)), (6, .slice A n c), (7, .int .i64 (n : Int)), (8, .int .i64 (k : Int))])
   (fun i w' => w' = w1 ∧ i.1 ≤ 8 ∧ i.2 < 2 ^ 32 ∧ crc8 (8 - i.1) i.2 = crc8 8 (z ^^^ gb l k)) (fun i => 8 - i.1) (0, z ^^^ gb l k) (.c rfl (.c rfl (.c rfl (.c rfl (.c rfl (.n)))))) ⟨rfl, by simp, by assumption, rfl⟩ ?_
  rintro ⟨j, y⟩ w2 ⟨rfl, hj, hy, hinv2⟩ ih2
  simp only at hj hy hinv2 ih2 ⊢
  by_cases hj8 : j < 8
  ·have ey : y &&& 1 = y % 2 := Nat.and_one_is_mod y
   have e8 : 8 - j = (8 - (j + 1)) + 1 := by omega
   rw [e8, crc8_succ] at hinv2
   have hlt := crcStep_lt hy
   by_cases hy2 : y % 2 = 1
   ·rw [crcStep_odd hy2] at hinv2 hlt
    repeat (first | refine T_seq ?_ | refine T_region ?_ | refine T_cond_true rfl ?_ | refine T_block ?_ | refine T_inBlock ?_ | refine T_skip ?_ | refine TL_add (hk := ?_) | refine TL_lt_t (hk := ?_) | refine TL_eq_t (hk := ?_) | (refine TL_and (hk := ?_); intro _) | (refine TL_xor (hk := ?_); intro _) | refine TL_shr (hk := ?_) | refine TL_nil ?_ | refine TL_move (hk := ?_) | refine TL_assign (hk := ?_))
    exact ih2 (j + 1, y / 2 ^ 1 ^^^ 3988292384) _ _ (by simp only; omega) ⟨rfl, by simp only; omega, hlt, hinv2⟩ (.c rfl (.c rfl (.c rfl (.c rfl (.c rfl (.n))))))
   ·rw [crcStep_even hy2] at hinv2 hlt
    repeat (first | refine T_seq ?_ | refine T_region ?_ | refine T_cond_true rfl ?_ | refine T_cond_false rfl ?_ | refine T_block ?_ | refine T_inBlock ?_ | refine T_skip ?_ | refine TL_add (hk := ?_) | refine TL_lt_t (hk := ?_) | refine TL_eq_f (hk := ?_) | (refine TL_and (hk := ?_); intro _) | refine TL_shr (hk := ?_) | refine TL_nil ?_ | refine TL_move (hk := ?_) | refine TL_assign (hk := ?_))
    exact ih2 (j + 1, y / 2 ^ 1) _ _ (by simp only; omega) ⟨rfl, by simp only; omega, hlt, hinv2⟩ (.c rfl (.c rfl (.c rfl (.c rfl (.c rfl (.n))))))
  ·have : j = 8 := by omega
   subst this
   repeat (first | refine T_seq ?_ | refine T_region ?_ | refine T_cond_false rfl ?_ | refine T_inBlock ?_ | refine T_exit rfl ?_ | refine TL_add (hk := ?_) | refine TL_lt_f (hk := ?_) | refine TL_nil ?_ | refine TL_move (hk := ?_))
   refine ih (k + 1, y) _ _ (by simp only; omega) ⟨rfl, by simp only; omega, hy, ?_⟩ (.c rfl (.c rfl (.c rfl (.c rfl (.n)))))
   rw [← hinv, crcAll_take l z k (by omega), ← hinv2]
   rfl
 ·have : k = n := by omega
  subst this
  repeat (first | refine T_seq ?_ | refine T_region ?_ | refine T_cond_false rfl ?_ | refine T_exit rfl ?_ | refine TL_lt_f (hk := ?_) | refine TL_nil ?_ | refine TL_move (hk := ?_) | refine TL_assign (hk := ?_) | (refine TL_compl (hk := ?_); intro _))
  refine T_ret1 rfl rfl ⟨?_, rfl⟩
  have e : z = crcAll l 4294967295 := by rw [← hinv, List.drop_of_length_le (by omega)]; rfl
  unfold crc
  rw [← e]
set_option maxHeartbeats 1000000
def frame (l : List UInt8) : List UInt8 := (four l.length ++ l) ++ four (crc (four l.length ++ l))
theorem Seal_c (A : Option Addr) (n c : Nat) (l : List UInt8) (w : World) (h : Rd w A n 1 (bv l)) (hn : n ≤ 65536) :
  Ret Tryz.prog 114 [.slice A n c] w (fun v w' => ∃ A' c', v = .tuple #[.slice A' (n + 8) c', .int .i64 0] ∧ Ext w w' ∧ Own w' w.heap.size 5 1 A' (n + 8) c' (bv (frame l))) := by
 have hlen : l.length = n := by simpa using h.1
 refine ret_T (n := 18) Tryz.func114 rfl rfl ?_
 repeat (first | refine T_seq ?_ | refine T_region ?_ | refine T_cond_false rfl ?_ | refine T_skip ?_ | refine TL_gt_f (hk := ?_) | refine TL_nil ?_ | refine TL_move (hk := ?_) | refine TL_assign (hk := ?_) | refine TL_len TE (hk := ?_) | refine TL_conv TE (hk := ?_))
 refine TL_call TE (hc := put4_c none 0 0 n w.heap.size [] w (Own.nil _ _ _ _) (Nat.le_refl _) (by omega) (by omega)) (hk := ?_)
 rintro _ w1 ⟨A1, c1, rfl, m1, n1, o1⟩
 have e1 : Ext w w1 := m1
 have s1 := m1.size
 repeat (refine TL_move (hk := ?_))
 refine TL_append TE (hk := ?_); intro A2 c2 w2 o2 m2 n2
 have e2 : Ext w w2 := e1.own m2 o1.hi
 have s2 := m2.size
 have o2' : Own w2 w.heap.size 5 1 A2 (0 + 4 + n) c2 (bv (four n ++ l)) := by rw [bv_append]; exact o2
 repeat (first | refine T_seq ?_ | refine T_region ?_ | refine TL_nil ?_ | refine TL_move (hk := ?_) | refine TL_assign (hk := ?_))
 refine TL_call TE (hc := Sum_c A2 (0 + 4 + n) c2 (four n ++ l) w2 o2'.rd (by omega)) (hk := ?_)
 rintro _ w3 ⟨rfl, rfl⟩
 refine TL_call TE (hc := put4_c A2 (0 + 4 + n) c2 (crc (four n ++ l)) w.heap.size (four n ++ l) _ o2' (by omega) (by omega) (crc_lt _)) (hk := ?_)
 rintro _ w4 ⟨A4, c4, rfl, m4, n4, o4⟩
 repeat (first | refine TL_nil ?_ | refine TL_assign (hk := ?_))
 refine T_ret2 rfl rfl rfl ⟨A4, c4, ?_, e2.own m4 o2'.hi, ?_⟩
 ·rw [show 0 + 4 + n + 4 = n + 8 from by omega]
 ·rw [show n + 8 = 0 + 4 + n + 4 from by omega]
  unfold frame
  rw [hlen]
  exact o4
def openF (l : List UInt8) : List UInt8 × Nat × Int :=
 if l.length < 4 then ([], 0, 3) else if 65536 < le4 l then ([], 0, 1) else if l.length < le4 l + 8 then ([], 0, 3) else
 if crc (l.take (le4 l + 4)) = le4 (l.drop (le4 l + 4)) then ((l.drop 4).take (le4 l), le4 l + 8, 0) else ([], 0, 12)
theorem Open_c (A : Option Addr) (n c : Nat) (l : List UInt8) (w : World) (h : Rd w A n 1 (bv l)) (hn : n ≤ 7036874417) (hc : n ≤ c) :
  Ret Tryz.prog 94 [.slice A n c] w (fun v w' => ∃ A' n' c', v = .tuple #[.slice A' n' c', .int .i64 ((openF l).2.1 : Nat), .int .i64 (openF l).2.2] ∧ Ext w w' ∧ Own w' w.heap.size 5 1 A' n' c' (bv (openF l).1)) := by
 have hlen : l.length = n := by simpa using h.1
 have h4 := le4_lt l
 by_cases g0 : n < 4
 ·have eo : openF l = ([], 0, 3) := by unfold openF; rw [if_pos (by omega)]
  rw [eo]
  refine ret_T (n := 39) Tryz.func94 rfl rfl ?_
  repeat (first | refine T_seq ?_ | refine T_region ?_ | refine T_cond_true rfl ?_ | refine TL_lt_t (hk := ?_) | refine TL_nil ?_ | refine TL_move (hk := ?_) | refine TL_assign (hk := ?_) | refine TL_len TE (hk := ?_))
  exact T_ret3 rfl rfl rfl rfl ⟨none, 0, 0, rfl, Mod.refl _ _, Own.nil _ _ _ _⟩
 by_cases g1 : 65536 < le4 l
 ·have eo : openF l = ([], 0, 1) := by unfold openF; rw [if_neg (by omega), if_pos g1]
  rw [eo]
  refine ret_T (n := 39) Tryz.func94 rfl rfl ?_
  repeat (first | refine T_seq ?_ | refine T_region ?_ | refine T_cond_false rfl ?_ | refine T_skip ?_ | refine TL_lt_f (hk := ?_) | refine TL_nil ?_ | refine TL_move (hk := ?_) | refine TL_assign (hk := ?_) | refine TL_len TE (hk := ?_))
  refine TL_call TE (hc := get4_c A n c l w h (by omega)) (hk := ?_)
  rintro _ w1 ⟨rfl, e1⟩
  repeat (first | refine T_seq ?_ | refine T_region ?_ | refine T_cond_true rfl ?_ | refine TL_gt_t (hk := ?_) | refine TL_nil ?_ | refine TL_move (hk := ?_) | refine TL_assign (hk := ?_))
  exact T_ret3 rfl rfl rfl rfl ⟨none, 0, 0, rfl, e1, Own.nil _ _ _ _⟩
 by_cases g2 : n < le4 l + 8
 ·have eo : openF l = ([], 0, 3) := by unfold openF; rw [if_neg (by omega), if_neg g1, if_pos (by omega)]
  rw [eo]
  refine ret_T (n := 39) Tryz.func94 rfl rfl ?_
  repeat (first | refine T_seq ?_ | refine T_region ?_ | refine T_cond_false rfl ?_ | refine T_skip ?_ | refine TL_lt_f (hk := ?_) | refine TL_nil ?_ | refine TL_move (hk := ?_) | refine TL_assign (hk := ?_) | refine TL_len TE (hk := ?_))
  refine TL_call TE (hc := get4_c A n c l w h (by omega)) (hk := ?_)
  rintro _ w1 ⟨rfl, e1⟩
  repeat (first | refine T_seq ?_ | refine T_region ?_ | refine T_cond_true rfl ?_ | refine T_cond_false rfl ?_ | refine T_block ?_ | refine T_skip ?_ | refine TL_add (hk := ?_) | refine TL_lt_t (hk := ?_) | refine TL_gt_f (hk := ?_) | refine TL_nil ?_ | refine TL_move (hk := ?_) | refine TL_assign (hk := ?_) | refine TL_len TE (hk := ?_) | refine TL_conv TE (hk := ?_))
  exact T_ret3 rfl rfl rfl rfl ⟨none, 0, 0, rfl, e1, Own.nil _ _ _ _⟩
 have hcl := crc_lt (l.take (le4 l + 4))
 have hdl := le4_lt (l.drop (le4 l + 4))
 have eo : openF l = if crc (l.take (le4 l + 4)) = le4 (l.drop (le4 l + 4)) then ((l.drop 4).take (le4 l), le4 l + 8, 0) else ([], 0, 12) := by
  unfold openF; rw [if_neg (by omega), if_neg g1, if_neg (by omega)]
 generalize hk : le4 l = k at h4 g1 g2 hcl hdl eo
 have ek : (4 + (k : Int)).toNat = k + 4 := by omega
 have ra : ∀ w', Ext w w' → Rd w' A (k + 4) 1 (bv (l.take (k + 4))) := fun w' e => by
  have := (h.ext e).take (h := k + 4) (by omega)
  simpa [bv] using this
 have rb : ∀ w', Ext w w' → Rd w' (cutA A c (k + 4) 1) (n - (k + 4)) 1 (bv (l.drop (k + 4))) := fun w' e => by
  have := (h.ext e).cut (c := c) (l := k + 4) (h := n) (by omega) (by omega) (by omega)
  have e9 : ((bv l).drop ((k + 4) * 1)).take ((n - (k + 4)) * 1) = bv (l.drop (k + 4)) := by
   rw [List.take_of_length_le (by simp; omega)]; simp [bv]
  rwa [e9] at this
 have rc : ∀ w', Ext w w' → Rd w' (cutA A c 4 1) (k + 4 - 4) 1 (bv ((l.drop 4).take k)) := fun w' e => by
  have := (h.ext e).cut (c := c) (l := 4) (h := k + 4) (by omega) (by omega) (by omega)
  have e9 : ((bv l).drop (4 * 1)).take ((k + 4 - 4) * 1) = bv ((l.drop 4).take k) := by
   rw [show (k + 4 - 4) * 1 = k from by omega]; simp [bv]
  rwa [e9] at this
 by_cases hs : crc (l.take (k + 4)) = le4 (l.drop (k + 4))
 all_goals
  first | rw [if_pos hs] at eo | rw [if_neg hs] at eo
  rw [eo]
  refine ret_T (n := 39) Tryz.func94 rfl rfl ?_
  repeat (first | refine T_seq ?_ | refine T_region ?_ | refine T_cond_false rfl ?_ | refine T_skip ?_ | refine TL_lt_f (hk := ?_) | refine TL_nil ?_ | refine TL_move (hk := ?_) | refine TL_assign (hk := ?_) | refine TL_len TE (hk := ?_))
  refine TL_call TE (hc := get4_c A n c l w h (by omega)) (hk := ?_)
  rintro _ w1 ⟨rfl, e1⟩
  rw [hk]
  repeat (first | refine T_seq ?_ | refine T_region ?_ | refine T_region_q TE.mixed (by kernel_rfl) ?_ | refine T_cond_false rfl ?_ | refine T_block ?_ | refine T_skip ?_ | refine TL_add (hk := ?_) | refine TL_lt_f (hk := ?_) | refine TL_gt_f (hk := ?_) | refine TL_nil ?_ | refine TL_move (hk := ?_) | refine TL_assign (hk := ?_) | refine TL_len TE (hk := ?_) | refine TL_slice_hi TE (hk := ?_) | refine TL_conv TE (hk := ?_))
  rw [ek]
  refine TL_call_q TE rfl rfl rfl ((fun w' e' => (Sum_c A (k + 4) c _ w' (ra w' (e1.ext e')) (by omega)).mono fun v w'' ⟨a, b⟩ => ⟨a, b ▸ Mod.refl _ _⟩)) ?_
  repeat (first | refine TL_move (hk := ?_) | refine TL_slice_lo TE (hk := ?_))
  rw [ek]
  refine TL_call_q TE rfl rfl rfl ((fun w' e' => get4_c (cutA A c (k + 4) 1) (n - (k + 4)) (c - (k + 4)) _ w' (rb w' (e1.ext e')) (by omega))) ?_
  repeat (first | refine TL_ne_t (hk := ?_) | refine TL_ne_f (hk := ?_) | refine TL_assign (hk := ?_))
  refine TL_nil_q ?_; intro w2 e2
  repeat (first | refine T_seq ?_ | refine T_region ?_ | refine T_cond_true rfl ?_ | refine T_cond_false rfl ?_ | refine T_inBlock ?_ | refine T_skip ?_ | refine TL_nil ?_ | refine TL_move (hk := ?_) | refine TL_assign (hk := ?_) | refine TL_slice_lh TE (hk := ?_))
 ·rw [ek]
  refine TL_call TE (hc := Clone_c (cutA A c 4 1) (k + 4 - 4) (c - 4) _ w2 (rc w2 (e1.ext e2)) (by omega)) (hk := ?_)
  rintro _ w3 ⟨A3, c3, rfl, e3, o3⟩
  repeat (first | refine TL_add (hk := ?_) | refine TL_nil ?_ | refine TL_move (hk := ?_) | refine TL_assign (hk := ?_))
  have s2 := (e1.ext e2).size
  refine T_ret3 rfl rfl rfl rfl ⟨A3, _, c3, ?_, (e1.ext e2).ext e3, o3.weaken s2⟩
  rw [show ((k + 8 : Nat) : Int) = 4 + (k : Int) + 4 from by omega]
 ·exact T_ret3 rfl rfl rfl rfl ⟨none, 0, 0, rfl, e1.ext e2, Own.nil _ _ _ _⟩
set_option maxHeartbeats 1000000
def liveB : List UInt8 := [172, 2, 9, 2, 97, 98]
set_option maxHeartbeats 1000000
set_option maxHeartbeats 1000000
set_option maxHeartbeats 1000000
def readS (K m e : Int) (s : RS) : RS :=
 if K = 1 then (s.take (0 : Nat) tByte).2 else if K = 2 then (s.take (0 : Nat) num0).2 else if K = 3 then (s.take (0 : Int) tInt).2 else if K = 4 then (s.take (0 : Nat) (tLim m 6)).2
 else if K = 5 then (s.take ([] : List UInt8) (tText m)).2 else if K = 6 then s.fail e else if K = 7 then s.fin else s
set_option maxHeartbeats 3000000
def tyRead : Ty := .struct (.cons (.int .i64) (.cons (.int .i64) (.cons (.int .i64) .unit)))
set_option maxHeartbeats 2000000
set_option maxHeartbeats 2000000
def framesF : Nat → List UInt8 → List (List UInt8) × Nat × Int
 | 0, _ => ([], 0, 0)
 |f + 1, l => if l.length = 0 then ([], 0, 0) else if (openF l).2.2 = 0 then ((openF l).1 :: (framesF f (l.drop (openF l).2.1)).1, (openF l).2.1 + (framesF f (l.drop (openF l).2.1)).2.1, (framesF f (l.drop (openF l).2.1)).2.2) else ([], 0, (openF l).2.2)
def frames (l : List UInt8) : List (List UInt8) × Nat × Int := framesF l.length l
theorem openF_ok {l : List UInt8} (h : (openF l).2.2 = 0) : 8 ≤ (openF l).2.1 ∧ (openF l).2.1 ≤ l.length := by
 unfold openF at h ⊢
 split
 ·rename_i g; rw [if_pos g] at h; simp at h
 ·rename_i g
  rw [if_neg g] at h
  split
  ·rename_i g; rw [if_pos g] at h; simp at h
  ·rename_i g
   rw [if_neg g] at h
   split
   ·rename_i g; rw [if_pos g] at h; simp at h
   ·rename_i g
    rw [if_neg g] at h
    split
    ·simp only; omega
    ·rename_i g; rw [if_neg g] at h; simp at h
def Loads (w : World) : Nat → Nat → List Value → List (List UInt8) → Prop
 |b, e, [], [] => b ≤ e
 |b, e, x :: t, p :: ps => ∃ A n c b', x = .slice A n c ∧ Own w b 5 1 A n c (bv p) ∧ Lo A b' ∧ b ≤ b' ∧ Loads w b' e t ps
 | _, _, _, _ => False
theorem Loads.mod {w w' : World} {S : List Nat} (hm : Mod S w w') : ∀ {xs : List Value} {ps : List (List UInt8)} {b e : Nat}, Loads w b e xs ps → (∀ x ∈ S, x < b ∨ e ≤ x) → Loads w' b e xs ps
 | [], [], _, _, h, _ => h
 | [], _ :: _, _, _, h, _ => h.elim
 | _ :: _, [], _, _, h, _ => h.elim
 |x :: t, p :: ps, b, e, h, hS => by
  obtain ⟨A, n, c, b', hx, ho, hlo, hb, ht⟩ := h
  have he : b' ≤ e := by
   clear ho hlo hS hx
   induction t generalizing b' ps with
   |nil => cases ps with
    |nil => exact ht
    |cons => exact ht.elim
   |cons y t ih => cases ps with
    |nil => exact ht.elim
    |cons q ps =>
     obtain ⟨_, _, _, b2, _, _, _, h2, h3⟩ := ht
     have := ih ps b2 (by omega) h3
     omega
  refine ⟨A, n, c, b', hx, ho.mod hm ?_, hlo, hb, Loads.mod hm ht (fun x hx => by have := hS x hx; omega)⟩
  intro ad ea hx
  have h1 := ho.hi ad ea
  have h2 := hlo ad ea
  have := hS _ hx
  omega
theorem Loads.modP {w w' : World} {S : List Nat} (hm : Mod S w w') : ∀ {xs : List Value} {ps : List (List UInt8)} {b e : Nat}, Loads w b e xs ps → (∀ {b : Nat} {A : Option Addr} {n c : Nat} {p : List UInt8}, Own w b 5 1 A n c (bv p) → Off A S) → Loads w' b e xs ps
 | [], [], _, _, h, _ => h
 | [], _ :: _, _, _, h, _ => h.elim
 | _ :: _, [], _, _, h, _ => h.elim
 |x :: t, p :: ps, b, e, h, hS => by
  obtain ⟨A, n, c, b', hx, ho, hlo, hb, ht⟩ := h
  exact ⟨A, n, c, b', hx, ho.mod hm (hS ho), hlo, hb, Loads.modP hm ht hS⟩
theorem Loads.up {w : World} : ∀ {xs : List Value} {ps : List (List UInt8)} {b e e' : Nat}, Loads w b e xs ps → e ≤ e' → Loads w b e' xs ps
 | [], [], _, _, _, h, he => Nat.le_trans h he
 | [], _ :: _, _, _, _, h, _ => h.elim
 | _ :: _, [], _, _, _, h, _ => h.elim
 |x :: t, p :: ps, b, e, e', h, he => by
  obtain ⟨A, n, c, b', hx, ho, hlo, hb, ht⟩ := h
  exact ⟨A, n, c, b', hx, ho, hlo, hb, Loads.up ht he⟩
theorem Loads.ext {w w' : World} (hm : Ext w w') {xs : List Value} {ps : List (List UInt8)} {b e : Nat} (h : Loads w b e xs ps) : Loads w' b e xs ps := h.mod hm (fun _ hx => by cases hx)
theorem Loads.snoc {w : World} {A : Option Addr} {n c : Nat} {p : List UInt8} {e' : Nat} : ∀ {xs : List Value} {ps : List (List UInt8)} {b e : Nat}, Loads w b e xs ps → Own w e 5 1 A n c (bv p) → Lo A e' → e ≤ e' → Loads w b e' (xs ++ [.slice A n c]) (ps ++ [p])
 | [], [], b, e, h, ho, hlo, he => ⟨A, n, c, e', rfl, ho.weaken h, hlo, Nat.le_trans h he, Nat.le_refl _⟩
 | [], _ :: _, _, _, h, _, _, _ => h.elim
 | _ :: _, [], _, _, h, _, _, _ => h.elim
 |x :: t, q :: ps, b, e, h, ho, hlo, he => by
  obtain ⟨B, m, d, b', hx, h1, h2, h3, ht⟩ := h
  exact ⟨B, m, d, b', hx, h1, h2, h3, Loads.snoc ht ho hlo he⟩
theorem Loads.len {w : World} : ∀ {xs : List Value} {ps : List (List UInt8)} {b e : Nat}, Loads w b e xs ps → xs.length = ps.length
 | [], [], _, _, _ => rfl
 | [], _ :: _, _, _, h => h.elim
 | _ :: _, [], _, _, h => h.elim
 |x :: t, q :: ps, b, e, h => by
  obtain ⟨B, m, d, b', hx, h1, h2, h3, ht⟩ := h
  simp [Loads.len ht]
theorem Own.ne_type {w : World} {base base' : Nat} {e e' : TypeId} {s s' : Nat} {A C : Option Addr} {n c m d : Nat} {xs ys : List Value} (h : Own w base e s A n c xs) (g : Own w base' e' s' C m d ys) (hne : e ≠ e') : Off A (blkL C) := fun ad ea hx => by
 rcases h.2 with ⟨hv, _⟩ | ⟨b, _, cur, hv, _, hh, _⟩
 ·cases hv; cases ea
 ·cases hv; cases ea
  rcases g.2 with ⟨gv, _⟩ | ⟨b', _, cur', gv, _, gh, _⟩
  ·cases gv; simp [blkL] at hx
  ·cases gv
   simp [blkL] at hx
   subst hx
   rw [hh] at gh
   simp at gh
   exact hne gh.2
theorem Frames_c (A : Option Addr) (n c : Nat) (l : List UInt8) (w : World) (h : Rd w A n 1 (bv l)) (hn : n ≤ 7036874417) (hc : n ≤ c) :
  Ret Tryz.prog 49 [.slice A n c] w (fun v w' => ∃ A' m' c' xs, v = .tuple #[.slice A' m' c', .int .i64 ((frames l).2.1 : Nat), .int .i64 (frames l).2.2] ∧ Ext w w' ∧ Own w' w.heap.size 25 1 A' m' c' xs ∧ Loads w' w.heap.size w'.heap.size xs (frames l).1) := by
 have hlen : l.length = n := by simpa using h.1
 generalize hR : frames l = R
 refine ret_T (n := 36) Tryz.func49 rfl rfl ?_
 repeat (first | refine T_seq ?_ | refine T_region ?_ | refine T_block ?_ | refine TL_nil ?_ | refine TL_assign (hk := ?_))
 refine T_loop (ι := (Option Addr × Nat × Nat) × List Value × List (List UInt8) × Nat × Nat) (fun i => [(6, .int .i64 (i.2.2.2.1 : Int)), (5, .slice i.1.1 i.1.2.1 i.1.2.2), (0, .slice A n c)])
  (fun i w' => i.2.2.2.1 ≤ n ∧ n - i.2.2.2.1 ≤ i.2.2.2.2 ∧ i.1.2.1 ≤ i.2.2.2.1 ∧ Ext w w' ∧ Own w' w.heap.size 25 1 i.1.1 i.1.2.1 i.1.2.2 i.2.1 ∧ Loads w' w.heap.size w'.heap.size i.2.1 i.2.2.1 ∧
   i.2.2.1 ++ (framesF i.2.2.2.2 (l.drop i.2.2.2.1)).1 = R.1 ∧ i.2.2.2.1 + (framesF i.2.2.2.2 (l.drop i.2.2.2.1)).2.1 = R.2.1 ∧ (framesF i.2.2.2.2 (l.drop i.2.2.2.1)).2.2 = R.2.2) (fun i => n - i.2.2.2.1) ((none, 0, 0), [], [], 0, n) (.c rfl (.c rfl (.c rfl (.n))))
  ⟨by simp, by simp, by simp, Mod.refl _ _, Own.nil _ _ _ _, Nat.le_refl _, by rw [← hR]; simp [frames, hlen], by rw [← hR]; simp [frames, hlen], by rw [← hR]; simp [frames, hlen]⟩ ?_
 rintro ⟨⟨A1, m1, c1⟩, xs, ps, at_, f⟩ w1 ⟨hat, hf, hm1, e1, o1, L1, r1, r2, r3⟩ ih
 simp only at hat hf hm1 e1 o1 L1 r1 r2 r3 ih ⊢
 have z1 := e1.size
 by_cases hlt : at_ < n
 ·obtain ⟨g, rfl⟩ : ∃ g, f = g + 1 := ⟨f - 1, by omega⟩
  have hdl : (l.drop at_).length = n - at_ := by rw [List.length_drop, hlen]
  rw [framesF, if_neg (by omega)] at r1 r2 r3
  repeat (first | refine T_seq ?_ | refine T_region ?_ | refine T_cond_true rfl ?_ | refine T_block ?_ | refine T_skip ?_ | refine TL_lt_t (hk := ?_) | refine TL_nil ?_ | refine TL_move (hk := ?_) | refine TL_len TE (hk := ?_) | refine TL_slice_lo TE (hk := ?_))
  refine TL_call TE (hc := Open_c (cutA A c at_ 1) (n - at_) (c - at_) (l.drop at_) w1 (Rd.tail1 (h.ext e1) hat hc) (by omega) (by omega)) (hk := ?_)
  rintro _ w2 ⟨A2, n2, c2, rfl, e2, o2⟩
  have z2 := e2.size
  by_cases he : (openF (l.drop at_)).2.2 = 0
  ·have ho := openF_ok he
   rw [if_pos he] at r1 r2 r3
   simp only at r1 r2 r3
   repeat (first | refine T_seq ?_ | refine T_region ?_ | refine T_cond_false rfl ?_ | refine T_skip ?_ | refine TL_ne_f (hk := ?_) | refine TL_nil ?_ | refine TL_move (hk := ?_) | refine TL_assign (hk := ?_) | refine TL_extract (hk := ?_))
   refine TL_buildSlice TE (hk := ?_); intro b3 w3 e3 h3 h3' k3
   have z3 := e3.size
   refine TL_append TE (hk := ?_); intro A4 c4 w4 o4 m4 n4
   have e04 : Ext w w4 := ((e1.ext e2).ext e3).own m4 o1.hi
   have z4 := m4.size
   have o23 := o2.ext e3
   have o24 : Own w4 w1.heap.size 5 1 A2 n2 c2 (bv (openF (l.drop at_)).1) := o23.mod m4 (Own.ne_type o23 (o1.ext (e2.ext e3)) (by decide))
   have L4 : Loads w4 w.heap.size w1.heap.size xs ps := by
    have L3 := L1.ext (e2.ext e3)
    exact L3.modP m4 (fun ho => Own.ne_type ho (o1.ext (e2.ext e3)) (by decide))
   repeat (first | refine T_region ?_ | refine T_inBlock ?_ | refine TL_add (hk := ?_) | refine TL_nil ?_ | refine TL_move (hk := ?_) | refine TL_assign (hk := ?_))
   refine ih ((A4, m1 + 1, c4), _, ps ++ [(openF (l.drop at_)).1], at_ + (openF (l.drop at_)).2.1, g) w4 _ (by simp only; omega) ⟨by simp only; omega, by simp only; omega, by simp only; omega, e04, o4, L4.snoc o24 (o2.lo.mono (by omega)) (by omega), ?_, ?_, ?_⟩ (.c rfl (.c rfl (.c rfl (.n))))
   ·simp only [← List.drop_drop, List.append_assoc, List.singleton_append]
    exact r1
   ·simp only [← List.drop_drop]
    omega
   ·simp only [← List.drop_drop]
    exact r3
  ·rw [if_neg he] at r1 r2 r3
   simp only [List.append_nil, Nat.add_zero] at r1 r2 r3
   repeat (first | refine T_seq ?_ | refine T_region ?_ | refine T_cond_true rfl ?_ | refine TL_ne_t (hk := ?_) | refine TL_nil ?_ | refine TL_move (hk := ?_) | refine TL_assign (hk := ?_) | refine TL_extract (hk := ?_))
   refine T_ret3 rfl rfl rfl rfl ⟨A1, m1, c1, xs, ?_, e1.ext e2, o1.ext e2, ?_⟩
   ·rw [← r2, ← r3]
   ·rw [← r1]
    exact (L1.ext e2).up (by omega)
 ·have r0 : framesF f (l.drop at_) = ([], 0, 0) := by
   cases f with
   |zero => rfl
   |succ g => rw [framesF, if_pos (by simp; omega)]
  rw [r0] at r1 r2 r3
  simp only [List.append_nil, Nat.add_zero] at r1 r2 r3
  repeat (first | refine T_seq ?_ | refine T_region ?_ | refine T_cond_false rfl ?_ | refine T_exit rfl ?_ | refine TL_lt_f (hk := ?_) | refine TL_nil ?_ | refine TL_move (hk := ?_) | refine TL_assign (hk := ?_) | refine TL_len TE (hk := ?_))
  refine T_ret3 rfl rfl rfl rfl ⟨A1, m1, c1, xs, ?_, e1, o1, ?_⟩
  ·rw [← r2, ← r3]
  ·rw [← r1]; exact L1
end Go.Proofs.YtjlaomcankmdjaaGreat
namespace Go.Proofs.YtjlaomcankmdjaaGreat
open Go.RowKit Go.Proofs.Eng Go.Proofs.Codec Go.Proofs.Foot Go.Proofs.Journal
structure SC where
 log : LE
 op : List PE
 ep : Int
 last : Int
def sc0 : SC := ⟨⟨[], 0⟩, [], 0, 0⟩
def scE (s : SC) (b : List UInt8) : Option SC :=
 match getEn b with
 |none => none
 |some e => if e.sq ≠ ((s.log.l.length + s.op.length : Nat) : Int) ∨ 65536 ≤ s.log.l.length + s.op.length ∨ e.ep < s.last ∨ (0 < s.op.length ∧ e.ep ≠ s.ep) then none else some { s with op := s.op ++ [e.p], ep := e.ep }
def scN (s : SC) (b : List UInt8) : Option SC :=
 if (ge1 b).2.fin.err ≠ 0 ∨ 9223372036854775808 ≤ (ge1 b).1 ∨ ((ge1 b).1 : Int) < s.last ∨ (0 < s.op.length ∧ ((ge1 b).1 : Int) ≠ s.ep) then none
 else if (appL s.log ((ge1 b).1 : Int) s.op).2.2.1 ≠ 0 then none else some ⟨(appL s.log ((ge1 b).1 : Int) s.op).1, [], s.ep, ((ge1 b).1 : Int)⟩
def scR (s : SC) : List UInt8 → Option SC
 | [] => none
 |c :: t => if c.toNat = 1 then scE s t else if c.toNat = 2 then scN s t else none
def scanF : List (List UInt8) → SC → Nat → Nat → Option (SC × Nat)
 | [], s, _, wh => some (s, wh)
 |p :: ps, s, at_, wh => match scR s p with
  |none => none
  |some s' => scanF ps s' (at_ + (p.length + 8)) (if gb p 0 = 2 then at_ + (p.length + 8) else wh)
def open3 (k : DK) (s : SC) (wh : Nat) : Option LE × Nat × DK :=
 if (if safeD k < wh then opD k synD else (k, 0)).2 ≠ 0 then (none, (if safeD k < wh then opD k synD else (k, 0)).2, (if safeD k < wh then opD k synD else (k, 0)).1) else (some s.log, 0, (if safeD k < wh then opD k synD else (k, 0)).1)
def open2 (k : DK) (s : SC) (wh : Nat) : Option LE × Nat × DK :=
 if (if wh < k.b.length then opD k (cutD (wh : Int)) else (k, 0)).2 ≠ 0 then (none, (if wh < k.b.length then opD k (cutD (wh : Int)) else (k, 0)).2, (if wh < k.b.length then opD k (cutD (wh : Int)) else (k, 0)).1)
 else open3 (if wh < k.b.length then opD k (cutD (wh : Int)) else (k, 0)).1 s wh
def openJ (k : DK) : Option LE × Nat × DK :=
 if k.off = true then (none, 230, k) else if (frames k.b).2.2 ≠ 0 ∧ (frames k.b).2.2 ≠ 3 then (none, 231, k) else
 match scanF (frames k.b).1 sc0 0 0 with
 |none => (none, 231, k)
 |some r => open2 k r.1 r.2
def kindF (c : Nat) (b : List UInt8) : List UInt8 := frame (UInt8.ofNat c :: b)
def epF (ep : Int) (l : List EE) : List UInt8 := (l.map fun e => kindF 1 (putEn [] e).1).flatten ++ kindF 2 (encU ep.toNat)
def writeJ (L : LE) (k : DK) (ep : Int) (ps : List PE) : (LE × Int × Nat) × DK :=
 if (appL L ep ps).2.2.1 ≠ 0 then ((L, 0, (appL L ep ps).2.2.1), k) else
 if (opD k (appD (epF ep (fromL (appL L ep ps).1 L.l.length ps.length)))).2 ≠ 0 then ((L, 0, (opD k (appD (epF ep (fromL (appL L ep ps).1 L.l.length ps.length)))).2), (opD k (appD (epF ep (fromL (appL L ep ps).1 L.l.length ps.length)))).1)
 else (((appL L ep ps).1, (L.l.length : Int), 0), (opD k (appD (epF ep (fromL (appL L ep ps).1 L.l.length ps.length)))).1)
end Go.Proofs.YtjlaomcankmdjaaGreat
namespace Go.Proofs.Codec
open Go.Proofs.Eng
def num : List UInt8 → Nat
 | [] => 0
 |b :: l => b.toNat + 256 * num l
theorem le4_num {l : List UInt8} (h : 4 ≤ l.length) : le4 l = num (l.take 4) := by
 match l, h with
 |a :: b :: c :: d :: t, _ =>
  have ha := UInt8.toNat_lt a
  have hb := UInt8.toNat_lt b
  have hc := UInt8.toNat_lt c
  have hd := UInt8.toNat_lt d
  have e0 : gb (a :: b :: c :: d :: t) 0 = a.toNat := rfl
  have e1 : gb (a :: b :: c :: d :: t) 1 = b.toNat := rfl
  have e2 : gb (a :: b :: c :: d :: t) 2 = c.toNat := rfl
  have e3 : gb (a :: b :: c :: d :: t) 3 = d.toNat := rfl
  have lor : ∀ {x y k : Nat}, x < 2 ^ k → x ||| y * 2 ^ k = x + y * 2 ^ k := fun {x y k} h => by
   rw [Nat.or_comm, Nat.mul_comm y, ← Nat.two_pow_add_eq_or_of_lt h, Nat.add_comm]
  unfold le4
  rw [e0, e1, e2, e3, Nat.mod_eq_of_lt (by omega), Nat.mod_eq_of_lt (by omega), Nat.mod_eq_of_lt (by omega)]
  have s1 : a.toNat ||| b.toNat * 2 ^ 8 = a.toNat + b.toNat * 2 ^ 8 := lor (by omega)
  have s2 : (a.toNat + b.toNat * 2 ^ 8) ||| c.toNat * 2 ^ 16 = (a.toNat + b.toNat * 2 ^ 8) + c.toNat * 2 ^ 16 := lor (by omega)
  have s3 : ((a.toNat + b.toNat * 2 ^ 8) + c.toNat * 2 ^ 16) ||| d.toNat * 2 ^ 24 = ((a.toNat + b.toNat * 2 ^ 8) + c.toNat * 2 ^ 16) + d.toNat * 2 ^ 24 := lor (by omega)
  rw [s1, s2, s3]
  simp only [List.take, num]
  omega
theorem four_num {x : Nat} (h : x < 2 ^ 32) : num (four x) = x := by
 simp only [four, num]
 rw [UInt8.toNat_ofNat', UInt8.toNat_ofNat', UInt8.toNat_ofNat', UInt8.toNat_ofNat']
 omega
theorem four_len (x : Nat) : (four x).length = 4 := rfl
end Go.Proofs.Codec
namespace Go.Proofs.YtjlaomcankmdjaaGreat
open Go.Proofs.Eng Go.Proofs.Codec
theorem frame_len (l : List UInt8) : (frame l).length = l.length + 8 := by
 unfold frame
 simp only [List.length_append, four_len]
 omega
theorem frame_take (l : List UInt8) : (frame l).take (l.length + 4) = four l.length ++ l := by
 unfold frame
 have h : (four l.length ++ l).length = l.length + 4 := by simp only [List.length_append, four_len]; omega
 rw [← h, List.take_left]
theorem frame_drop (l : List UInt8) : (frame l).drop (l.length + 4) = four (crc (four l.length ++ l)) := by
 unfold frame
 have h : (four l.length ++ l).length = l.length + 4 := by simp only [List.length_append, four_len]; omega
 rw [← h, List.drop_left]
theorem frame_le4 (l : List UInt8) (h : l.length ≤ 65536) : le4 (frame l) = l.length := by
 rw [le4_num (by rw [frame_len]; omega)]
 have : (frame l).take 4 = four l.length := by
  unfold frame
  rw [List.append_assoc, List.take_append_of_le_length (by rw [four_len]; omega)]
  exact List.take_of_length_le (by rw [four_len]; omega)
 rw [this, four_num (by omega)]
def cat : List (List UInt8) → List UInt8
 | [] => []
 |l :: t => frame l ++ cat t
theorem cat_snoc (a : List (List UInt8)) (l : List UInt8) : cat (a ++ [l]) = cat a ++ frame l := by
 induction a with
 |nil => simp [cat]
 |cons x a ih => simp only [List.cons_append, cat, ih, List.append_assoc]
def total : List (List UInt8) → Nat
 | [] => 0
 |l :: t => l.length + total t
theorem openF_frame_app (l t : List UInt8) (h : l.length ≤ 65536) : openF (frame l ++ t) = (l, l.length + 8, 0) := by
 have hf : frame l ++ t = four l.length ++ (l ++ (four (crc (four l.length ++ l)) ++ t)) := by unfold frame; simp
 have hl : (frame l ++ t).length = l.length + 8 + t.length := by rw [List.length_append, frame_len]
 have h4 : le4 (frame l ++ t) = l.length := by
  rw [le4_num (by omega), hf, List.take_append_of_le_length (by rw [four_len]; omega), List.take_of_length_le (by rw [four_len]; omega), four_num (by omega)]
 have ht : (frame l ++ t).take (l.length + 4) = four l.length ++ l := by
  rw [List.take_append_of_le_length (by rw [frame_len]; omega), frame_take]
 have hd : (frame l ++ t).drop (l.length + 4) = four (crc (four l.length ++ l)) ++ t := by
  rw [List.drop_append_of_le_length (by rw [frame_len]; omega), frame_drop]
 have hc : le4 (four (crc (four l.length ++ l)) ++ t) = crc (four l.length ++ l) := by
  rw [le4_num (by rw [List.length_append, four_len]; omega), List.take_append_of_le_length (by rw [four_len]; omega), List.take_of_length_le (by rw [four_len]; omega), four_num (crc_lt _)]
 unfold openF
 rw [hl, h4, if_neg (by omega), if_neg (by omega), if_neg (by omega), ht, hd, hc, if_pos rfl, hf]
 have h5 : (four l.length ++ (l ++ (four (crc (four l.length ++ l)) ++ t))).drop 4 = l ++ (four (crc (four l.length ++ l)) ++ t) := List.drop_left (l₁ := four l.length)
 rw [h5, List.take_left]
theorem openF_short (l : List UInt8) (k : Nat) (h : l.length ≤ 65536) (hk : k < l.length + 8) : openF ((frame l).take k) = ([], 0, 3) := by
 have hl : ((frame l).take k).length = k := by rw [List.length_take, frame_len]; omega
 unfold openF
 rw [hl]
 by_cases h4 : k < 4
 ·rw [if_pos h4]
 ·have hle : le4 ((frame l).take k) = l.length := by
   rw [← frame_le4 l h, le4_num (by omega), le4_num (by rw [frame_len]; omega), List.take_take, Nat.min_eq_left (by omega)]
  rw [if_neg h4, hle, if_neg (by omega), if_pos (by omega)]
theorem framesF_cat (last : List UInt8) (k : Nat) (hlast : last.length ≤ 65536) (hk : k < last.length + 8) : ∀ (Ls : List (List UInt8)) (f : Nat), (∀ l ∈ Ls, l.length ≤ 65536) → (cat Ls).length + k ≤ f →
  framesF f (cat Ls ++ (frame last).take k) = (Ls, (cat Ls).length, if k = 0 then 0 else 3)
 | [], f, _, hf => by
  have hl : ((frame last).take k).length = k := by rw [List.length_take, frame_len]; omega
  simp only [cat, List.nil_append, List.length_nil] at hf ⊢
  cases f with
  |zero =>
   have : k = 0 := by omega
   subst this
   rfl
  |succ f =>
   rw [framesF, hl]
   by_cases h0 : k = 0
   ·rw [if_pos h0, if_pos h0]
   ·rw [if_neg h0, if_neg h0, openF_short last k hlast hk]
    rw [if_neg (by decide)]
 |l :: Ls, f, hLs, hf => by
  have hl := hLs l (by simp)
  simp only [cat, List.length_append, frame_len] at hf ⊢
  cases f with
  |zero => omega
  |succ f =>
   rw [List.append_assoc, framesF, if_neg (by simp only [List.length_append, frame_len]; omega), openF_frame_app l _ hl, if_pos rfl]
   simp only
   have hd : (frame l ++ (cat Ls ++ (frame last).take k)).drop (l.length + 8) = cat Ls ++ (frame last).take k := by
    rw [← frame_len l, List.drop_left]
   rw [hd, framesF_cat last k hlast hk Ls f (fun x hx => hLs x (by simp [hx])) (by omega)]
theorem frames_cat (last : List UInt8) (k : Nat) (hlast : last.length ≤ 65536) (hk : k < last.length + 8) (Ls : List (List UInt8)) (h : ∀ l ∈ Ls, l.length ≤ 65536) :
  frames (cat Ls ++ (frame last).take k) = (Ls, (cat Ls).length, if k = 0 then 0 else 3) := by
 unfold frames
 refine framesF_cat last k hlast hk Ls _ h ?_
 rw [List.length_append, List.length_take, frame_len]
 omega
end Go.Proofs.YtjlaomcankmdjaaGreat
namespace Go.Proofs.YtjlaomcankmdjaaGreat
open Go.RowKit Go.Proofs.Eng Go.Proofs.Codec Go.Proofs.Foot Go.Proofs.Journal
set_option linter.unusedVariables false set_option maxRecDepth 10000
attribute [local irreducible] T TL LV TH TA
set_option maxHeartbeats 1600000
section
variable {base lg : Nat} {sl : SL} {es : List EM} {g : Nat → Nat} {L : LE}
theorem Each_c (w : World) : Ret Tryz.prog 151 [pB lg] w (fun v w' => ∃ b, v = .func (.func 188) #[] #[pB b] ∧ Ext w w' ∧ w.heap.size ≤ b ∧ ∃ t, Blk w' b t [pB lg]) := by
 refine ret_T (n := 4) Tryz.func151 rfl rfl ?_
 repeat (first | refine T_seq ?_ | refine T_region ?_)
 refine TL_box (hk := ?_); intro b1 w1 e1 h1 h1' k1
 repeat (first | refine T_seq ?_ | refine T_region ?_ | refine TL_nil ?_ | refine TL_assign (hk := ?_) | refine TL_makeFunc (hk := ?_))
 exact T_ret1 rfl rfl ⟨b1, rfl, e1, h1, _, k1⟩
theorem Each1_c (l bb : Nat) {t : TypeId} (J : Nat → World → Prop) (w : World) (hl : L.l.length ≤ 65536) (hD : ∀ i W, J i W → LogM W base lg sl es g L ∧ Blk W bb t [pB lg]) (hJe : ∀ i W W', J i W → Ext W W' → J i W')
  (hy : ∀ i W W2 x, i < L.l.length → J i W → Ext W W2 → POwn W2 W.heap.size x.m → PFit x.m.p → emE x = L.l.getD i (emE em0) → YieldAt Fence.wide 0 Tryz.prog l #[eA x] W2 (RR fun v W' => v = .bool true ∧ J (i + 1) W')) (h0 : J 0 w) :
  Ret Tryz.prog 188 [.func (.yield l) #[] #[], pB bb] w (fun _ w' => J L.l.length w') := by
 obtain ⟨D, hb⟩ := hD 0 w h0
 have hlb := D.blk
 have hlen := D.len.1
 have hcap := D.ow.cap
 unfold maxLen at hcap
 obtain ⟨n0, hn0⟩ : ∃ x, L.l.length = x := ⟨_, rfl⟩
 rw [hn0] at hlen hl
 have hesl : es.length = n0 := by rw [D.len.2, hn0]
 have hsl : sl.2.1 = n0 := hlen.symm
 refine ret_T (n := 33) Tryz.func188 rfl rfl ?_
 repeat (first | refine T_seq ?_ | refine T_region ?_ | refine T_region_q TE.mixed (by kernel_rfl) ?_ | refine T_cond_false rfl ?_ | refine T_skip ?_ | refine TL_pnil_f TE (hk := ?_) | refine TL_nil ?_ | refine TL_load TE (hk := ?_) | refine TL_fieldAddr TE (hk := ?_) | refine TL_len TE (hk := ?_) | refine TL_nilCheck (hk := ?_))
 refine TL_slice3n TE (hk := ?_)
 repeat (first | refine TL_move (hk := ?_) | refine TL_len TE (hk := ?_))
 refine TL_nil_q ?_; intro w2 e2
 rw [show ((sl.2.1 : Nat) : Int).toNat = n0 by omega, hn0]
 repeat (refine T_block ?_)
 refine T_loop (ι := Nat) (fun i => [(23, .int .i64 (i : Int)), (22, .int .i64 (n0 : Int)), (21, .slice sl.1 n0 n0), (1, pB bb), (0, .func (.yield l) #[] #[])]) (fun i w' => i ≤ n0 ∧ J i w') (fun i => n0 - i) 0 (.c rfl (.c rfl (.c rfl (.c rfl (.c rfl (.n)))))) ⟨Nat.zero_le _, hJe 0 w w2 h0 e2⟩ ?_
 rintro i w3 ⟨hi, hj⟩ ih
 by_cases hlt : i < n0
 ·have D3 := (hD i w3 hj).1
  have hr : Rd w3 sl.1 n0 9 (rowV emV es) := by have := D3.ow.rd; rw [hsl] at this; exact this
  have hA : sl.1 ≠ none := by obtain ⟨_, _, hq, _⟩ := hr.2 (by omega); rw [hq]; simp
  have t1 := rowV_elem emV_len es i em0 (by omega)
  have hmem : es.getD i em0 ∈ es := by rw [List.getD_eq_getElem?_getD, List.getElem?_eq_getElem (by omega)]; exact List.getElem_mem _
  obtain ⟨hX, hF, -⟩ := D3.ek _ hmem
  have hat := D.at (i := i) (by omega)
  generalize es.getD i em0 = x at t1 hX hF hat
  repeat (first | refine T_seq ?_ | refine T_region ?_ | refine T_cond_true rfl ?_ | refine T_block ?_ | refine T_skip ?_ | refine TL_lt_t (hk := ?_) | refine TL_nil ?_ | refine TL_indexAddrn TE (hk := ?_))
  refine TL_loada TE (cs := emV x) (hx := rfl) (ht := rfl) (hi := rfl) (hr := hr) (hc := t1) (h0 := Nat.succ_pos _) (hk := ?_)
  --
  refine TL_alloc TE (hk := ?_); intro b4 w4 e4 h4 h4' k4
  --
  refine TL_storea TE (hk := ?_); intro w5 m5 z5 k5
  have z4 := e4.size
  have e35 : Ext w3 w5 := e4.step m5 (fun u hu => .inr (by rw [List.mem_singleton.1 hu]; omega))
  replace k5 : Blk w5 b4 47 (emV x) := k5
  repeat (refine TL_nil ?_)
  refine T_seq ?_
  refine T_region_in ?_
  refine TI_move rfl rfl ?_
  refine TI_loadb TE (cs := emV x) (o := 0) rfl rfl rfl k5 rfl (Nat.succ_pos _) rfl ?_
  refine TI_call TE rfl rfl rfl rfl (told_c x w5 (hX.be e35) hF) ?_
  rintro _ w6 ⟨x', rfl, hxe, e6, o6⟩
  have hF' : PFit x'.m.p := by
   have h := congrArg EE.p hxe
   have h2 : x'.m.p = x.m.p := h
   rw [h2]; exact hF
  refine TI_yield (l := l) rfl rfl rfl (hy i w3 w6 x' (by omega) hj (e35.ext e6) (o6.weaken (by have := e35.size; omega)) hF' (by rw [hxe]; exact hat)) ?_
  rintro _ w7 ⟨rfl, hj7⟩
  refine TI_not rfl rfl ?_
  refine TI_nil ?_
  repeat (first | refine T_region ?_ | refine T_cond_false rfl ?_ | refine T_inBlock ?_ | refine T_skip ?_ | refine TL_add (hk := ?_) | refine TL_nil ?_ | refine TL_move (hk := ?_))
  exact ih (i + 1) w7 _ (by omega) ⟨by omega, hj7⟩ (.c rfl (.c rfl (.c rfl (.c rfl (.c rfl (.n))))))
 ·clear ih
  obtain rfl : i = n0 := by omega
  repeat (first | refine T_seq ?_ | refine T_region ?_ | refine T_cond_false rfl ?_ | refine T_exit rfl ?_ | refine TL_lt_f (hk := ?_) | refine TL_nil ?_)
  exact T_end0 rfl hj
end
set_option maxHeartbeats 1600000
def logK (L : LE) (i : Nat) : List UInt8 := (encU L.ep.toNat ++ encU L.l.length) ++ ((L.l.take i).map enT).flatten
theorem logK_succ (L : LE) (i : Nat) (h : i < L.l.length) : logK L (i + 1) = logK L i ++ enT (L.l.getD i (emE em0)) := by
 unfold logK
 rw [List.take_succ_eq_append_getElem h, List.map_append, List.flatten_append, List.getD_eq_getElem?_getD, List.getElem?_eq_getElem h]
 simp
theorem enT_len {e : EE} (h : EOk e) : (enT e).length ≤ 5110 := by
 have h1 := entB_len h
 have h2 := encU_len64 (show (entB [] e).length < 2 ^ 64 by omega)
 unfold enT
 rw [putEn_ok h, List.length_append]
 simp only
 omega
theorem logK_len {L : LE} (hok : ∀ e ∈ L.l, EOk e) (hl : L.l.length ≤ 65536) (hep : 0 ≤ L.ep ∧ L.ep ≤ 9223372036854775807) : ∀ i, i ≤ L.l.length → (logK L i).length ≤ 20 + 6000 * i
 | 0, _ => by
  have h1 := encU_len64 (show L.ep.toNat < 2 ^ 64 by omega)
  have h2 := encU_len64 (show L.l.length < 2 ^ 64 by omega)
  unfold logK
  simp only [List.length_append, List.take_zero, List.map_nil, List.flatten_nil, List.length_nil]
  omega
 |i + 1, h => by
  have h1 := logK_len hok hl hep i (by omega)
  have hie : L.l.getD i (emE em0) ∈ L.l := by rw [List.getD_eq_getElem?_getD, List.getElem?_eq_getElem (by omega)]; exact List.getElem_mem _
  have h2 := enT_len (hok _ hie)
  rw [logK_succ L i (by omega), List.length_append]
  omega
theorem logK_all (L : LE) : logK L L.l.length = logB L := by unfold logK logB; rw [List.take_length]
theorem blk_not_obj {w : World} {b : Nat} {t : TypeId} {cs : List Value} {l : Nat} {o : Obj} (h : Blk w b t cs) (ho : w.heap[l]? = some o) (hc : isCel o = false) : b ≠ l := fun e => by
 subst e
 rw [h] at ho
 cases ho
 cases hc
section
variable {base lg : Nat} {sl : SL} {es : List EM} {g : Nat → Nat} {L : LE}
theorem LBytes_c (w : World) (D : LogM w base lg sl es g L) (hl' : L.l.length ≤ 65536) (hep : 0 ≤ L.ep ∧ L.ep ≤ 9223372036854775807) (hok : ∀ e ∈ L.l, EOk e) :
  Ret Tryz.prog 109 [pB lg] w (fun v w' => ∃ A n c, v = .slice A n c ∧ Ext w w' ∧ Own w' w.heap.size 5 1 A n c (bv (logB L))) := by
 have hlb := D.blk
 have hlen := D.len.1
 refine ret_T (n := 36) Tryz.func109 rfl rfl ?_
 have hz : L.ep = ((L.ep.toNat : Nat) : Int) := by omega
 have u1 := encU_len64 (show L.ep.toNat < 2 ^ 64 by omega)
 have hz2 : ((sl.2.1 : Nat) : Int) = ((L.l.length : Nat) : Int) := by omega
 repeat (first | refine T_seq ?_ | refine T_region ?_ | refine T_cond_false rfl ?_ | refine T_skip ?_ | refine TL_pnil_f TE (hk := ?_) | refine TL_nil ?_ | refine TL_move (hk := ?_) | refine TL_assign (hk := ?_))
 refine T_join (ι := Nat × SL) (fun i => [(3, pB i.1), (0, pB lg)]) (fun i w' => Ext w w' ∧ Blk w' i.1 25 [sL i.2] ∧ Own w' w.heap.size 5 1 i.2.1 i.2.2.1 i.2.2.2 (bv (([] ++ encU L.ep.toNat) ++ encU L.l.length)) ∧ i.1 ∉ blkL i.2.1 ∧ w.heap.size ≤ i.1) (fun kk join => ?_) ?_
 ·refine T_region_any TE.mixed ([] : List Nat) ?_; intro w1 e1 z1
  have hlb1 := hlb.be e1
  have hlD : lg ∉ ([] : List Nat) := by simp
  (refine TA_take 0 rfl (by kernel_rfl) (by kernel_rfl) (by kernel_rfl) ?_; (repeat (first | refine TL_move (hk := ?_) | refine TL_fieldAddr TE (hk := ?_) | refine TL_nilCheck (hk := ?_))); refine TL_nil_p ?_); (refine TA_take 1 rfl (by kernel_rfl) (by kernel_rfl) (by kernel_rfl) ?_; (repeat (first | refine TL_move (hk := ?_) | refine TL_fieldAddr TE (hk := ?_) | refine TL_nilCheck (hk := ?_))); refine TL_nil_p ?_); (refine TA_take 2 rfl (by kernel_rfl) (by kernel_rfl) (by kernel_rfl) ?_; (repeat (first | refine TL_move (hk := ?_) | refine TL_fieldAddr TE (hk := ?_) | refine TL_nilCheck (hk := ?_))); refine TL_nil_p ?_)
  (refine TA_take 3 rfl (by kernel_rfl) (by kernel_rfl) (by kernel_rfl) ?_; (repeat (refine TLP_load TE (hk := ?_))); refine TL_nil_p ?_)
  (refine TA_take 4 rfl (by kernel_rfl) (by kernel_rfl) (by kernel_rfl) ?_; (repeat (refine TL_conv TE (hk := ?_))); refine TL_nil_p ?_)
  (refine TA_take 6 rfl (by kernel_rfl) (by kernel_rfl) (by kernel_rfl) ?_; (repeat (first | refine TL_move (hk := ?_) | refine TL_fieldAddr TE (hk := ?_) | refine TL_nilCheck (hk := ?_))); refine TL_nil_p ?_); (refine TA_take 7 rfl (by kernel_rfl) (by kernel_rfl) (by kernel_rfl) ?_; (repeat (first | refine TL_move (hk := ?_) | refine TL_fieldAddr TE (hk := ?_) | refine TL_nilCheck (hk := ?_))); refine TL_nil_p ?_); (refine TA_take 8 rfl (by kernel_rfl) (by kernel_rfl) (by kernel_rfl) ?_; (repeat (first | refine TL_move (hk := ?_) | refine TL_fieldAddr TE (hk := ?_) | refine TL_nilCheck (hk := ?_))); refine TL_nil_p ?_)
  (refine TA_take 9 rfl (by kernel_rfl) (by kernel_rfl) (by kernel_rfl) ?_; (repeat (refine TLP_load TE (hk := ?_))); refine TL_nil_p ?_)
  (refine TA_take 10 rfl (by kernel_rfl) (by kernel_rfl) (by kernel_rfl) ?_; (repeat (refine TL_len TE (hk := ?_))); refine TL_nil_p ?_)
  (refine TA_take 11 rfl (by kernel_rfl) (by kernel_rfl) (by kernel_rfl) ?_; (repeat (refine TL_conv TE (hk := ?_))); refine TL_nil_p ?_)
  refine TA_two 5 13 rfl rfl (by kernel_rfl) (by kernel_rfl) ?_ ?_
  ·refine TL_call TE (hc := PutUint_c none 0 0 [] L.ep.toNat w1 hz (Own.nil w1 w1.heap.size 5 1).rd (by omega) (by omega)) (hf := rfl) (hq := by rintro _ w' ⟨_, _, _, _, e, _⟩; exact e) (hk := ?_)
   rintro _ w10 ⟨A5, n5, c5, rfl, f5, o5⟩
   have l5 := o5.len
   simp only [bv_length, List.length_append, List.length_nil, Nat.mul_one] at l5
   refine TL_nil_p ?_
   refine TA_two 12 13 rfl rfl (by kernel_rfl) (by kernel_rfl) ?_ ?_
   ·refine TL_call TE (hc := PutUint_c A5 n5 c5 _ L.l.length w10 hz2 o5.rd (by omega) (by omega)) (hf := rfl) (hq := by rintro _ w' ⟨_, _, _, _, e, _⟩; exact (f5).ext e) (hk := ?_)
    rintro _ w11 ⟨A6, n6, c6, rfl, f6, o6⟩
    refine TL_nil_p ?_
    refine TA_one 13 rfl (by kernel_rfl) (by kernel_rfl) ?_
    refine TL_alloc TE (hf := rfl) (hq := fun _ e => ((f5).ext f6).ext e) (hk := ?_); intro b3 w12 f3 h3 h3' kb3
    have o6x := o6.be f3
    refine TL_nil_p ?_
    have eE := e1.ext (((f5).ext f6).ext f3)
    have hnb : b3 ∉ blkL A6 := fun q => by have h9 := (o6.bl b3 q).2; omega
    have zE := eE.size
    have z1 := e1.size
    have zb : w.heap.size ≤ b3 := by have := (e1.ext (((f5).ext f6).ext f3)).size; have := f5.size; have := f6.size; omega
    refine TA_one 14 rfl (by kernel_rfl) (by kernel_rfl) ?_
    refine TL_store TE (hb := kb3) (hf := rfl) (hq := fun _ m _ => (((f5).ext f6).ext f3).step m (fun u hu => .inr (by rw [List.mem_singleton.1 hu]; have := f5.size; have := f6.size; omega))) (hk := ?_); intro w20 m20 z20 k20
    refine TL_nil_p ?_
    refine TA_done (by kernel_rfl) ?_
    exact T.sub (join (b3, (A6, n6, c6)) _ ⟨eE.step m20 (fun u hu => .inr (by rw [List.mem_singleton.1 hu]; exact zb)), k20, Own.weaken (o6x.modL m20 (fun u hu q => by rw [List.mem_singleton] at q; rw [q] at hu; exact hnb hu)) (by have := f5.size; omega), hnb, zb⟩) (.c rfl (.c rfl (.n)))
   ·refine TL_alloc TE (hf := rfl) (hq := fun _ e => (f5).ext e) (hk := ?_); intro b3 w11 f3 h3 h3' kb3
    have o5x := o5.be f3
    refine TL_nil_p ?_
    refine TA_one 12 rfl (by kernel_rfl) (by kernel_rfl) ?_
    refine TL_call TE (hc := PutUint_c A5 n5 c5 _ L.l.length w11 hz2 o5x.rd (by omega) (by omega)) (hf := rfl) (hq := by rintro _ w' ⟨_, _, _, _, e, _⟩; exact ((f5).ext f3).ext e) (hk := ?_)
    rintro _ w12 ⟨A6, n6, c6, rfl, f6, o6⟩
    have kbw12 := kb3.be f6
    refine TL_nil_p ?_
    have eE := e1.ext (((f5).ext f3).ext f6)
    have hnb : b3 ∉ blkL A6 := fun q => by have h9 := (o6.bl b3 q).1; have := f3.size; omega
    have zE := eE.size
    have z1 := e1.size
    have zb : w.heap.size ≤ b3 := by have := (e1.ext (((f5).ext f3).ext f6)).size; have := f5.size; omega
    refine TA_one 14 rfl (by kernel_rfl) (by kernel_rfl) ?_
    refine TL_store TE (hb := kbw12) (hf := rfl) (hq := fun _ m _ => (((f5).ext f3).ext f6).step m (fun u hu => .inr (by rw [List.mem_singleton.1 hu]; have := f5.size; omega))) (hk := ?_); intro w20 m20 z20 k20
    refine TL_nil_p ?_
    refine TA_done (by kernel_rfl) ?_
    exact T.sub (join (b3, (A6, n6, c6)) _ ⟨eE.step m20 (fun u hu => .inr (by rw [List.mem_singleton.1 hu]; exact zb)), k20, Own.weaken (o6.modL m20 (fun u hu q => by rw [List.mem_singleton] at q; rw [q] at hu; exact hnb hu)) (by have := f5.size; omega), hnb, zb⟩) (.c rfl (.c rfl (.n)))
  ·refine TL_alloc TE (hf := rfl) (hq := fun _ e => e) (hk := ?_); intro b3 w10 f3 h3 h3' kb3
   refine TL_nil_p ?_
   refine TA_one 5 rfl (by kernel_rfl) (by kernel_rfl) ?_
   refine TL_call TE (hc := PutUint_c none 0 0 [] L.ep.toNat w10 hz (Own.nil w10 w10.heap.size 5 1).rd (by omega) (by omega)) (hf := rfl) (hq := by rintro _ w' ⟨_, _, _, _, e, _⟩; exact (f3).ext e) (hk := ?_)
   rintro _ w11 ⟨A5, n5, c5, rfl, f5, o5⟩
   have l5 := o5.len
   simp only [bv_length, List.length_append, List.length_nil, Nat.mul_one] at l5
   have kbw11 := kb3.be f5
   refine TL_nil_p ?_
   refine TA_one 12 rfl (by kernel_rfl) (by kernel_rfl) ?_
   refine TL_call TE (hc := PutUint_c A5 n5 c5 _ L.l.length w11 hz2 o5.rd (by omega) (by omega)) (hf := rfl) (hq := by rintro _ w' ⟨_, _, _, _, e, _⟩; exact ((f3).ext f5).ext e) (hk := ?_)
   rintro _ w12 ⟨A6, n6, c6, rfl, f6, o6⟩
   have kbw12 := kbw11.be f6
   refine TL_nil_p ?_
   have eE := e1.ext (((f3).ext f5).ext f6)
   have hnb : b3 ∉ blkL A6 := fun q => by have h9 := (o6.bl b3 q).1; have := f3.size; have := f5.size; omega
   have zE := eE.size
   have z1 := e1.size
   have zb : w.heap.size ≤ b3 := by have := (e1.ext (((f3).ext f5).ext f6)).size; omega
   refine TA_one 14 rfl (by kernel_rfl) (by kernel_rfl) ?_
   refine TL_store TE (hb := kbw12) (hf := rfl) (hq := fun _ m _ => (((f3).ext f5).ext f6).step m (fun u hu => .inr (by rw [List.mem_singleton.1 hu]; omega))) (hk := ?_); intro w20 m20 z20 k20
   refine TL_nil_p ?_
   refine TA_done (by kernel_rfl) ?_
   exact T.sub (join (b3, (A6, n6, c6)) _ ⟨eE.step m20 (fun u hu => .inr (by rw [List.mem_singleton.1 hu]; exact zb)), k20, Own.weaken (o6.modL m20 (fun u hu q => by rw [List.mem_singleton] at q; rw [q] at hu; exact hnb hu)) (by have := f3.size; have := f5.size; omega), hnb, zb⟩) (.c rfl (.c rfl (.n)))
 rintro ⟨b3, Y⟩ w2 ⟨e2, k2, o2, hn2, hb2⟩
 simp only at k2 o2 hn2 hb2 ⊢
 repeat (first | refine T_seq ?_ | refine T_region ?_ | refine TL_move (hk := ?_))
 refine TL_call TE (hc := Each_c w2) (hk := ?_)
 rintro _ w3 ⟨bb, rfl, e3, hb3, tb, kb⟩
 have e03 := e2.ext e3
 have k3 := k2.be e3
 have o3 := o2.be e3
 have hbl3 := k2.lt
 have z02 := e2.size
 have hbz : bb ∉ blkL Y.1 := fun q => by have := (o2.bl bb q).2; omega
 repeat (first | refine T_block ?_ | refine TL_nil ?_)
 refine T_rangeFunc TE (N := L.l.length) (cap := [pB bb]) rfl rfl rfl (fun i W => Ext w W ∧ Blk W bb tb [pB lg] ∧ ∃ Z : SL, Blk W b3 25 [sL Z] ∧ Own W w.heap.size 5 1 Z.1 Z.2.1 Z.2.2 (bv (logK L i)) ∧ b3 ∉ blkL Z.1 ∧ bb ∉ blkL Z.1) ?_ ?_ ?_ ?_ ?_
 ·intro w4 e4
  refine ⟨e03.ext e4, kb.be e4, Y, k3.be e4, ?_, hn2, hbz⟩
  have : logK L 0 = ([] ++ encU L.ep.toNat) ++ encU L.l.length := by unfold logK; simp
  rw [this]
  exact o3.be e4
 ·rintro i W W' ⟨a1, a2, Z, a3, a4, a5, a6⟩ e
  exact ⟨a1.ext e, a2.be e, Z, a3.be e, a4.be e, a5, a6⟩
 ·rintro i W l o o' hl ⟨a1, a2, Z, a3, a4, a5, a6⟩ ho hc
  have m := Mod.putObj W l o'
  have n1 := blk_not_obj a2 ho hc
  have n2 := blk_not_obj a3 ho hc
  have n3 := a4.not_obj ho hc
  have := e03.size
  exact ⟨a1.step m (fun u hu => .inr (by rw [List.mem_singleton.1 hu]; omega)), a2.mod m (fun q => n1 (List.mem_singleton.1 q)), Z, a3.mod m (fun q => n2 (List.mem_singleton.1 q)), a4.modL m (fun u hu q => by rw [List.mem_singleton] at q; rw [q] at hu; exact n3 hu), a5, a6⟩
 ·intro l D0 w4 hl hD0 hne e4 J hJI hJe hyield hJ0
  refine Each1_c l bb J w4 hl' (fun i W hj => ⟨D.ext (hJI i W hj).1, (hJI i W hj).2.1⟩) hJe ?_ hJ0
  intro i W0 W x hi hj0 e0 o0 hF hx
  have hj := hJe i W0 W hj0 e0
  refine hyield i W (eA x) hj ?_
  intro r hr hrd hD
  obtain ⟨a1, a2, Z, a3, a4, a5, a6⟩ := hJI i W hj
  have hie : L.l.getD i (emE em0) ∈ L.l := by rw [List.getD_eq_getElem?_getD, List.getElem?_eq_getElem hi]; exact List.getElem_mem _
  have hE := hok _ hie
  have hKs := logK_succ L i hi
  rw [← hx] at hE hKs
  have hEl := entB_len hE
  have hpe := putEn_ok hE
  have hlt := (Array.getElem?_eq_some_iff.1 hr).1
  have hDlt := (Array.getElem?_eq_some_iff.1 hD).1
  have nlb3 := blk_not_obj a3 hr rfl
  have nDb3 := blk_not_obj a3 hD rfl
  have nlbb := blk_not_obj a2 hr rfl
  have nlZ := a4.not_obj hr rfl
  have nDZ := a4.not_obj hD rfl
  have nlx : ∀ u ∈ pmB x.m, u ∉ [l] := fun u hu q => by
   rw [List.mem_singleton] at q
   rw [q] at hu
   rcases List.mem_append.1 hu with y | y
   ·exact o0.ra.not_obj hr rfl y
   ·rcases List.mem_append.1 y with y | y
    ·exact o0.rb.not_obj hr rfl y
    ·exact o0.rc.not_obj hr rfl y
  have hxb := o0.bl
  have hb3W := a3.lt
  have hbbW := a2.lt
  repeat (refine T_region ?_)
  refine TL_alloc TE (hk := ?_); intro b5 w5 e5 h5 h5' k5
  have z5 := e5.size
  --
  refine TL_storea TE (hk := ?_); intro w6 m6 z6 k6
  replace k6 : Blk w6 b5 47 (emV x) := k6
  have m06 : Ext W w6 := e5.step m6 (fun u hu => .inr (by rw [List.mem_singleton.1 hu]; omega))
  have hr6 : w6.heap[l]? = some (.loop r) := by rw [m06.block l hlt (by simp)]; exact hr
  repeat (refine TL_nil ?_)
  refine T_begin hr6 hrd ?_
  intro w7 m7 z7 hr7
  have k7 : Blk w7 b5 47 (emV x) := k6.mod m7 (fun q => by rw [List.mem_singleton] at q; omega)
  have o7 : POwn w7 W0.heap.size x.m := (o0.be m06).modL m7 nlx
  unfold emV pmV at k7
  clear k6 k5
  repeat (first | refine T_seq ?_ | refine T_region ?_ | refine T_block ?_)
  refine TL_loadb TE (cs := emV x) (o := 0) rfl rfl k7 rfl rfl (Nat.succ_pos _) (hk := ?_)
  --
  refine TL_call TE (hc := EPut_c x none 0 0 [] w7 o7.lies hF hE.sq.2 hE.ep.2 (Own.nil w7 w7.heap.size 5 1).rd (by omega)) (hk := ?_)
  rintro _ w8 ⟨A8, n8, c8, rfl, e8, o8⟩
  rw [hpe] at o8 ⊢
  obtain ⟨B, hB⟩ : ∃ B, entB [] (emE x) = B := ⟨_, rfl⟩
  simp only [hB] at o8 hEl ⊢
  have l8 := o8.len
  simp only [bv_length, Nat.mul_one] at l8
  have a38 : Blk w8 b3 25 [sL Z] := ((a3.be m06).mod m7 (fun q => by rw [List.mem_singleton] at q; exact nlb3 q)).be e8
  have a48 : Own w8 w.heap.size 5 1 Z.1 Z.2.1 Z.2.2 (bv (logK L i)) := ((a4.be m06).modL m7 (fun u hu q => by rw [List.mem_singleton] at q; rw [q] at hu; exact nlZ hu)).be e8
  have a28 : Blk w8 bb tb [pB lg] := ((a2.be m06).mod m7 (fun q => by rw [List.mem_singleton] at q; exact nlbb q)).be e8
  have z8 := e8.size
  have z06 := m06.size
  repeat (first | refine TL_nil ?_ | refine TL_move (hk := ?_) | refine TL_assign (hk := ?_) | refine TL_extract (hk := ?_))
  refine T_region_anyz TE.mixed (blkL Z.1) (some 5) ?_; intro w9 e9 z9
  have a39 := a38.be e9
  have a49 := a48.be e9
  have o9 := o8.be e9
  have hoff : Off A8 (blkL Z.1) := fun ad e hm => by have h1 := (o8.bl ad.block (by rw [e]; simp [blkL])).1; have h2 := (a4.bl _ hm).2; omega
  (refine TA_take 0 rfl (by kernel_rfl) (by kernel_rfl) (by kernel_rfl) ?_; (repeat (refine TLP_load TE (hk := ?_))); refine TL_nil_p ?_)
  (refine TA_take 1 rfl (by kernel_rfl) (by kernel_rfl) (by kernel_rfl) ?_; (repeat (refine TL_move (hk := ?_))); refine TL_nil_p ?_)
  (refine TA_take 2 rfl (by kernel_rfl) (by kernel_rfl) (by kernel_rfl) ?_; (repeat (refine TLP_conv_bs TE (hk := ?_))); refine TL_nil_p ?_)
  have hs7 : (ofL B).size = B.length := ofL_size _
  refine TA_one 3 rfl (by kernel_rfl) (by kernel_rfl) ?_; (try refine TL_yes (hk := ?_)); refine TL_call TE (hc := (PutText_c none 0 0 [] (ofL B) w9 (Own.nil w9 w9.heap.size 5 1).rd (by omega) (by rw [hs7]; omega))) (hq := (by rintro _ w' ⟨A', n', c', rfl, e, o⟩; exact Ext.mod e)) (hk := ?_)
  rintro _ w10 ⟨A10, n10, c10, rfl, e10, o10⟩
  have u10 := encU_len64 (show B.length < 2 ^ 64 by omega)
  rw [hs7, show (ofL B).data.toList = B by simp [ofL]] at o10
  have hen : ([] ++ (encU B.length ++ B)) = enT (emE x) := by unfold enT; rw [hpe, hB]; rfl
  have l10 := o10.len
  simp only [bv_length, List.length_append, List.length_nil, Nat.mul_one] at l10
  rw [hen] at o10
  have a310 := a39.be e10
  have a410 := a49.be e10
  have lK := a410.len
  have zz1 := e9.size
  have zz2 := e10.size
  have zz3 := a1.size
  have hKl : (logK L i).length ≤ 20 + 6000 * i := logK_len hok hl' hep i (by omega)
  simp only [bv_length, Nat.mul_one] at lK
  refine TL_nil_p ?_
  refine TA_one 4 rfl (by kernel_rfl) (by kernel_rfl) ?_
  refine TL_append TE (ho := a410) (hr := o10.rd) (h1 := bv_one _) (hf := rfl) (hq := fun w' m => (Ext.mod e10).trans m) (hk := ?_); intro A11 c11 w11 o11 m11 n11
  rw [← bv_append, ← hKs] at o11
  have hnb11 : b3 ∉ blkL A11 := fun q => (Near.mem n11 b3 q).elim a5 (fun y => by omega)
  have hnbb11 : bb ∉ blkL A11 := fun q => (Near.mem n11 bb q).elim a6 (fun y => by omega)
  have a311 := a310.mod m11 a5
  have a211 := ((a28.be e9).be e10).mod m11 a6
  have zz4 := m11.size
  refine TL_nil_p ?_
  refine TA_one 5 rfl (by kernel_rfl) (by kernel_rfl) ?_
  refine TL_store TE (hb := a311) (hf := rfl) (hq := fun _ _ _ => trivial) (hk := ?_); intro w12 m12 z12 k12
  refine TL_nil_z (by kernel_rfl) ?_
  repeat (refine T_inBlock ?_)
  have hbne : b3 ≠ bb := by omega
  have c1 : Eng.Mod (b3 :: blkL Z.1) w7 w12 := (((((e8.ext e9).ext e10).mono (S' := b3 :: blkL Z.1) (fun u hu => by cases hu))).step m11 (fun u hu => .inl (List.mem_cons_of_mem _ hu))).step m12 (fun u hu => .inl (by rw [List.mem_singleton.1 hu]; exact List.mem_cons_self))
  have ln : l ∉ b3 :: blkL Z.1 := fun q => (List.mem_cons.1 q).elim (fun y => nlb3 y.symm) nlZ
  have Dn : D0 ∉ b3 :: blkL Z.1 := fun q => (List.mem_cons.1 q).elim (fun y => nDb3 y.symm) nDZ
  refine T_endr (fun a ha => ⟨⟨?_, a211.mod m12 (fun q => hbne (List.mem_singleton.1 q).symm), (A11, Z.2.1 + n10, c11), k12, o11.modL m12 (fun u hu q => by rw [List.mem_singleton] at q; rw [q] at hu; exact hnb11 hu), hnb11, hnbb11⟩, ?_, ?_⟩)
  ·have c0 : Eng.Mod (l :: b3 :: blkL Z.1) W w12 := ((m06.mono (S' := l :: b3 :: blkL Z.1) (fun u hu => by cases hu)).step m7 (fun u hu => .inl (by rw [List.mem_singleton.1 hu]; exact List.mem_cons_self))).step c1 (fun u hu => .inl (List.mem_cons_of_mem _ hu))
   refine a1.step c0 (fun u hu => .inr ?_)
   rcases List.mem_cons.1 hu with rfl | hu
   ·have := e03.size; omega
   ·rcases List.mem_cons.1 hu with rfl | hu
    ·exact hb2
    ·exact (a4.bl u hu).1
  ·rw [c1.block l (by have := m7.size; omega) ln]; exact hr7
  ·rw [c1.block D0 (by have := m7.size; omega) Dn, m7.block D0 (by omega) (fun q => hne (List.mem_singleton.1 q).symm), m06.block D0 hDlt (by simp)]; exact hD
 ·rintro D0 w4 hD0 ⟨a1, a2, Z, a3, a4, a5, a6⟩ hD
  rw [logK_all] at a4
  repeat (first | refine T_seq ?_ | refine T_region ?_ | refine T_inBlock ?_ | refine TL_nil ?_ | refine TL_assign (hk := ?_) | refine TL_load TE (hk := ?_))
  refine T_retM hD (fun w5 m5 => res1 rfl rfl) (fun w5 m5 z5 => ⟨Z.1, Z.2.1, Z.2.2, rfl, a1.step m5 (fun u hu => .inr (by rw [List.mem_singleton.1 hu]; have := e03.size; omega)), a4.modL m5 (fun u hu q => by rw [List.mem_singleton] at q; rw [q] at hu; exact a4.not_obj hD rfl hu)⟩)
end
set_option maxHeartbeats 1600000
theorem logB_len {L : LE} (hL : LOk L) : (logB L).length ≤ 400000000 := by
 have h := logK_len (fun e he => (hL.run.le e he).2) hL.n hL.ep L.l.length (Nat.le_refl _)
 rw [logK_all] at h
 have := hL.n
 omega
theorem LLoad_c (L : LE) (hL : LOk L) (A : Option Addr) (n c : Nat) (w : World) (h : Rd w A n 1 (bv (logB L))) :
  Ret Tryz.prog 108 [.slice A n c] w (fun v w' => ∃ lg sl es g, v = .tuple #[pB lg, .int .i64 0, .int .i64 0] ∧ Ext w w' ∧ LogM w' w.heap.size lg sl es g L) := by
 have hn := hL.n
 have hep := hL.ep
 have hBl := logB_len hL
 have hbl : (logB L).length = n := by simpa using h.1
 have hb : logB L = encU L.ep.toNat ++ (encU L.l.length ++ (L.l.map enT).flatten) := by unfold logB; simp
 obtain ⟨B, hB⟩ : ∃ B, logB L = B := ⟨_, rfl⟩
 rw [hB] at h hBl hbl hb
 have hepi : L.ep = ((L.ep.toNat : Nat) : Int) := by omega
 refine ret_T (n := 105) Tryz.func108 rfl rfl ?_
 repeat (first | refine T_seq ?_ | refine T_region ?_ | refine TL_nil ?_ | refine TL_move (hk := ?_) | refine TL_assign (hk := ?_))
 refine TL_call TE (hc := NewReader_c A n c B w h (by omega)) (hk := ?_)
 rintro _ w3 ⟨bR, A3, n3, c3, rfl, e3, hbR, hi3, lo3, rr⟩
 have z3 := e3.size
 have lR := rr.blk.lt
 have hn3 : B.length = n3 := rr.len
 have l0 : Lf ⟨B, 0, 0, 0, 0⟩ B (encU L.ep.toNat ++ (encU L.l.length ++ (L.l.map enT).flatten)) := by rw [← hb]; exact Lf.start B
 obtain ⟨s1, q1, l1⟩ := l0.num (by omega)
 obtain ⟨s2, q2, l2⟩ := l1.lim (most := 65536) (e := 6) (by omega) (by omega)
 repeat (first | refine T_seq ?_ | refine T_region ?_ | refine TL_nil ?_ | refine TL_move (hk := ?_) | refine TL_assign (hk := ?_))
 refine TL_call TE (hc := Uint_c bR _ A3 n3 c3 w3 rr) (hk := ?_)
 rintro _ w4 ⟨rfl, m4, rr4⟩
 rw [q1] at rr4 ⊢
 repeat (refine TL_move (hk := ?_))
 refine TL_call TE (hc := Count_c bR _ A3 n3 c3 65536 (by decide) w4 rr4) (hk := ?_)
 rintro _ w5 ⟨rfl, m5, rr5⟩
 simp only at rr5 ⊢
 rw [q2] at rr5 ⊢
 simp only at rr5 ⊢
 have m35 := m4.trans m5
 have e05 := e3.step m35 (fun u hu => .inr (by rw [List.mem_singleton.1 hu]; omega))
 have z5 := m35.size
 clear rr rr4
 repeat (first | refine T_seq ?_ | refine T_region ?_ | refine TL_nil ?_ | refine TL_move (hk := ?_) | refine TL_assign (hk := ?_) | refine TL_conv TE (hk := ?_) | refine TL_build TE (hk := ?_))
 refine TL_box (hk := ?_); intro lg w6 e6 h6 h6' k6
 have rr6 := rr5.ext e6
 have e06 := e05.ext e6
 have z6 := e6.size
 replace k6 : Blk w6 lg 139 [sL (none, 0, 0), .int .i64 ((L.ep.toNat : Nat) : Int)] := k6
 rw [← hepi] at k6
 obtain ⟨g0, hg0⟩ : ∃ g0 : Nat → Nat, g0 = fun b => if b = lg then 4 else 0 := ⟨_, rfl⟩
 have hg0z : ∀ u, u ≠ lg → g0 u = 0 := fun u hu => by rw [hg0]; exact if_neg hu
 have D6 : LogM w6 w.heap.size lg (none, 0, 0) [] g0 ⟨L.l.take 0, L.ep⟩ := ⟨k6, Own.nil _ _ _ _, by simp, fun z hz => (by cases hz), by rw [hg0]; exact if_pos rfl, fun b hb => (by cases hb), fun b hb => by
  by_cases q : b = lg
  ·rw [q]; exact ⟨by omega, k6.lt⟩
  ·exact absurd (hg0z b q) hb⟩
 have gA : ∀ u ∈ blkL A3, g0 u = 0 := fun u hu => hg0z u (fun q => by
  have := lo3.mem u hu
  omega)
 clear rr5 k6
 repeat (first | refine T_seq ?_ | refine T_region ?_ | refine TL_nil ?_ | refine TL_move (hk := ?_) | refine TL_assign (hk := ?_))
 refine TL_call TE (hc := Why_c bR s2 A3 n3 c3 w6 rr6) (hk := ?_)
 rintro _ w7 ⟨rfl, e7⟩
 have rr7 := rr6.ext e7
 have D7 := D6.ext e7
 have e07 := e06.ext e7
 have z7 := e7.size
 have he2 := l2.1
 clear rr6 D6
 repeat (first | refine T_seq ?_ | refine T_region ?_ | refine T_cond_false rfl ?_ | refine T_block ?_ | refine T_skip ?_ | refine TL_gt_f (hk := ?_) | refine TL_ne_f (hk := ?_) | refine TL_nil ?_ | refine TL_move (hk := ?_) | refine TL_assign (hk := ?_) | refine TL_yes (hk := ?_) | refine TL_pick_f (hk := ?_) | refine TL_extract (hk := ?_))
 have hN : bR ≠ lg := by omega
 refine T_loop (ι := (Nat × RS × Int) × SL × List EM × (Nat → Nat)) (fun i => [(40, .int .i64 (i.1.1 : Int)), (39, .int .i64 (L.l.length : Int)), (11, .int .i64 i.1.2.2), (8, pB lg), (7, .int .i64 (L.l.length : Int)), (5, ptr bR), (0, .slice A n c)])
  (fun i w' => i.1.1 ≤ L.l.length ∧ Ext w w' ∧ w7.heap.size ≤ w'.heap.size ∧ Rdr w' 218 bR i.1.2.1 A3 n3 c3 ∧ LogM w' w.heap.size lg i.2.1 i.2.2.1 i.2.2.2 ⟨L.l.take i.1.1, L.ep⟩ ∧ i.2.2.2 bR = 0 ∧ (∀ u ∈ blkL A3, i.2.2.2 u = 0) ∧ Lf i.1.2.1 B ((L.l.drop i.1.1).map enT).flatten ∧ Run L.ep i.1.2.2 i.1.1 (L.l.drop i.1.1)) (fun i => L.l.length - i.1.1) ((0, s2, 0), (none, 0, 0), [], g0) (.c rfl (.c rfl (.c rfl (.c rfl (.c rfl (.c rfl (.c rfl (.n))))))))
  ⟨Nat.zero_le _, e07, Nat.le_refl _, rr7, D7, hg0z _ hN, gA, l2, hL.run⟩ ?_
 rintro ⟨⟨i, s, last⟩, sl, es, g⟩ w8 ⟨hi, e8, z8, rr8, D8, gR, gA8, l8, run8⟩ ih
 simp only at hi e8 z8 rr8 D8 gR gA8 l8 run8 ih ⊢
 by_cases hlt : i < L.l.length
 ·rw [List.drop_eq_getElem_cons hlt] at l8 run8
  obtain ⟨e, he⟩ : ∃ e, L.l[i] = e := ⟨_, rfl⟩
  rw [he] at l8 run8
  obtain ⟨r1, r2, r3, hE, r5⟩ := run8
  have hEl := entB_len hE
  have hse := hE.sq
  have hee := hE.ep
  rw [List.map_cons, List.flatten_cons] at l8
  unfold enT at l8
  rw [putEn_ok hE] at l8
  simp only [List.append_assoc] at l8
  have hBe : (entB [] e).length ≤ B.length := by
   have := congrArg List.length l8.2.2
   rw [List.length_drop, l8.2.1] at this
   simp only [List.length_append] at this
   omega
  obtain ⟨s9, q9, l9⟩ := l8.text (most := (n : Int)) (by omega) (by omega)
  repeat (first | refine T_seq ?_ | refine T_region ?_ | refine T_cond_true rfl ?_ | refine T_block ?_ | refine T_skip ?_ | refine TL_lt_t (hk := ?_) | refine TL_nil ?_ | refine TL_move (hk := ?_) | refine TL_assign (hk := ?_) | refine TL_len TE (hk := ?_))
  refine TL_call TE (hc := Text_c bR s A3 n3 c3 (n : Int) (by omega) w8 rr8) (hk := ?_)
  rintro _ w9 ⟨rfl, m9, rr9⟩
  rw [q9] at rr9 ⊢
  have D9 := D8.mod m9 (fun u hu => by rw [List.mem_singleton.1 hu]; exact gR)
  have e09 := e8.step m9 (fun u hu => .inr (by rw [List.mem_singleton.1 hu]; omega))
  have z9 := m9.size
  have he9 := l9.1
  clear rr8 D8
  repeat (first | refine T_seq ?_ | refine T_region ?_ | refine TL_nil ?_ | refine TL_move (hk := ?_) | refine TL_assign (hk := ?_))
  refine TL_call TE (hc := Why_c bR s9 A3 n3 c3 w9 rr9) (hk := ?_)
  rintro _ w10 ⟨rfl, e10⟩
  simp only
  repeat (first | refine T_seq ?_ | refine T_region ?_ | refine T_cond_false rfl ?_ | refine T_skip ?_ | refine TL_ne_f (hk := ?_) | refine TL_nil ?_ | refine TL_move (hk := ?_) | refine TL_assign (hk := ?_) | refine TL_extract (hk := ?_))
  refine TL_conv_sb (l := entB [] e) TE (hk := ?_); intro b11 c11 w11 e11 h11 h11' hc11 r11
  --
  refine TL_call TE (hc := EGet_c (some ⟨b11, 0, none⟩) (entB [] e).length c11 (entB [] e) w11 r11 (by omega) hc11) (hk := ?_)
  rintro _ w12 ⟨_, qe, rfl, e12, ⟨x, rfl, ox, hx⟩⟩
  rw [getEn_put hE] at hx
  obtain ⟨rfl, hxe⟩ := hx
  repeat (first | refine TL_move (hk := ?_) | refine TL_extract (hk := ?_))
  refine TL_alloc TE (hk := ?_); intro b13 w13 e13 h13 h13' k13
  --
  refine TL_storea TE (hk := ?_); intro w14 m14 z14 k14
  have hxs : x.sq = (i : Int) := by have h1 := congrArg EE.sq hxe; have h2 : x.sq = e.sq := h1; omega
  have hxp : x.ep = e.ep := congrArg EE.ep hxe
  have hF : PFit x.m.p := by have h1 := congrArg EE.p hxe; have h2 : x.m.p = e.p := h1; rw [h2]; exact hE.ft
  have z10 := e10.size
  have z11 := e11.size
  have z12 := e12.size
  have z13 := e13.size
  have D11 := D9.ext (e10.ext e11)
  have e1114 : Ext w11 w14 := (e12.ext e13).step m14 (fun u hu => .inr (by rw [List.mem_singleton.1 hu]; omega))
  have e914 : Ext w9 w14 := (e10.ext e11).ext e1114
  have D14 := D9.ext e914
  have ox14 : POwn w14 w11.heap.size x.m := (ox.be e13).modL m14 (fun u hu q => by have := (ox.bl u hu).2; rw [List.mem_singleton] at q; omega)
  have rr14 := rr9.ext e914
  have kb := D14.blk
  have hlen := D14.len.1
  simp only at kb hlen
  rw [List.length_take, Nat.min_eq_left (by omega)] at hlen
  replace k14 : Blk w14 b13 47 (emV x) := k14
  unfold emV pmV at k14
  clear rr9 k13 D9 r11
  repeat (first | refine T_seq ?_ | refine T_region ?_ | refine T_region_q TE.mixed (by kernel_rfl) ?_ | refine T_cond_false rfl ?_ | refine T_block ?_ | refine TL_lt_f (hk := ?_) | refine TL_gt_f (hk := ?_) | refine TL_ne_f (hk := ?_) | refine TL_nil ?_ | refine TL_move (hk := ?_) | refine TL_assign (hk := ?_) | refine TL_load TE (hk := ?_) | refine TL_fieldAddr TE (hk := ?_) | refine TL_yes (hk := ?_) | refine TL_pick_f (hk := ?_) | refine TL_nilCheck (hk := ?_))
  refine TL_nil_q ?_; intro w15 e15
  have k15 := k14.be e15
  have D15 := D14.ext e15
  have ox15 := ox14.be e15
  have rr15 := rr14.ext e15
  have e1115 := e1114.ext e15
  clear k14 kb D14 rr14
  repeat (first | refine T_seq ?_ | refine T_region ?_ | refine T_cond_false rfl ?_ | refine T_inBlock ?_ | refine T_skip ?_ | refine TL_nil ?_ | refine TL_assign (hk := ?_) | refine TL_load TE (hk := ?_) | refine TL_fieldAddr TE (hk := ?_))
  have kb := D15.blk
  simp only at kb
  have n13 : b13 ∉ blkL sl.1 := fun q => by have h1 := D11.g2 b13 q; have h2 := (D11.old b13 (by omega)).2; omega
  have nlg : lg ∉ blkL sl.1 := fun q => by have h1 := D11.g2 lg q; have h2 := D11.g1; omega
  refine T_region_anyz TE.mixed (blkL sl.1) (some 10) ?_; intro w16 e16 z16
  have kb16 := kb.be e16
  have k16 := k15.be e16
  have o16 := D15.ow.be e16
  (refine TA_take 0 rfl (by kernel_rfl) (by kernel_rfl) (by kernel_rfl) ?_; (repeat (first | refine TL_move (hk := ?_) | refine TLP_load TE (hk := ?_) | refine TL_fieldAddr TE (hk := ?_) | refine TL_nilCheck (hk := ?_))); refine TL_nil_p ?_); (refine TA_take 1 rfl (by kernel_rfl) (by kernel_rfl) (by kernel_rfl) ?_; (repeat (first | refine TL_move (hk := ?_) | refine TLP_load TE (hk := ?_) | refine TL_fieldAddr TE (hk := ?_) | refine TL_nilCheck (hk := ?_))); refine TL_nil_p ?_); (refine TA_take 2 rfl (by kernel_rfl) (by kernel_rfl) (by kernel_rfl) ?_; (repeat (first | refine TL_move (hk := ?_) | refine TLP_load TE (hk := ?_) | refine TL_fieldAddr TE (hk := ?_) | refine TL_nilCheck (hk := ?_))); refine TL_nil_p ?_); (refine TA_take 3 rfl (by kernel_rfl) (by kernel_rfl) (by kernel_rfl) ?_; (repeat (first | refine TL_move (hk := ?_) | refine TLP_load TE (hk := ?_) | refine TL_fieldAddr TE (hk := ?_) | refine TL_nilCheck (hk := ?_))); refine TL_nil_p ?_); (refine TA_take 4 rfl (by kernel_rfl) (by kernel_rfl) (by kernel_rfl) ?_; (repeat (first | refine TL_move (hk := ?_) | refine TLP_load TE (hk := ?_) | refine TL_fieldAddr TE (hk := ?_) | refine TL_nilCheck (hk := ?_))); refine TL_nil_p ?_)
  refine TA_take 5 rfl (by kernel_rfl) (by kernel_rfl) (by kernel_rfl) ?_
  refine TLP_loadb TE (cs := [.int .i64 x.sq, .int .i64 x.ep, .int .i64 x.m.p.q.cl, .int .u64 (x.m.p.q.tk : Int), .string (ofL x.m.p.q.nm), sL x.m.a, .int .i64 x.m.p.how, sL x.m.b, sL x.m.c]) (o := 0) (hb := k16) (hD := n13) (hk := ?_)
  refine TL_nil_p ?_
  refine TA_one 6 rfl (by kernel_rfl) (by kernel_rfl) ?_
  refine TL_buildSliceA TE (hf := rfl) (hq := fun w' e => Ext.mod e) (hk := ?_); intro b17 w17 e17 h17 h17' k17
  replace k17 : Blk w17 b17 47 (rowV emV [x]) := k17
  have r17 : Rd w17 (some ⟨b17, 0, none⟩) 1 9 (rowV emV [x]) := Rd.blk k17 rfl
  have o17 := o16.be e17
  have kb17 := kb16.be e17
  have zz1 := e16.size
  have zz2 := e17.size
  have zz3 := e1115.size
  have zz0 := e8.size
  refine TL_nil_p ?_
  refine TA_one 7 rfl (by kernel_rfl) (by kernel_rfl) ?_
  refine TL_append TE (ho := o17) (hr := r17) (h1 := rowV_one emV_one _) (hf := rfl) (hq := fun w' m => (Ext.mod e17).trans m) (hk := ?_); intro A18 c18 w18 o18 m18 n18
  rw [← rowV_append] at o18
  have kb18 := kb17.mod m18 nlg
  refine TL_nil_p ?_
  (refine TA_take 8 rfl (by kernel_rfl) (by kernel_rfl) (by kernel_rfl) ?_; (repeat (first | refine TL_fieldAddr TE (hk := ?_) | refine TL_nilCheck (hk := ?_))); refine TL_nil_p ?_); (refine TA_take 9 rfl (by kernel_rfl) (by kernel_rfl) (by kernel_rfl) ?_; (repeat (first | refine TL_fieldAddr TE (hk := ?_) | refine TL_nilCheck (hk := ?_))); refine TL_nil_p ?_)
  refine TA_one 10 rfl (by kernel_rfl) (by kernel_rfl) ?_
  refine TL_store TE (hb := kb18) (hf := rfl) (hq := fun _ _ _ => trivial) (hk := ?_); intro w19 m19 z19 k19
  refine TL_nil_z (by kernel_rfl) ?_
  repeat (first | refine T_region ?_ | refine T_inBlock ?_ | refine TL_add (hk := ?_) | refine TL_nil ?_ | refine TL_move (hk := ?_))
  obtain ⟨g', D19, T19⟩ := D11.push (z := x) (sl' := (A18, sl.2.1 + 1, c18)) ((e1115.ext e16).ext e17) ((ox15.be e16).be e17) hF m18 o18 n18 m19 k19
  have hL2 : ({ (⟨L.l.take i, L.ep⟩ : LE) with l := L.l.take i ++ [emE x] } : LE) = ⟨L.l.take (i + 1), L.ep⟩ := by
   rw [hxe, ← he, List.take_succ_eq_append_getElem hlt]
  rw [hL2] at D19
  have hnR : bR ∉ blkL sl.1 := fun q => by have h1 := D11.g2 bR q; omega
  have hoA : Off A3 (blkL sl.1) := fun ad ea hm => by
   have h1 := D11.g2 _ hm
   have h2 := gA8 ad.block (by rw [ea]; simp [blkL])
   omega
  have rr19 := (((rr15.ext e16).ext e17).mod m18 hnR hoA).mod m19 (fun q => hN (List.mem_singleton.1 q)) (fun ad ea hm => by
   have h2 := gA8 ad.block (by rw [ea]; simp [blkL])
   have h1 := D11.g1
   rw [List.mem_singleton.1 hm] at h2
   omega)
  have hnew : ∀ u, g u = 0 → u < w11.heap.size → g' u = 0 := fun u hu hlt' => by
   by_cases q : g' u = 0
   ·exact q
   ·rcases T19.2.1 u q with y | y
    ·exact absurd hu y
    ·omega
  have e019 : Ext w w19 := by
   have e011 := e09.ext (e10.ext e11)
   obtain ⟨⟨S, mS, sS⟩, -, -⟩ := T19
   exact e011.step mS (fun u hu => .inr (D11.old u (sS u hu)).1)
  refine ih ((i + 1, s9, x.ep), (A18, sl.2.1 + 1, c18), es ++ [x], g') _ _ (by simp only; omega) ⟨by show i + 1 ≤ _; omega, e019, by have := m18.size; omega, rr19, D19, hnew bR gR (by omega), fun u hu => hnew u (gA8 u hu) (by have := lo3.mem u hu; omega), l9, by rw [hxp]; exact r5⟩ (.c rfl (.c rfl (.c rfl (.c rfl (.c rfl (.c rfl (.c rfl (.n))))))))
 ·clear ih
  obtain rfl : i = L.l.length := by omega
  rw [List.drop_length] at l8
  simp only [List.map_nil, List.flatten_nil] at l8
  have hfin := l8.fin
  have he8 := l8.1
  rw [List.take_length] at D8
  repeat (first | refine T_seq ?_ | refine T_region ?_ | refine T_cond_false rfl ?_ | refine T_exit rfl ?_ | refine TL_lt_f (hk := ?_) | refine TL_nil ?_ | refine TL_move (hk := ?_))
  refine TL_call TE (hc := End_c bR s A3 n3 c3 w8 rr8) (hk := ?_)
  rintro _ w9 ⟨rfl, m9, rr9⟩
  rw [hfin]
  have D9 := D8.mod m9 (fun u hu => by rw [List.mem_singleton.1 hu]; exact gR)
  repeat (first | refine T_seq ?_ | refine T_region ?_ | refine T_cond_false rfl ?_ | refine T_skip ?_ | refine TL_ne_f (hk := ?_) | refine TL_nil ?_ | refine TL_move (hk := ?_) | refine TL_assign (hk := ?_))
  exact T_ret3 rfl rfl rfl rfl ⟨lg, sl, es, g, rfl, e8.step m9 (fun u hu => .inr (by rw [List.mem_singleton.1 hu]; omega)), D9⟩
set_option maxHeartbeats 1600000
theorem jframe_c (k : Nat) (A : Option Addr) (n c : Nat) (l : List UInt8) (w : World) (h : Rd w A n 1 (bv l)) (hk : k < 256) (hn : n ≤ 65535) :
  Ret Tryz.prog 65 [.int .u8 (k : Int), .slice A n c] w (fun v w' => ∃ A' n' c', v = .slice A' n' c' ∧ Ext w w' ∧ Own w' w.heap.size 5 1 A' n' c' (bv (kindF k l))) := by
 have hlen : l.length = n := by simpa using h.1
 have hbv : bv [UInt8.ofNat k] = [.int .u8 (k : Int)] := by
  simp only [bv, List.map_cons, List.map_nil]
  rw [ofNat_u8 hk]
 refine ret_T (n := 16) Tryz.func65 rfl rfl ?_
 repeat (first | refine T_seq ?_ | refine T_region ?_ | refine TL_nil ?_ | refine TL_move (hk := ?_) | refine TL_assign (hk := ?_))
 refine TL_buildSlice TE (hk := ?_); intro b1 w1 e1 h1 h1' k1
 have o1 : Own w1 w.heap.size 5 1 (some ⟨b1, 0, none⟩) 1 1 (bv [UInt8.ofNat k]) := by rw [hbv]; exact Own.of_blk k1 h1 rfl (by decide)
 have z1 := e1.size
 have hr1 := h.be e1
 repeat (refine TL_move (hk := ?_))
 refine TL_append TE (ho := o1) (hr := hr1) (h1 := bv_one _) (hk := ?_); intro A2 c2 w2 o2 m2 n2
 rw [← bv_append] at o2
 have e02 : Ext w w2 := e1.step m2 (fun u hu => .inr (o1.bl u hu).1)
 --
 refine TL_call TE (hc := Seal_c A2 (1 + n) c2 ([UInt8.ofNat k] ++ l) w2 o2.rd (by omega)) (hk := ?_)
 rintro _ w3 ⟨A3, c3, rfl, e3, o3⟩
 repeat (first | refine T_seq ?_ | refine T_region ?_ | refine TL_nil ?_ | refine TL_move (hk := ?_) | refine TL_assign (hk := ?_) | refine TL_extract (hk := ?_))
 exact T_ret1 rfl rfl ⟨A3, _, c3, rfl, e02.ext e3, Own.weaken o3 e02.size⟩
theorem copied_c {base lg : Nat} {sl : SL} {es : List EM} {g : Nat → Nat} {L : LE} (w : World) (D : LogM w base lg sl es g L) (hL : LOk L) :
  Ret Tryz.prog 62 [pB lg] w (fun v w' => ∃ lg' sl' es' g', v = pB lg' ∧ Ext w w' ∧ LogM w' w.heap.size lg' sl' es' g' L) := by
 refine ret_T (n := 14) Tryz.func62 rfl rfl ?_
 repeat (first | refine T_seq ?_ | refine T_region ?_ | refine TL_nil ?_ | refine TL_move (hk := ?_) | refine TL_assign (hk := ?_))
 refine TL_call TE (hc := LBytes_c w D hL.n hL.ep (fun e he => (hL.run.le e he).2)) (hk := ?_)
 rintro _ w1 ⟨A1, n1, c1, rfl, e1, o1⟩
 --
 refine TL_call TE (hc := LLoad_c L hL A1 n1 c1 w1 o1.rd) (hk := ?_)
 rintro _ w2 ⟨lg', sl', es', g', rfl, e2, D2⟩
 have z1 := e1.size
 repeat (first | refine T_seq ?_ | refine T_region ?_ | refine TL_nil ?_ | refine TL_move (hk := ?_) | refine TL_assign (hk := ?_) | refine TL_extract (hk := ?_))
 exact T_ret1 rfl rfl ⟨lg', sl', es', g', rfl, e1.ext e2, { D2 with ow := Own.weaken D2.ow z1, old := fun b hb => by have := D2.old b hb; omega }⟩
end Go.Proofs.YtjlaomcankmdjaaGreat
