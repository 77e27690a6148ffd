import Derived.Test.YtjlaomcankmdjaaGreatJk4
import Derived.ArgAppend
/- Parts: WW2 WW3 WW4 WW5 JLaw5 JLaw6 HSpec Eng19 HMem HLaw1 HW6 HW7 HLaw2 HW1 HW2 HW3 HW4 Eng35 HW5 HW8. -/
set_option linter.unusedSimpArgs false
set_option linter.unusedVariables false
set_option linter.unusedSectionVars false
namespace Go.Proofs.YtjlaomcankmdjaaGreat
open Go.RowKit Go.Proofs.Eng Go.Proofs.Codec Go.Proofs.Foot Go.Proofs.Journal
set_option linter.unusedVariables false set_option maxRecDepth 10000
attribute [local irreducible] T TL LV TH TA
set_option maxHeartbeats 1600000
def Up (base : Nat) (w w' : World) : Prop := ∃ S, Eng.Mod S w w' ∧ ∀ u ∈ S, base ≤ u
theorem Up.ext {base : Nat} {w w' : World} (e : Ext w w') : Up base w w' := ⟨[], e, fun u hu => by cases hu⟩
theorem Up.trans {base : Nat} {a b c : World} (h : Up base a b) (k : Up base b c) : Up base a c := by
 obtain ⟨S, m, hS⟩ := h
 obtain ⟨S', m', hS'⟩ := k
 exact ⟨S ++ S', (m.mono (fun u hu => .inl (List.mem_append_left _ hu))).step m' (fun u hu => .inl (List.mem_append_right _ hu)), fun u hu => (List.mem_append.1 hu).elim (hS u) (hS' u)⟩
theorem Up.to {base : Nat} {w0 w w' : World} (h : Up base w w') (e : Ext w0 w) (hb : w0.heap.size ≤ base) : Ext w0 w' := by
 obtain ⟨S, m, hS⟩ := h
 exact e.step m (fun u hu => .inr (by have := hS u hu; omega))
theorem pmV_one (x : PM) : ∀ u ∈ pmV x, u.oneCell' = true := by
 intro u hu
 simp only [pmV, List.mem_cons, List.not_mem_nil, or_false] at hu
 rcases hu with rfl | rfl | rfl | rfl | rfl | rfl | rfl <;> rfl
structure ScM (w : World) (base sb lg : Nat) (sl : SL) (es : List EM) (g : Nat → Nat) (y : SL) (ys : List PM) (s : SC) : Prop where
 blk : Blk w sb 109 [pB lg, sL y, .int .i64 s.ep, .int .i64 s.last]
 log : LogM w base lg sl es g s.log
 ok : LOk s.log
 ow : Own w base 45 7 y.1 y.2.1 y.2.2 (rowV pmV ys)
 ee : ys.map (·.p) = s.op
 ek : ∀ z ∈ ys, POwn w base z ∧ PFit z.p ∧ ∀ b ∈ pmB z, b ∉ blkL y.1 ∧ b ≠ sb ∧ g b = 0
 gs : g sb = 0
 sy : sb ∉ blkL y.1
 gy : ∀ b ∈ blkL y.1, g b = 0
 hs : base ≤ sb
 mx : s.op.length ≤ 65536
section
variable {w w' : World} {base sb lg : Nat} {sl : SL} {es : List EM} {g : Nat → Nat} {y : SL} {ys : List PM} {s : SC}
theorem ScM.ext (S : ScM w base sb lg sl es g y ys s) (e : Ext w w') : ScM w' base sb lg sl es g y ys s :=
 { S with blk := S.blk.be e, log := S.log.ext e, ow := S.ow.be e, ek := fun z hz => ⟨(S.ek z hz).1.be e, (S.ek z hz).2⟩ }
theorem ScM.len (S : ScM w base sb lg sl es g y ys s) : ys.length = y.2.1 ∧ s.op.length = y.2.1 := by
 have h1 := S.ow.len
 rw [rowV_len pmV_len] at h1
 have h2 := congrArg List.length S.ee
 rw [List.length_map] at h2
 omega
end
theorem scanE_c {base sb lg : Nat} {sl : SL} {es : List EM} {g : Nat → Nat} {y : SL} {ys : List PM} {s : SC} (A : Option Addr) (n c : Nat) (b : List UInt8) (w : World) (S : ScM w base sb lg sl es g y ys s) (h : Rd w A n 1 (bv b)) (hn : n ≤ 65536) (hcap : n ≤ c) (hbs : base ≤ w.heap.size)
  (hfit : ∀ e, getEn b = some e → PFit e.p) :
  Ret Tryz.prog 95 [pB sb, .slice A n c] w (fun v w' => v = .bool (scE s b).isSome ∧ Up base w w' ∧ ∀ s', scE s b = some s' → ∃ sl es g y ys, ScM w' base sb lg sl es g y ys s') := by
 obtain ⟨hy1, hy2⟩ := S.len
 have hln := S.ok.n
 have hmx := S.mx
 refine ret_T (n := 78) Tryz.func95 rfl rfl ?_
 repeat (first | refine T_seq ?_ | refine T_region ?_ | refine TL_nil ?_ | refine TL_move (hk := ?_) | refine TL_assign (hk := ?_))
 refine TL_call TE (hc := EGet_c A n c b w h (by omega) hcap) (hk := ?_)
 rintro _ w1 ⟨_, qe, rfl, e1, ⟨x, rfl, ox, hx⟩⟩
 repeat (first | refine TL_move (hk := ?_) | refine TL_extract (hk := ?_))
 refine TL_alloc TE (hk := ?_); intro b2 w2 e2 h2 h2' k2
 --
 refine TL_storea TE (hk := ?_); intro w3 m3 z3 k3
 replace k3 : Blk w3 b2 47 (emV x) := k3
 unfold emV pmV at k3
 have z1 := e1.size
 have z2 := e2.size
 have e03 : Ext w w3 := (e1.ext e2).step m3 (fun u hu => .inr (by rw [List.mem_singleton.1 hu]; omega))
 have S3 := S.ext e03
 have ox3 : POwn w3 w.heap.size x.m := (ox.be e2).modL m3 (fun u hu q => by have := (ox.bl u hu).2; rw [List.mem_singleton] at q; omega)
 have kb3 := S3.blk
 clear k2
 repeat (first | refine T_seq ?_ | refine TL_nil ?_ | refine TL_assign (hk := ?_))
 refine T_region_any TE.mixed ([] : List Nat) ?_; intro w4 e4 z4
 have kb4 := kb3.be e4
 have hsD : sb ∉ ([] : List Nat) := by simp
 (refine TA_take 0 rfl (by kernel_rfl) (by kernel_rfl) (by kernel_rfl) ?_; (repeat (first | refine TL_move (hk := ?_) | refine TLP_load TE (hk := ?_) | refine TL_fieldAddr TE (hk := ?_) | refine TL_len TE (hk := ?_) | refine TL_nilCheck (hk := ?_))); refine TL_nil_p ?_); (refine TA_take 1 rfl (by kernel_rfl) (by kernel_rfl) (by kernel_rfl) ?_; (repeat (first | refine TL_move (hk := ?_) | refine TLP_load TE (hk := ?_) | refine TL_fieldAddr TE (hk := ?_) | refine TL_len TE (hk := ?_) | refine TL_nilCheck (hk := ?_))); refine TL_nil_p ?_); (refine TA_take 2 rfl (by kernel_rfl) (by kernel_rfl) (by kernel_rfl) ?_; (repeat (first | refine TL_move (hk := ?_) | refine TLP_load TE (hk := ?_) | refine TL_fieldAddr TE (hk := ?_) | refine TL_len TE (hk := ?_) | refine TL_nilCheck (hk := ?_))); refine TL_nil_p ?_); (refine TA_take 3 rfl (by kernel_rfl) (by kernel_rfl) (by kernel_rfl) ?_; (repeat (first | refine TL_move (hk := ?_) | refine TLP_load TE (hk := ?_) | refine TL_fieldAddr TE (hk := ?_) | refine TL_len TE (hk := ?_) | refine TL_nilCheck (hk := ?_))); refine TL_nil_p ?_); (refine TA_take 5 rfl (by kernel_rfl) (by kernel_rfl) (by kernel_rfl) ?_; (repeat (first | refine TL_move (hk := ?_) | refine TLP_load TE (hk := ?_) | refine TL_fieldAddr TE (hk := ?_) | refine TL_len TE (hk := ?_) | refine TL_nilCheck (hk := ?_))); refine TL_nil_p ?_); (refine TA_take 6 rfl (by kernel_rfl) (by kernel_rfl) (by kernel_rfl) ?_; (repeat (first | refine TL_move (hk := ?_) | refine TLP_load TE (hk := ?_) | refine TL_fieldAddr TE (hk := ?_) | refine TL_len TE (hk := ?_) | refine TL_nilCheck (hk := ?_))); refine TL_nil_p ?_); (refine TA_take 7 rfl (by kernel_rfl) (by kernel_rfl) (by kernel_rfl) ?_; (repeat (first | refine TL_move (hk := ?_) | refine TLP_load TE (hk := ?_) | refine TL_fieldAddr TE (hk := ?_) | refine TL_len TE (hk := ?_) | refine TL_nilCheck (hk := ?_))); refine TL_nil_p ?_); (refine TA_take 8 rfl (by kernel_rfl) (by kernel_rfl) (by kernel_rfl) ?_; (repeat (first | refine TL_move (hk := ?_) | refine TLP_load TE (hk := ?_) | refine TL_fieldAddr TE (hk := ?_) | refine TL_len TE (hk := ?_) | refine TL_nilCheck (hk := ?_))); refine TL_nil_p ?_); (refine TA_take 9 rfl (by kernel_rfl) (by kernel_rfl) (by kernel_rfl) ?_; (repeat (first | refine TL_move (hk := ?_) | refine TLP_load TE (hk := ?_) | refine TL_fieldAddr TE (hk := ?_) | refine TL_len TE (hk := ?_) | refine TL_nilCheck (hk := ?_))); refine TL_nil_p ?_)
 refine TA_one 4 rfl (by kernel_rfl) (by kernel_rfl) ?_; (try refine TL_yes (hk := ?_)); refine TL_call TE (hc := (LLen_c w4 (S3.log.ext e4))) (hq := (by rintro _ _ ⟨_, h⟩; rw [h]; exact Mod.refl _ _)) (hk := ?_)
 rintro _ w5 ⟨rfl, hw5⟩
 rw [hw5]
 clear hw5 w5
 refine TL_nil_p ?_
 (refine TA_one 10 rfl (by kernel_rfl) (by kernel_rfl) ?_; (repeat (first | refine TL_add (hk := ?_) | refine TL_assign (hk := ?_))); refine TL_nil_p ?_); (refine TA_one 11 rfl (by kernel_rfl) (by kernel_rfl) ?_; (repeat (first | refine TL_add (hk := ?_) | refine TL_assign (hk := ?_))); refine TL_nil_p ?_)
 refine TA_done (by kernel_rfl) ?_
 have S4 := S3.ext e4
 have ox4 := ox3.be e4
 have k4 := k3.be e4
 have hnx : ((s.log.l.length : Nat) : Int) + ((y.2.1 : Nat) : Int) = ((s.log.l.length + s.op.length : Nat) : Int) := by omega
 rw [hnx]
 obtain ⟨nx, hnxd⟩ : ∃ nx, s.log.l.length + s.op.length = nx := ⟨_, rfl⟩
 have hnx2 : nx ≤ 131072 := by omega
 rw [hnxd]
 clear S3 ox3 k3 kb3
 --
 refine T_seq ?_
 refine T_seq ?_
 refine T_join (ι := Bool) (fun t => [(61, .bool t), (5, .pointer (some ⟨b2, 0, none⟩)), (1, .slice A n c), (0, pB sb)]) (fun t w' => Ext w4 w' ∧ (t = true ↔ scE s b = none)) (fun kk join => ?_) ?_
 ·have kb := S4.blk
  cases hg : getEn b with
  |none =>
   rw [hg] at hx
   have hno : scE s b = none := by unfold scE; rw [hg]
   repeat (first | refine T_region_q TE.mixed (by kernel_rfl) ?_ | refine TL_ne_t (hk := ?_) | refine TL_move (hk := ?_) | refine TL_no (hk := ?_) | refine TL_pick_t (hk := ?_))
   refine TL_nil_q ?_; intro w6 e6
   exact T.sub (join true _ ⟨e6, fun _ => hno, fun _ => rfl⟩) (.c rfl (.c rfl (.c rfl (.c rfl (.n)))))
  |some e =>
   rw [hg] at hx
   obtain ⟨rfl, hxe⟩ := hx
   have hxs : x.sq = e.sq := congrArg EE.sq hxe
   have hxp : x.ep = e.ep := congrArg EE.ep hxe
   have huf : scE s b = if e.sq ≠ (nx : Int) ∨ 65536 ≤ nx ∨ e.ep < s.last ∨ (0 < s.op.length ∧ e.ep ≠ s.ep) then none else some { s with op := s.op ++ [e.p], ep := e.ep } := by unfold scE; rw [hg]; simp only; rw [hnxd]
   by_cases d1 : x.sq = (nx : Int)
   ·by_cases d2 : (65536 : Int) ≤ (nx : Int)
    ·have hno : scE s b = none := by rw [huf, if_pos (.inr (.inl (by omega)))]
     repeat (first | refine T_region_q TE.mixed (by kernel_rfl) ?_ | refine TL_ge_t (hk := ?_) | refine TL_ne_f (hk := ?_) | refine TL_move (hk := ?_) | refine TL_load TE (hk := ?_) | refine TL_fieldAddr TE (hk := ?_) | refine TL_yes (hk := ?_) | refine TL_no (hk := ?_) | refine TL_pick_t (hk := ?_) | refine TL_pick_f (hk := ?_))
     refine TL_nil_q ?_; intro w6 e6
     exact T.sub (join true _ ⟨e6, fun _ => hno, fun _ => rfl⟩) (.c rfl (.c rfl (.c rfl (.c rfl (.n)))))
    ·by_cases d3 : x.ep < s.last
     ·have hno : scE s b = none := by rw [huf, if_pos (.inr (.inr (.inl (by omega))))]
      repeat (first | refine T_region_q TE.mixed (by kernel_rfl) ?_ | refine TL_lt_t (hk := ?_) | refine TL_ge_f (hk := ?_) | refine TL_ne_f (hk := ?_) | refine TL_move (hk := ?_) | refine TL_load TE (hk := ?_) | refine TL_fieldAddr TE (hk := ?_) | refine TL_yes (hk := ?_) | refine TL_no (hk := ?_) | refine TL_pick_t (hk := ?_) | refine TL_pick_f (hk := ?_) | refine TL_nilCheck (hk := ?_))
      refine TL_nil_q ?_; intro w6 e6
      exact T.sub (join true _ ⟨e6, fun _ => hno, fun _ => rfl⟩) (.c rfl (.c rfl (.c rfl (.c rfl (.n)))))
     ·by_cases d4 : (0 : Int) < (y.2.1 : Int)
      ·by_cases d5 : x.ep = s.ep
       ·have hno : ¬ scE s b = none := by rw [huf, if_neg (by omega)]; simp
        repeat (first | refine T_region_q TE.mixed (by kernel_rfl) ?_ | refine TL_lt_f (hk := ?_) | refine TL_gt_t (hk := ?_) | refine TL_ge_f (hk := ?_) | refine TL_ne_f (hk := ?_) | refine TL_move (hk := ?_) | refine TL_load TE (hk := ?_) | refine TL_fieldAddr TE (hk := ?_) | refine TL_len TE (hk := ?_) | refine TL_yes (hk := ?_) | refine TL_pick_t (hk := ?_) | refine TL_pick_f (hk := ?_) | refine TL_nilCheck (hk := ?_))
        refine TL_nil_q ?_; intro w6 e6
        exact T.sub (join false _ ⟨e6, fun q => (by cases q), fun q => absurd q hno⟩) (.c rfl (.c rfl (.c rfl (.c rfl (.n)))))
       ·have hno : scE s b = none := by rw [huf, if_pos (.inr (.inr (.inr ⟨by omega, by omega⟩)))]
        repeat (first | refine T_region_q TE.mixed (by kernel_rfl) ?_ | refine TL_lt_f (hk := ?_) | refine TL_gt_t (hk := ?_) | refine TL_ge_f (hk := ?_) | refine TL_ne_t (hk := ?_) | refine TL_ne_f (hk := ?_) | refine TL_move (hk := ?_) | refine TL_load TE (hk := ?_) | refine TL_fieldAddr TE (hk := ?_) | refine TL_len TE (hk := ?_) | refine TL_yes (hk := ?_) | refine TL_pick_t (hk := ?_) | refine TL_pick_f (hk := ?_) | refine TL_nilCheck (hk := ?_))
        refine TL_nil_q ?_; intro w6 e6
        exact T.sub (join true _ ⟨e6, fun _ => hno, fun _ => rfl⟩) (.c rfl (.c rfl (.c rfl (.c rfl (.n)))))
      ·have hno : ¬ scE s b = none := by rw [huf, if_neg (by omega)]; simp
       repeat (first | refine T_region_q TE.mixed (by kernel_rfl) ?_ | refine TL_lt_f (hk := ?_) | refine TL_gt_f (hk := ?_) | refine TL_ge_f (hk := ?_) | refine TL_ne_f (hk := ?_) | refine TL_move (hk := ?_) | refine TL_load TE (hk := ?_) | refine TL_fieldAddr TE (hk := ?_) | refine TL_len TE (hk := ?_) | refine TL_yes (hk := ?_) | refine TL_no (hk := ?_) | refine TL_pick_f (hk := ?_) | refine TL_nilCheck (hk := ?_))
       refine TL_nil_q ?_; intro w6 e6
       exact T.sub (join false _ ⟨e6, fun q => (by cases q), fun q => absurd q hno⟩) (.c rfl (.c rfl (.c rfl (.c rfl (.n)))))
   ·have hno : scE s b = none := by rw [huf, if_pos (.inl (by omega))]
    repeat (first | refine T_region_q TE.mixed (by kernel_rfl) ?_ | refine TL_ne_t (hk := ?_) | refine TL_ne_f (hk := ?_) | refine TL_move (hk := ?_) | refine TL_load TE (hk := ?_) | refine TL_fieldAddr TE (hk := ?_) | refine TL_yes (hk := ?_) | refine TL_no (hk := ?_) | refine TL_pick_t (hk := ?_) | refine TL_pick_f (hk := ?_))
    refine TL_nil_q ?_; intro w6 e6
    exact T.sub (join true _ ⟨e6, fun _ => hno, fun _ => rfl⟩) (.c rfl (.c rfl (.c rfl (.c rfl (.n)))))
 rintro t w6 ⟨e6, ht⟩
 have e04 := e03.ext e4
 cases t with
 |true =>
  rw [ht.1 rfl]
  repeat (first | refine T_seq ?_ | refine T_region ?_ | refine T_cond_true rfl ?_ | refine TL_nil ?_ | refine TL_assign (hk := ?_))
  exact T_ret1 rfl rfl ⟨rfl, Up.ext (e04.ext e6), fun s' h => by cases h⟩
 |false => ?_
 have hsome : scE s b ≠ none := fun q => by have := ht.2 q; cases this
 repeat (first | refine T_seq ?_ | refine T_cond_false rfl ?_ | refine T_skip ?_)
 cases hg : getEn b with
 |none => exact absurd (by unfold scE; rw [hg]) hsome
 |some e => ?_
 rw [hg] at hx
 obtain ⟨rfl, hxe⟩ := hx
 have hF := hfit e hg
 have hxp : x.ep = e.ep := congrArg EE.ep hxe
 have hxm : x.m.p = e.p := congrArg EE.p hxe
 have huf : scE s b = if e.sq ≠ (nx : Int) ∨ 65536 ≤ nx ∨ e.ep < s.last ∨ (0 < s.op.length ∧ e.ep ≠ s.ep) then none else some { s with op := s.op ++ [e.p], ep := e.ep } := by unfold scE; rw [hg]; simp only; rw [hnxd]
 have hcond : ¬ (e.sq ≠ (nx : Int) ∨ 65536 ≤ nx ∨ e.ep < s.last ∨ (0 < s.op.length ∧ e.ep ≠ s.ep)) := fun q => hsome (by rw [huf, if_pos q])
 rw [if_neg hcond] at huf
 rw [huf]
 have S6 := S4.ext e6
 have ox6 := ox4.be e6
 have k6 := k4.be e6
 have e046 := e04.ext e6
 have z046 := e046.size
 clear hg S4 ox4 k4
 have hsy := S6.sy
 have hyl : ∀ u ∈ blkL y.1, u < w.heap.size := fun u hu => (S.ow.bl u hu).2
 have hsl : sb < w.heap.size := S.blk.lt
 have hgo : ∀ u, w.heap.size ≤ u → g u = 0 := fun u hu => by
  by_cases q : g u = 0
  ·exact q
  ·have := (S.log.old u q).2; omega
 have n2D : b2 ∉ sb :: blkL y.1 := fun q => (List.mem_cons.1 q).elim (fun q => by omega) (fun q => by have := hyl _ q; omega)
 have hDb : ∀ u ∈ sb :: blkL y.1, base ≤ u := fun u hu => (List.mem_cons.1 hu).elim (fun q => by rw [q]; exact S.hs) (fun q => (S.ow.bl u q).1)
 have hxb := ox6.bl
 have zz6 : w.heap.size ≤ w6.heap.size := z046
 refine T_region_any TE.mixed (sb :: blkL y.1) ?_; intro w7 e7 z7
 have kb7 := S6.blk.be e7
 have k7 := k6.be e7
 have o7 := S6.ow.be e7
 have fin : ∀ (wE : World) (y' : SL), Eng.Mod (sb :: blkL y.1) w7 wE → Blk wE sb 109 [pB lg, sL y', .int .i64 x.ep, .int .i64 s.last] → Own wE base 45 7 y'.1 y'.2.1 y'.2.2 (rowV pmV (ys ++ [x.m])) → ∀ {w8 : World}, Near y.1 y'.1 w8 → w7.heap.size ≤ w8.heap.size → ScM wE base sb lg sl es g y' (ys ++ [x.m]) { s with op := s.op ++ [e.p], ep := e.ep } := by
  intro wE y' M k o w8 nr z8
  have hny : ∀ u, u < w7.heap.size → u ∉ blkL y.1 → u ∉ blkL y'.1 := fun u hu hn hq => (Near.mem nr u hq).elim hn (fun q => by omega)
  have S7 := S6.ext e7
  refine ⟨by rw [← hxp]; exact k, S7.log.mod M (fun u hu => (List.mem_cons.1 hu).elim (fun q => by rw [q]; exact S.gs) (S.gy u)), S.ok, o, by rw [List.map_append, S.ee]; simp [hxm], fun z hz => ?_, S.gs, hny sb (by have := S7.blk.lt; exact this) S.sy, fun u hu => ?_, S.hs, by rw [List.length_append]; simp only [List.length_cons, List.length_nil]; omega⟩
  ·rcases List.mem_append.1 hz with q | q
   ·obtain ⟨q1, q2, q3⟩ := S7.ek z q
    refine ⟨q1.modL M (fun u hu hq => (List.mem_cons.1 hq).elim (q3 u hu).2.1 (q3 u hu).1), q2, fun u hu => ⟨hny u (q1.bl u hu).2 (q3 u hu).1, (q3 u hu).2.1, (q3 u hu).2.2⟩⟩
   ·rw [List.mem_singleton.1 q]
    have q1 := ox6.be e7
    have hu1 : ∀ u ∈ pmB x.m, u ∉ blkL y.1 := fun u hu hq => by have h1 := (q1.bl u hu).1; have h2 := hyl u hq; omega
    have hu2 : ∀ u ∈ pmB x.m, u ≠ sb := fun u hu hq => by have h1 := (q1.bl u hu).1; omega
    exact ⟨(q1.weaken hbs).modL M (fun u hu hq => (List.mem_cons.1 hq).elim (hu2 u hu) (hu1 u hu)), by rw [hxm]; exact hF, fun u hu => ⟨hny u (q1.bl u hu).2 (hu1 u hu), hu2 u hu, hgo u (q1.bl u hu).1⟩⟩
  ·exact (Near.mem nr u hu).elim (S.gy u) (fun q => hgo u (by omega))
 (refine TA_take 0 rfl (by kernel_rfl) (by kernel_rfl) (by kernel_rfl) ?_; (repeat (first | refine TL_move (hk := ?_) | refine TL_fieldAddr TE (hk := ?_) | refine TL_nilCheck (hk := ?_))); refine TL_nil_p ?_); (refine TA_take 1 rfl (by kernel_rfl) (by kernel_rfl) (by kernel_rfl) ?_; (repeat (first | refine TL_move (hk := ?_) | refine TL_fieldAddr TE (hk := ?_) | refine TL_nilCheck (hk := ?_))); refine TL_nil_p ?_); (refine TA_take 2 rfl (by kernel_rfl) (by kernel_rfl) (by kernel_rfl) ?_; (repeat (first | refine TL_move (hk := ?_) | refine TL_fieldAddr TE (hk := ?_) | refine TL_nilCheck (hk := ?_))); refine TL_nil_p ?_); (refine TA_take 3 rfl (by kernel_rfl) (by kernel_rfl) (by kernel_rfl) ?_; (repeat (first | refine TL_move (hk := ?_) | refine TL_fieldAddr TE (hk := ?_) | refine TL_nilCheck (hk := ?_))); refine TL_nil_p ?_); (refine TA_take 4 rfl (by kernel_rfl) (by kernel_rfl) (by kernel_rfl) ?_; (repeat (first | refine TL_move (hk := ?_) | refine TL_fieldAddr TE (hk := ?_) | refine TL_nilCheck (hk := ?_))); refine TL_nil_p ?_); (refine TA_take 6 rfl (by kernel_rfl) (by kernel_rfl) (by kernel_rfl) ?_; (repeat (first | refine TL_move (hk := ?_) | refine TL_fieldAddr TE (hk := ?_) | refine TL_nilCheck (hk := ?_))); refine TL_nil_p ?_)
 refine TA_take 7 rfl (by kernel_rfl) (by kernel_rfl) (by kernel_rfl) ?_
 refine TLP_loadb TE (cs := [.int .i64 x.m.p.q.cl, .int .u64 (x.m.p.q.tk : Int), .string (ofL x.m.p.q.nm), sL x.m.a, .int .i64 x.m.p.how, sL x.m.b, sL x.m.c]) (o := 2) (hb := k7) (hD := n2D) (hk := ?_)
 refine TL_nil_p ?_
 (refine TA_take 10 rfl (by kernel_rfl) (by kernel_rfl) (by kernel_rfl) ?_; (repeat (first | refine TLP_load TE (hk := ?_) | refine TL_fieldAddr TE (hk := ?_))); refine TL_nil_p ?_); (refine TA_take 11 rfl (by kernel_rfl) (by kernel_rfl) (by kernel_rfl) ?_; (repeat (first | refine TLP_load TE (hk := ?_) | refine TL_fieldAddr TE (hk := ?_))); refine TL_nil_p ?_)
 refine TA_two 5 8 rfl rfl (by kernel_rfl) (by kernel_rfl) ?_ ?_
 ·refine TLN_load TE (hb := kb7) (hq := Mod.refl _ _) (hk := ?_)
  refine TL_nil_p ?_
  refine TA_one 8 rfl (by kernel_rfl) (by kernel_rfl) ?_
  refine TL_buildSliceA TE (hf := rfl) (hq := fun w' e => Ext.mod e) (hk := ?_); intro b17 w8 e17 h17 h17' k17
  refine TL_nil_p ?_
  replace k17 : Blk w8 b17 45 (rowV pmV [x.m]) := k17
  have r17 : Rd w8 (some ⟨b17, 0, none⟩) 1 7 (rowV pmV [x.m]) := Rd.blk k17 rfl
  have o8 := o7.be e17
  have kb8 := kb7.be e17
  have zz8 := e17.size
  refine TA_one 9 rfl (by kernel_rfl) (by kernel_rfl) ?_
  refine TL_append TE (ho := o8) (hr := r17) (h1 := rowV_one pmV_one _) (hf := rfl) (hq := fun w' m => (Ext.mod e17).step m (fun u hu => .inl (List.mem_cons_of_mem _ hu))) (hk := ?_); intro A9 c9 w9 o9 m9 n9
  rw [← rowV_append] at o9
  have kb9 := kb8.mod m9 S6.sy
  have zz9 := m9.size
  have M9 : Eng.Mod (sb :: blkL y.1) w7 w9 := (Ext.mod e17).step m9 (fun u hu => .inl (List.mem_cons_of_mem _ hu))
  refine TL_nil_p ?_
  (refine TA_take 12 rfl (by kernel_rfl) (by kernel_rfl) (by kernel_rfl) ?_; (repeat (first | refine TL_fieldAddr TE (hk := ?_) | refine TL_nilCheck (hk := ?_))); refine TL_nil_p ?_); (refine TA_take 13 rfl (by kernel_rfl) (by kernel_rfl) (by kernel_rfl) ?_; (repeat (first | refine TL_fieldAddr TE (hk := ?_) | refine TL_nilCheck (hk := ?_))); refine TL_nil_p ?_)
  refine TA_one 14 rfl (by kernel_rfl) (by kernel_rfl) ?_
  refine TL_store TE (hb := kb9) (hf := rfl) (hq := fun _ m _ => M9.step m (fun u hu => .inl (by rw [List.mem_singleton.1 hu]; exact List.mem_cons_self))) (hk := ?_); intro w10 m10 z10 k10
  have M10 : Eng.Mod (sb :: blkL y.1) w7 w10 := M9.step m10 (fun u hu => .inl (by rw [List.mem_singleton.1 hu]; exact List.mem_cons_self))
  refine TL_nil_p ?_
  (refine TA_take 15 rfl (by kernel_rfl) (by kernel_rfl) (by kernel_rfl) ?_; (repeat (first | refine TL_fieldAddr TE (hk := ?_) | refine TL_nilCheck (hk := ?_))); refine TL_nil_p ?_); (refine TA_take 16 rfl (by kernel_rfl) (by kernel_rfl) (by kernel_rfl) ?_; (repeat (first | refine TL_fieldAddr TE (hk := ?_) | refine TL_nilCheck (hk := ?_))); refine TL_nil_p ?_)
  refine TA_one 17 rfl (by kernel_rfl) (by kernel_rfl) ?_
  refine TL_store TE (hb := k10) (hf := rfl) (hq := fun _ m _ => M10.step m (fun u hu => .inl (by rw [List.mem_singleton.1 hu]; exact List.mem_cons_self))) (hk := ?_); intro w11 m11 z11 k11
  have M11 : Eng.Mod (sb :: blkL y.1) w7 w11 := M10.step m11 (fun u hu => .inl (by rw [List.mem_singleton.1 hu]; exact List.mem_cons_self))
  refine TL_nil_p ?_
  refine TA_done (by kernel_rfl) ?_
  repeat (first | refine T_seq ?_ | refine T_region ?_ | refine TL_nil ?_ | refine TL_assign (hk := ?_))
  have hnE : sb ∉ blkL A9 := fun q => (Near.mem n9 sb q).elim S6.sy (fun y => by have := S6.blk.lt; omega)
  have o11 := (o9.modL m10 (fun u hu q => by rw [List.mem_singleton] at q; rw [q] at hu; exact hnE hu)).modL m11 (fun u hu q => by rw [List.mem_singleton] at q; rw [q] at hu; exact hnE hu)
  refine T_ret1 rfl rfl ⟨rfl, (Up.ext (e046.ext e7)).trans ⟨_, M11, hDb⟩, fun s' h => ?_⟩
  cases h
  exact ⟨sl, es, g, (A9, y.2.1 + 1, c9), ys ++ [x.m], fin w11 (A9, y.2.1 + 1, c9) M11 k11 o11 n9 zz8⟩
 ·refine TL_buildSliceA TE (hf := rfl) (hq := fun w' e => Ext.mod e) (hk := ?_); intro b17 w8 e17 h17 h17' k17
  refine TL_nil_p ?_
  refine TA_one 5 rfl (by kernel_rfl) (by kernel_rfl) ?_
  refine TLN_load TE (hb := kb7.be e17) (hq := Ext.mod e17) (hk := ?_)
  refine TL_nil_p ?_
  replace k17 : Blk w8 b17 45 (rowV pmV [x.m]) := k17
  have r17 : Rd w8 (some ⟨b17, 0, none⟩) 1 7 (rowV pmV [x.m]) := Rd.blk k17 rfl
  have o8 := o7.be e17
  have kb8 := kb7.be e17
  have zz8 := e17.size
  refine TA_one 9 rfl (by kernel_rfl) (by kernel_rfl) ?_
  refine TL_append TE (ho := o8) (hr := r17) (h1 := rowV_one pmV_one _) (hf := rfl) (hq := fun w' m => (Ext.mod e17).step m (fun u hu => .inl (List.mem_cons_of_mem _ hu))) (hk := ?_); intro A9 c9 w9 o9 m9 n9
  rw [← rowV_append] at o9
  have kb9 := kb8.mod m9 S6.sy
  have zz9 := m9.size
  have M9 : Eng.Mod (sb :: blkL y.1) w7 w9 := (Ext.mod e17).step m9 (fun u hu => .inl (List.mem_cons_of_mem _ hu))
  refine TL_nil_p ?_
  (refine TA_take 12 rfl (by kernel_rfl) (by kernel_rfl) (by kernel_rfl) ?_; (repeat (first | refine TL_fieldAddr TE (hk := ?_) | refine TL_nilCheck (hk := ?_))); refine TL_nil_p ?_); (refine TA_take 13 rfl (by kernel_rfl) (by kernel_rfl) (by kernel_rfl) ?_; (repeat (first | refine TL_fieldAddr TE (hk := ?_) | refine TL_nilCheck (hk := ?_))); refine TL_nil_p ?_)
  refine TA_one 14 rfl (by kernel_rfl) (by kernel_rfl) ?_
  refine TL_store TE (hb := kb9) (hf := rfl) (hq := fun _ m _ => M9.step m (fun u hu => .inl (by rw [List.mem_singleton.1 hu]; exact List.mem_cons_self))) (hk := ?_); intro w10 m10 z10 k10
  have M10 : Eng.Mod (sb :: blkL y.1) w7 w10 := M9.step m10 (fun u hu => .inl (by rw [List.mem_singleton.1 hu]; exact List.mem_cons_self))
  refine TL_nil_p ?_
  (refine TA_take 15 rfl (by kernel_rfl) (by kernel_rfl) (by kernel_rfl) ?_; (repeat (first | refine TL_fieldAddr TE (hk := ?_) | refine TL_nilCheck (hk := ?_))); refine TL_nil_p ?_); (refine TA_take 16 rfl (by kernel_rfl) (by kernel_rfl) (by kernel_rfl) ?_; (repeat (first | refine TL_fieldAddr TE (hk := ?_) | refine TL_nilCheck (hk := ?_))); refine TL_nil_p ?_)
  refine TA_one 17 rfl (by kernel_rfl) (by kernel_rfl) ?_
  refine TL_store TE (hb := k10) (hf := rfl) (hq := fun _ m _ => M10.step m (fun u hu => .inl (by rw [List.mem_singleton.1 hu]; exact List.mem_cons_self))) (hk := ?_); intro w11 m11 z11 k11
  have M11 : Eng.Mod (sb :: blkL y.1) w7 w11 := M10.step m11 (fun u hu => .inl (by rw [List.mem_singleton.1 hu]; exact List.mem_cons_self))
  refine TL_nil_p ?_
  refine TA_done (by kernel_rfl) ?_
  repeat (first | refine T_seq ?_ | refine T_region ?_ | refine TL_nil ?_ | refine TL_assign (hk := ?_))
  have hnE : sb ∉ blkL A9 := fun q => (Near.mem n9 sb q).elim S6.sy (fun y => by have := S6.blk.lt; omega)
  have o11 := (o9.modL m10 (fun u hu q => by rw [List.mem_singleton] at q; rw [q] at hu; exact hnE hu)).modL m11 (fun u hu q => by rw [List.mem_singleton] at q; rw [q] at hu; exact hnE hu)
  refine T_ret1 rfl rfl ⟨rfl, (Up.ext (e046.ext e7)).trans ⟨_, M11, hDb⟩, fun s' h => ?_⟩
  cases h
  exact ⟨sl, es, g, (A9, y.2.1 + 1, c9), ys ++ [x.m], fin w11 (A9, y.2.1 + 1, c9) M11 k11 o11 n9 zz8⟩
set_option maxHeartbeats 1600000
theorem scanN_c {base sb lg : Nat} {sl : SL} {es : List EM} {g : Nat → Nat} {y : SL} {ys : List PM} {s : SC} (A : Option Addr) (n c : Nat) (b : List UInt8) (w : World) (S : ScM w base sb lg sl es g y ys s) (h : Rd w A n 1 (bv b)) (hn : n ≤ 65536) (hbs : base ≤ w.heap.size) :
  Ret Tryz.prog 96 [pB sb, .slice A n c] w (fun v w' => v = .bool (scN s b).isSome ∧ Up base w w' ∧ ∀ s', scN s b = some s' → ∃ sl es g y ys, ScM w' base sb lg sl es g y ys s') := by
 obtain ⟨hy1, hy2⟩ := S.len
 have hln := S.ok.n
 have hmx := S.mx
 refine ret_T (n := 69) Tryz.func96 rfl rfl ?_
 repeat (first | refine T_seq ?_ | refine T_region ?_ | refine TL_nil ?_ | refine TL_move (hk := ?_) | refine TL_assign (hk := ?_))
 refine TL_call TE (hc := NewReader_c A n c b w h (by omega)) (hk := ?_)
 rintro _ w1 ⟨bR, A3, n3, c3, rfl, e1, hbR, hi3, lo3, rr⟩
 have z1 := e1.size
 repeat (first | refine T_seq ?_ | refine T_region ?_ | refine TL_nil ?_ | refine TL_move (hk := ?_) | refine TL_assign (hk := ?_))
 refine TL_call TE (hc := Uint_c bR _ A3 n3 c3 w1 rr) (hk := ?_)
 rintro _ w2 ⟨rfl, m2, rr2⟩
 obtain ⟨p, hp⟩ : ∃ p, ge1 b = p := ⟨_, rfl⟩
 have q1 : (RS.mk b 0 0 0 0).take (0 : Nat) num0 = p := hp
 have l1 := take_lt (s := RS.mk b 0 0 0 0)
 rw [q1] at rr2 l1 ⊢
 repeat (first | refine T_seq ?_ | refine T_region ?_ | refine TL_nil ?_ | refine TL_move (hk := ?_) | refine TL_assign (hk := ?_))
 refine TL_call TE (hc := End_c bR _ A3 n3 c3 w2 rr2) (hk := ?_)
 rintro _ w3 ⟨rfl, m3, rr3⟩
 have z2 := m2.size
 have z3 := m3.size
 have e03 : Ext w w3 := (e1.step m2 (fun u hu => .inr (by rw [List.mem_singleton.1 hu]; omega))).step m3 (fun u hu => .inr (by rw [List.mem_singleton.1 hu]; omega))
 have S3 := S.ext e03
 clear rr rr2 rr3
 obtain ⟨x1, hx1⟩ : ∃ x, p.1 = x := ⟨_, rfl⟩
 have huf : scN s b = if p.2.fin.err ≠ 0 ∨ 9223372036854775808 ≤ x1 ∨ (x1 : Int) < s.last ∨ (0 < s.op.length ∧ (x1 : Int) ≠ s.ep) then none
   else if (appL s.log (x1 : Int) s.op).2.2.1 ≠ 0 then none else some ⟨(appL s.log (x1 : Int) s.op).1, [], s.ep, (x1 : Int)⟩ := by unfold scN; rw [hp, hx1]
 rw [hx1] at l1 ⊢
 have out : ∀ w', Ext w w' → scN s b = none → (Value.bool false = .bool (scN s b).isSome ∧ Up base w w' ∧ ∀ s', scN s b = some s' → ∃ sl es g y ys, ScM w' base sb lg sl es g y ys s') := fun w' e q => by rw [q]; exact ⟨rfl, Up.ext e, fun s' h => by cases h⟩
 by_cases d1 : p.2.fin.err = 0
 ·by_cases d2 : (9223372036854775808 : Int) ≤ (x1 : Int)
  ·repeat (first | refine T_seq ?_ | refine T_region ?_ | refine T_cond_true rfl ?_ | refine TL_ge_t (hk := ?_) | refine TL_ne_f (hk := ?_) | refine TL_nil ?_ | refine TL_move (hk := ?_) | refine TL_assign (hk := ?_) | refine TL_yes (hk := ?_) | refine TL_pick_f (hk := ?_))
   exact T_ret1 rfl rfl (out _ e03 (by rw [huf, if_pos (.inr (.inl (by omega)))]))
  ·have kb := S3.blk
   repeat (first | refine T_cond_false rfl ?_ | refine T_skip ?_ | refine TL_ge_f (hk := ?_) | refine TL_ne_f (hk := ?_) | refine TL_nil ?_ | refine TL_move (hk := ?_) | refine TL_yes (hk := ?_) | refine TL_pick_f (hk := ?_))
   refine T_seq ?_
   refine T_region ?_
   repeat (first | refine TL_nil ?_ | refine TL_move (hk := ?_) | refine TL_assign (hk := ?_) | refine TL_conv TE (hk := ?_))
   refine T_seq ?_
   refine T_seq ?_
   refine T_join (ι := Bool) (fun t => [(45, .bool t), (7, .int .i64 (x1 : Int)), (0, pB sb)]) (fun t w' => w' = w3 ∧ (t = true ↔ ((x1 : Int) < s.last ∨ (0 < s.op.length ∧ (x1 : Int) ≠ s.ep)))) (fun kk join => ?_) ?_
   ·by_cases d3 : (x1 : Int) < s.last
    ·repeat (first | refine T_region ?_ | refine TL_lt_t (hk := ?_) | refine TL_nil ?_ | refine TL_move (hk := ?_) | refine TL_load TE (hk := ?_) | refine TL_fieldAddr TE (hk := ?_) | refine TL_no (hk := ?_) | refine TL_pick_t (hk := ?_) | refine TL_nilCheck (hk := ?_))
     exact T.sub (join true _ ⟨rfl, fun _ => .inl d3, fun _ => rfl⟩) (.c rfl (.c rfl (.c rfl (.n))))
    ·by_cases d4 : (0 : Int) < (y.2.1 : Int)
     ·by_cases d5 : (x1 : Int) = s.ep
      ·repeat (first | refine T_region ?_ | refine TL_lt_f (hk := ?_) | refine TL_gt_t (hk := ?_) | refine TL_ne_f (hk := ?_) | refine TL_nil ?_ | refine TL_move (hk := ?_) | refine TL_load TE (hk := ?_) | refine TL_fieldAddr TE (hk := ?_) | refine TL_len TE (hk := ?_) | refine TL_yes (hk := ?_) | refine TL_pick_t (hk := ?_) | refine TL_pick_f (hk := ?_) | refine TL_nilCheck (hk := ?_))
       exact T.sub (join false _ ⟨rfl, fun q => (by cases q), fun q => absurd q (by omega)⟩) (.c rfl (.c rfl (.c rfl (.n))))
      ·repeat (first | refine T_region ?_ | refine TL_lt_f (hk := ?_) | refine TL_gt_t (hk := ?_) | refine TL_ne_t (hk := ?_) | refine TL_nil ?_ | refine TL_move (hk := ?_) | refine TL_load TE (hk := ?_) | refine TL_fieldAddr TE (hk := ?_) | refine TL_len TE (hk := ?_) | refine TL_yes (hk := ?_) | refine TL_pick_t (hk := ?_) | refine TL_pick_f (hk := ?_) | refine TL_nilCheck (hk := ?_))
       exact T.sub (join true _ ⟨rfl, fun _ => .inr ⟨by omega, d5⟩, fun _ => rfl⟩) (.c rfl (.c rfl (.c rfl (.n))))
     ·repeat (first | refine T_region ?_ | refine TL_lt_f (hk := ?_) | refine TL_gt_f (hk := ?_) | refine TL_nil ?_ | refine TL_move (hk := ?_) | refine TL_load TE (hk := ?_) | refine TL_fieldAddr TE (hk := ?_) | refine TL_len TE (hk := ?_) | refine TL_yes (hk := ?_) | refine TL_no (hk := ?_) | refine TL_pick_f (hk := ?_) | refine TL_nilCheck (hk := ?_))
      exact T.sub (join false _ ⟨rfl, fun q => (by cases q), fun q => absurd q (by omega)⟩) (.c rfl (.c rfl (.c rfl (.n))))
   rintro t w4 ⟨rfl, ht⟩
   cases t with
   |true =>
    have ht := ht.1 rfl
    repeat (first | refine T_seq ?_ | refine T_region ?_ | refine T_cond_true rfl ?_ | refine TL_nil ?_ | refine TL_assign (hk := ?_))
    exact T_ret1 rfl rfl (out _ e03 (by rw [huf, if_pos (.inr (.inr ht))]))
   |false => ?_
   have ht : ¬ ((x1 : Int) < s.last ∨ (0 < s.op.length ∧ (x1 : Int) ≠ s.ep)) := fun q => by have := ht.2 q; cases this
   rw [if_neg (by omega)] at huf
   repeat (first | refine T_seq ?_ | refine T_cond_false rfl ?_ | refine T_skip ?_)
   refine T_region_any TE.mixed (ownB w4 g) ?_; intro w5 e5 z5
   have S5 := S3.ext e5
   have kb5 := S5.blk
   have hsD : sb ∉ ownB w4 g := fun q => ownB_mem q S.gs
   (refine TA_take 0 rfl (by kernel_rfl) (by kernel_rfl) (by kernel_rfl) ?_; (repeat (first | refine TL_move (hk := ?_) | refine TLP_load TE (hk := ?_) | refine TL_fieldAddr TE (hk := ?_) | refine TL_nilCheck (hk := ?_))); refine TL_nil_p ?_); (refine TA_take 1 rfl (by kernel_rfl) (by kernel_rfl) (by kernel_rfl) ?_; (repeat (first | refine TL_move (hk := ?_) | refine TLP_load TE (hk := ?_) | refine TL_fieldAddr TE (hk := ?_) | refine TL_nilCheck (hk := ?_))); refine TL_nil_p ?_); (refine TA_take 2 rfl (by kernel_rfl) (by kernel_rfl) (by kernel_rfl) ?_; (repeat (first | refine TL_move (hk := ?_) | refine TLP_load TE (hk := ?_) | refine TL_fieldAddr TE (hk := ?_) | refine TL_nilCheck (hk := ?_))); refine TL_nil_p ?_); (refine TA_take 3 rfl (by kernel_rfl) (by kernel_rfl) (by kernel_rfl) ?_; (repeat (first | refine TL_move (hk := ?_) | refine TLP_load TE (hk := ?_) | refine TL_fieldAddr TE (hk := ?_) | refine TL_nilCheck (hk := ?_))); refine TL_nil_p ?_); (refine TA_take 4 rfl (by kernel_rfl) (by kernel_rfl) (by kernel_rfl) ?_; (repeat (first | refine TL_move (hk := ?_) | refine TLP_load TE (hk := ?_) | refine TL_fieldAddr TE (hk := ?_) | refine TL_nilCheck (hk := ?_))); refine TL_nil_p ?_); (refine TA_take 5 rfl (by kernel_rfl) (by kernel_rfl) (by kernel_rfl) ?_; (repeat (first | refine TL_move (hk := ?_) | refine TLP_load TE (hk := ?_) | refine TL_fieldAddr TE (hk := ?_) | refine TL_nilCheck (hk := ?_))); refine TL_nil_p ?_); (refine TA_take 6 rfl (by kernel_rfl) (by kernel_rfl) (by kernel_rfl) ?_; (repeat (first | refine TL_move (hk := ?_) | refine TLP_load TE (hk := ?_) | refine TL_fieldAddr TE (hk := ?_) | refine TL_nilCheck (hk := ?_))); refine TL_nil_p ?_); (refine TA_take 7 rfl (by kernel_rfl) (by kernel_rfl) (by kernel_rfl) ?_; (repeat (first | refine TL_move (hk := ?_) | refine TLP_load TE (hk := ?_) | refine TL_fieldAddr TE (hk := ?_) | refine TL_nilCheck (hk := ?_))); refine TL_nil_p ?_); (refine TA_take 8 rfl (by kernel_rfl) (by kernel_rfl) (by kernel_rfl) ?_; (repeat (first | refine TL_move (hk := ?_) | refine TLP_load TE (hk := ?_) | refine TL_fieldAddr TE (hk := ?_) | refine TL_nilCheck (hk := ?_))); refine TL_nil_p ?_)
   refine TA_one 9 rfl (by kernel_rfl) (by kernel_rfl) ?_; (try refine TL_yes (hk := ?_)); refine TL_call TE (hc := (LAppend_c (x1 : Int) y.1 y.2.1 y.2.2 ys w5 S5.log S5.ow.rd (fun x hx => ⟨(S5.ek x hx).1.lies, (S5.ek x hx).2.1⟩) S.gy (fun x hx u hu => ((S.ek x hx).2.2 u hu).2.2) (by omega) (by omega))) (hq := (by rintro _ w' ⟨_, _, _, g', _, t⟩; exact t.inD (Mod.refl _ _) (ownB_in z5))) (hk := ?_)
   rintro _ w6 ⟨rfl, sl', es', g', L6, T6⟩
   rw [S.ee] at L6 ⊢
   have e05 := e03.ext e5
   have hU6 : Up base w5 w6 := by
    obtain ⟨⟨Z, m6, s6⟩, -, -⟩ := T6
    exact ⟨Z, m6, fun u hu => (S.log.old u (s6 u hu)).1⟩
   have k6 : Blk w6 sb 109 [pB lg, sL y, .int .i64 s.ep, .int .i64 s.last] := by
    obtain ⟨⟨Z, m6, s6⟩, -, -⟩ := T6
    exact kb5.mod m6 (fun q => s6 sb q S.gs)
   have gs6 : g' sb = 0 := T6.old S.gs kb5.lt
   refine TL_nil_p ?_
   (refine TA_take 10 rfl (by kernel_rfl) (by kernel_rfl) (by kernel_rfl) ?_; (repeat (first | refine TL_move (hk := ?_) | refine TL_assign (hk := ?_) | refine TL_extract (hk := ?_))); refine TL_nil_p ?_); (refine TA_take 11 rfl (by kernel_rfl) (by kernel_rfl) (by kernel_rfl) ?_; (repeat (first | refine TL_move (hk := ?_) | refine TL_assign (hk := ?_) | refine TL_extract (hk := ?_))); refine TL_nil_p ?_); (refine TA_take 12 rfl (by kernel_rfl) (by kernel_rfl) (by kernel_rfl) ?_; (repeat (first | refine TL_move (hk := ?_) | refine TL_assign (hk := ?_) | refine TL_extract (hk := ?_))); refine TL_nil_p ?_); (refine TA_take 13 rfl (by kernel_rfl) (by kernel_rfl) (by kernel_rfl) ?_; (repeat (first | refine TL_move (hk := ?_) | refine TL_assign (hk := ?_) | refine TL_extract (hk := ?_))); refine TL_nil_p ?_); (refine TA_take 14 rfl (by kernel_rfl) (by kernel_rfl) (by kernel_rfl) ?_; (repeat (first | refine TL_move (hk := ?_) | refine TL_assign (hk := ?_) | refine TL_extract (hk := ?_))); refine TL_nil_p ?_); (refine TA_take 15 rfl (by kernel_rfl) (by kernel_rfl) (by kernel_rfl) ?_; (repeat (first | refine TL_move (hk := ?_) | refine TL_assign (hk := ?_) | refine TL_extract (hk := ?_))); refine TL_nil_p ?_); (refine TA_take 16 rfl (by kernel_rfl) (by kernel_rfl) (by kernel_rfl) ?_; (repeat (first | refine TL_move (hk := ?_) | refine TL_assign (hk := ?_) | refine TL_extract (hk := ?_))); refine TL_nil_p ?_)
   refine TA_done (by kernel_rfl) ?_
   by_cases d6 : (appL s.log (x1 : Int) s.op).2.2.1 = 0
   ·rw [if_neg (fun q => q d6)] at huf
    rw [huf]
    rw [d6]
    repeat (first | refine T_seq ?_ | refine T_region ?_ | refine T_cond_false rfl ?_ | refine T_skip ?_ | refine TL_ne_f (hk := ?_) | refine TL_nil ?_ | refine TL_move (hk := ?_) | refine TL_fieldAddr TE (hk := ?_) | refine TL_nilCheck (hk := ?_))
    refine TL_store TE (hk := ?_); intro w7 m7 z7 k7
    repeat (first | refine TL_fieldAddr TE (hk := ?_) | refine TL_nilCheck (hk := ?_))
    refine TL_store TE (hk := ?_); intro w8 m8 z8 k8
    repeat (first | refine T_seq ?_ | refine T_region ?_ | refine TL_nil ?_ | refine TL_assign (hk := ?_))
    have hm : ∀ u ∈ [sb], g' u = 0 := fun u hu => by rw [List.mem_singleton.1 hu]; exact gs6
    have hsb : ∀ u ∈ [sb], base ≤ u := fun u hu => by rw [List.mem_singleton.1 hu]; exact S.hs
    refine T_ret1 rfl rfl ⟨rfl, (((Up.ext e05).trans hU6).trans ⟨_, m7, hsb⟩).trans ⟨_, m8, hsb⟩, fun s' h => ?_⟩
    cases h
    refine ⟨sl', es', g', (none, 0, 0), [], k8, (L6.mod m7 hm).mod m8 hm, appL_ok S.ok (by omega) (fun p hp => ?_), Own.nil _ _ _ _, rfl, fun z hz => (by cases hz), gs6, fun q => (by cases q), fun u hu => (by cases hu), S.hs, Nat.zero_le _⟩
    rw [← S.ee] at hp
    obtain ⟨z, hz, rfl⟩ := List.mem_map.1 hp
    exact (S.ek z hz).2.1
   ·rw [if_pos d6] at huf
    have d6' : ¬ (((appL s.log (x1 : Int) s.op).2.2.1 : Nat) : Int) = 0 := by omega
    repeat (first | refine T_seq ?_ | refine T_region ?_ | refine T_cond_true rfl ?_ | refine TL_ne_t (hk := ?_) | refine TL_nil ?_ | refine TL_move (hk := ?_) | refine TL_assign (hk := ?_))
    refine T_ret1 rfl rfl ⟨by rw [huf]; rfl, (Up.ext e05).trans hU6, fun s' h => (by rw [huf] at h; cases h)⟩
 ·repeat (first | refine T_seq ?_ | refine T_region ?_ | refine T_cond_true rfl ?_ | refine TL_ne_t (hk := ?_) | refine TL_nil ?_ | refine TL_move (hk := ?_) | refine TL_assign (hk := ?_) | refine TL_no (hk := ?_) | refine TL_pick_t (hk := ?_))
  exact T_ret1 rfl rfl (out _ e03 (by rw [huf, if_pos (.inl d1)]))
theorem scanR_c {base sb lg : Nat} {sl : SL} {es : List EM} {g : Nat → Nat} {y : SL} {ys : List PM} {s : SC} (A : Option Addr) (n c : Nat) (b : List UInt8) (w : World) (S : ScM w base sb lg sl es g y ys s) (h : Rd w A n 1 (bv b)) (hn : n ≤ 65536) (hcap : n ≤ c) (hbs : base ≤ w.heap.size)
  (hfit : ∀ b e, getEn b = some e → PFit e.p) :
  Ret Tryz.prog 51 [pB sb, .slice A n c] w (fun v w' => v = .bool (scR s b).isSome ∧ Up base w w' ∧ ∀ s', scR s b = some s' → ∃ sl es g y ys, ScM w' base sb lg sl es g y ys s') := by
 have hbl : b.length = n := by simpa using h.1
 refine ret_T (n := 23) Tryz.func51 rfl rfl ?_
 cases b with
 |nil =>
  have h0 : n = 0 := by simpa using hbl.symm
  subst h0
  repeat (first | refine T_seq ?_ | refine T_region ?_ | refine T_cond_true rfl ?_ | refine TL_eq_t (hk := ?_) | refine TL_nil ?_ | refine TL_move (hk := ?_) | refine TL_assign (hk := ?_) | refine TL_len TE (hk := ?_))
  exact T_ret1 rfl rfl ⟨rfl, Up.ext (Mod.refl _ _), fun s' h => by cases h⟩
 |cons x t => ?_
 have hx := x.toNat_lt
 rw [List.length_cons] at hbl
 have h1 := Rd.tail1 (p := 1) h (by omega) hcap
 rw [List.drop_succ_cons, List.drop_zero] at h1
 have hA : A ≠ none := by obtain ⟨_, _, hq, _⟩ := h.2 (by omega); rw [hq]; simp
 have h0 : (bv (x :: t))[0]? = some (.int .u8 ((x.toNat : Nat) : Int)) := rfl
 obtain ⟨k, hk⟩ : ∃ k, gb (x :: t) 0 = k := ⟨_, rfl⟩
 have hkx : x.toNat = k := hk
 have huf : scR s (x :: t) = if k = 1 then scE s t else if k = 2 then scN s t else none := by show (if x.toNat = 1 then scE s t else if x.toNat = 2 then scN s t else none) = _; rw [hkx]
 rw [huf]
 repeat (first | refine T_seq ?_ | refine T_region ?_ | refine T_cond_false rfl ?_ | refine T_block ?_ | refine T_skip ?_ | refine TL_eq_f (hk := ?_) | refine TL_nil ?_ | refine TL_move (hk := ?_) | refine TL_assign (hk := ?_) | (refine TL_load_b TE (hk := ?_); intro _) | refine TL_indexAddr1n TE (hk := ?_) | refine TL_len TE (hk := ?_))
 rw [hk]
 by_cases d1 : k = 1
 ·rw [if_pos d1]
  repeat (first | refine T_seq ?_ | refine T_region ?_ | refine T_cond_true rfl ?_ | refine TL_eq_t (hk := ?_) | refine TL_nil ?_ | refine TL_move (hk := ?_) | refine TL_assign (hk := ?_) | refine TL_slice_lo TE (hk := ?_))
  refine TL_call TE (hc := scanE_c _ _ _ t w S h1 (by omega) (by omega) hbs (hfit t)) (hk := ?_)
  rintro _ w1 ⟨rfl, u1, hs⟩
  repeat (first | refine TL_nil ?_ | refine TL_assign (hk := ?_))
  exact T_ret1 rfl rfl ⟨rfl, u1, hs⟩
 rw [if_neg d1]
 by_cases d2 : k = 2
 ·rw [if_pos d2]
  repeat (first | refine T_seq ?_ | refine T_region ?_ | refine T_cond_true rfl ?_ | refine T_cond_false rfl ?_ | refine TL_eq_t (hk := ?_) | refine TL_eq_f (hk := ?_) | refine TL_nil ?_ | refine TL_move (hk := ?_) | refine TL_assign (hk := ?_) | refine TL_slice_lo TE (hk := ?_))
  refine TL_call TE (hc := scanN_c _ _ _ t w S h1 (by omega) hbs) (hk := ?_)
  rintro _ w1 ⟨rfl, u1, hs⟩
  repeat (first | refine TL_nil ?_ | refine TL_assign (hk := ?_))
  exact T_ret1 rfl rfl ⟨rfl, u1, hs⟩
 rw [if_neg d2]
 repeat (first | refine T_seq ?_ | refine T_region ?_ | refine T_cond_false rfl ?_ | refine T_inBlock ?_ | refine T_skip ?_ | refine TL_eq_f (hk := ?_) | refine TL_nil ?_ | refine TL_assign (hk := ?_))
 exact T_ret1 rfl rfl ⟨rfl, Up.ext (Mod.refl _ _), fun s' h => by cases h⟩
set_option maxHeartbeats 1600000
theorem jloads_get {w : World} : ∀ {xs : List Value} {ps : List (List UInt8)} {b e : Nat} {q : Nat}, Loads w b e xs ps → q < ps.length → ∃ A n c, xs[q]? = some (.slice A n c) ∧ Own w b 5 1 A n c (bv (ps.getD q []))
 | [], [], _, _, _, _, hx => by simp at hx
 | [], _ :: _, _, _, _, h, _ => h.elim
 | _ :: _, [], _, _, _, h, _ => h.elim
 |y :: t, p :: ps, b, e, 0, h, hx => by
  obtain ⟨A, n, c, b', h1, h2, h3, h4, h5⟩ := h
  exact ⟨A, n, c, by rw [h1]; rfl, h2⟩
 |y :: t, p :: ps, b, e, q + 1, h, hx => by
  obtain ⟨A, n, c, b', h1, h2, h3, h4, h5⟩ := h
  obtain ⟨A', n', c', g1, g2⟩ := jloads_get (q := q) h5 (by simpa using hx)
  exact ⟨A', n', c', by simpa using g1, Own.weaken (by simpa using g2) h4⟩
theorem openF_load {l : List UInt8} (h : (openF l).2.2 = 0) : (openF l).1.length ≤ 65536 ∧ (openF l).2.1 = (openF l).1.length + 8 := by
 unfold openF at h ⊢
 split
 ·rename_i g; rw [if_pos g] at h; cases h
 ·rename_i g
  rw [if_neg g] at h
  split
  ·rename_i g; rw [if_pos g] at h; cases h
  ·rename_i g
   rw [if_neg g] at h
   split
   ·rename_i g; rw [if_pos g] at h; cases h
   ·rename_i g
    rw [if_neg g] at h
    split
    ·simp only [List.length_take, List.length_drop]; omega
    ·rename_i g; rw [if_neg g] at h; cases h
theorem framesF_loads : ∀ (f : Nat) (l : List UInt8), (∀ p ∈ (framesF f l).1, p.length ≤ 65536) ∧ (framesF f l).1.length ≤ f
 | 0, l => ⟨fun p hp => (by cases hp), Nat.le_refl _⟩
 |f + 1, l => by
  unfold framesF
  split
  ·exact ⟨fun p hp => (by cases hp), by simp⟩
  ·split
   ·rename_i h
    obtain ⟨h1, h2⟩ := framesF_loads f (l.drop (openF l).2.1)
    refine ⟨fun p hp => ?_, by simpa using h2⟩
    rcases List.mem_cons.1 hp with rfl | hp
    ·exact (openF_load h).1
    ·exact h1 p hp
   ·exact ⟨fun p hp => (by cases hp), by simp⟩
def OpO (w w' : World) (base d : Nat) (gd : Nat → Nat) (o : Option LE × Nat × DK) (jp : Value) : Prop :=
 ∃ sl' gd', DiskM w' base d 0 sl' gd' o.2.2 ∧ Tn gd gd' w w' ∧ (match o.1 with
  |none => jp = .pointer none
  |some L => ∃ jb lg slg es g, jp = pB jb ∧ Blk w' jb 111 [pB d, pB lg, .int .i64 (L.l.length : Int)] ∧ LogM w' w.heap.size lg slg es g L ∧ LOk L ∧ g jb = 0 ∧ w.heap.size ≤ jb ∧ (∀ b, gd' b = 0 ∨ g b = 0) ∧ gd' jb = 0)
theorem Open_j {base d : Nat} {sl : SL} {gd : Nat → Nat} {k : DK} (w : World) (D : DiskM w base d 0 sl gd k) (hfit : ∀ b e, getEn b = some e → PFit e.p) :
  Ret Tryz.prog 12 [pB d] w (fun v w' => ∃ jp, v = .tuple #[jp, .int .i64 ((openJ k).2.1 : Int)] ∧ OpO w w' base d gd (openJ k) jp) := by
 have hln := D.ok.ln
 unfold openJ
 refine ret_T (n := 90) Tryz.func12 rfl rfl ?_
 repeat (first | refine T_seq ?_ | refine T_region ?_ | refine T_cond_false rfl ?_ | refine T_block ?_ | refine TL_pnil_f TE (hk := ?_) | refine TL_nil ?_ | refine TL_move (hk := ?_) | refine TL_assign (hk := ?_))
 refine TL_call TE (hc := Dead_c w D) (hk := ?_)
 rintro _ w1 ⟨rfl, D1, T1⟩
 cases hoff : k.off with
 |true =>
  rw [if_pos rfl]
  repeat (first | refine T_seq ?_ | refine T_region ?_ | refine T_cond_true rfl ?_ | refine TL_nil ?_ | refine TL_assign (hk := ?_))
  exact T_ret2 rfl rfl rfl ⟨_, rfl, sl, gd, D1, T1, rfl⟩
 |false => ?_
 rw [if_neg (by decide)]
 repeat (first | refine T_seq ?_ | refine T_region ?_ | refine T_cond_false rfl ?_ | refine T_inBlock ?_ | refine T_skip ?_ | refine TL_nil ?_ | refine TL_move (hk := ?_) | refine TL_assign (hk := ?_))
 refine TL_call TE (hc := Bytes_c w1 D1) (hk := ?_)
 rintro _ w2 ⟨Y, rfl, D2, T2, oY⟩
 have hbd : bytesD k = k.b := by unfold bytesD; rw [hoff]; rfl
 rw [hbd] at oY
 have hYl := oY.len
 simp only [bv_length, Nat.mul_one] at hYl
 have hYc := oY.cap.1
 have T02 := T1.trans T2
 repeat (first | refine T_seq ?_ | refine T_region ?_ | refine TL_nil ?_ | refine TL_move (hk := ?_) | refine TL_assign (hk := ?_))
 refine TL_call TE (hc := Frames_c Y.1 Y.2.1 Y.2.2 k.b w2 oY.rd (by omega) hYc) (hk := ?_)
 rintro _ w3 ⟨AF, nF, cF, xs, rfl, e3, oF, LF⟩
 obtain ⟨fr, hfr⟩ : ∃ fr, frames k.b = fr := ⟨_, rfl⟩
 have hfl := framesF_loads k.b.length k.b
 have hfr' : framesF k.b.length k.b = fr := hfr
 rw [hfr'] at hfl
 rw [hfr] at LF ⊢
 have D3 := D2.ext e3
 have T03 := T02.trans (Tn.ext (o := gd) e3)
 have z3 := e3.size
 have hxl : xs.length = nF := by have := oF.len; simpa using this
 have hpl : xs.length = fr.1.length := LF.len
 by_cases c1 : fr.2.2 ≠ 0 ∧ fr.2.2 ≠ 3
 ·rw [if_pos c1]
  obtain ⟨c11, c12⟩ := c1
  repeat (first | refine T_seq ?_ | refine T_region ?_ | refine T_cond_true rfl ?_ | refine TL_ne_t (hk := ?_) | refine TL_nil ?_ | refine TL_move (hk := ?_) | refine TL_assign (hk := ?_) | refine TL_yes (hk := ?_) | refine TL_pick_t (hk := ?_) | refine TL_extract (hk := ?_))
  exact T_ret2 rfl rfl rfl ⟨_, rfl, sl, gd, D3, T03, rfl⟩
 rw [if_neg c1]
 repeat (first | refine TL_nil ?_ | refine TL_move (hk := ?_) | refine TL_assign (hk := ?_) | refine TL_extract (hk := ?_))
 refine T_seq ?_
 refine T_join (ι := Unit) (fun _ => [(5, .slice AF nF cF), (4, sL Y), (0, pB d)]) (fun _ w' => w' = w3) (fun kk join => ?_) ?_
 ·by_cases c2 : fr.2.2 = 0
  ·repeat (first | refine T_seq ?_ | refine T_region ?_ | refine T_cond_false rfl ?_ | refine T_skip ?_ | refine TL_ne_f (hk := ?_) | refine TL_nil ?_ | refine TL_move (hk := ?_) | refine TL_no (hk := ?_) | refine TL_pick_f (hk := ?_))
   exact T.sub (join () _ rfl) (.c rfl (.c rfl (.c rfl (.n))))
  ·have c3 : fr.2.2 = 3 := by omega
   repeat (first | refine T_seq ?_ | refine T_region ?_ | refine T_cond_false rfl ?_ | refine T_skip ?_ | refine TL_ne_t (hk := ?_) | refine TL_ne_f (hk := ?_) | refine TL_nil ?_ | refine TL_move (hk := ?_) | refine TL_yes (hk := ?_) | refine TL_pick_t (hk := ?_))
   exact T.sub (join () _ rfl) (.c rfl (.c rfl (.c rfl (.n))))
 rintro _ w4 rfl
 repeat (first | refine T_seq ?_ | refine T_region ?_)
 refine TL_call TE (hc := LNew_c w4) (hk := ?_)
 rintro _ w5 ⟨lg, g0, rfl, e5, L5⟩
 repeat (refine TL_build TE (hk := ?_))
 refine TL_box (hk := ?_); intro sb w6 e6 h6 h6' k6
 have z5 := e5.size
 have z6 := e6.size
 have hg0 : ∀ b, g0 b ≠ 0 → b < w5.heap.size := fun b hb => (L5.old b hb).2
 have gsb : g0 sb = 0 := by
  by_cases q : g0 sb = 0
  ·exact q
  ·have := hg0 sb q; omega
 have S6 : ScM w6 w4.heap.size sb lg (none, 0, 0) [] g0 (none, 0, 0) [] sc0 := ⟨k6, L5.ext e6, ⟨Nat.zero_le _, by decide, trivial⟩, Own.nil _ _ _ _, rfl, fun z hz => (by cases hz), gsb, fun q => (by cases q), fun u hu => (by cases hu), by omega, Nat.zero_le _⟩
 have e46 := e5.ext e6
 repeat (first | refine T_seq ?_ | refine T_region ?_ | refine T_block ?_ | refine TL_nil ?_ | refine TL_move (hk := ?_) | refine TL_assign (hk := ?_) | refine TL_len TE (hk := ?_))
 refine T_loop (ι := (Nat × Nat × Nat) × SC) (fun i => [(40, .int .i64 (i.1.1 : Int)), (39, .int .i64 (nF : Int)), (38, .slice AF nF cF), (10, .int .i64 (i.1.2.2 : Int)), (9, .int .i64 (i.1.2.1 : Int)), (8, pB sb), (4, sL Y), (0, pB d)])
  (fun i w' => i.1.1 ≤ nF ∧ Ext w4 w' ∧ (∃ sl es g y ys, ScM w' w4.heap.size sb lg sl es g y ys i.2) ∧ scanF (fr.1.drop i.1.1) i.2 i.1.2.1 i.1.2.2 = scanF fr.1 sc0 0 0 ∧ i.1.2.1 ≤ 70000 * i.1.1 ∧ i.1.2.2 ≤ i.1.2.1) (fun i => nF - i.1.1) ((0, 0, 0), sc0) (.c rfl (.c rfl (.c rfl (.c rfl (.c rfl (.c rfl (.c rfl (.c rfl (.n)))))))))
  ⟨Nat.zero_le _, e46, ⟨_, _, _, _, _, S6⟩, rfl, Nat.zero_le _, Nat.zero_le _⟩ ?_
 rintro ⟨⟨i, at_, wh⟩, s⟩ w7 ⟨hi, e7, ⟨sl7, es7, g7, y7, ys7, S7⟩, hsc, hat, hwh⟩ ih
 simp only at hi e7 S7 hsc hat hwh ih ⊢
 have z7 := e7.size
 by_cases hlt : i < nF
 ·have hip : i < fr.1.length := by omega
  obtain ⟨A, n, c, hxi, ox⟩ := jloads_get (q := i) LF hip
  have hp0 : fr.1.getD i [] = fr.1[i] := by rw [List.getD_eq_getElem?_getD, List.getElem?_eq_getElem hip]; rfl
  have hp1 := hfl.1 _ (List.getElem_mem hip)
  rw [hp0] at ox
  rw [List.drop_eq_getElem_cons hip] at hsc
  obtain ⟨p, hp⟩ : ∃ p, fr.1[i] = p := ⟨_, rfl⟩
  rw [hp] at ox hp1 hsc
  have hpn := ox.len
  simp only [bv_length, Nat.mul_one] at hpn
  have oc := ox.cap.1
  have ox7 := ox.be e7
  have oF7 := oF.be e7
  have hAF : AF ≠ none := by obtain ⟨_, _, hq, _⟩ := oF.rd.2 (by omega); rw [hq]; simp
  have rF7 := oF7.rd
  repeat (first | refine T_seq ?_ | refine T_region ?_ | refine T_cond_true rfl ?_ | refine T_block ?_ | refine T_skip ?_ | refine TL_lt_t (hk := ?_) | refine TL_nil ?_ | refine TL_move (hk := ?_) | refine TL_assign (hk := ?_) | refine TL_load_rd TE (hk := ?_) | refine TL_indexAddr1n TE (hk := ?_))
  refine TL_call TE (hc := scanR_c A n c p w7 S7 ox7.rd (by omega) oc z7 hfit) (hk := ?_)
  rintro _ w8 ⟨rfl, u8, hs8⟩
  have e8 := u8.to e7 (Nat.le_refl _)
  have hsc2 : (match scR s p with
   |none => none
   |some s' => scanF (fr.1.drop (i + 1)) s' (at_ + (p.length + 8)) (if gb p 0 = 2 then at_ + (p.length + 8) else wh)) = scanF fr.1 sc0 0 0 := hsc
  cases hq : scR s p with
  |none =>
   rw [hq] at hsc2
   rw [← hsc2]
   repeat (first | refine T_seq ?_ | refine T_region ?_ | refine T_cond_true rfl ?_ | refine TL_nil ?_ | refine TL_assign (hk := ?_) | refine TL_not (hk := ?_))
   exact T_ret2 rfl rfl rfl ⟨_, rfl, sl, gd, D3.ext e8, T03.trans (Tn.ext (o := gd) e8), rfl⟩
  |some s' => ?_
  rw [hq] at hsc2 hs8
  simp only at hsc2
  have hs9 := hs8 s' rfl
  have hp0' : 0 < n := by
   cases p with
   |nil => cases hq
   |cons x t => simp at hpn; omega
  have ox8 := ox.be e8
  have rx8 := ox8.rd
  have hA : A ≠ none := by obtain ⟨_, _, hq, _⟩ := ox.rd.2 (by omega); rw [hq]; simp
  rw [hpn] at hsc2
  obtain ⟨kk, hkk⟩ : ∃ x, gb p 0 = x := ⟨_, rfl⟩
  rw [hkk] at hsc2
  have hat2 : at_ ≤ 400000000000 := by omega
  obtain ⟨at2, hat3⟩ : ∃ x, at_ + (n + 8) = x := ⟨_, rfl⟩
  have hai : (at_ : Int) + ((n : Int) + 8) = (at2 : Int) := by omega
  rw [hat3] at hsc2
  repeat (first | refine T_seq ?_ | refine T_region ?_ | refine T_cond_false rfl ?_ | refine T_skip ?_ | refine TL_add (hk := ?_) | refine TL_nil ?_ | refine TL_move (hk := ?_) | refine TL_assign (hk := ?_) | (refine TL_load_b TE (hk := ?_); intro _) | refine TL_indexAddr1n TE (hk := ?_) | refine TL_len TE (hk := ?_) | refine TL_not (hk := ?_))
  rw [hkk, hai]
  by_cases d2 : kk = 2
  ·rw [if_pos d2] at hsc2
   repeat (first | refine T_region ?_ | refine T_cond_true rfl ?_ | refine T_inBlock ?_ | refine TL_add (hk := ?_) | refine TL_eq_t (hk := ?_) | refine TL_nil ?_ | refine TL_move (hk := ?_) | refine TL_assign (hk := ?_))
   exact ih ((i + 1, at2, at2), s') _ _ (by simp only; omega) ⟨by show i + 1 ≤ nF; omega, e8, hs9, hsc2, by show at2 ≤ 70000 * (i + 1); omega, Nat.le_refl _⟩ (.c rfl (.c rfl (.c rfl (.c rfl (.c rfl (.c rfl (.c rfl (.c rfl (.n)))))))))
  ·rw [if_neg d2] at hsc2
   repeat (first | refine T_region ?_ | refine T_cond_false rfl ?_ | refine T_inBlock ?_ | refine T_skip ?_ | refine TL_add (hk := ?_) | refine TL_eq_f (hk := ?_) | refine TL_nil ?_ | refine TL_move (hk := ?_))
   exact ih ((i + 1, at2, wh), s') _ _ (by simp only; omega) ⟨by show i + 1 ≤ nF; omega, e8, hs9, hsc2, by show at2 ≤ 70000 * (i + 1); omega, by show wh ≤ at2; omega⟩ (.c rfl (.c rfl (.c rfl (.c rfl (.c rfl (.c rfl (.c rfl (.c rfl (.n)))))))))
 ·clear ih
  obtain rfl : i = nF := by omega
  rw [List.drop_of_length_le (by omega)] at hsc
  have hsc2 : scanF fr.1 sc0 0 0 = some (s, wh) := hsc.symm
  rw [hsc2]
  unfold open2
  have D7 := D3.ext e7
  have T07 := T03.trans (Tn.ext (o := gd) e7)
  have hY : (k.b.length : Int) = (Y.2.1 : Int) := by omega
  obtain ⟨r1, hr1⟩ : ∃ r, (if wh < k.b.length then opD k (cutD (wh : Int)) else (k, 0)) = r := ⟨_, rfl⟩
  simp only
  rw [hr1]
  refine T_seq ?_
  refine T_region ?_
  repeat (first | refine TL_lt_f (hk := ?_) | refine TL_nil ?_)
  refine T_seq ?_
  repeat (first | refine T_cond_false rfl ?_ | refine T_exit rfl ?_)
  have hdis : ∀ b, gd b = 0 ∨ g7 b = 0 := fun b => by
   by_cases q : gd b = 0
   ·exact .inl q
   ·right
    have h1 := (D3.old b q).2
    by_cases q2 : g7 b = 0
    ·exact q2
    ·have h2 := (S7.log.old b q2).1; omega
  have gdsb : gd sb = 0 := by
   by_cases q : gd sb = 0
   ·exact q
   ·have h1 := (D3.old sb q).2; have h2 := S7.hs; omega
  have hbs7 := S7.blk
  refine T_seq ?_
  refine T_join (ι := SL × (Nat → Nat)) (fun _ => [(10, .int .i64 (wh : Int)), (8, pB sb), (0, pB d)]) (fun i w' => r1.2 = 0 ∧ DiskM w' base d 0 i.1 i.2 r1.1 ∧ Tn gd i.2 w w' ∧ LogM w' w4.heap.size lg sl7 es7 g7 s.log ∧ Blk w' sb 109 [pB lg, sL y7, .int .i64 s.ep, .int .i64 s.last] ∧ (∀ b, i.2 b = 0 ∨ g7 b = 0) ∧ i.2 sb = 0) (fun kk join => ?_) ?_
  ·by_cases c3 : wh < k.b.length
   ·rw [if_pos c3] at hr1
    have c3' : (wh : Int) < (Y.2.1 : Int) := by omega
    repeat (first | refine T_seq ?_ | refine T_region ?_ | refine T_cond_true rfl ?_ | refine TL_lt_t (hk := ?_) | refine TL_nil ?_ | refine TL_move (hk := ?_) | refine TL_len TE (hk := ?_))
    refine TL_call TE (hc := Cut_c (wh : Int) w7 D7) (hk := ?_)
    rintro _ w8 ⟨rfl, sl8, gd8, D8, T8⟩
    rw [hr1] at D8 ⊢
    have T08 := T07.trans T8
    obtain ⟨L8, hd8⟩ := S7.log.tn T8 hdis
    have k8 : Blk w8 sb 109 [pB lg, sL y7, .int .i64 s.ep, .int .i64 s.last] := by
     obtain ⟨⟨Z, m8, s8⟩, -, -⟩ := T8
     exact hbs7.mod m8 (fun q => s8 sb q gdsb)
    have gd8sb : gd8 sb = 0 := T8.old gdsb hbs7.lt
    by_cases c4 : r1.2 = 0
    ·have c4' : ((r1.2 : Nat) : Int) = 0 := by omega
     repeat (first | refine T_seq ?_ | refine T_region ?_ | refine T_cond_false rfl ?_ | refine T_skip ?_ | refine TL_ne_f (hk := ?_) | refine TL_nil ?_ | refine TL_move (hk := ?_) | refine TL_assign (hk := ?_))
     exact T.sub (join (sl8, gd8) _ ⟨c4, D8, T08, L8, k8, hd8, gd8sb⟩) (.c rfl (.c rfl (.c rfl (.n))))
    ·have c4' : ¬ ((r1.2 : Nat) : Int) = 0 := by omega
     rw [if_pos c4]
     repeat (first | refine T_seq ?_ | refine T_region ?_ | refine T_cond_true rfl ?_ | refine TL_ne_t (hk := ?_) | refine TL_nil ?_ | refine TL_move (hk := ?_) | refine TL_assign (hk := ?_))
     exact T_ret2 rfl rfl rfl ⟨_, rfl, sl8, gd8, D8, T08, rfl⟩
   ·rw [if_neg c3] at hr1
    have c3' : ¬ (wh : Int) < (Y.2.1 : Int) := by omega
    repeat (first | refine T_seq ?_ | refine T_region ?_ | refine T_cond_false rfl ?_ | refine T_skip ?_ | refine TL_lt_f (hk := ?_) | refine TL_nil ?_ | refine TL_move (hk := ?_) | refine TL_len TE (hk := ?_))
    exact T.sub (join (sl, gd) _ ⟨by rw [← hr1], by rw [← hr1]; exact D7, T07, S7.log, hbs7, hdis, gdsb⟩) (.c rfl (.c rfl (.c rfl (.n))))
  rintro ⟨sl8, gd8⟩ w8 ⟨hr0, D8, T08, L8, k8, hd8, gs8⟩
  simp only at D8 T08 hd8 gs8
  rw [if_neg (by omega)]
  have hLok := S7.ok
  clear D7 T07 S7 hbs7 hdis gdsb
  obtain ⟨k1, hk1⟩ : ∃ x, r1.1 = x := ⟨_, rfl⟩
  rw [hk1] at D8 ⊢
  unfold open3
  obtain ⟨r2, hr2⟩ : ∃ r, (if safeD k1 < wh then opD k1 synD else (k1, 0)) = r := ⟨_, rfl⟩
  rw [hr2]
  refine T_seq ?_
  refine T_join (ι := SL × (Nat → Nat)) (fun _ => [(8, pB sb), (0, pB d)]) (fun i w' => r2.2 = 0 ∧ DiskM w' base d 0 i.1 i.2 r2.1 ∧ Tn gd i.2 w w' ∧ LogM w' w4.heap.size lg sl7 es7 g7 s.log ∧ Blk w' sb 109 [pB lg, sL y7, .int .i64 s.ep, .int .i64 s.last] ∧ (∀ b, i.2 b = 0 ∨ g7 b = 0) ∧ i.2 sb = 0) (fun kk join => ?_) ?_
  ·repeat (first | refine T_seq ?_ | refine T_region ?_ | refine TL_move (hk := ?_))
   refine TL_call TE (hc := Safe_c w8 D8) (hk := ?_)
   rintro _ w9 ⟨rfl, D9, T9⟩
   have T09 := T08.trans T9
   obtain ⟨L9, hd9⟩ := L8.tn T9 hd8
   have k9 : Blk w9 sb 109 [pB lg, sL y7, .int .i64 s.ep, .int .i64 s.last] := by
    obtain ⟨⟨Z, m8, s8⟩, -, -⟩ := T9
    exact k8.mod m8 (fun q => s8 sb q gs8)
   by_cases c3 : safeD k1 < wh
   ·rw [if_pos c3] at hr2
    have c3' : ((safeD k1 : Nat) : Int) < (wh : Int) := by omega
    repeat (first | refine T_seq ?_ | refine T_region ?_ | refine T_cond_true rfl ?_ | refine TL_lt_t (hk := ?_) | refine TL_nil ?_ | refine TL_move (hk := ?_))
    refine TL_call TE (hc := Sync_c w9 D9) (hk := ?_)
    rintro _ w10 ⟨rfl, sl10, gd10, D10, T10⟩
    rw [hr2] at D10 ⊢
    have T010 := T09.trans T10
    obtain ⟨L10, hd10⟩ := L9.tn T10 hd9
    have k10 : Blk w10 sb 109 [pB lg, sL y7, .int .i64 s.ep, .int .i64 s.last] := by
     obtain ⟨⟨Z, m8, s8⟩, -, -⟩ := T10
     exact k9.mod m8 (fun q => s8 sb q gs8)
    have gd10sb : gd10 sb = 0 := T10.old gs8 k9.lt
    by_cases c4 : r2.2 = 0
    ·have c4' : ((r2.2 : Nat) : Int) = 0 := by omega
     repeat (first | refine T_seq ?_ | refine T_region ?_ | refine T_cond_false rfl ?_ | refine T_skip ?_ | refine TL_ne_f (hk := ?_) | refine TL_nil ?_ | refine TL_move (hk := ?_) | refine TL_assign (hk := ?_))
     exact T.sub (join (sl10, gd10) _ ⟨c4, D10, T010, L10, k10, hd10, gd10sb⟩) (.c rfl (.c rfl (.n)))
    ·have c4' : ¬ ((r2.2 : Nat) : Int) = 0 := by omega
     rw [if_pos c4]
     repeat (first | refine T_seq ?_ | refine T_region ?_ | refine T_cond_true rfl ?_ | refine TL_ne_t (hk := ?_) | refine TL_nil ?_ | refine TL_move (hk := ?_) | refine TL_assign (hk := ?_))
     exact T_ret2 rfl rfl rfl ⟨_, rfl, sl10, gd10, D10, T010, rfl⟩
   ·rw [if_neg c3] at hr2
    have c3' : ¬ ((safeD k1 : Nat) : Int) < (wh : Int) := by omega
    repeat (first | refine T_cond_false rfl ?_ | refine T_skip ?_ | refine TL_lt_f (hk := ?_) | refine TL_nil ?_ | refine TL_move (hk := ?_))
    exact T.sub (join (sl8, gd8) _ ⟨by rw [← hr2], by rw [← hr2]; exact D9, T09, L9, k9, hd9, gs8⟩) (.c rfl (.c rfl (.n)))
  rintro ⟨sl9, gd9⟩ w9 ⟨hr0', D9, T09, L9, k9, hd9, gs9⟩
  simp only at D9 T09 hd9 gs9
  rw [if_neg (by omega)]
  repeat (refine T_seq ?_)
  refine T_region_any TE.mixed ([] : List Nat) ?_; intro w10 e10 z10
  have k10 := k9.be e10
  have hsD : sb ∉ ([] : List Nat) := by simp
  (refine TA_take 0 rfl (by kernel_rfl) (by kernel_rfl) (by kernel_rfl) ?_; (repeat (first | refine TL_move (hk := ?_) | refine TLP_load TE (hk := ?_) | refine TL_fieldAddr TE (hk := ?_) | refine TL_nilCheck (hk := ?_))); refine TL_nil_p ?_); (refine TA_take 1 rfl (by kernel_rfl) (by kernel_rfl) (by kernel_rfl) ?_; (repeat (first | refine TL_move (hk := ?_) | refine TLP_load TE (hk := ?_) | refine TL_fieldAddr TE (hk := ?_) | refine TL_nilCheck (hk := ?_))); refine TL_nil_p ?_); (refine TA_take 2 rfl (by kernel_rfl) (by kernel_rfl) (by kernel_rfl) ?_; (repeat (first | refine TL_move (hk := ?_) | refine TLP_load TE (hk := ?_) | refine TL_fieldAddr TE (hk := ?_) | refine TL_nilCheck (hk := ?_))); refine TL_nil_p ?_); (refine TA_take 3 rfl (by kernel_rfl) (by kernel_rfl) (by kernel_rfl) ?_; (repeat (first | refine TL_move (hk := ?_) | refine TLP_load TE (hk := ?_) | refine TL_fieldAddr TE (hk := ?_) | refine TL_nilCheck (hk := ?_))); refine TL_nil_p ?_); (refine TA_take 4 rfl (by kernel_rfl) (by kernel_rfl) (by kernel_rfl) ?_; (repeat (first | refine TL_move (hk := ?_) | refine TLP_load TE (hk := ?_) | refine TL_fieldAddr TE (hk := ?_) | refine TL_nilCheck (hk := ?_))); refine TL_nil_p ?_); (refine TA_take 5 rfl (by kernel_rfl) (by kernel_rfl) (by kernel_rfl) ?_; (repeat (first | refine TL_move (hk := ?_) | refine TLP_load TE (hk := ?_) | refine TL_fieldAddr TE (hk := ?_) | refine TL_nilCheck (hk := ?_))); refine TL_nil_p ?_); (refine TA_take 6 rfl (by kernel_rfl) (by kernel_rfl) (by kernel_rfl) ?_; (repeat (first | refine TL_move (hk := ?_) | refine TLP_load TE (hk := ?_) | refine TL_fieldAddr TE (hk := ?_) | refine TL_nilCheck (hk := ?_))); refine TL_nil_p ?_); (refine TA_take 7 rfl (by kernel_rfl) (by kernel_rfl) (by kernel_rfl) ?_; (repeat (first | refine TL_move (hk := ?_) | refine TLP_load TE (hk := ?_) | refine TL_fieldAddr TE (hk := ?_) | refine TL_nilCheck (hk := ?_))); refine TL_nil_p ?_); (refine TA_take 8 rfl (by kernel_rfl) (by kernel_rfl) (by kernel_rfl) ?_; (repeat (first | refine TL_move (hk := ?_) | refine TLP_load TE (hk := ?_) | refine TL_fieldAddr TE (hk := ?_) | refine TL_nilCheck (hk := ?_))); refine TL_nil_p ?_)
  refine TA_one 9 rfl (by kernel_rfl) (by kernel_rfl) ?_; (try refine TL_yes (hk := ?_)); refine TL_call TE (hc := (LLen_c w10 (L9.ext e10))) (hq := (by rintro _ _ ⟨_, h⟩; rw [h]; exact Mod.refl _ _)) (hk := ?_)
  rintro _ w11 ⟨rfl, hw11⟩
  rw [hw11]
  clear hw11 w11
  refine TL_nil_p ?_
  (refine TA_take 10 rfl (by kernel_rfl) (by kernel_rfl) (by kernel_rfl) ?_; (repeat (refine TL_build TE (hk := ?_))); refine TL_nil_p ?_)
  refine TA_one 11 rfl (by kernel_rfl) (by kernel_rfl) ?_
  refine TL_box (hf := rfl) (hq := fun _ e => e) (hk := ?_); intro jb w12 e12 h12 h12' k12
  refine TL_nil_p ?_
  (refine TA_take 12 rfl (by kernel_rfl) (by kernel_rfl) (by kernel_rfl) ?_; (repeat (refine TL_assign (hk := ?_))); refine TL_nil_p ?_); (refine TA_take 13 rfl (by kernel_rfl) (by kernel_rfl) (by kernel_rfl) ?_; (repeat (refine TL_assign (hk := ?_))); refine TL_nil_p ?_)
  refine TA_done (by kernel_rfl) ?_
  --
  have ee := e10.ext e12
  have z10 := e10.size
  have hw4 : w.heap.size ≤ w4.heap.size := T03.size
  have D12 := D9.ext ee
  have L12 := L9.ext ee
  have gj : g7 jb = 0 := by
   by_cases q : g7 jb = 0
   ·exact q
   ·have := (L9.old jb q).2; omega
  have gdj : gd9 jb = 0 := by
   by_cases q : gd9 jb = 0
   ·exact q
   ·have := (D9.old jb q).2; omega
  exact T_ret2 rfl rfl rfl ⟨_, rfl, sl9, gd9, D12, T09.trans (Tn.ext (o := gd9) ee), jb, lg, sl7, es7, g7, rfl, k12, { L12 with ow := Own.weaken L12.ow hw4, old := fun b hb => by have := L12.old b hb; omega }, hLok, gj, by have := T09.size; omega, hd9, gdj⟩
set_option maxHeartbeats 1600000
structure JrM (w : World) (base jb d lg : Nat) (sd : SL) (gd : Nat → Nat) (k : DK) (sl : SL) (es : List EM) (g : Nat → Nat) (L : LE) (fl : Int) : Prop where
 blk : Blk w jb 111 [pB d, pB lg, .int .i64 fl]
 dk : DiskM w base d 0 sd gd k
 log : LogM w base lg sl es g L
 ok : LOk L
 ap : ∀ b, gd b = 0 ∨ g b = 0
 gj : g jb = 0
 dj : gd jb = 0
 hj : base ≤ jb
def oJ (jb : Nat) (gd : Nat → Nat) (b : Nat) : Nat := if b = jb then 1 else gd b
theorem oJ_ne {jb b : Nat} {gd : Nat → Nat} (h : b ≠ jb) : oJ jb gd b = gd b := if_neg h
theorem oJ_at {jb : Nat} {gd : Nat → Nat} : oJ jb gd jb = 1 := if_pos rfl
section
variable {w w' : World} {base jb d lg : Nat} {sd : SL} {gd gd' : Nat → Nat} {k : DK} {sl : SL} {es : List EM} {g : Nat → Nat} {L : LE} {fl : Int}
theorem JrM.ext (J : JrM w base jb d lg sd gd k sl es g L fl) (e : Ext w w') : JrM w' base jb d lg sd gd k sl es g L fl := { J with blk := J.blk.be e, dk := J.dk.ext e, log := J.log.ext e }
theorem JrM.old (J : JrM w base jb d lg sd gd k sl es g L fl) : ∀ b, oJ jb gd b ≠ 0 → base ≤ b ∧ b < w.heap.size := fun b hb => by
 by_cases q : b = jb
 ·rw [q]; exact ⟨J.hj, J.blk.lt⟩
 ·rw [oJ_ne q] at hb; exact J.dk.old b hb
theorem oJ_tn (t : Tn gd gd' w w') : Tn (oJ jb gd) (oJ jb gd') w w' := by
 obtain ⟨⟨S, m, s⟩, n, z⟩ := t
 refine ⟨⟨S, m, fun b hb => ?_⟩, fun b hb => ?_, z⟩
 ·unfold oJ; split
  ·decide
  ·exact s b hb
 ·unfold oJ at hb ⊢
  split at hb
  ·rename_i q; left; rw [if_pos q]; decide
  ·rename_i q; rw [if_neg q]; exact n b hb
theorem oJ_one (m : Eng.Mod [jb] w w') : Tn (oJ jb gd) (oJ jb gd) w w' := ⟨⟨_, m, fun b hb => by rw [List.mem_singleton.1 hb, oJ_at]; decide⟩, fun b hb => .inl hb, m.size⟩
theorem JrM.disk (J : JrM w base jb d lg sd gd k sl es g L fl) {sd' : SL} {k' : DK} (D : DiskM w' base d 0 sd' gd' k') (t : Tn gd gd' w w') : JrM w' base jb d lg sd' gd' k' sl es g L fl := by
 obtain ⟨L', h'⟩ := J.log.tn t J.ap
 refine ⟨?_, D, L', J.ok, h', J.gj, t.old J.dj J.blk.lt, J.hj⟩
 obtain ⟨⟨S, m, s⟩, -, -⟩ := t
 exact J.blk.mod m (fun q => s jb q J.dj)
end
def frB (l : List EE) (i : Nat) : List UInt8 := ((l.take i).map fun e => kindF 1 (putEn [] e).1).flatten
theorem frB_succ (l : List EE) (i : Nat) (h : i < l.length) (d : EE) : frB l (i + 1) = frB l i ++ kindF 1 (putEn [] (l.getD i d)).1 := by
 unfold frB
 rw [List.take_succ_eq_append_getElem h, List.map_append, List.flatten_append, List.getD_eq_getElem?_getD, List.getElem?_eq_getElem h]
 simp
theorem frB_all (l : List EE) (ep : Int) : frB l l.length ++ kindF 2 (encU ep.toNat) = epF ep l := by unfold frB epF; rw [List.take_length]
theorem jframe_len (b : List UInt8) : (frame b).length = b.length + 8 := by
 unfold frame four
 simp only [List.length_append, List.length_cons, List.length_nil]
 omega
theorem kindF_len (c : Nat) (b : List UInt8) : (kindF c b).length = b.length + 9 := by unfold kindF; rw [jframe_len, List.length_cons]
theorem frB_len {l : List EE} (h : ∀ e ∈ l, EOk e) : ∀ i, i ≤ l.length → (frB l i).length ≤ 6000 * i
 | 0, _ => by simp [frB]
 |i + 1, hi => by
  have h1 := frB_len h i (by omega)
  have hm : l.getD i (emE em0) ∈ l := by rw [List.getD_eq_getElem?_getD, List.getElem?_eq_getElem (by omega)]; exact List.getElem_mem _
  have h2 := entB_len (h _ hm)
  rw [frB_succ l i (by omega) (emE em0), List.length_append, kindF_len, putEn_ok (h _ hm)]
  simp only
  omega
theorem fromL_mem {L : LE} {s m : Nat} : ∀ e ∈ fromL L s m, e ∈ L.l := fun e he => List.mem_of_mem_drop (List.mem_of_mem_take he)
theorem Write_c {base jb d lg : Nat} {sd : SL} {gd : Nat → Nat} {k : DK} {sl : SL} {es : List EM} {g : Nat → Nat} {L : LE} {fl : Int} (ep : Int) (A : Option Addr) (n c : Nat) (xs : List PM) (w : World) (J : JrM w base jb d lg sd gd k sl es g L fl)
  (hp : Rd w A n 7 (rowV pmV xs)) (hx : ∀ x ∈ xs, PLies w x ∧ PFit x.p) (hA : ∀ b ∈ blkL A, b < w.heap.size) (hB : ∀ x ∈ xs, ∀ b ∈ pmB x, b < w.heap.size) (hn : n ≤ 1000000) (hep : -9223372036854775808 ≤ ep ∧ ep ≤ 9223372036854775807) :
  Ret Tryz.prog 18 [pB jb, .int .i64 ep, .slice A n c] w (fun v w' => v = .tuple #[.int .i64 (writeJ L k ep (xs.map (·.p))).1.2.1, .int .i64 ((writeJ L k ep (xs.map (·.p))).1.2.2 : Int)] ∧
   ∃ lg' sd' gd' sl' es' g', JrM w' base jb d lg' sd' gd' (writeJ L k ep (xs.map (·.p))).2 sl' es' g' (writeJ L k ep (xs.map (·.p))).1.1 fl ∧ Tn (oJ jb gd) (oJ jb gd') w w' ∧ ∀ b, g' b ≠ 0 → g b ≠ 0 ∨ w.heap.size ≤ b) := by
 have hbk := J.blk
 have hL := J.ok
 have hLn := hL.n
 have hxl : xs.length = n := by have := hp.1; rw [rowV_len pmV_len] at this; omega
 obtain ⟨ps, hps⟩ : ∃ ps, xs.map (·.p) = ps := ⟨_, rfl⟩
 have hpsl : ps.length = n := by rw [← hps, List.length_map]; exact hxl
 obtain ⟨ap, hap⟩ : ∃ ap, appL L ep ps = ap := ⟨_, rfl⟩
 rw [hps]
 unfold writeJ
 rw [hap]
 refine ret_T (n := 76) Tryz.func18 rfl rfl ?_
 repeat (first | refine T_seq ?_ | refine T_region ?_ | refine T_cond_false rfl ?_ | refine T_skip ?_ | refine TL_pnil_f TE (hk := ?_) | refine TL_nil ?_ | refine TL_move (hk := ?_) | refine TL_assign (hk := ?_) | refine TL_load TE (hk := ?_) | refine TL_fieldAddr TE (hk := ?_) | refine TL_nilCheck (hk := ?_))
 refine TL_call TE (hc := copied_c w J.log hL) (hk := ?_)
 rintro _ w1 ⟨lg2, sl2, es2, g2, rfl, e1, L1⟩
 have J1 := J.ext e1
 have z1 := e1.size
 have hg2 : ∀ b, b < w.heap.size → g2 b = 0 := fun b hb => by
  by_cases q : g2 b = 0
  ·exact q
  ·have := (L1.old b q).1; omega
 repeat (first | refine T_seq ?_ | refine T_region ?_ | refine TL_nil ?_ | refine TL_move (hk := ?_) | refine TL_assign (hk := ?_))
 refine TL_call TE (hc := LAppend_c ep A n c xs w1 L1 (hp.be e1) (fun x hm => ⟨(hx x hm).1.be e1, (hx x hm).2⟩) (fun b hb => hg2 b (hA b hb)) (fun x hm b hb => hg2 b (hB x hm b hb)) hn hLn) (hk := ?_)
 rintro _ w2 ⟨rfl, sl3, es3, g3, L2, T2⟩
 rw [hps, hap] at L2 ⊢
 have e02 : Ext w w2 := T2.ext0 e1 (fun b hb => (L1.old b hb).1)
 have J2 := J.ext e02
 have z2 := e02.size
 have hLk2 : LOk ap.1 := by
  rw [← hap]
  exact appL_ok hL hep.2 (fun p hp' => by rw [← hps] at hp'; obtain ⟨x, hm, rfl⟩ := List.mem_map.1 hp'; exact (hx x hm).2)
 by_cases c1 : ap.2.2.1 = 0
 ·rw [if_neg (fun q => q c1), c1]
  obtain ⟨b1, b2, b3, b4, b5⟩ := app_ok (L := L) (ep := ep) (ps := ps) (by rw [hap]; exact c1)
  rw [hap] at b5
  have hfi : ap.2.1 = (L.l.length : Int) := by rw [b5]
  rw [hfi]
  repeat (first | refine T_seq ?_ | refine T_region ?_ | refine T_cond_false rfl ?_ | refine T_skip ?_ | refine TL_ne_f (hk := ?_) | refine TL_nil ?_ | refine TL_move (hk := ?_) | refine TL_assign (hk := ?_) | refine TL_len TE (hk := ?_) | refine TL_extract (hk := ?_))
  refine TL_call TE (hc := LFrom_c (L.l.length : Int) (n : Int) w2 L2 hLk2.n (by omega)) (hk := ?_)
  rintro _ w3 ⟨y, ys, rfl, e3, O3⟩
  rw [Int.toNat_natCast, Int.toNat_natCast] at O3
  rw [hpsl]
  obtain ⟨l, hl⟩ : ∃ l, fromL ap.1 L.l.length n = l := ⟨_, rfl⟩
  rw [hl] at O3 ⊢
  have hlok : ∀ e ∈ l, EOk e := fun e he => (hLk2.run.le e (fromL_mem e (by rw [hl]; exact he))).2
  have hyl := O3.len
  have hll : l.length ≤ 65536 := by
   rw [← hl]
   unfold fromL
   rw [List.length_take, List.length_drop]
   have := hLk2.n
   omega
  have hysl : ys.length = l.length := by have := congrArg List.length O3.ee; rwa [List.length_map] at this
  have J3 := J2.ext e3
  have z3 := e3.size
  clear J1
  repeat (first | refine T_block ?_ | refine TL_nil ?_ | refine TL_move (hk := ?_) | refine TL_len TE (hk := ?_))
  refine T_loop (ι := Nat × SL) (fun i => [(42, .int .i64 (i.1 : Int)), (41, .int .i64 (y.2.1 : Int)), (40, sL y), (12, sL i.2), (9, .int .i64 (L.l.length : Int)), (8, pB lg2), (1, .int .i64 ep), (0, pB jb)])
   (fun i w' => i.1 ≤ l.length ∧ Ext w3 w' ∧ Own w' w3.heap.size 5 1 i.2.1 i.2.2.1 i.2.2.2 (bv (frB l i.1))) (fun i => l.length - i.1) (0, (none, 0, 0)) (.c rfl (.c rfl (.c rfl (.c rfl (.c rfl (.c rfl (.c rfl (.c rfl (.n))))))))) ⟨Nat.zero_le _, Mod.refl _ _, by unfold frB; exact Own.nil _ _ _ _⟩ ?_
  rintro ⟨i, Z⟩ w4 ⟨hi, e4, oZ⟩ ih
  simp only at hi oZ ih ⊢
  have z4 := e4.size
  have lZ := oZ.len
  have lF := frB_len hlok i hi
  simp only [bv_length, Nat.mul_one] at lZ
  by_cases hlt : i < l.length
  ·have hr := O3.ow.rd.be e4
   have hA' : y.1 ≠ none := by obtain ⟨_, _, hq, _⟩ := hr.2 (by omega); rw [hq]; simp
   have t1 := rowV_elem emV_len ys i em0 (by omega)
   have hmem : ys.getD i em0 ∈ ys := by rw [List.getD_eq_getElem?_getD, List.getElem?_eq_getElem (by omega)]; exact List.getElem_mem _
   obtain ⟨hX, hF, -⟩ := O3.ek _ hmem
   have hat : emE (ys.getD i em0) = l.getD i (emE em0) := by
    rw [← O3.ee, List.getD_eq_getElem?_getD, List.getD_eq_getElem?_getD, List.getElem?_map, List.getElem?_eq_getElem (by omega)]
    rfl
   have hie : l.getD i (emE em0) ∈ l := by rw [List.getD_eq_getElem?_getD, List.getElem?_eq_getElem hlt]; exact List.getElem_mem _
   have hE := hlok _ hie
   have hfs := frB_succ l i hlt (emE em0)
   rw [← hat] at hE hfs
   generalize ys.getD i em0 = x at t1 hX hF hE hfs
   have hEl := entB_len hE
   rw [putEn_ok hE] at hfs
   have hX4 := hX.be e4
   have hyi : (i : Int) < (y.2.1 : Int) := by omega
   repeat (first | refine T_seq ?_ | refine T_region ?_ | refine T_cond_true rfl ?_ | refine T_block ?_ | refine T_skip ?_ | refine TL_lt_t (hk := ?_) | refine TL_nil ?_ | refine TL_indexAddrn TE (hk := ?_))
   refine TL_loada TE (cs := emV x) (hx := rfl) (ht := rfl) (hi := rfl) (hr := hr) (hc := t1) (h0 := Nat.succ_pos _) (hk := ?_)
   --
   refine TL_alloc TE (hk := ?_); intro b5 w5 e5 h5 h5' k5
   --
   refine TL_storea TE (hk := ?_); intro w6 m6 z6 k6
   have z5 := e5.size
   have e46 : Ext w4 w6 := e5.step m6 (fun u hu => .inr (by rw [List.mem_singleton.1 hu]; omega))
   replace k6 : Blk w6 b5 47 (emV x) := k6
   unfold emV pmV at k6
   have hX6 := hX4.be e46
   have oZ6 := oZ.be e46
   repeat (first | refine T_seq ?_ | refine T_region ?_ | refine TL_nil ?_)
   refine TL_loadb TE (cs := emV x) (o := 0) rfl rfl k6 rfl rfl (Nat.succ_pos _) (hk := ?_)
   --
   refine TL_call TE (hc := EPut_c x none 0 0 [] w6 hX6.lies hF hE.sq.2 hE.ep.2 (Own.nil w6 w6.heap.size 5 1).rd (by omega)) (hk := ?_)
   rintro _ w7 ⟨A7, n7, c7, rfl, e7, o7⟩
   rw [putEn_ok hE] at o7 ⊢
   simp only at o7
   have l7 := o7.len
   simp only [bv_length, Nat.mul_one] at l7
   repeat (first | refine T_region ?_ | refine TL_nil ?_ | refine TL_move (hk := ?_) | refine TL_assign (hk := ?_) | refine TL_extract (hk := ?_))
   refine TL_call TE (hc := jframe_c 1 A7 n7 c7 _ w7 o7.rd (by decide) (by omega)) (hk := ?_)
   rintro _ w8 ⟨A8, n8, c8, rfl, e8, o8⟩
   have l8 := o8.len
   rw [bv_length, kindF_len] at l8
   have oZ8 := (oZ6.be e7).be e8
   have z7 := e7.size
   have z8 := e8.size
   have r8 := o8.rd
   --
   refine TL_append TE (ho := oZ8) (hr := r8) (h1 := bv_one _) (hk := ?_); intro A9 c9 w9 o9 m9 n9
   rw [← bv_append, ← hfs] at o9
   repeat (first | refine T_region ?_ | refine T_inBlock ?_ | refine TL_add (hk := ?_) | refine TL_nil ?_ | refine TL_move (hk := ?_) | refine TL_assign (hk := ?_))
   exact ih (i + 1, (A9, Z.2.1 + n8, c9)) w9 _ (by simp only; omega) ⟨by show i + 1 ≤ l.length; omega, (((e4.ext e46).ext e7).ext e8).step m9 (fun u hu => .inr (oZ8.bl u hu).1), o9⟩ (.c rfl (.c rfl (.c rfl (.c rfl (.c rfl (.c rfl (.c rfl (.c rfl (.n)))))))))
  ·clear ih
   obtain rfl : i = l.length := by omega
   have hepi : ep = ((ep.toNat : Nat) : Int) := by omega
   have u1 := encU_len64 (show ep.toNat < 2 ^ 64 by omega)
   have hyi : ¬ ((l.length : Nat) : Int) < (y.2.1 : Int) := by omega
   repeat (first | refine T_seq ?_ | refine T_region ?_ | refine T_cond_false rfl ?_ | refine T_exit rfl ?_ | refine TL_lt_f (hk := ?_) | refine TL_nil ?_ | refine TL_move (hk := ?_) | refine TL_conv TE (hk := ?_))
   refine TL_call TE (hc := PutUint_c none 0 0 [] ep.toNat w4 hepi (Own.nil w4 w4.heap.size 5 1).rd (by omega) (by omega)) (hk := ?_)
   rintro _ w5 ⟨A5, n5, c5, rfl, e5, o5⟩
   have l5 := o5.len
   simp only [bv_length, List.length_append, List.length_nil, Nat.mul_one] at l5
   --
   refine TL_call TE (hc := jframe_c 2 A5 n5 c5 _ w5 o5.rd (by decide) (by omega)) (hk := ?_)
   rintro _ w6 ⟨A6, n6, c6, rfl, e6, o6⟩
   have l6 := o6.len
   rw [bv_length, kindF_len] at l6
   simp only [List.length_append, List.length_nil] at l6
   have oZ6 := (oZ.be e5).be e6
   have z5 := e5.size
   have z6 := e6.size
   have r6 := o6.rd
   --
   refine TL_append TE (ho := oZ6) (hr := r6) (h1 := bv_one _) (hk := ?_); intro A7 c7 w7 o7 m7 n7
   rw [← bv_append, List.nil_append, frB_all] at o7
   have e37 : Ext w3 w7 := ((e4.ext e5).ext e6).step m7 (fun u hu => .inr (oZ6.bl u hu).1)
   have J7 := J3.ext e37
   have hbk7 := J7.blk
   have z7 := m7.size
   have e07 : Ext w w7 := (e02.ext e3).ext e37
   repeat (first | refine T_seq ?_ | refine T_region ?_ | refine TL_nil ?_ | refine TL_move (hk := ?_) | refine TL_assign (hk := ?_) | refine TL_load TE (hk := ?_) | refine TL_fieldAddr TE (hk := ?_) | refine TL_nilCheck (hk := ?_))
   refine TL_call TE (hc := Append_c A7 (Z.2.1 + n6) c7 (epF ep l) w7 J7.dk o7.rd (fun q => by have h1 := (o7.bl d q).1; have h2 := J.dk.blk.lt; omega) (by omega)) (hk := ?_)
   rintro _ w8 ⟨rfl, sd8, gd8, D8, T8⟩
   have J8 := J7.disk D8 T8
   have hbk8 := J8.blk
   obtain ⟨r, hr⟩ : ∃ r, opD k (appD (epF ep l)) = r := ⟨_, rfl⟩
   rw [hr] at J8 ⊢
   by_cases c2 : r.2 = 0
   ·have c2' : ((r.2 : Nat) : Int) = 0 := by omega
    rw [if_neg (fun q => q c2)]
    have hdis : ∀ b, gd b = 0 ∨ g3 b = 0 := fun b => by
     by_cases q : gd b = 0
     ·exact .inl q
     ·right
      have h1 := (J.dk.old b q).2
      by_cases q2 : g3 b = 0
      ·exact q2
      ·have h2 := (L2.old b q2).1; omega
    have hgj : g3 jb = 0 := by
     by_cases q2 : g3 jb = 0
     ·exact q2
     ·have h2 := (L2.old jb q2).1; have h1 := J.blk.lt; omega
    obtain ⟨L8, hd8⟩ := ((L2.ext e3).ext e37).tn T8 hdis
    repeat (first | refine T_seq ?_ | refine T_region ?_ | refine T_cond_false rfl ?_ | refine T_skip ?_ | refine TL_ne_f (hk := ?_) | refine TL_nil ?_ | refine TL_move (hk := ?_) | refine TL_assign (hk := ?_) | refine TL_fieldAddr TE (hk := ?_) | refine TL_nilCheck (hk := ?_))
    refine TL_store TE (hk := ?_); intro w9 m9 z9 k9
    have gj8 := J8.dj
    have J9 : JrM w9 base jb d lg2 sd8 gd8 r.1 sl3 es3 g3 ap.1 fl := ⟨k9, J8.dk.mod m9 (fun b hb => by rw [List.mem_singleton.1 hb]; exact gj8), by
     have L9 := L8.mod m9 (fun b hb => by rw [List.mem_singleton.1 hb]; exact hgj)
     have hbw : base ≤ w.heap.size := by have := J.hj; have := J.blk.lt; omega
     exact { L9 with ow := Own.weaken L9.ow hbw, old := fun b hb => by have := L9.old b hb; omega }, hLk2, hd8, hgj, gj8, J.hj⟩
    repeat (first | refine T_seq ?_ | refine T_region ?_ | refine TL_nil ?_ | refine TL_move (hk := ?_) | refine TL_assign (hk := ?_))
    exact T_ret2 rfl rfl rfl ⟨rfl, lg2, sd8, gd8, sl3, es3, g3, J9, ((Tn.ext e07).trans (oJ_tn T8)).trans (oJ_one m9), fun b hb => .inr (L2.old b hb).1⟩
   ·have c2' : ¬ ((r.2 : Nat) : Int) = 0 := by omega
    rw [if_pos c2]
    repeat (first | refine T_seq ?_ | refine T_region ?_ | refine T_cond_true rfl ?_ | refine TL_ne_t (hk := ?_) | refine TL_nil ?_ | refine TL_move (hk := ?_) | refine TL_assign (hk := ?_))
    exact T_ret2 rfl rfl rfl ⟨rfl, lg, sd8, gd8, sl, es, g, J8, (Tn.ext e07).trans (oJ_tn T8), fun b hb => .inl hb⟩
 ·rw [if_pos c1]
  have c1' : ¬ ((ap.2.2.1 : Nat) : Int) = 0 := by omega
  repeat (first | refine T_seq ?_ | refine T_region ?_ | refine T_cond_true rfl ?_ | refine TL_ne_t (hk := ?_) | refine TL_nil ?_ | refine TL_move (hk := ?_) | refine TL_assign (hk := ?_) | refine TL_extract (hk := ?_))
  exact T_ret2 rfl rfl rfl ⟨rfl, lg, sd, gd, sl, es, g, J2, Tn.ext e02, fun b hb => .inl hb⟩
end Go.Proofs.YtjlaomcankmdjaaGreat
namespace Go.Proofs.YtjlaomcankmdjaaGreat
open Go.Proofs.Eng Go.Proofs.Codec Go.Proofs.Foot Go.Proofs.Journal
abbrev EP := Int × List PE
def newE (L : LE) (ep : Int) (ps : List PE) : List EE := (List.range ps.length).map (fun j => ⟨((L.l.length + j : Nat) : Int), ep, ps.getD j pe0⟩)
theorem addL_l (L : LE) (ep : Int) (ps : List PE) : (addL L ep ps).l = L.l ++ newE L ep ps := rfl
theorem newE_len (L : LE) (ep : Int) (ps : List PE) : (newE L ep ps).length = ps.length := by simp [newE]
def logF (L : LE) (l : List EP) : LE := l.foldl (fun L e => addL L e.1 e.2) L
def entL (e : EE) : List UInt8 := 1 :: entB [] e
def endL2 (ep : Int) : List UInt8 := 2 :: encU ep.toNat
def loadsE (L : LE) (e : EP) : List (List UInt8) := (newE L e.1 e.2).map entL ++ [endL2 e.1]
def loadsF : LE → List EP → List (List UInt8)
 | _, [] => []
 | L, e :: t => loadsE L e ++ loadsF (addL L e.1 e.2) t
def GoodE (L : LE) (e : EP) : Prop := L.ep ≤ e.1 ∧ e.1 ≤ 9223372036854775807 ∧ L.l.length + e.2.length ≤ 65536 ∧ (∀ p ∈ e.2, rightP p = 0) ∧ ∀ p ∈ e.2, PFit p
def GoodF : LE → List EP → Prop
 | _, [] => True
 | L, e :: t => GoodE L e ∧ GoodF (addL L e.1 e.2) t
theorem logF_snoc (L : LE) (l : List EP) (e : EP) : logF L (l ++ [e]) = addL (logF L l) e.1 e.2 := by unfold logF; rw [List.foldl_append]; rfl
theorem loadsF_snoc : ∀ (L : LE) (l : List EP) (e : EP), loadsF L (l ++ [e]) = loadsF L l ++ loadsE (logF L l) e
 | L, [], e => by simp [loadsF, logF]
 | L, x :: l, e => by
  rw [List.cons_append, loadsF, loadsF, loadsF_snoc, List.append_assoc]
  rfl
theorem GoodF_snoc : ∀ {L : LE} {l : List EP} {e : EP}, GoodF L l → GoodE (logF L l) e → GoodF L (l ++ [e])
 | L, [], e, _, h => ⟨h, trivial⟩
 | L, x :: l, e, h, h2 => ⟨h.1, GoodF_snoc h.2 h2⟩
theorem GoodF_take : ∀ {L : LE} {l : List EP} (c : Nat), GoodF L l → GoodF L (l.take c)
 | L, [], c, _ => by simp [GoodF]
 | L, x :: l, 0, _ => trivial
 | L, x :: l, c + 1, h => ⟨h.1, GoodF_take c h.2⟩
theorem logF_ok : ∀ {L : LE} {l : List EP}, LOk L → GoodF L l → LOk (logF L l)
 | L, [], h, _ => h
 | L, x :: l, h, g => logF_ok (l := l) (addL_ok h g.1.1 g.1.2.1 g.1.2.2.2.1 g.1.2.2.2.2 g.1.2.2.1) g.2
def bytesE (l : List EP) : List UInt8 := cat (loadsF ⟨[], 0⟩ l)
theorem cat_app (a b : List (List UInt8)) : cat (a ++ b) = cat a ++ cat b := by
 induction a with
 |nil => rfl
 |cons x a ih => rw [List.cons_append, cat, cat, ih, List.append_assoc]
theorem cat_ents {l : List EE} (h : ∀ e ∈ l, EOk e) : (l.map fun e => kindF 1 (putEn [] e).1).flatten = cat (l.map entL) := by
 induction l with
 |nil => rfl
 |cons x l ih =>
  rw [List.map_cons, List.flatten_cons, List.map_cons, cat, ih (fun e he => h e (List.mem_cons_of_mem _ he)), putEn_ok (h x List.mem_cons_self)]
  rfl
theorem newE_ok {L : LE} (hL : LOk L) {e : EP} (g : GoodE L e) : ∀ x ∈ newE L e.1 e.2, EOk x := fun x hx => by
 have h := (addL_ok hL g.1 g.2.1 g.2.2.2.1 g.2.2.2.2 g.2.2.1).run.le x (by rw [addL_l]; exact List.mem_append_right _ hx)
 exact h.2
theorem epF_cat {L : LE} (hL : LOk L) {e : EP} (g : GoodE L e) : epF e.1 (newE L e.1 e.2) = cat (loadsE L e) := by
 unfold epF loadsE
 rw [cat_app, cat_ents (newE_ok hL g)]
 congr 1
 simp only [cat, List.append_nil]
 rfl
def stepF (q : SC × Nat × Nat) (p : List UInt8) : Option (SC × Nat × Nat) := match scR q.1 p with
 |none => none
 |some s' => some (s', q.2.1 + (p.length + 8), if gb p 0 = 2 then q.2.1 + (p.length + 8) else q.2.2)
def runF : List (List UInt8) → SC × Nat × Nat → Option (SC × Nat × Nat)
 | [], q => some q
 |p :: ps, q => (stepF q p).bind (runF ps)
structure At0 (s : SC) (L : LE) : Prop where
 log : s.log = L
 op : s.op = []
 last : s.last = L.ep
theorem newE_at (L : LE) (ep : Int) (ps : List PE) (t : Nat) (h : t < ps.length) : (newE L ep ps)[t]'(by rw [newE_len]; exact h) = ⟨((L.l.length + t : Nat) : Int), ep, ps.getD t pe0⟩ := by
 unfold newE
 rw [List.getElem_map, List.getElem_range]
theorem cut_at : ∀ {l : List EP} {L : LE} (j : Nat), j ≤ (loadsF L l).length → ∃ c, c ≤ l.length ∧ (loadsF L (l.take c)).length ≤ j ∧ (c = l.length ∧ j = (loadsF L l).length ∨ ∃ h : c < l.length, ∃ t, t ≤ l[c].2.length ∧ (loadsF L l).take j = loadsF L (l.take c) ++ ((newE (logF L (l.take c)) l[c].1 l[c].2).map entL).take t ∧ j < (loadsF L (l.take (c + 1))).length)
 | [], L, j, hj => ⟨0, Nat.le_refl _, Nat.zero_le _, .inl ⟨rfl, by simp [loadsF] at hj ⊢; omega⟩⟩
 |e :: l, L, j, hj => by
  have hE : (loadsE L e).length = e.2.length + 1 := by unfold loadsE; rw [List.length_append, List.length_map, newE_len]; rfl
  by_cases q : j < (loadsE L e).length
  ·refine ⟨0, Nat.zero_le _, by simp [loadsF], .inr ⟨by simp, j, by simp only [List.getElem_cons_zero]; omega, ?_, ?_⟩⟩
   ·simp only [List.take_zero, loadsF, List.nil_append, List.getElem_cons_zero]
    rw [List.take_append_of_le_length (by omega)]
    unfold loadsE
    rw [List.take_append_of_le_length (by rw [List.length_map, newE_len]; omega)]
    rfl
   ·simp only [List.take_succ_cons, List.take_zero, loadsF, List.append_nil]
    exact q
  ·have hj' : j - (loadsE L e).length ≤ (loadsF (addL L e.1 e.2) l).length := by rw [loadsF, List.length_append] at hj; omega
   obtain ⟨c, h1, h2, h3⟩ := cut_at (l := l) (L := addL L e.1 e.2) (j - (loadsE L e).length) hj'
   refine ⟨c + 1, by simpa using h1, by rw [List.take_succ_cons, loadsF, List.length_append]; omega, ?_⟩
   rcases h3 with ⟨h4, h5⟩ | ⟨h4, t, h5, h6, h7⟩
   ·left
    exact ⟨by simpa using h4, by rw [loadsF, List.length_append]; omega⟩
   ·right
    refine ⟨by simpa using h4, t, by simpa using h5, ?_, ?_⟩
    ·rw [loadsF, List.take_append, List.take_of_length_le (by omega), h6, List.take_succ_cons, loadsF, List.append_assoc]
     rfl
    ·rw [List.take_succ_cons, loadsF, List.length_append]; omega
theorem cat_take : ∀ (A : List (List UInt8)) (x : Nat), (∀ l ∈ A, l.length ≤ 65536) → x ≤ (cat A).length → ∃ j last k, j ≤ A.length ∧ last.length ≤ 65536 ∧ k < last.length + 8 ∧ (cat A).take x = cat (A.take j) ++ (frame last).take k ∧ (cat (A.take j)).length ≤ x ∧ (j = A.length ∨ x < (cat (A.take (j + 1))).length)
 | [], x, _, hx => ⟨0, [], 0, Nat.le_refl _, Nat.zero_le _, by decide, by simp [cat], Nat.zero_le _, .inl rfl⟩
 |a :: A, x, h, hx => by
  have ha := h a List.mem_cons_self
  by_cases q : x < (frame a).length
  ·refine ⟨0, a, x, Nat.zero_le _, ha, by rw [frame_len] at q; exact q, ?_, Nat.zero_le _, .inr (by simp only [Nat.zero_add, List.take_succ_cons, List.take_zero, cat, List.append_nil]; exact q)⟩
   simp only [List.take_zero, cat, List.nil_append]
   rw [List.take_append_of_le_length (by omega)]
  ·rw [cat, List.length_append] at hx
   obtain ⟨j, last, k, h1, h2, h3, h4, h5, h6⟩ := cat_take A (x - (frame a).length) (fun l hl => h l (List.mem_cons_of_mem _ hl)) (by omega)
   refine ⟨j + 1, last, k, by simpa using h1, h2, h3, ?_, ?_, ?_⟩
   ·rw [cat, List.take_append, List.take_of_length_le (by omega), h4, List.take_succ_cons, cat, List.append_assoc]
   ·rw [List.take_succ_cons, cat, List.length_append]; omega
   ·rcases h6 with h6 | h6
    ·left; simpa using h6
    ·right
     rw [List.take_succ_cons, cat, List.length_append]; omega
theorem cat_mono {A : List (List UInt8)} {i j : Nat} (h : i ≤ j) : (cat (A.take i)).length ≤ (cat (A.take j)).length := by
 have : A.take i = (A.take j).take i := by rw [List.take_take, Nat.min_eq_left h]
 have h2 : A.take j = (A.take j).take i ++ (A.take j).drop i := (List.take_append_drop i _).symm
 rw [this]
 have h3 := congrArg (fun x => (cat x).length) h2
 simp only [cat_app, List.length_append] at h3
 omega
theorem loadsF_take : ∀ (L : LE) (l : List EP) (c : Nat), (loadsF L l).take (loadsF L (l.take c)).length = loadsF L (l.take c)
 | L, [], c => by simp [loadsF]
 | L, e :: l, 0 => by simp [loadsF]
 | L, e :: l, c + 1 => by
  rw [List.take_succ_cons, loadsF, loadsF, List.length_append, List.take_append, List.take_of_length_le (by omega), Nat.add_sub_cancel_left, loadsF_take]
theorem loadsF_le (L : LE) (l : List EP) {c d : Nat} (h : c ≤ d) : (loadsF L (l.take c)).length ≤ (loadsF L (l.take d)).length := by
 have : l.take c = (l.take d).take c := by rw [List.take_take, Nat.min_eq_left h]
 rw [this, ← loadsF_take L (l.take d) c, List.length_take]
 omega
theorem loadsF_short : ∀ {l : List EP} {L : LE} (hL : LOk L) (g : GoodF L l), ∀ p ∈ loadsF L l, p.length ≤ 65536
 | [], L, _, _, p, hp => by cases hp
 |e :: l, L, hL, g, p, hp => by
  rw [loadsF] at hp
  rcases List.mem_append.1 hp with q | q
  ·unfold loadsE at q
   rcases List.mem_append.1 q with q | q
   ·obtain ⟨x, hx, rfl⟩ := List.mem_map.1 q
    have := entB_len (newE_ok hL g.1 x hx)
    unfold entL
    rw [List.length_cons]; omega
   ·rw [List.mem_singleton.1 q]
    have := hL.ep
    have := g.1.1
    have := g.1.2.1
    have := encU_len64 (show e.1.toNat < 2 ^ 64 by omega)
    unfold endL2
    rw [List.length_cons]; omega
  ·exact loadsF_short (addL_ok hL g.1.1 g.1.2.1 g.1.2.2.2.1 g.1.2.2.2.2 g.1.2.2.1) g.2 p q
def L0 : LE := ⟨[], 0⟩
theorem L0_ok : LOk L0 := ⟨Nat.zero_le _, by decide, trivial⟩
def Part (l : List EP) (m : Nat) (b : List UInt8) : Prop := ∃ x, b = (bytesE l).take x ∧ (bytesE (l.take m)).length ≤ x ∧ x ≤ (bytesE l).length
structure JI (L : LE) (k : DK) (fl : Int) (l : List EP) (m : Nat) : Prop where
 g : GoodF L0 l
 log : L = logF L0 l
 b : k.b = bytesE l
 hm : m ≤ l.length
 sf : k.sf = (bytesE (l.take m)).length
 fl : fl = ((logF L0 (l.take m)).l.length : Int)
section
variable {L : LE} {k : DK} {fl : Int} {l : List EP} {m : Nat}
end
theorem newE_p (L : LE) (ep : Int) (ps : List PE) : (newE L ep ps).map (·.p) = ps := by
 apply List.ext_getElem
 ·rw [List.length_map, newE_len]
 ·intro i h1 h2
  rw [List.getElem_map, newE_at L ep ps i h2, List.getD_eq_getElem?_getD, List.getElem?_eq_getElem h2]
  rfl
theorem logF_p : ∀ (L : LE) (l : List EP), (logF L l).l.map (·.p) = L.l.map (·.p) ++ (l.map (·.2)).flatten
 | L, [] => by simp [logF]
 | L, e :: l => by
  have h := logF_p (addL L e.1 e.2) l
  show (logF (addL L e.1 e.2) l).l.map (·.p) = _
  rw [h, addL_l, List.map_append, newE_p, List.map_cons, List.flatten_cons, List.append_assoc]
theorem logF_app (L : LE) (a b : List EP) : logF L (a ++ b) = logF (logF L a) b := by unfold logF; rw [List.foldl_append]
theorem logF_pre : ∀ (L : LE) (l : List EP), ∃ t, (logF L l).l = L.l ++ t
 | L, [] => ⟨[], by simp [logF]⟩
 | L, e :: l => by
  obtain ⟨t, h⟩ := logF_pre (addL L e.1 e.2) l
  exact ⟨newE L e.1 e.2 ++ t, by show (logF (addL L e.1 e.2) l).l = _; rw [h, addL_l, List.append_assoc]⟩
theorem logF_part (l : List EP) (c : Nat) : ∃ t, (logF L0 l).l = (logF L0 (l.take c)).l ++ t := by
 obtain ⟨t, h⟩ := logF_pre (logF L0 (l.take c)) (l.drop c)
 rw [← logF_app, List.take_append_drop] at h
 exact ⟨t, h⟩
theorem Run.at {ep : Int} : ∀ {l : List EE} {last : Int} {n : Nat}, Run ep last n l → ∀ (i : Nat) (h : i < l.length), l[i].sq = ((n + i : Nat) : Int)
 |x :: l, last, n, hr, 0, h => by simpa using hr.1
 |x :: l, last, n, hr, i + 1, h => by
  have := Run.at hr.2.2.2.2 i (by simpa using h)
  simp only [List.getElem_cons_succ]
  rw [this]
  omega
def ee0 : EE := ⟨0, 0, pe0⟩
structure PT where
 hn : Nat
 hep : Int
 hop : List EE
 hes : List EE
def ptE (s : PT) (e : EE) : PT := { s with hop := s.hop ++ [e] }
def ptN (s : PT) (n : Nat) : PT := ⟨s.hn + s.hop.length, (n : Int), [], s.hes ++ s.hop⟩
def PtE (s : PT) (b : List UInt8) (s' : PT) : Prop := ∃ e, getEn b = some e ∧ e.sq = ((s.hn + s.hop.length : Nat) : Int) ∧ s.hn + s.hop.length < 65536 ∧ s.hep ≤ e.ep ∧ (0 < s.hop.length → e.ep = (s.hop.getD 0 ee0).ep) ∧ s' = ptE s e
def PtN (s : PT) (b : List UInt8) (s' : PT) : Prop := ∃ n : Nat, b = encU n ∧ n ≤ 9223372036854775807 ∧ s.hep ≤ (n : Int) ∧ (0 < s.hop.length → (s.hop.getD 0 ee0).ep = (n : Int)) ∧ s' = ptN s n
def PtR (s : PT) (p : List UInt8) (s' : PT) : Prop := (∃ t, p = 1 :: t ∧ PtE s t s') ∨ ∃ t, p = 2 :: t ∧ PtN s t s'
def runP : List (List UInt8) → PT → Nat → Nat → PT → Nat → Prop
 | [], s, _, wh, s', wh' => s' = s ∧ wh' = wh
 |p :: ps, s, a, wh, s', wh' => ∃ s1, PtR s p s1 ∧ runP ps s1 (a + (p.length + 8)) (if s1.hop.length = 0 then a + (p.length + 8) else wh) s' wh'
theorem runP_app : ∀ {a b : List (List UInt8)} {s s1 s2 : PT} {x wh wh1 wh2 : Nat}, runP a s x wh s1 wh1 → runP b s1 (x + (cat a).length) wh1 s2 wh2 → runP (a ++ b) s x wh s2 wh2
 | [], b, s, s1, s2, x, wh, wh1, wh2, h, k => by
  obtain ⟨rfl, rfl⟩ := h
  exact k
 |p :: a, b, s, s1, s2, x, wh, wh1, wh2, h, k => by
  obtain ⟨q, h1, h2⟩ := h
  refine ⟨q, h1, runP_app h2 ?_⟩
  rw [cat, List.length_append, frame_len] at k
  rw [Nat.add_assoc]
  exact k
def headL (f : Nat) (ep : Int) : List UInt8 := 3 :: (encU f ++ encU ep.toNat)
def entsF : LE → List EP → List EE
 | _, [] => []
 | L, e :: t => newE L e.1 e.2 ++ entsF (addL L e.1 e.2) t
theorem entsF_snoc : ∀ (L : LE) (l : List EP) (e : EP), entsF L (l ++ [e]) = entsF L l ++ newE (logF L l) e.1 e.2
 | L, [], e => by simp [entsF, logF]
 | L, x :: l, e => by rw [List.cons_append, entsF, entsF, entsF_snoc, List.append_assoc]; rfl
theorem entsF_app : ∀ (L : LE) (l m : List EP), entsF L (l ++ m) = entsF L l ++ entsF (logF L l) m
 | L, [], m => by simp [entsF, logF]
 | L, x :: l, m => by rw [List.cons_append, entsF, entsF, entsF_app, List.append_assoc]; rfl
theorem logF_ents : ∀ (L : LE) (l : List EP), (logF L l).l = L.l ++ entsF L l
 | L, [] => by simp [entsF, logF]
 | L, x :: l => by
  show (logF (addL L x.1 x.2) l).l = _
  rw [logF_ents, addL_l, entsF, List.append_assoc]
def segL (L : LE) (l : List EP) : List (List UInt8) := headL L.l.length L.ep :: loadsF L l
def segB (L : LE) (l : List EP) : List UInt8 := cat (segL L l)
theorem segB_snoc (L : LE) (l : List EP) (e : EP) : segB L (l ++ [e]) = segB L l ++ cat (loadsE (logF L l) e) := by
 unfold segB segL
 rw [loadsF_snoc, ← List.cons_append, cat_app]
structure Pt0 (s : PT) (L : LE) : Prop where
 n : s.hn = L.l.length
 op : s.hop = []
 ep : s.hep = L.ep
theorem entsP_run {L : LE} (hL : LOk L) {e : EP} (g : GoodE L e) {s : PT} (h : Pt0 s L) (a w : Nat) : ∀ t, t ≤ e.2.length → runP (((newE L e.1 e.2).map entL).take t) s a w { s with hop := (newE L e.1 e.2).take t } w
 | 0, _ => ⟨by rw [List.take_zero, ← h.op], rfl⟩
 |t + 1, ht => by
  have h1 := entsP_run hL g h a w t (by omega)
  have hlen : t < ((newE L e.1 e.2).map entL).length := by rw [List.length_map, newE_len]; omega
  have hn : t < (newE L e.1 e.2).length := by rw [newE_len]; omega
  rw [List.take_succ_eq_append_getElem hlen, List.getElem_map]
  have hE := newE_ok hL g _ (List.getElem_mem hn)
  have hat := newE_at L e.1 e.2 t (by omega)
  refine runP_app h1 ⟨ptE { s with hop := (newE L e.1 e.2).take t } (newE L e.1 e.2)[t], .inl ⟨entB [] (newE L e.1 e.2)[t], rfl, (newE L e.1 e.2)[t], getEn_put hE, ?_, ?_, ?_, ?_, rfl⟩, ?_⟩
  ·simp only [List.length_take]
   rw [hat, h.n, Nat.min_eq_left (by omega)]
  ·simp only [List.length_take]
   have := g.2.2.1
   rw [h.n]; omega
  ·rw [hat]
   show s.hep ≤ e.1
   rw [h.ep]; exact g.1
  ·intro q
   simp only [List.length_take] at q
   have h9 : ((newE L e.1 e.2).take t)[0]? = some ((newE L e.1 e.2)[0]'(by rw [newE_len]; omega)) := by rw [List.getElem?_take, if_pos (by omega), List.getElem?_eq_getElem]
   rw [hat]
   show e.1 = (((newE L e.1 e.2).take t).getD 0 ee0).ep
   rw [List.getD_eq_getElem?_getD, h9, newE_at L e.1 e.2 0 (by omega)]
   rfl
  ·rw [if_neg (fun q => by have q2 : ((newE L e.1 e.2).take t ++ [(newE L e.1 e.2)[t]]).length = 0 := q; rw [List.length_append] at q2; simp at q2)]
   refine ⟨?_, rfl⟩
   unfold ptE
   simp only
   rw [List.take_succ_eq_append_getElem hn]
theorem epochP_run {L : LE} (hL : LOk L) {e : EP} (g : GoodE L e) {s : PT} (h : Pt0 s L) (a w : Nat) : ∃ s', runP (loadsE L e) s a w s' (a + (cat (loadsE L e)).length) ∧ Pt0 s' (addL L e.1 e.2) ∧ s'.hes = s.hes ++ newE L e.1 e.2 := by
 have h1 := entsP_run hL g h a w e.2.length (Nat.le_refl _)
 have hall : ((newE L e.1 e.2).map entL).take e.2.length = (newE L e.1 e.2).map entL := List.take_of_length_le (by rw [List.length_map, newE_len]; exact Nat.le_refl _)
 rw [hall, List.take_of_length_le (by rw [newE_len]; exact Nat.le_refl _)] at h1
 have hep := hL.ep
 have g1 := g.1
 have g2 := g.2.1
 have hi : ((e.1.toNat : Nat) : Int) = e.1 := by omega
 refine ⟨ptN { s with hop := newE L e.1 e.2 } e.1.toNat, runP_app h1 ⟨_, .inr ⟨encU e.1.toNat, rfl, e.1.toNat, rfl, by omega, ?_, ?_, rfl⟩, rfl, ?_⟩, ⟨?_, rfl, hi⟩, rfl⟩
 ·rw [hi]
  show s.hep ≤ e.1
  rw [h.ep]; exact g1
 ·intro q
  simp only [newE_len] at q
  rw [hi]
  simp only
  rw [List.getD_eq_getElem?_getD, List.getElem?_eq_getElem (by rw [newE_len]; exact q), newE_at L e.1 e.2 0 q]
  rfl
 ·rw [if_pos (by rfl)]
  unfold loadsE
  rw [cat_snoc, List.length_append, frame_len]
  unfold endL2
  omega
 ·show s.hn + (newE L e.1 e.2).length = _
  rw [h.n, addL_l, List.length_append]
theorem epochsP_run : ∀ {l : List EP} {L : LE} (hL : LOk L) (g : GoodF L l) {s : PT} (h : Pt0 s L) (a w : Nat), ∃ s', runP (loadsF L l) s a w s' (if l = [] then w else a + (cat (loadsF L l)).length) ∧ Pt0 s' (logF L l) ∧ s'.hes = s.hes ++ entsF L l
 | [], L, hL, g, s, h, a, w => ⟨s, ⟨rfl, rfl⟩, h, by simp [entsF]⟩
 |e :: l, L, hL, g, s, h, a, w => by
  obtain ⟨s1, h1, h2, h3⟩ := epochP_run hL g.1 h a w
  obtain ⟨s2, h4, h5, h6⟩ := epochsP_run (l := l) (addL_ok hL g.1.1 g.1.2.1 g.1.2.2.2.1 g.1.2.2.2.2 g.1.2.2.1) g.2 h2 (a + (cat (loadsE L e)).length) (a + (cat (loadsE L e)).length)
  refine ⟨s2, ?_, h5, by rw [h6, h3, entsF, List.append_assoc]⟩
  rw [if_neg (show ¬ (e :: l = []) from fun q => by cases q), loadsF]
  have : (if l = [] then a + (cat (loadsE L e)).length else a + (cat (loadsE L e)).length + (cat (loadsF (addL L e.1 e.2) l)).length) = a + (cat (loadsE L e ++ loadsF (addL L e.1 e.2) l)).length := by
   rw [cat_app, List.length_append]
   by_cases q : l = []
   ·subst q; simp [loadsF, cat]
   ·rw [if_neg q]; omega
  rw [← this]
  exact runP_app h1 h4
theorem headL_len (f : Nat) (ep : Int) (hf : f ≤ 65536) (he : 0 ≤ ep ∧ ep ≤ 9223372036854775807) : (headL f ep).length ≤ 100 := by
 have u1 := encU_len64 (show f < 2 ^ 64 by omega)
 have u2 := encU_len64 (show ep.toNat < 2 ^ 64 by omega)
 unfold headL
 rw [List.length_cons, List.length_append]; omega
def ImgOk (last : Bool) (b : List UInt8) (f : Nat) (ep : Int) (s : PT) : Prop :=
 ∃ loads n why wh, frames b = (headL f ep :: loads, n, why) ∧ (why = 0 ∨ (why = 3 ∧ last = true)) ∧ runP loads ⟨f, ep, [], []⟩ ((headL f ep).length + 8) ((headL f ep).length + 8) s wh ∧ (last = false → s.hop = [] ∧ n = b.length) ∧ f ≤ 65536 ∧ (0 ≤ ep ∧ ep ≤ 9223372036854775807) ∧ wh ≤ b.length ∧ s.hn = f + s.hes.length
theorem segL_short {L : LE} {l : List EP} (hL : LOk L) (g : GoodF L l) : ∀ p ∈ segL L l, p.length ≤ 65536 := fun p hp => by
 rcases List.mem_cons.1 hp with rfl | hp
 ·have := headL_len L.l.length L.ep hL.n hL.ep; omega
 ·exact loadsF_short hL g p hp
theorem whole_img {L : LE} {l : List EP} (hL : LOk L) (g : GoodF L l) : ∃ s, ImgOk false (segB L l) L.l.length L.ep s ∧ Pt0 s (logF L l) ∧ s.hes = entsF L l := by
 have hsh := segL_short hL g
 have hfr := frames_cat [] 0 (Nat.zero_le _) (by decide) (segL L l) hsh
 rw [List.take_zero, List.append_nil, if_pos rfl] at hfr
 obtain ⟨s, h1, h2, h3⟩ := epochsP_run hL g (s := ⟨L.l.length, L.ep, [], []⟩) ⟨rfl, rfl, rfl⟩ ((headL L.l.length L.ep).length + 8) ((headL L.l.length L.ep).length + 8)
 refine ⟨s, ⟨_, _, _, _, hfr, .inl rfl, h1, fun _ => ⟨h2.op, rfl⟩, hL.n, hL.ep, ?_, ?_⟩, h2, by rw [h3]; rfl⟩
 ·unfold segB segL
  rw [cat, List.length_append, frame_len]
  split <;> omega
 ·rw [h2.n, h3, logF_ents, List.length_append]
  rfl
theorem part_img {L : LE} {l : List EP} (hL : LOk L) (g : GoodF L l) {x m : Nat} (hm : m ≤ l.length) (hx1 : (segB L (l.take m)).length ≤ x) (hx2 : x ≤ (segB L l).length) :
  ∃ c s, m ≤ c ∧ c ≤ l.length ∧ ImgOk true ((segB L l).take x) L.l.length L.ep s ∧ s.hn = (logF L (l.take c)).l.length ∧ s.hes = entsF L (l.take c) := by
 have hsh := segL_short hL g
 obtain ⟨j, last, k, h1, h2, h3, h4, h5, h6⟩ := cat_take (segL L l) x hsh hx2
 have hb : (segB L l).take x = cat ((segL L l).take j) ++ (frame last).take k := h4
 have hfr := frames_cat last k h2 h3 ((segL L l).take j) (fun p hp => hsh p (List.mem_of_mem_take hp))
 have hH : (frame (headL L.l.length L.ep)).length ≤ x := by
  have : (segB L (l.take m)).length = (frame (headL L.l.length L.ep)).length + (cat (loadsF L (l.take m))).length := by
   unfold segB segL; rw [cat, List.length_append]
  omega
 cases j with
 |zero =>
  exfalso
  rcases h6 with h6 | h6
  ·simp [segL] at h6
  ·simp only [segL, Nat.zero_add, List.take_succ_cons, List.take_zero, cat, List.append_nil] at h6
   omega
 |succ j => ?_
 have hjs : j ≤ (loadsF L l).length := by simpa [segL] using h1
 have hsj : (segL L l).take (j + 1) = headL L.l.length L.ep :: (loadsF L l).take j := rfl
 rw [hsj] at hb hfr
 obtain ⟨c, c1, c2, c3⟩ := cut_at (l := l) (L := L) j hjs
 have hsm : ∀ q, segB L (l.take q) = cat ((segL L l).take ((loadsF L (l.take q)).length + 1)) := fun q => by
  unfold segB segL
  rw [List.take_succ_cons, loadsF_take]
 have hmj : (loadsF L (l.take m)).length ≤ j := by
  rcases h6 with h6 | h6
  ·have h7 : j = (loadsF L l).length := by simpa [segL] using h6
   have := loadsF_le L l hm
   rw [List.take_length] at this
   omega
  ·rcases Nat.lt_or_ge j (loadsF L (l.take m)).length with q | q
   ·have h7 := cat_mono (A := segL L l) (i := j + 1 + 1) (j := (loadsF L (l.take m)).length + 1) (by omega)
    rw [← hsm m] at h7
    omega
   ·exact q
 have hmc : m ≤ c := by
  rcases c3 with ⟨q, _⟩ | ⟨q, t, _, _, q4⟩
  ·omega
  ·rcases Nat.lt_or_ge c m with q5 | q5
   ·have := loadsF_le L l (c := c + 1) (d := m) (by omega)
    omega
   ·exact q5
 obtain ⟨s1, r1, r2, r3⟩ := epochsP_run (l := l.take c) hL (GoodF_take c g) (s := ⟨L.l.length, L.ep, [], []⟩) ⟨rfl, rfl, rfl⟩ ((headL L.l.length L.ep).length + 8) ((headL L.l.length L.ep).length + 8)
 obtain ⟨wh, hwh⟩ : ∃ wh, (if l.take c = [] then (headL L.l.length L.ep).length + 8 else (headL L.l.length L.ep).length + 8 + (cat (loadsF L (l.take c))).length) = wh := ⟨_, rfl⟩
 have hwx : wh ≤ ((segB L l).take x).length := by
  rw [List.length_take, Nat.min_eq_left hx2]
  have h7 := cat_mono (A := segL L l) (i := (loadsF L (l.take c)).length + 1) (j := j + 1) (by omega)
  rw [← hsm c] at h7
  have h8 : (segB L (l.take c)).length = (headL L.l.length L.ep).length + 8 + (cat (loadsF L (l.take c))).length := by
   unfold segB segL; rw [cat, List.length_append, frame_len]
  have : wh ≤ (segB L (l.take c)).length := by rw [← hwh]; split <;> omega
  omega
 rw [hwh] at r1
 have hscan : ∃ s, runP ((loadsF L l).take j) ⟨L.l.length, L.ep, [], []⟩ ((headL L.l.length L.ep).length + 8) ((headL L.l.length L.ep).length + 8) s wh ∧ s.hn = (logF L (l.take c)).l.length ∧ s.hes = entsF L (l.take c) := by
  rcases c3 with ⟨q1, q2⟩ | ⟨q1, t, q2, q3, q4⟩
  ·have hall : (loadsF L l).take j = loadsF L (l.take c) := by rw [q2, q1, List.take_length, List.take_length]
   rw [hall]
   exact ⟨s1, r1, r2.n, by rw [r3]; rfl⟩
  ·have hgc : GoodE (logF L (l.take c)) l[c] := by
    have h7 := GoodF_take (c + 1) g
    rw [List.take_succ_eq_append_getElem q1] at h7
    have : ∀ {a : List EP} {L : LE} {e : EP}, GoodF L (a ++ [e]) → GoodE (logF L a) e := by
     intro a
     induction a with
     |nil => intro L e h; exact h.1
     |cons y a ih => intro L e h; exact ih h.2
    exact this h7
   have p1 := entsP_run (logF_ok hL (GoodF_take c g)) hgc r2 ((headL L.l.length L.ep).length + 8 + (cat (loadsF L (l.take c))).length) wh t q2
   rw [q3]
   exact ⟨_, runP_app r1 p1, r2.n, by rw [r3]; rfl⟩
 obtain ⟨s, hs1, hs2, hs3⟩ := hscan
 refine ⟨c, s, hmc, c1, ⟨(loadsF L l).take j, _, _, wh, by rw [hb]; exact hfr, ?_, hs1, fun q => (by cases q), hL.n, hL.ep, hwx, by rw [hs2, hs3, logF_ents, List.length_append]⟩, hs2, hs3⟩
 split
 ·exact .inl rfl
 ·exact .inr ⟨rfl, rfl⟩
end Go.Proofs.YtjlaomcankmdjaaGreat
namespace Go.Proofs.Eng
open Go.RowKit
def Seg (w : World) (base : Nat) (e : TypeId) (s : Nat) (A : Option Addr) (n c : Nat) (xs : List Value) : Prop :=
 xs.length = n * s ∧ ((A = none ∧ n = 0 ∧ c = 0) ∨ ∃ g o cur, A = some ⟨g, o, none⟩ ∧ base ≤ g ∧ w.heap[g]? = some (.cells cur e (0, 0)) ∧ n ≤ c ∧ c ≤ maxLen ∧ o + c * s ≤ cur.size ∧ (cur.toList.drop o).take (n * s) = xs)
section
variable {w w' : World} {base s n c : Nat} {e : TypeId} {A : Option Addr} {xs : List Value}
theorem Seg.nil (w : World) (base : Nat) (e : TypeId) (s : Nat) : Seg w base e s none 0 0 [] := ⟨by simp, .inl ⟨rfl, rfl, rfl⟩⟩
theorem Own.seg (h : Own w base e s A n c xs) : Seg w base e s A n c xs := by
 obtain ⟨hl, ⟨hv, h0⟩ | ⟨g, cap, cur, hv, hg, hh, hnc, hcm, hcs, htk⟩⟩ := h
 ·cases hv
  exact ⟨hl, .inl ⟨rfl, rfl, rfl⟩⟩
 ·cases hv
  exact ⟨hl, .inr ⟨g, 0, cur, rfl, hg, hh, hnc, hcm, by omega, by simpa using htk⟩⟩
theorem Seg.len (h : Seg w base e s A n c xs) : xs.length = n * s := h.1
theorem Seg.cap (h : Seg w base e s A n c xs) : n ≤ c ∧ c ≤ maxLen := by
 obtain ⟨_, ⟨_, h0, h1⟩ | ⟨g, o, cur, _, _, _, hnc, hcm, _⟩⟩ := h
 ·subst h0 h1; exact ⟨Nat.le_refl _, by decide⟩
 ·exact ⟨hnc, hcm⟩
theorem Seg.hi (h : Seg w base e s A n c xs) : Hi A base := fun ad ea => by
 obtain ⟨_, ⟨h0, _⟩ | ⟨g, o, cur, h0, hg, _⟩⟩ := h
 ·rw [h0] at ea; cases ea
 ·rw [h0] at ea; cases ea; exact hg
theorem Seg.lo (h : Seg w base e s A n c xs) : Lo A w.heap.size := fun ad ea => by
 obtain ⟨_, ⟨h0, _⟩ | ⟨g, o, cur, h0, hg, hh, _⟩⟩ := h
 ·rw [h0] at ea; cases ea
 ·rw [h0] at ea; cases ea; exact heap_lt hh
theorem Seg.mod {S : List Nat} (h : Seg w base e s A n c xs) (hm : Mod S w w') (hS : Off A S) : Seg w' base e s A n c xs := by
 obtain ⟨hl, h | ⟨g, o, cur, rfl, hg, hh, r⟩⟩ := h
 ·exact ⟨hl, .inl h⟩
 ·exact ⟨hl, .inr ⟨g, o, cur, rfl, hg, by rw [hm.block g (heap_lt hh) (hS _ rfl)]; exact hh, r⟩⟩
theorem Seg.weaken {base' : Nat} (h : Seg w base e s A n c xs) (hb : base' ≤ base) : Seg w base' e s A n c xs := by
 obtain ⟨hl, h | ⟨g, o, cur, h1, hg, r⟩⟩ := h
 ·exact ⟨hl, .inl h⟩
 ·exact ⟨hl, .inr ⟨g, o, cur, h1, by omega, r⟩⟩
theorem Seg.rd (h : Seg w base e s A n c xs) : Rd w A n s xs := by
 obtain ⟨hl, ⟨_, h0, _⟩ | ⟨g, o, cur, rfl, hg, hh, hnc, hcm, hcs, htk⟩⟩ := h
 ·exact ⟨hl, fun hn => by omega⟩
 ·refine ⟨hl, fun hn => ⟨g, o, rfl, heap_lt hh, fun j u hu => ?_⟩⟩
  rw [← htk] at hu
  rw [List.getElem?_take] at hu
  split at hu
  ·rw [List.getElem?_drop] at hu
   simp only [World.cell?, hh]
   simpa using hu
  ·cases hu
theorem Seg.cut {l : Nat} (h : Seg w base e s A n c xs) (hl : l ≤ n) : Seg w base e s (cutA A c l s) (n - l) (c - l) (xs.drop (l * s)) := by
 have hlen : (xs.drop (l * s)).length = (n - l) * s := by rw [List.length_drop, h.1, Nat.sub_mul]
 obtain ⟨hx, ⟨rfl, h0, h1⟩ | ⟨g, o, cur, rfl, hg, hh, hnc, hcm, hcs, htk⟩⟩ := h
 ·refine ⟨hlen, .inl ⟨?_, by omega, by omega⟩⟩
  unfold cutA; split <;> rfl
 ·refine ⟨hlen, .inr ?_⟩
  by_cases hcl : c = l
  ·refine ⟨g, o, cur, by simp [cutA, hcl], hg, hh, by omega, by omega, by simp [hcl]; omega, ?_⟩
   have : n - l = 0 := by omega
   rw [this, Nat.zero_mul, List.take_zero, List.drop_of_length_le]
   rw [hx]
   exact Nat.mul_le_mul_right _ (by omega)
  ·refine ⟨g, o + l * s, cur, ?_, hg, hh, by omega, by omega, ?_, ?_⟩
   ·simp only [cutA, hcl, if_false, Option.map_some, Addr.add]
    by_cases h0 : l * s = 0 <;> simp [h0]
   ·rw [Nat.add_assoc, ← Nat.add_mul, show l + (c - l) = c by omega]
    exact hcs
   ·rw [← htk, List.drop_take, List.drop_drop]
    congr 1
    rw [Nat.sub_mul]
end
section
variable {q : Qm} {P : Program} {fn : Func} {R : Ending → World → Prop} {M : Md} {n : Nat} {st : Slots} {k : List Item} {w : World} {ops rest : List Oper}
 {d : Nat} {ty : TypeId} {ps : String} {af : Array Edge} {X Y : Operand} {t e : TypeId} {by_ s base m c m2 c2 : Nat} {z : Value} {A A2 : Option Addr} {xs ys : List Value}
theorem run_append_seg (ht : P.underlying t = some (.slice e)) (hi : ∃ i, P.info? e = some i ∧ i.size = s ∧ i.bytes = by_ ∧ i.zero = some z) (hzs : z.cells.size = s) (hsz : 0 < s)
  (ho : Seg w base e s A m c xs) (hr : Rd w A2 m2 s ys) (h1 : ∀ u ∈ ys, u.oneCell' = true) (hb1 : m + m2 ≤ maxLen) (hb2 : (m + m2) * by_ ≤ 140737488355328) (hb : base ≤ w.heap.size) (tt : TypeId) :
  ∃ A' c' w', (Builtin.append_ #[t, t] tt #[.slice A m c, .slice A2 m2 c2]).run P w = .ok (.slice A' (m + m2) c') w' ∧ Seg w' base e s A' (m + m2) c' (xs ++ ys) ∧ Mod (blkL A) w w' ∧ Near A A' w := by
 obtain ⟨hxl, ⟨rfl, h0, h1'⟩ | ⟨g, o, cur, rfl, hg, hh, hnc, hcm, hcs, htk⟩⟩ := id ho
 ·subst h0 h1'
  have hx : xs = [] := List.eq_nil_of_length_eq_zero (by simpa using hxl)
  subst hx
  obtain ⟨A', c', w', g1, g2, g3, g4⟩ := run_append_any (c2 := c2) ht hi hzs hsz (Own.nil w base e s) hr h1 hb1 hb2 hb tt
  exact ⟨A', c', w', g1, g2.seg, g3, g4⟩
 ·obtain ⟨i, i1, i2, i3, i4⟩ := id hi
  by_cases hm0 : m2 = 0
  ·subst hm0
   have hy : ys = [] := List.eq_nil_of_length_eq_zero (by simpa using hr.1)
   subst hy
   refine ⟨some ⟨g, o, none⟩, c, w, ?_, by simpa using ho, Mod.refl _ _, fun ad e => .inl e⟩
   have hl : ∀ (x : Addr), (loadCells x 0).run P w = .ok #[] w := fun x => by simpa using run_loadCells_list (P := P) w x [] (by simp)
   cases A2 <;> simp [Builtin.append_, run_underlying ht, sizeOf, typeInfo, i1, Builtin.lenOf, Builtin.firstCells, hnc, storeCells, hl]
  ·obtain ⟨b2, o2, rfl, hb2', hc2⟩ := hr.2 (by omega)
   have hsrc : ∀ j u, ys[j]? = some u → w.cell? ((⟨b2, o2, none⟩ : Addr).add j) = some u := fun j u hu => by
    rw [← hc2 j u hu]
    congr 1
    unfold Addr.add
    by_cases h : j = 0 <;> simp [h]
   by_cases hroom : m + m2 ≤ c
   ·have hk : Blk w g e cur.toList := by unfold Blk; simpa using hh
    have hfit : o + m * s + 0 + ys.length ≤ cur.toList.length := by
     rw [hr.1]
     have h9 : (m + m2) * s ≤ c * s := Nat.mul_le_mul_right _ hroom
     rw [Nat.add_mul] at h9
     have : cur.toList.length = cur.size := Array.length_toList
     omega
    obtain ⟨w', g1, g2, g3, g4⟩ := run_storeAll (P := P) (b := g) (o := o + m * s) ys cur.toList 0 w hk hfit h1
    rw [Nat.add_zero] at g4 hfit
    have hfc := run_firstCells_some (P := P) w i.size m2 ⟨b2, o2, none⟩ m2 c2 ys (by rw [i2]; exact hr.1) hsrc
    refine ⟨some ⟨g, o, none⟩, c, w', ?_, ⟨by rw [List.length_append, hxl, hr.1, Nat.add_mul], .inr ⟨g, o, (setAll cur.toList (o + m * s) ys).toArray, rfl, hg, g4, hroom, hcm, by simp [setAll_length]; exact hcs, ?_⟩⟩, g2, fun ad ea => .inl ea⟩
    ·rw [i2] at hfc
     simp [Builtin.append_, run_underlying ht, sizeOf, typeInfo, i1, i2, Builtin.lenOf, hroom, hfc, Addr.add_lit, g1]
    ·simp only [List.toList_toArray]
     rw [setAll_eq _ _ _ hfit, ← htk]
     have hl1 : (cur.toList.take (o + m * s)).length = o + m * s := by rw [List.length_take]; omega
     have hys := hr.1
     have hcl : cur.toList.length = cur.size := Array.length_toList
     have h8 : (m + m2) * s = m * s + m2 * s := Nat.add_mul _ _ _
     rw [h8]
     apply List.ext_getElem?
     intro j
     simp only [List.getElem?_take, List.getElem?_append, List.getElem?_drop, List.length_append, List.length_take, List.length_drop, hys]
     grind
   ·have holds : ∀ j u, xs[j]? = some u → w.cell? ((⟨g, o, none⟩ : Addr).add j) = some u := fun j u hu => by
     have h9 := ho.rd.cell hu
     rw [← h9]
     congr 1
     unfold Addr.add adr
     by_cases h : j = 0 <;> simp [h]
    obtain ⟨v', w', g1, g2, g3⟩ := run_append_arg_grows (P := P) w t tt e i z s by_ ht i1 i4 i2 i3 hzs hsz ⟨g, o, none⟩ m c xs hxl holds ⟨b2, o2, none⟩ m2 c2 ys hr.1 hsrc (by omega) hb1 hb2
    obtain ⟨A', c', rfl, ho'⟩ := own_form g2
    have hext : Ext w w' := by have := Mod.of_grown g3; simpa using this
    refine ⟨A', c', w', g1, (Own.seg ho').weaken hb, hext.mono (fun x hx => by cases hx), fun ad ea => .inr (ho'.hi ad ea)⟩
theorem TL_append_g (E : Env P) (ho : Seg w base e s A m c xs) (hr : Rd w A2 m2 s ys) (h1 : ∀ u ∈ ys, u.oneCell' = true) (hx : ev st X = some (.slice A m c) := by exact rfl) (hy : ev st Y = some (.slice A2 m2 c2) := by exact rfl) (ht : E.und t = some (.slice e) := by exact rfl) (he : E.inf e = some (s, by_, z) := by exact rfl) (hzs : z.cells.size = s := by exact rfl) (hsz : Nat.blt 0 s = true := by exact rfl) (hd : Nat.blt d n = true := by exact rfl)
  (hb1 : m + m2 ≤ 140737488355328 := by omega) (hb2 : (m + m2) * by_ ≤ 140737488355328 := by omega) (hb : base ≤ w.heap.size := by first | assumption | omega)
  (hf : Fl q (rest.length + 1) := by first | exact trivial | exact rfl) (hq : ∀ w', Mod (blkL A) w w' → Kp q w' := by exact fun _ _ => trivial)
  (hk : ∀ A' c' w', Seg w' base e s A' (m + m2) c' (xs ++ ys) → Mod (blkL A) w w' → Near A A' w → TL q P fn R M n ((d, .slice A' (m + m2) c') :: st) ops rest k w') :
  TL q P fn R M n st ops (⟨some d, .call { callee := .builtin .append, args := #[X, Y], argTypes := #[t, t] }, ty, ps, af, none⟩ :: rest) k w := by
 obtain ⟨A', c', w', hrun, h2, h3, h4⟩ := run_append_seg (E.und_ok _ _ ht) (E.inf_ok _ _ _ _ he) hzs (by simpa [Nat.blt_eq] using hsz) ho hr h1 (by unfold maxLen; omega) hb2 hb (c2 := c2) ty
 refine TL_new (w' := w') hd (fun ρ h => ?_) hf (hq _ h3) (hk A' c' w' h2 h3 h4)
 simp only [execOp, resolve, invoke, builtin, Sem.run_bind, Sem.run_pure, Result.andThen_ok, List.map_toArray, List.map_cons, List.map_nil, h _ _ hx, h _ _ hy, hrun]
end
end Go.Proofs.Eng
namespace Go.Proofs.YtjlaomcankmdjaaGreat
open Go.RowKit Go.Proofs.Eng Go.Proofs.Codec Go.Proofs.Foot Go.Proofs.Journal
set_option linter.unusedVariables false set_option maxRecDepth 10000
attribute [local irreducible] T TL LV TH TA
structure SR where
 xb : Nat
 d : Nat
 sd : SL
 gd : Nat → Nat
 y : SL
 ys : List EM
 f : Nat
 fl : Nat
 k : DK
abbrev segC (r : SR) : List Value := [.int .i64 (r.f : Int), pB r.d, sL r.y, .int .i64 (r.fl : Int)]
def ptrs (l : List SR) : List Value := l.map fun r => pB r.xb
theorem ptrs_snoc (cs : List SR) (z : SR) : ptrs (cs ++ [z]) = ptrs cs ++ [pB z.xb] := by simp [ptrs]
structure SegV (w : World) (r : SR) : Prop where
 blk : Blk w r.xb 152 (segC r)
 rd : Rd w r.y.1 r.y.2.1 9 (rowV emV r.ys)
 ek : ∀ z ∈ r.ys, PLies w z.m ∧ PFit z.m.p
 hf : r.f ≤ 65536
 hn : r.ys.length ≤ 70000
 hl : r.fl ≤ 70000
structure ShV (w : World) (sb : Nat) (sz : Int) (R : SL) (rs : List SR) (ep : Int) : Prop where
 blk : Blk w sb 145 [.int .i64 sz, sL R, .int .i64 ep]
 row : Rd w R.1 R.2.1 1 (ptrs rs)
 seg : ∀ r ∈ rs, SegV w r
 cap : R.2.1 ≤ R.2.2
 ln : rs.length ≤ 1000000
structure SegM (w : World) (base : Nat) (h : Nat → Nat) (vx vy : Nat) (r : SR) : Prop where
 v : SegV w r
 dk : DiskM w base r.d 0 r.sd r.gd r.k
 ow : Own w base 47 9 r.y.1 r.y.2.1 r.y.2.2 (rowV emV r.ys)
 hx : h r.xb = vx
 hd : ∀ b, r.gd b ≠ 0 → h b = r.d + 7
 hw : ∀ b ∈ blkL r.y.1, h b = vy
 hm : ∀ z ∈ r.ys, ∀ b ∈ pmB z.m, h b = 3
structure ShC (w : World) (base sb : Nat) (sz : Int) (R : SL) (cs : List SR) (ep : Int) (h : Nat → Nat) : Prop where
 blk : Blk w sb 145 [.int .i64 sz, sL R, .int .i64 ep]
 row : Seg w base 148 1 R.1 R.2.1 R.2.2 (ptrs cs)
 cl : ∀ c ∈ cs, SegM w base h 3 3 c
 h1 : h sb = 1
 h6 : ∀ b ∈ blkL R.1, h b = 6
 old : ∀ b, h b ≠ 0 → base ≤ b ∧ b < w.heap.size
 nd : (cs.map (·.d)).Nodup
structure ShM (w : World) (base sb : Nat) (sz : Int) (R : SL) (cs : List SR) (z : SR) (ep : Int) (h : Nat → Nat) : Prop where
 blk : Blk w sb 145 [.int .i64 sz, sL R, .int .i64 ep]
 row : Seg w base 148 1 R.1 R.2.1 R.2.2 (ptrs (cs ++ [z]))
 cl : ∀ c ∈ cs, SegM w base h 3 3 c
 la : SegM w base h 2 5 z
 h1 : h sb = 1
 h6 : ∀ b ∈ blkL R.1, h b = 6
 old : ∀ b, h b ≠ 0 → base ≤ b ∧ b < w.heap.size
 nd : ((cs ++ [z]).map (·.d)).Nodup
theorem seg_bl {w : World} {base s n c : Nat} {e : TypeId} {A : Option Addr} {xs : List Value} (h : Seg w base e s A n c xs) : ∀ b ∈ blkL A, base ≤ b ∧ b < w.heap.size := fun b hb => ⟨Hi.mem h.hi b hb, Lo.mem h.lo b hb⟩
theorem seg_modL {w w' : World} {base s n c : Nat} {e : TypeId} {A : Option Addr} {xs : List Value} {S : List Nat} (h : Seg w base e s A n c xs) (hm : Eng.Mod S w w') (hS : ∀ b ∈ blkL A, b ∉ S) : Seg w' base e s A n c xs := h.mod hm (off_ofL hS)
section
variable {w w' w0 w1 w2 w3 : World} {base sb vx vy vx' vy' : Nat} {sz ep : Int} {R R' : SL} {cs : List SR} {z r : SR} {h h' g : Nat → Nat} {Z : List Nat}
theorem SegV.ext (S : SegV w r) (e : Ext w w') : SegV w' r := { S with blk := S.blk.be e, rd := S.rd.be e, ek := fun z hz => ⟨(S.ek z hz).1.be e, (S.ek z hz).2⟩ }
def segBl (r : SR) : List Nat := r.xb :: (blkL r.y.1 ++ (r.ys.map fun z => pmB z.m).flatten)
theorem SegV.mod (S : SegV w r) (m : Eng.Mod Z w w') (hZ : ∀ b ∈ segBl r, b ∉ Z) : SegV w' r :=
 { S with
  blk := S.blk.mod m (hZ _ List.mem_cons_self)
  rd := S.rd.mod m (off_ofL fun b hb => hZ b (List.mem_cons_of_mem _ (List.mem_append_left _ hb)))
  ek := fun z hz => ⟨(S.ek z hz).1.mod m (fun b hb => hZ b (List.mem_cons_of_mem _ (List.mem_append_right _ (List.mem_flatten.2 ⟨_, List.mem_map.2 ⟨z, hz, rfl⟩, hb⟩)))), (S.ek z hz).2⟩ }
theorem ShV.ext {rs : List SR} (S : ShV w sb sz R rs ep) (e : Ext w w') : ShV w' sb sz R rs ep := { S with blk := S.blk.be e, row := S.row.be e, seg := fun r hr => (S.seg r hr).ext e }
theorem SegM.modg (S : SegM w base h vx vy r) (m : Eng.Mod Z w w') (hZ : ∀ b ∈ Z, h b ≠ vx ∧ h b ≠ r.d + 7 ∧ h b ≠ vy ∧ h b ≠ 3) : SegM w' base h vx vy r :=
 have o : Own w' base 47 9 r.y.1 r.y.2.1 r.y.2.2 (rowV emV r.ys) := S.ow.modL m (fun b hb q => (hZ b q).2.2.1 (S.hw b hb))
 { S with
  v := { S.v with blk := S.v.blk.mod m (fun q => (hZ _ q).1 S.hx), rd := o.rd, ek := fun z hz => ⟨(S.v.ek z hz).1.mod m (fun b hb q => (hZ b q).2.2.2 (S.hm z hz b hb)), (S.v.ek z hz).2⟩ }
  dk := S.dk.mod m (fun b hb => by
   by_cases q : r.gd b = 0
   ·exact q
   ·exact absurd (S.hd b q) (hZ b hb).2.1)
  ow := o }
theorem SegM.ren (S : SegM w base h vx vy r) (e1 : ∀ b, h b = vx → h' b = vx') (e2 : ∀ b, h b = r.d + 7 → h' b = r.d + 7) (e3 : ∀ b, h b = vy → h' b = vy') (e4 : ∀ b, h b = 3 → h' b = 3) : SegM w base h' vx' vy' r :=
 { S with hx := e1 _ S.hx, hd := fun b hb => e2 b (S.hd b hb), hw := fun b hb => e3 b (S.hw b hb), hm := fun z hz b hb => e4 b (S.hm z hz b hb) }
theorem ShM.view (S : ShM w base sb sz R cs z ep h) (hc : cs.length ≤ 900000) : ShV w sb sz R (cs ++ [z]) ep :=
 ⟨S.blk, S.row.rd, fun r hr => (List.mem_append.1 hr).elim (fun q => (S.cl r q).v) (fun q => by rw [List.mem_singleton.1 q]; exact S.la.v), S.row.cap.1, by rw [List.length_append, List.length_singleton]; omega⟩
theorem ShM.len (S : ShM w base sb sz R cs z ep h) : R.2.1 = cs.length + 1 := by
 have := S.row.len
 unfold ptrs at this
 simp at this
 omega
theorem ShC.len (S : ShC w base sb sz R cs ep h) : R.2.1 = cs.length := by
 have := S.row.len
 unfold ptrs at this
 simp at this
 omega
theorem ShM.modz (S : ShM w base sb sz R cs z ep h) (m : Eng.Mod Z w w') (hZ : ∀ b ∈ Z, h b = 0) : ShM w' base sb sz R cs z ep h :=
 have nz : ∀ b k, h b = k + 1 → b ∉ Z := fun b k e q => by rw [hZ b q] at e; cases e
 { S with
  blk := S.blk.mod m (nz _ _ S.h1)
  row := seg_modL S.row m (fun b hb => nz b _ (S.h6 b hb))
  cl := fun c hc => (S.cl c hc).modg m (fun b hb => by have := hZ b hb; omega)
  la := S.la.modg m (fun b hb => by have := hZ b hb; omega)
  old := fun b hb => by have := S.old b hb; have := m.size; omega }
theorem ShM.ext (S : ShM w base sb sz R cs z ep h) (e : Ext w w') : ShM w' base sb sz R cs z ep h := S.modz e (fun b hb => by cases hb)
theorem ShC.modz (S : ShC w base sb sz R cs ep h) (m : Eng.Mod Z w w') (hZ : ∀ b ∈ Z, h b = 0) : ShC w' base sb sz R cs ep h :=
 have nz : ∀ b k, h b = k + 1 → b ∉ Z := fun b k e q => by rw [hZ b q] at e; cases e
 { S with
  blk := S.blk.mod m (nz _ _ S.h1)
  row := seg_modL S.row m (fun b hb => nz b _ (S.h6 b hb))
  cl := fun c hc => (S.cl c hc).modg m (fun b hb => by have := hZ b hb; omega)
  old := fun b hb => by have := S.old b hb; have := m.size; omega }
theorem ShC.ext (S : ShC w base sb sz R cs ep h) (e : Ext w w') : ShC w' base sb sz R cs ep h := S.modz e (fun b hb => by cases hb)
theorem ShM.dne (S : ShM w base sb sz R cs z ep h) {c : SR} (hc : c ∈ cs) : c.d ≠ z.d := fun q => by
 have := S.nd
 rw [List.map_append] at this
 have h2 := (List.nodup_append.1 this).2.2
 exact h2 c.d (List.mem_map.2 ⟨c, hc, rfl⟩) z.d (by simp) q
theorem nodup_d {a b : SR} : ∀ {l : List SR}, (l.map (·.d)).Nodup → a ∈ l → b ∈ l → a.d = b.d → a = b
 |x :: l, h, ha, hb, e => by
  rw [List.map_cons, List.nodup_cons] at h
  rcases List.mem_cons.1 ha with h1 | h1
  ·rcases List.mem_cons.1 hb with h2 | h2
   ·rw [h1, h2]
   ·exact absurd (List.mem_map.2 ⟨b, h2, by rw [← e, h1]⟩) h.1
  ·rcases List.mem_cons.1 hb with h2 | h2
   ·exact absurd (List.mem_map.2 ⟨a, h1, by rw [e, h2]⟩) h.1
   ·exact nodup_d h.2 h1 h2 e
theorem ShM.look (S : ShM w base sb sz R cs z ep h) (hr : r ∈ cs ++ [z]) (D : DiskM w' base r.d 0 r.sd r.gd r.k) (t : Tn r.gd r.gd w w') : ShM w' base sb sz R cs z ep h ∧ Tn h h w w' := by
 obtain ⟨⟨Z, m, s⟩, n, zz⟩ := t
 have hrd : ∀ b, r.gd b ≠ 0 → h b = r.d + 7 := (List.mem_append.1 hr).elim (fun q => (S.cl r q).hd) (fun q => by rw [List.mem_singleton.1 q]; exact S.la.hd)
 have hZ : ∀ b ∈ Z, h b = r.d + 7 := fun b hb => hrd b (s b hb)
 have one : ∀ {c : SR} {vx vy : Nat}, c ∈ cs ++ [z] → SegM w base h vx vy c → vx < 7 → vy < 7 → SegM w' base h vx vy c := fun {c vx vy} hc C h1 h2 => by
  by_cases q : c = r
  ·subst q
   have o : Own w' base 47 9 c.y.1 c.y.2.1 c.y.2.2 (rowV emV c.ys) := C.ow.modL m (fun b hb q => by have := hZ b q; have := C.hw b hb; omega)
   exact { C with
    v := { C.v with blk := C.v.blk.mod m (fun q => by have := hZ _ q; have := C.hx; omega), rd := o.rd, ek := fun u hu => ⟨(C.v.ek u hu).1.mod m (fun b hb q => by have := hZ b q; have := C.hm u hu b hb; omega), (C.v.ek u hu).2⟩ }
    dk := D
    ow := o }
  ·have hd : c.d ≠ r.d := fun e => q (nodup_d S.nd hc hr e)
   exact C.modg m (fun b hb => by have := hZ b hb; omega)
 exact ⟨{ S with
  blk := S.blk.mod m (fun q => by have := hZ _ q; have := S.h1; omega)
  row := seg_modL S.row m (fun b hb q => by have := hZ b q; have := S.h6 b hb; omega)
  cl := fun c hc => one (List.mem_append_left _ hc) (S.cl c hc) (by decide) (by decide)
  la := one (List.mem_append_right _ (List.mem_singleton.2 rfl)) S.la (by decide) (by decide)
  old := fun b hb => by have := S.old b hb; have := m.size; omega }, ⟨⟨_, m, fun b hb => by have := hZ b hb; omega⟩, fun b hb => .inl hb, m.size⟩⟩
theorem ShM.disk (S : ShM w base sb sz R cs z ep h) {sd' : SL} {gd' : Nat → Nat} {k' : DK} (D : DiskM w' base z.d 0 sd' gd' k') (t : Tn z.gd gd' w w') :
  ∃ h', ShM w' base sb sz R cs { z with sd := sd', gd := gd', k := k' } ep h' ∧ Tn h h' w w' := by
 obtain ⟨⟨Z, m, s⟩, n, zz⟩ := t
 have hZ : ∀ b ∈ Z, h b = z.d + 7 := fun b hb => S.la.hd b (s b hb)
 obtain ⟨h', hh⟩ : ∃ h' : Nat → Nat, h' = fun b => if gd' b = 0 then h b else z.d + 7 := ⟨_, rfl⟩
 have e4 : ∀ b, gd' b ≠ 0 → h' b = z.d + 7 := fun b hb => by rw [hh]; exact if_neg hb
 have eo : ∀ b v, v ≠ z.d + 7 → v ≠ 0 → h b = v → h' b = v := fun b v h4 h0 hb => by
  have : gd' b = 0 := by
   by_cases q : gd' b = 0
   ·exact q
   ·rcases n b q with q1 | q1
    ·have := S.la.hd b q1; omega
    ·have := (S.old b (by omega)).2; omega
  rw [hh]; simp only; rw [if_pos this]; exact hb
 refine ⟨h', ⟨S.blk.mod m (fun q => by have := hZ _ q; have := S.h1; omega), (by have q9 := seg_modL S.row m (fun b hb q => by have := hZ b q; have := S.h6 b hb; omega); rw [ptrs_snoc] at q9 ⊢; exact q9), fun c hc => ((S.cl c hc).modg m (fun b hb => by have := hZ b hb; have := S.dne hc; omega)).ren (fun b => eo b 3 (by omega) (by decide)) (fun b => eo b (c.d + 7) (by have := S.dne hc; omega) (by omega)) (fun b => eo b 3 (by omega) (by decide)) (fun b => eo b 3 (by omega) (by decide)), ?_, eo _ 1 (by omega) (by decide) S.h1, fun b hb => eo b 6 (by omega) (by decide) (S.h6 b hb), fun b hb => ?_, by have q := S.nd; rw [List.map_append] at q ⊢; exact q⟩, ⟨⟨Z, m, fun b hb => by have := hZ b hb; omega⟩, fun b hb => ?_, zz⟩⟩
 ·have o : Own w' base 47 9 z.y.1 z.y.2.1 z.y.2.2 (rowV emV z.ys) := S.la.ow.modL m (fun b hb q => by have := hZ b q; have := S.la.hw b hb; omega)
  refine ⟨⟨S.la.v.blk.mod m (fun q => by have := hZ _ q; have := S.la.hx; omega), o.rd, fun u hu => ⟨(S.la.v.ek u hu).1.mod m (fun b hb q => by have := hZ b q; have := S.la.hm u hu b hb; omega), (S.la.v.ek u hu).2⟩, S.la.v.hf, S.la.v.hn, S.la.v.hl⟩, D, o, eo _ 2 (by omega) (by decide) S.la.hx, e4, fun b hb => eo b 5 (by omega) (by decide) (S.la.hw b hb), fun u hu b hb => eo b 3 (by omega) (by decide) (S.la.hm u hu b hb)⟩
 ·by_cases q : gd' b = 0
  ·rw [hh] at hb; simp only at hb; rw [if_pos q] at hb
   have := S.old b hb; omega
  ·exact D.old b q
 ·by_cases q : gd' b = 0
  ·rw [hh] at hb; simp only at hb; rw [if_pos q] at hb; exact .inl hb
  ·rcases n b q with q1 | q1
   ·left; have := S.la.hd b q1; omega
   ·exact .inr q1
theorem ShM.setF (S : ShM w base sb sz R cs z ep h) {n : Nat} (m : Eng.Mod [z.xb] w w') (hb : Blk w' z.xb 152 (segC { z with fl := n })) (hn : n ≤ 70000) : ShM w' base sb sz R cs { z with fl := n } ep h ∧ Tn h h w w' := by
 have hZ : ∀ b ∈ [z.xb], h b = 2 := fun b hb => by rw [List.mem_singleton.1 hb]; exact S.la.hx
 have o : Own w' base 47 9 z.y.1 z.y.2.1 z.y.2.2 (rowV emV z.ys) := S.la.ow.modL m (fun b hb q => by have := hZ b q; have := S.la.hw b hb; omega)
 refine ⟨⟨S.blk.mod m (fun q => by have := hZ _ q; have := S.h1; omega), (by have q9 := seg_modL S.row m (fun b hb q => by have := hZ b q; have := S.h6 b hb; omega); rw [ptrs_snoc] at q9 ⊢; exact q9), fun c hc => (S.cl c hc).modg m (fun b hb => by have := hZ b hb; omega), ?_, S.h1, S.h6, fun b hb => by have := S.old b hb; have := m.size; omega, by have q := S.nd; rw [List.map_append] at q ⊢; exact q⟩, ⟨⟨_, m, fun b hb => by have := hZ b hb; omega⟩, fun b hb => .inl hb, m.size⟩⟩
 exact ⟨⟨hb, o.rd, fun u hu => ⟨(S.la.v.ek u hu).1.mod m (fun b hb q => by have := hZ b q; have := S.la.hm u hu b hb; omega), (S.la.v.ek u hu).2⟩, S.la.v.hf, S.la.v.hn, hn⟩, S.la.dk.mod m (fun b hb => by
  by_cases q : z.gd b = 0
  ·exact q
  ·have := S.la.hd b q; have := hZ b hb; omega), o, S.la.hx, S.la.hd, S.la.hw, S.la.hm⟩
theorem ShM.setS (S : ShM w base sb sz R cs z ep h) {ep' : Int} (m : Eng.Mod [sb] w w') (hb : Blk w' sb 145 [.int .i64 sz, sL R, .int .i64 ep']) : ShM w' base sb sz R cs z ep' h ∧ Tn h h w w' := by
 have hZ : ∀ b ∈ [sb], h b = 1 := fun b hb => by rw [List.mem_singleton.1 hb]; exact S.h1
 exact ⟨⟨hb, seg_modL S.row m (fun b hb q => by have := hZ b q; have := S.h6 b hb; omega), fun c hc => (S.cl c hc).modg m (fun b hb => by have := hZ b hb; omega), S.la.modg m (fun b hb => by have := hZ b hb; omega), S.h1, S.h6, fun b hb => by have := S.old b hb; have := m.size; omega, S.nd⟩, ⟨⟨_, m, fun b hb => by have := hZ b hb; omega⟩, fun b hb => .inl hb, m.size⟩⟩
theorem ShM.cut (S : ShM w base sb sz R (r :: cs) z ep h) {A : Option Addr} (hA : A = cutA R.1 R.2.2 1 1) (m : Eng.Mod [sb] w w') (hb : Blk w' sb 145 [.int .i64 sz, .slice A (R.2.1 - 1) (R.2.2 - 1), .int .i64 ep]) : ShM w' base sb sz (A, R.2.1 - 1, R.2.2 - 1) cs z ep h ∧ Tn h h w w' := by
 subst hA
 have hZ : ∀ b ∈ [sb], h b = 1 := fun b hb => by rw [List.mem_singleton.1 hb]; exact S.h1
 have hl := S.len
 have hc := S.row.cut (l := 1) (by omega)
 have h6 : ∀ b ∈ blkL (cutA R.1 R.2.2 1 1), h b = 6 := fun b hb => by
  refine S.h6 b ?_
  unfold cutA at hb
  split at hb
  ·exact hb
  ·cases hR : R.1 with
   |none => rw [hR] at hb; cases hb
   |some a => rw [hR] at hb; simpa [blkL, Addr.add] using hb
 exact ⟨⟨hb, seg_modL hc m (fun b hb q => by have := hZ b q; have := h6 b hb; omega), fun c hc => (S.cl c (List.mem_cons_of_mem _ hc)).modg m (fun b hb => by have := hZ b hb; omega), S.la.modg m (fun b hb => by have := hZ b hb; omega), S.h1, h6, fun b hb => by have := S.old b hb; have := m.size; omega, (List.nodup_cons.1 S.nd).2⟩, ⟨⟨_, m, fun b hb => by have := hZ b hb; omega⟩, fun b hb => .inl hb, m.size⟩⟩
theorem tn_behind {o o' o2 : Nat → Nat} (h1 : Tn o o' w w') (hm : ∃ Z, Eng.Mod Z w' w2 ∧ ∀ b ∈ Z, o' b ≠ 0) (hn : ∀ b, o2 b ≠ 0 → o' b ≠ 0 ∨ w.heap.size ≤ b) : Tn o o2 w w2 := by
 have t := h1.trans (o2 := o') ⟨hm, fun b hb => .inl hb, by obtain ⟨Z, m, _⟩ := hm; exact m.size⟩
 refine ⟨t.1, fun b hb => ?_, t.2.2⟩
 rcases hn b hb with q | q
 ·exact t.2.1 b q
 ·exact .inr q
theorem ShM.push (S : ShM w base sb sz R cs z ep h) {zs : List EM} {y' : SL} (X : ∀ u ∈ zs, POwn w base u.m ∧ PFit u.m.p ∧ ∀ b ∈ pmB u.m, h b = 0) (m2 : Eng.Mod (blkL z.y.1) w w2) (ho : Own w2 base 47 9 y'.1 y'.2.1 y'.2.2 (rowV emV (z.ys ++ zs))) (hn : Near z.y.1 y'.1 w) (m3 : Eng.Mod [z.xb] w2 w3) (hb : Blk w3 z.xb 152 (segC { z with y := y', ys := z.ys ++ zs })) (hl : (z.ys ++ zs).length ≤ 70000) :
  ∃ h', ShM w3 base sb sz R cs { z with y := y', ys := z.ys ++ zs } ep h' ∧ (∃ Z, Eng.Mod Z w w3 ∧ ∀ b ∈ Z, h b ≠ 0) ∧ ∀ b, h' b ≠ 0 → h b ≠ 0 ∨ w.heap.size ≤ b ∨ ∃ u ∈ zs, b ∈ pmB u.m := by
 have z2 := m2.size
 have z3 := m3.size
 have M : Eng.Mod (z.xb :: blkL z.y.1) w w3 := (m2.mono (S' := z.xb :: blkL z.y.1) (fun b hb => .inl (List.mem_cons_of_mem _ hb))).step m3 (fun b hb => .inl (by rw [List.mem_singleton.1 hb]; exact List.mem_cons_self))
 have hZ : ∀ b ∈ z.xb :: blkL z.y.1, h b = 2 ∨ h b = 5 := fun b hb => (List.mem_cons.1 hb).elim (fun q => by rw [q]; exact .inl S.la.hx) (fun q => .inr (S.la.hw b q))
 have hz : ∀ b, w.heap.size ≤ b → h b = 0 := fun b hb => by
  by_cases q : h b = 0
  ·exact q
  ·have := (S.old b q).2; omega
 have hn' : ∀ b ∈ blkL y'.1, b ∈ blkL z.y.1 ∨ w.heap.size ≤ b := fun b hb => Near.mem hn b hb
 have hXb : ∀ u ∈ zs, ∀ b ∈ pmB u.m, base ≤ b ∧ b < w.heap.size := fun u hu b hb => (X u hu).1.bl b hb
 obtain ⟨h', hh⟩ : ∃ h' : Nat → Nat, h' = fun b => if ∃ u ∈ zs, b ∈ pmB u.m then 3 else if b ∈ blkL y'.1 then 5 else h b := ⟨_, rfl⟩
 have e3 : ∀ u ∈ zs, ∀ b ∈ pmB u.m, h' b = 3 := fun u hu b hb => by rw [hh]; exact if_pos ⟨u, hu, hb⟩
 have e5 : ∀ b ∈ blkL y'.1, h' b = 5 := fun b hb => by
  have q : ¬ ∃ u ∈ zs, b ∈ pmB u.m := fun ⟨u, hu, q⟩ => by
   have h1 := hXb u hu b q
   rcases hn' b hb with y | y
   ·have := S.la.hw b y; have := (X u hu).2.2 b q; omega
   ·omega
  rw [hh]; simp only; rw [if_neg q, if_pos hb]
 have eo : ∀ b v, v ≠ 0 → h b = v → h' b = v := fun b v h0 hb => by
  have q : ¬ ∃ u ∈ zs, b ∈ pmB u.m := fun ⟨u, hu, q⟩ => by have := (X u hu).2.2 b q; omega
  rw [hh]; simp only; rw [if_neg q]
  by_cases q2 : b ∈ blkL y'.1
  ·rw [if_pos q2]
   rcases hn' b q2 with y | y
   ·have := S.la.hw b y; omega
   ·have := hz b y; omega
  ·rw [if_neg q2]; exact hb
 have hnz : ∀ b, h' b ≠ 0 → h b ≠ 0 ∨ w.heap.size ≤ b ∨ ∃ u ∈ zs, b ∈ pmB u.m := fun b hb => by
  by_cases q : ∃ u ∈ zs, b ∈ pmB u.m
  ·exact .inr (.inr q)
  ·by_cases q2 : b ∈ blkL y'.1
   ·rcases hn' b q2 with y | y
    ·left; have := S.la.hw b y; omega
    ·exact .inr (.inl y)
   ·rw [hh] at hb; simp only at hb; rw [if_neg q, if_neg q2] at hb; exact .inl hb
 have hxy : z.xb ∉ blkL y'.1 := fun q => by
  rcases hn' _ q with y | y
  ·have := S.la.hw _ y; have := S.la.hx; omega
  ·have := hz _ y; have := S.la.hx; omega
 refine ⟨h', ⟨S.blk.mod M (fun q => by have := hZ _ q; have := S.h1; omega), (by have q9 := seg_modL S.row M (fun b hb q => by have := hZ b q; have := S.h6 b hb; omega); rw [ptrs_snoc] at q9 ⊢; exact q9), fun c hc => ((S.cl c hc).modg M (fun b hb => by have := hZ b hb; omega)).ren (fun b => eo b 3 (by decide)) (fun b => eo b (c.d + 7) (by omega)) (fun b => eo b 3 (by decide)) (fun b => eo b 3 (by decide)), ?_, eo _ 1 (by decide) S.h1, fun b hb => eo b 6 (by decide) (S.h6 b hb), fun b hb => ?_, by have q := S.nd; rw [List.map_append] at q ⊢; exact q⟩, ⟨_, M, fun b hb => by have := hZ b hb; omega⟩, hnz⟩
 ·have o : Own w3 base 47 9 y'.1 y'.2.1 y'.2.2 (rowV emV (z.ys ++ zs)) := ho.modL m3 (fun b hb q => hxy (by rw [List.mem_singleton] at q; rw [← q]; exact hb))
  refine ⟨⟨hb, o.rd, fun u hu => ?_, S.la.v.hf, hl, S.la.v.hl⟩, S.la.dk.mod M (fun b hb => ?_), o, eo _ 2 (by decide) S.la.hx, fun b hb => eo b (z.d + 7) (by omega) (S.la.hd b hb), e5, fun u hu => ?_⟩
  ·rcases List.mem_append.1 hu with q | q
   ·exact ⟨(S.la.v.ek u q).1.mod M (fun b hb q2 => by have := hZ b q2; have := S.la.hm u q b hb; omega), (S.la.v.ek u q).2⟩
   ·exact ⟨(X u q).1.lies.mod M (fun b hb q2 => by have := hZ b q2; have := (X u q).2.2 b hb; omega), (X u q).2.1⟩
  ·by_cases q : z.gd b = 0
   ·exact q
   ·have := S.la.hd b q; have := hZ b hb; omega
  ·rcases List.mem_append.1 hu with q | q
   ·exact fun b hb => eo b 3 (by decide) (S.la.hm u q b hb)
   ·exact e3 u q
 ·rcases hnz b hb with q | q | ⟨u, hu, q⟩
  ·have := S.old b q; omega
  ·by_cases q2 : b ∈ blkL y'.1
   ·have := ho.bl b q2; omega
   ·exfalso
    have h0 := hz b q
    rw [hh] at hb; simp only at hb
    rw [if_neg (fun ⟨u, hu, q3⟩ => by have := hXb u hu b q3; omega), if_neg q2] at hb
    exact hb h0
  ·have := hXb u hu b q; omega
theorem ShM.close (S : ShM w base sb sz R cs z ep h) : ∃ h', ShC w base sb sz R (cs ++ [z]) ep h' ∧ ∀ b, h' b = 0 ↔ h b = 0 := by
 obtain ⟨h', hh⟩ : ∃ h' : Nat → Nat, h' = fun b => if h b = 2 ∨ h b = 5 then 3 else h b := ⟨_, rfl⟩
 have e2 : ∀ b, h b = 2 → h' b = 3 := fun b hb => by rw [hh]; exact if_pos (.inl hb)
 have e5 : ∀ b, h b = 5 → h' b = 3 := fun b hb => by rw [hh]; exact if_pos (.inr hb)
 have eo : ∀ b v, v ≠ 2 → v ≠ 5 → h b = v → h' b = v := fun b v a1 a3 hb => by rw [hh]; simp only; rw [if_neg (by omega)]; exact hb
 have hz : ∀ b, h' b = 0 ↔ h b = 0 := fun b => by rw [hh]; simp only; split <;> omega
 refine ⟨h', ⟨S.blk, S.row, fun c hc => ?_, eo _ 1 (by decide) (by decide) S.h1, fun b hb => eo b 6 (by decide) (by decide) (S.h6 b hb), fun b hb => S.old b (fun q => hb ((hz b).2 q)), S.nd⟩, hz⟩
 rcases List.mem_append.1 hc with q | q
 ·exact (S.cl c q).ren (fun b => eo b 3 (by decide) (by decide)) (fun b => eo b (c.d + 7) (by omega) (by omega)) (fun b => eo b 3 (by decide) (by decide)) (fun b => eo b 3 (by decide) (by decide))
 ·rw [List.mem_singleton.1 q]
  exact S.la.ren e2 (fun b => eo b (z.d + 7) (by omega) (by omega)) e5 (fun b => eo b 3 (by decide) (by decide))
theorem ShC.add (S : ShC w0 base sb sz R cs ep h) (e1 : Ext w0 w1) (D : DiskM w1 w0.heap.size r.d 0 r.sd r.gd r.k) (hb : Blk w1 r.xb 152 (segC r)) (hx : w0.heap.size ≤ r.xb) (hg : r.gd r.xb = 0) (hy : r.y = (none, 0, 0)) (hys : r.ys = []) (hf : r.f ≤ 65536) (hfl : r.fl = 0)
  (m2 : Eng.Mod (blkL R.1) w1 w2) (ho : Seg w2 base 148 1 R'.1 R'.2.1 R'.2.2 (ptrs (cs ++ [r]))) (hn : Near R.1 R'.1 w1) (m3 : Eng.Mod [sb] w2 w3) (hs : Blk w3 sb 145 [.int .i64 sz, sL R', .int .i64 ep]) :
  ∃ h', ShM w3 base sb sz R' cs r ep h' ∧ Tn h h' w0 w3 := by
 have z1 := e1.size
 have z2 := m2.size
 have z3 := m3.size
 have hbs : base ≤ w0.heap.size := by have := S.old sb (by rw [S.h1]; decide); omega
 have hz : ∀ b, w0.heap.size ≤ b → h b = 0 := fun b hb => by
  by_cases q : h b = 0
  ·exact q
  ·have := (S.old b q).2; omega
 have hD : ∀ b, r.gd b ≠ 0 → w0.heap.size ≤ b ∧ b < w1.heap.size := fun b hb => D.old b hb
 have hxl := hb.lt
 have hn' : ∀ b ∈ blkL R'.1, b ∈ blkL R.1 ∨ w1.heap.size ≤ b := fun b hb => Near.mem hn b hb
 have M13 : Eng.Mod (sb :: blkL R.1) w1 w3 := (m2.mono (S' := sb :: blkL R.1) (fun b hb => .inl (List.mem_cons_of_mem _ hb))).step m3 (fun b hb => .inl (by rw [List.mem_singleton.1 hb]; exact List.mem_cons_self))
 have M : Eng.Mod (sb :: blkL R.1) w0 w3 := (e1.mono (S' := sb :: blkL R.1) (fun b hb => by cases hb)).step M13 (fun b hb => .inl hb)
 have hZ : ∀ b ∈ sb :: blkL R.1, h b = 1 ∨ h b = 6 := fun b hb => (List.mem_cons.1 hb).elim (fun q => by rw [q]; exact .inl S.h1) (fun q => .inr (S.h6 b q))
 have hZl : ∀ b ∈ sb :: blkL R.1, b < w0.heap.size := fun b hb => (S.old b (by have := hZ b hb; omega)).2
 obtain ⟨h', hh⟩ : ∃ h' : Nat → Nat, h' = fun b => if b = r.xb then 2 else if r.gd b ≠ 0 then r.d + 7 else if b ∈ blkL R'.1 then 6 else h b := ⟨_, rfl⟩
 have e2 : h' r.xb = 2 := by rw [hh]; exact if_pos rfl
 have e4 : ∀ b, r.gd b ≠ 0 → h' b = r.d + 7 := fun b hb => by
  rw [hh]; simp only; rw [if_neg (fun q => hb (by rw [q]; exact hg)), if_pos hb]
 have e6 : ∀ b ∈ blkL R'.1, h' b = 6 := fun b hb => by
  have q1 : ¬ b = r.xb := fun q => by
   rcases hn' b hb with y | y
   ·have := S.h6 b y; have := hz b (by omega); omega
   ·omega
  have q2 : ¬ r.gd b ≠ 0 := fun q => by
   have := hD b q
   rcases hn' b hb with y | y
   ·have := S.h6 b y; have := hz b (by omega); omega
   ·omega
  rw [hh]; simp only; rw [if_neg q1, if_neg q2, if_pos hb]
 have eo : ∀ b v, v ≠ 0 → h b = v → h' b = v := fun b v h0 hb => by
  have q0 : b < w0.heap.size := (S.old b (by omega)).2
  have q1 : ¬ b = r.xb := fun q => by omega
  have q2 : ¬ r.gd b ≠ 0 := fun q => by have := hD b q; omega
  rw [hh]; simp only; rw [if_neg q1, if_neg q2]
  by_cases q3 : b ∈ blkL R'.1
  ·rw [if_pos q3]
   rcases hn' b q3 with y | y
   ·have := S.h6 b y; omega
   ·omega
  ·rw [if_neg q3]; exact hb
 have hnz : ∀ b, h' b ≠ 0 → h b ≠ 0 ∨ w0.heap.size ≤ b := fun b hb => by
  by_cases q : w0.heap.size ≤ b
  ·exact .inr q
  ·left
   have q1 : ¬ b = r.xb := fun q => by omega
   have q2 : ¬ r.gd b ≠ 0 := fun q => by have := hD b q; omega
   rw [hh] at hb; simp only at hb; rw [if_neg q1, if_neg q2] at hb
   by_cases q3 : b ∈ blkL R'.1
   ·rcases hn' b q3 with y | y
    ·have := S.h6 b y; omega
    ·omega
   ·rw [if_neg q3] at hb; exact hb
 have hsn : sb ∉ blkL R'.1 := fun q => by
  rcases hn' _ q with y | y
  ·have := S.h6 _ y; have := S.h1; omega
  ·have := hZl sb List.mem_cons_self; omega
 refine ⟨h', ⟨hs, seg_modL ho m3 (fun b hb q => hsn (by rw [List.mem_singleton] at q; rw [← q]; exact hb)), fun c hc => ((S.cl c hc).modg M (fun b hb => by have := hZ b hb; omega)).ren (fun b => eo b 3 (by decide)) (fun b => eo b (c.d + 7) (by omega)) (fun b => eo b 3 (by decide)) (fun b => eo b 3 (by decide)), ?_, eo _ 1 (by decide) S.h1, e6, fun b hb => ?_, ?_⟩, ⟨⟨_, M, fun b hb => by have := hZ b hb; omega⟩, hnz, by omega⟩⟩
 ·have o : Own w3 base 47 9 r.y.1 r.y.2.1 r.y.2.2 (rowV emV r.ys) := by rw [hy, hys]; exact Own.nil _ _ _ _
  have D3 := D.mod M13 (fun b hb => by
   by_cases q : r.gd b = 0
   ·exact q
   ·have := hD b q; have := hZl b hb; omega)
  refine ⟨⟨hb.mod M13 (fun q => by have := hZl _ q; omega), o.rd, fun u hu => (by rw [hys] at hu; cases hu), hf, by rw [hys]; exact Nat.zero_le _, by rw [hfl]; exact Nat.zero_le _⟩, { D3 with ow := Own.weaken D3.ow hbs, old := fun b hb => by have := D3.old b hb; omega }, o, e2, e4, fun b hb => (by rw [hy] at hb; cases hb), fun u hu => (by rw [hys] at hu; cases hu)⟩
 ·by_cases q : b = r.xb
  ·omega
  ·by_cases q2 : r.gd b ≠ 0
   ·have := hD b q2; omega
   ·by_cases q3 : b ∈ blkL R'.1
    ·have := seg_bl ho b q3; omega
    ·rw [hh] at hb; simp only at hb; rw [if_neg q, if_neg q2, if_neg q3] at hb
     have := S.old b hb; omega
 ·rw [List.map_append, List.nodup_append]
  refine ⟨S.nd, by simp, fun a ha b hb e => ?_⟩
  obtain ⟨c, hc, rfl⟩ := List.mem_map.1 ha
  have hb : b = r.d := by simpa using hb
  have h1 := (S.cl c hc).dk.g1
  have h2 := (S.old c.d (by rw [(S.cl c hc).hd c.d (by rw [h1]; decide)]; omega)).2
  have h3 := (D.old r.d (by rw [D.g1]; decide)).1
  omega
end
end Go.Proofs.YtjlaomcankmdjaaGreat
namespace Go.Proofs.YtjlaomcankmdjaaGreat
open Go.Proofs.Eng Go.Proofs.Codec Go.Proofs.Foot Go.Proofs.Journal
structure SgOk (L : LE) (l : List EP) (r : SR) : Prop where
 f : r.f = L.l.length
 es : r.ys.map emE = entsF L l
 b : r.k.b = segB L l
 off : r.k.off = false
 lf : r.k.lf = -1
def ChainS (sz : Nat) : LE → List (List EP) → List SR → LE → Prop
 | L, [], [], L' => L' = L
 | L, l :: ls, r :: rs, L' => (SgOk L l r ∧ r.k.sf = r.k.b.length ∧ sz ≤ r.k.b.length) ∧ ChainS sz (logF L l) ls rs L'
 | _, _, _, _ => False
theorem GoodF_app : ∀ {L : LE} {a b : List EP}, GoodF L (a ++ b) ↔ GoodF L a ∧ GoodF (logF L a) b
 | L, [], b => by simp [GoodF, logF]
 | L, x :: a, b => by
  rw [List.cons_append, GoodF, GoodF, GoodF_app, and_assoc]
  rfl
theorem ChainS.snoc {sz : Nat} : ∀ {L L' : LE} {ls : List (List EP)} {rs : List SR} {l : List EP} {r : SR}, ChainS sz L ls rs L' → SgOk L' l r → r.k.sf = r.k.b.length → sz ≤ r.k.b.length → ChainS sz L (ls ++ [l]) (rs ++ [r]) (logF L' l)
 | L, L', [], [], l, r, h, a, b, c => by
  cases h
  exact ⟨⟨a, b, c⟩, rfl⟩
 | L, L', _ :: ls, x :: rs, l, r, h, a, b, c => ⟨h.1, ChainS.snoc h.2 a b c⟩
 | L, L', [], _ :: _, l, r, h, a, b, c => h.elim
 | L, L', _ :: _, [], l, r, h, a, b, c => h.elim
theorem ChainS.ents {sz : Nat} : ∀ {L L' : LE} {ls : List (List EP)} {rs : List SR}, ChainS sz L ls rs L' → (rs.map fun r => r.ys.map emE).flatten = entsF L ls.flatten ∧ L' = logF L ls.flatten
 | L, L', [], [], h => ⟨rfl, by cases h; rfl⟩
 | L, L', l :: ls, x :: rs, h => by
  obtain ⟨h1, h2⟩ := ChainS.ents h.2
  rw [List.map_cons, List.flatten_cons, h1, h.1.1.es, List.flatten_cons, entsF_app, logF_app]
  exact ⟨rfl, h2⟩
 | L, L', [], _ :: _, h => h.elim
 | L, L', _ :: _, [], h => h.elim
theorem ChainS.size {sz : Nat} : ∀ {L L' : LE} {ls : List (List EP)} {rs : List SR}, ChainS sz L ls rs L' → ∀ r ∈ rs, sz ≤ r.k.b.length ∧ r.k.off = false
 | L, L', [], [], h, r, hr => by cases hr
 | L, L', l :: ls, x :: rs, h, r, hr => by
  rcases List.mem_cons.1 hr with rfl | hr
  ·exact ⟨h.1.2.2, h.1.1.off⟩
  ·exact ChainS.size h.2 r hr
 | L, L', [], _ :: _, h, r, hr => h.elim
 | L, L', _ :: _, [], h, r, hr => h.elim
structure HI (sz : Nat) (cs : List SR) (z : SR) (ep : Int) (pre : List EP) (ls : List (List EP)) (l : List EP) (m : Nat) : Prop where
 g : GoodF L0 ((pre ++ ls.flatten) ++ l)
 ch : ChainS sz (logF L0 pre) ls cs (logF L0 (pre ++ ls.flatten))
 la : SgOk (logF L0 (pre ++ ls.flatten)) l z
 hm : m ≤ l.length
 sf : z.k.sf = (segB (logF L0 (pre ++ ls.flatten)) (l.take m)).length
 fl : z.fl = (entsF (logF L0 (pre ++ ls.flatten)) (l.take m)).length
 ep : ep = (logF L0 ((pre ++ ls.flatten) ++ l)).ep
abbrev allE (pre : List EP) (ls : List (List EP)) (l : List EP) : LE := logF L0 ((pre ++ ls.flatten) ++ l)
section
variable {sz m : Nat} {cs : List SR} {z z' : SR} {ep : Int} {pre : List EP} {ls : List (List EP)} {l : List EP}
theorem HI.okL (H : HI sz cs z ep pre ls l m) : LOk (logF L0 (pre ++ ls.flatten)) ∧ GoodF (logF L0 (pre ++ ls.flatten)) l := by
 have h := GoodF_app.1 H.g
 exact ⟨logF_ok L0_ok h.1, h.2⟩
theorem HI.ok (H : HI sz cs z ep pre ls l m) : LOk (allE pre ls l) := logF_ok L0_ok H.g
theorem HI.okP (H : HI sz cs z ep pre ls l m) : LOk (logF L0 pre) := logF_ok L0_ok (GoodF_app.1 (GoodF_app.1 H.g).1).1
theorem HI.all (H : HI sz cs z ep pre ls l m) : (allE pre ls l).l = (logF L0 (pre ++ ls.flatten)).l ++ entsF (logF L0 (pre ++ ls.flatten)) l := by
 show (logF L0 ((pre ++ ls.flatten) ++ l)).l = _
 rw [logF_app, logF_ents]
theorem HI.next (H : HI sz cs z ep pre ls l m) : z.f + z.ys.length = (allE pre ls l).l.length := by
 have h1 := congrArg List.length H.la.es
 rw [List.length_map] at h1
 rw [H.all, List.length_append, H.la.f, h1]
theorem HI.flushed (H : HI sz cs z ep pre ls l m) : z.f + z.fl = (logF L0 ((pre ++ ls.flatten) ++ l.take m)).l.length := by
 rw [logF_app, logF_ents, List.length_append, H.la.f, H.fl]
theorem HI.write (H : HI sz cs z ep pre ls l m) {e : EP} (g : GoodE (allE pre ls l) e) (h1 : z'.f = z.f) (h2 : z'.ys.map emE = z.ys.map emE ++ newE (allE pre ls l) e.1 e.2) (h3 : z'.k = { z.k with b := z.k.b ++ cat (loadsE (allE pre ls l) e) }) (h4 : z'.fl = z.fl) : HI sz cs z' e.1 pre ls (l ++ [e]) m := by
 refine ⟨by rw [← List.append_assoc]; exact GoodF_snoc H.g g, H.ch, ⟨by rw [h1]; exact H.la.f, ?_, ?_, by rw [h3]; exact H.la.off, by rw [h3]; exact H.la.lf⟩, by have := H.hm; rw [List.length_append]; omega, ?_, ?_, ?_⟩
 ·rw [h2, H.la.es, entsF_snoc, ← logF_app]
 ·rw [h3]
  simp only
  rw [H.la.b, segB_snoc, ← logF_app]
 ·rw [h3, List.take_append_of_le_length H.hm]; exact H.sf
 ·rw [h4, List.take_append_of_le_length H.hm]; exact H.fl
 ·rw [← List.append_assoc, logF_snoc]
  rfl
theorem HI.flush (H : HI sz cs z ep pre ls l m) (h1 : z'.f = z.f) (h2 : z'.ys = z.ys) (h3 : z'.k = { z.k with sf := z.k.b.length }) (h4 : z'.fl = z.ys.length) : HI sz cs z' ep pre ls l l.length := by
 refine ⟨H.g, H.ch, ⟨by rw [h1]; exact H.la.f, by rw [h2]; exact H.la.es, by rw [h3]; exact H.la.b, by rw [h3]; exact H.la.off, by rw [h3]; exact H.la.lf⟩, Nat.le_refl _, ?_, ?_, H.ep⟩
 ·rw [h3, List.take_length]
  simp only
  rw [H.la.b]
 ·have h5 := congrArg List.length H.la.es
  rw [List.length_map] at h5
  rw [h4, List.take_length, h5]
theorem flat_snoc (ls : List (List EP)) (l : List EP) : (ls ++ [l]).flatten = ls.flatten ++ l := by simp
theorem HI.add (H : HI sz cs z ep pre ls l l.length) (hs : sz ≤ z.k.b.length) (h1 : z'.f = (allE pre ls l).l.length) (h2 : z'.ys = []) (h3 : z'.k = ⟨frame (headL (allE pre ls l).l.length ep), (frame (headL (allE pre ls l).l.length ep)).length, -1, false⟩) (h4 : z'.fl = 0) : HI sz (cs ++ [z]) z' ep pre (ls ++ [l]) [] 0 := by
 have hf : (pre ++ (ls ++ [l]).flatten) = (pre ++ ls.flatten) ++ l := by rw [flat_snoc, List.append_assoc]
 have hb : segB (allE pre ls l) [] = frame (headL (allE pre ls l).l.length ep) := by
  show frame (headL (allE pre ls l).l.length (allE pre ls l).ep) ++ [] = _
  rw [List.append_nil, H.ep]
 have hch := H.ch.snoc H.la (by rw [H.sf, List.take_length, H.la.b]) hs
 rw [← logF_app] at hch
 refine ⟨by rw [hf, List.append_nil]; exact H.g, by rw [hf]; exact hch, ?_, Nat.le_refl _, ?_, ?_, by rw [hf, List.append_nil]; exact H.ep⟩
 ·rw [hf]
  exact ⟨h1, by rw [h2]; rfl, by rw [h3, hb], by rw [h3], by rw [h3]⟩
 ·rw [hf, h3]
  show _ = (segB (allE pre ls l) []).length
  rw [hb]
 ·rw [h4]; rfl
theorem HI.trim {c : SR} (H : HI sz (c :: cs) z ep pre ls l m) : ∃ l0 ls', ls = l0 :: ls' ∧ HI sz cs z ep (pre ++ l0) ls' l m ∧ (pre ++ l0) ++ ls'.flatten = pre ++ ls.flatten := by
 cases ls with
 |nil => exact H.ch.elim
 |cons l0 ls' =>
  have hf : (pre ++ (l0 :: ls').flatten) = (pre ++ l0) ++ ls'.flatten := by rw [List.flatten_cons, List.append_assoc]
  obtain ⟨g, ch, la, hm, sf, fl, hep⟩ := H
  rw [hf] at g ch la sf fl hep
  rw [hf]
  have ch2 := ch.2
  rw [← logF_app] at ch2
  exact ⟨l0, ls', rfl, ⟨g, ch2, la, hm, sf, fl, hep⟩, rfl⟩
theorem HI.ents (H : HI sz cs z ep pre ls l m) : (logF L0 pre).l ++ ((cs ++ [z]).map fun r => r.ys.map emE).flatten = (allE pre ls l).l := by
 obtain ⟨h1, h2⟩ := H.ch.ents
 rw [H.all, List.map_append, List.flatten_append, h1, List.map_singleton, List.flatten_singleton, H.la.es, ← List.append_assoc, ← logF_ents, ← logF_app]
theorem HI.first (H : HI sz cs z ep pre ls l m) : ((cs ++ [z]).getD 0 z).f = (logF L0 pre).l.length := by
 obtain ⟨g, ch, la, hm, sf, fl, hep⟩ := H
 cases cs with
 |nil =>
  cases ls with
  |nil => simpa using la.f
  |cons a b => exact ch.elim
 |cons c cs =>
  cases ls with
  |nil => exact ch.elim
  |cons a b => exact ch.1.1.f
theorem HI.start {sz : Nat} {z : SR} (h1 : z.f = 0) (h2 : z.ys = []) (h3 : z.k = ⟨frame (headL 0 0), (frame (headL 0 0)).length, -1, false⟩) (h4 : z.fl = 0) : HI sz [] z 0 [] [] [] 0 := by
 have hb : segB L0 [] = frame (headL 0 0) := by
  unfold segB segL L0
  simp [loadsF, cat]
 refine ⟨trivial, rfl, ⟨h1, by rw [h2]; rfl, ?_, by rw [h3], by rw [h3]⟩, Nat.le_refl _, ?_, by rw [h4]; rfl, rfl⟩
 ·rw [h3]; exact hb.symm
 ·rw [h3]; exact congrArg List.length hb.symm
end
def fromE (l : List EE) (n : Int) : List EE := l.filter fun e => decide (n ≤ e.sq)
theorem fromE_drop (n : Int) : ∀ (l : List EE) (p : Nat), (∀ i (h : i < l.length), l[i].sq = ((p + i : Nat) : Int)) → fromE l n = l.drop (n - (p : Int)).toNat
 | [], p, h => by simp [fromE]
 |e :: l, p, h => by
  have h0 := h 0 (by simp)
  simp only [List.getElem_cons_zero, Nat.add_zero] at h0
  have ih := fromE_drop n l (p + 1) (fun i hi => by
   have := h (i + 1) (by simpa using hi)
   simp only [List.getElem_cons_succ] at this
   rw [this]; omega)
  unfold fromE at ih ⊢
  rw [List.filter_cons]
  by_cases q : n ≤ e.sq
  ·rw [if_pos (by simpa using q), ih, show (n - ((p + 1 : Nat) : Int)).toNat = 0 by omega, show (n - (p : Int)).toNat = 0 by omega]
   rfl
  ·rw [if_neg (by simpa using q), ih, show (n - (p : Int)).toNat = (n - ((p + 1 : Nat) : Int)).toNat + 1 by omega]
   rfl
theorem LOk.at {L : LE} (h : LOk L) (i : Nat) (hi : i < L.l.length) : L.l[i].sq = ((i : Nat) : Int) := by
 have := Run.at h.run i hi
 rw [this]; simp
end Go.Proofs.YtjlaomcankmdjaaGreat
namespace Go.Proofs.YtjlaomcankmdjaaGreat
open Go.RowKit Go.Proofs.Eng Go.Proofs.Codec Go.Proofs.Foot Go.Proofs.Journal
set_option linter.unusedVariables false set_option maxRecDepth 10000
attribute [local irreducible] T TL LV TH TA
set_option maxHeartbeats 3200000
section
variable {sb : Nat} {sz ep : Int} {R : SL} {cs rs : List SR} {z : SR}
theorem ShV.len {w : World} (V : ShV w sb sz R rs ep) : R.2.1 = rs.length := by
 have := V.row.1
 unfold ptrs at this
 simp at this
 omega
theorem ShV.at {w : World} (V : ShV w sb sz R rs ep) {i : Nat} (h : i < rs.length) : (ptrs rs)[i]? = some (pB rs[i].xb) := by
 unfold ptrs
 rw [List.getElem?_map, List.getElem?_eq_getElem h]
 rfl
theorem ShV.ne {w : World} (V : ShV w sb sz R rs ep) (h : 0 < rs.length) : R.1 ≠ none := by
 have := V.len
 obtain ⟨_, _, hq, _⟩ := V.row.2 (by omega)
 rw [hq]; simp
theorem SegV.len {w : World} {r : SR} (S : SegV w r) : r.ys.length = r.y.2.1 := by
 have := S.rd.1
 rw [rowV_len emV_len] at this
 omega
theorem last_c (w : World) (V : ShV w sb sz R (cs ++ [z]) ep) : Ret Tryz.prog 90 [pB sb] w (fun v w' => v = pB z.xb ∧ Ext w w') := by
 have hl := V.len
 have hln := V.ln
 rw [List.length_append, List.length_singleton] at hl hln
 have ht : (ptrs (cs ++ [z]))[cs.length]? = some (pB z.xb) := by rw [ptrs_snoc]; unfold ptrs; simp
 have hR := V.ne (by simp)
 have hb := V.blk
 have hr := V.row
 have hi : (R.2.1 : Int) - 1 = (cs.length : Int) := by omega
 have hlt : cs.length < R.2.1 := by omega
 refine ret_T (n := 15) Tryz.func90 rfl rfl ?_
 repeat (first | refine T_seq ?_ | refine T_region ?_ | refine T_region_q TE.mixed (by kernel_rfl) ?_ | refine TL_sub (hk := ?_) | refine TL_nil ?_ | refine TL_move (hk := ?_) | refine TL_assign (hk := ?_) | refine TL_load TE (hk := ?_) | refine TL_fieldAddr TE (hk := ?_) | refine TL_indexAddr1 TE (hk := ?_) | refine TL_len TE (hk := ?_) | refine TL_nilCheck (hk := ?_))
 rw [hi]
 repeat (first | refine TL_assign (hk := ?_) | refine TL_load_rd TE (hk := ?_))
 refine TL_nil_q ?_; intro w1 e1
 --
 exact T_ret1 rfl rfl ⟨rfl, e1⟩
theorem First_c (w : World) (V : ShV w sb sz R rs ep) (h : 0 < rs.length) : Ret Tryz.prog 41 [pB sb] w (fun v w' => v = .int .i64 (rs[0].f : Int) ∧ w' = w) := by
 have hl := V.len
 have ht := V.at h
 have hR := V.ne h
 have hb := V.blk
 have hr := V.row
 have hs := (V.seg _ (List.getElem_mem h)).blk
 have hlt : 0 < R.2.1 := by omega
 refine ret_T (n := 14) Tryz.func41 rfl rfl ?_
 repeat (first | refine T_seq ?_ | refine T_region ?_ | refine T_cond_false rfl ?_ | refine T_skip ?_ | refine TL_pnil_f TE (hk := ?_) | refine TL_nil ?_ | refine TL_move (hk := ?_) | refine TL_assign (hk := ?_) | refine TL_load TE (hk := ?_) | refine TL_load_rd TE (hk := ?_) | refine TL_fieldAddr TE (hk := ?_) | refine TL_indexAddr1n TE (hk := ?_) | refine TL_nilCheck (hk := ?_))
 exact T_ret1 rfl rfl ⟨rfl, rfl⟩
theorem Next_c (w : World) (V : ShV w sb sz R (cs ++ [z]) ep) : Ret Tryz.prog 47 [pB sb] w (fun v w' => v = .int .i64 ((z.f + z.ys.length : Nat) : Int) ∧ Ext w w') := by
 have hz := V.seg z (List.mem_append_right _ (List.mem_singleton.2 rfl))
 have hs := hz.blk
 have h1 := hz.hf
 have h2 := hz.hn
 have h3 := hz.len
 have hsum : (z.f : Int) + (z.y.2.1 : Int) = ((z.f + z.ys.length : Nat) : Int) := by omega
 refine ret_T (n := 17) Tryz.func47 rfl rfl ?_
 repeat (first | refine T_seq ?_ | refine T_region ?_ | refine T_region_q TE.mixed (by kernel_rfl) ?_ | refine T_cond_false rfl ?_ | refine T_skip ?_ | refine TL_pnil_f TE (hk := ?_) | refine TL_nil ?_ | refine TL_move (hk := ?_) | refine TL_assign (hk := ?_))
 refine TL_call_q TE rfl rfl rfl ((fun w' e' => last_c w' (V.ext e'))) ?_
 repeat (first | refine TL_move (hk := ?_) | refine TL_load TE (hk := ?_) | refine TL_fieldAddr TE (hk := ?_) | refine TL_nilCheck (hk := ?_))
 refine TL_call_q TE rfl rfl rfl ((fun w' e' => last_c w' (V.ext e'))) ?_
 repeat (first | refine TL_add (hk := ?_) | refine TL_assign (hk := ?_) | refine TL_load TE (hk := ?_) | refine TL_fieldAddr TE (hk := ?_) | refine TL_len TE (hk := ?_) | refine TL_nilCheck (hk := ?_))
 rw [hsum]
 refine TL_nil_q ?_; intro w1 e1
 --
 exact T_ret1 rfl rfl ⟨rfl, e1⟩
theorem SFlushed_c (w : World) (V : ShV w sb sz R (cs ++ [z]) ep) : Ret Tryz.prog 45 [pB sb] w (fun v w' => v = .int .i64 ((z.f + z.fl : Nat) : Int) ∧ Ext w w') := by
 have hz := V.seg z (List.mem_append_right _ (List.mem_singleton.2 rfl))
 have hs := hz.blk
 have h1 := hz.hf
 have h2 := hz.hl
 have hsum : (z.f : Int) + (z.fl : Int) = ((z.f + z.fl : Nat) : Int) := by omega
 refine ret_T (n := 16) Tryz.func45 rfl rfl ?_
 repeat (first | refine T_seq ?_ | refine T_region ?_ | refine T_region_q TE.mixed (by kernel_rfl) ?_ | refine T_cond_false rfl ?_ | refine T_skip ?_ | refine TL_pnil_f TE (hk := ?_) | refine TL_nil ?_ | refine TL_move (hk := ?_) | refine TL_assign (hk := ?_))
 refine TL_call_q TE rfl rfl rfl ((fun w' e' => last_c w' (V.ext e'))) ?_
 repeat (first | refine TL_move (hk := ?_) | refine TL_load TE (hk := ?_) | refine TL_fieldAddr TE (hk := ?_) | refine TL_nilCheck (hk := ?_))
 refine TL_call_q TE rfl rfl rfl ((fun w' e' => last_c w' (V.ext e'))) ?_
 repeat (first | refine TL_add (hk := ?_) | refine TL_assign (hk := ?_) | refine TL_load TE (hk := ?_) | refine TL_fieldAddr TE (hk := ?_) | refine TL_nilCheck (hk := ?_))
 rw [hsum]
 refine TL_nil_q ?_; intro w1 e1
 --
 exact T_ret1 rfl rfl ⟨rfl, e1⟩
def entsR (rs : List SR) : List EE := (rs.map fun r => r.ys.map emE).flatten
theorem entsR_succ (rs : List SR) (i : Nat) (h : i < rs.length) : entsR (rs.take (i + 1)) = entsR (rs.take i) ++ rs[i].ys.map emE := by
 unfold entsR
 rw [List.take_succ_eq_append_getElem h, List.map_append, List.flatten_append]
 simp
theorem fromE_app (a b : List EE) (n : Int) : fromE (a ++ b) n = fromE a n ++ fromE b n := by unfold fromE; rw [List.filter_append]
theorem SFrom_c (seq : Int) (w : World) (V : ShV w sb sz R rs ep) (hseq : -9223372036854775808 ≤ seq ∧ seq ≤ 9223372036854775807) (hE : (entsR rs).length ≤ 1000000) :
  Ret Tryz.prog 42 [pB sb, .int .i64 seq] w (fun v w' => ∃ y ys, v = sL y ∧ Ext w w' ∧ OutM w' w.heap.size y ys (fromE (entsR rs) seq)) := by
 have hl := V.len
 have hn := V.ln
 have hb := V.blk
 refine ret_T (n := 65) Tryz.func42 rfl rfl ?_
 repeat (first | refine T_seq ?_ | refine T_region ?_ | refine T_cond_false rfl ?_ | refine T_block ?_ | refine T_skip ?_ | refine TL_pnil_f TE (hk := ?_) | refine TL_nil ?_ | refine TL_move (hk := ?_) | refine TL_assign (hk := ?_) | refine TL_load TE (hk := ?_) | refine TL_fieldAddr TE (hk := ?_) | refine TL_len TE (hk := ?_) | refine TL_nilCheck (hk := ?_))
 refine T_loop (ι := Nat × SL) (fun q => [(17, .int .i64 (q.1 : Int)), (16, .int .i64 (R.2.1 : Int)), (15, sL R), (5, sL q.2), (1, .int .i64 seq), (0, pB sb)]) (fun q w' => Ext w w' ∧ q.1 ≤ rs.length ∧ ∃ ys, OutM w' w.heap.size q.2 ys (fromE (entsR (rs.take q.1)) seq)) (fun q => rs.length - q.1) (0, (none, 0, 0)) (.c rfl (.c rfl (.c rfl (.c rfl (.c rfl (.c rfl (.n))))))) ⟨Mod.refl _ _, Nat.zero_le _, [], ⟨Own.nil _ _ _ _, rfl, fun z hz => (by cases hz)⟩⟩ ?_
 rintro ⟨i, y⟩ w1 ⟨e1, hi, ys, O⟩ ih
 simp only at hi O ih ⊢
 have V1 := V.ext e1
 have z1 := e1.size
 have hr1 := V1.row
 have hb1 := V1.blk
 by_cases hlt : i < rs.length
 ·have hR := V.ne (by omega)
  have ht := V1.at hlt
  have hlt2 : (i : Int) < (R.2.1 : Int) := by omega
  have hsg := V1.seg _ (List.getElem_mem hlt)
  have hes := entsR_succ rs i hlt
  obtain ⟨r, hrd⟩ : ∃ r, rs[i] = r := ⟨_, rfl⟩
  rw [hrd] at ht hsg hes
  have hs1 := hsg.blk
  have hrl := hsg.len
  have hrn := hsg.hn
  have hle : (entsR (rs.take (i + 1))).length ≤ (entsR rs).length := by
   have q : entsR rs = entsR (rs.take (i + 1)) ++ entsR (rs.drop (i + 1)) := by
    unfold entsR
    rw [← List.flatten_append, ← List.map_append, List.take_append_drop]
   rw [q, List.length_append]; omega
  rw [hes, List.length_append, List.length_map] at hle
  repeat (first | refine T_seq ?_ | refine T_region ?_ | refine T_cond_true rfl ?_ | refine T_block ?_ | refine T_skip ?_ | refine TL_lt_t (hk := ?_) | refine TL_nil ?_ | refine TL_move (hk := ?_) | refine TL_assign (hk := ?_) | refine TL_load TE (hk := ?_) | refine TL_load_rd TE (hk := ?_) | refine TL_fieldAddr TE (hk := ?_) | refine TL_indexAddr1n TE (hk := ?_) | refine TL_len TE (hk := ?_) | refine TL_nilCheck (hk := ?_))
  refine T_loop (ι := Nat × SL) (fun q => [(26, .int .i64 (q.1 : Int)), (25, .int .i64 (r.y.2.1 : Int)), (24, sL r.y), (17, .int .i64 (i : Int)), (16, .int .i64 (R.2.1 : Int)), (15, sL R), (5, sL q.2), (1, .int .i64 seq), (0, pB sb)]) (fun q w' => Ext w w' ∧ q.1 ≤ r.ys.length ∧ ∃ ys, OutM w' w.heap.size q.2 ys (fromE (entsR (rs.take i) ++ (r.ys.take q.1).map emE) seq)) (fun q => r.ys.length - q.1) (0, y) (.c rfl (.c rfl (.c rfl (.c rfl (.c rfl (.c rfl (.c rfl (.c rfl (.c rfl (.n)))))))))) ⟨e1, Nat.zero_le _, ys, by rw [List.take_zero, List.map_nil, List.append_nil]; exact O⟩ ?_
  clear O
  rintro ⟨j, y⟩ w2 ⟨e2, hj, ys, O⟩ ih2
  simp only at hj O ih2 ⊢
  have z2 := e2.size
  have hsg2 : SegV w2 r := by have q := (V.ext e2).seg _ (List.getElem_mem hlt); rw [hrd] at q; exact q
  have hr2 := hsg2.rd
  have hyl := O.len
  have hfl : (fromE (entsR (rs.take i) ++ (r.ys.take j).map emE) seq).length ≤ 1000000 := by
   unfold fromE
   refine Nat.le_trans (List.length_filter_le _ _) ?_
   rw [List.length_append, List.length_map, List.length_take]; omega
  by_cases hjl : j < r.ys.length
  ·have hA : r.y.1 ≠ none := by obtain ⟨_, _, hq, _⟩ := hr2.2 (by omega); rw [hq]; simp
   have t1 := rowV_elem emV_len r.ys j em0 hjl
   have hge : r.ys.getD j em0 = r.ys[j] := by rw [List.getD_eq_getElem?_getD, List.getElem?_eq_getElem hjl]; rfl
   have hsu : (r.ys.take (j + 1)).map emE = (r.ys.take j).map emE ++ [emE (r.ys.getD j em0)] := by
    rw [hge, List.take_succ_eq_append_getElem hjl, List.map_append]; rfl
   obtain ⟨hX, hF⟩ := hsg2.ek _ (List.getElem_mem hjl)
   rw [← hge] at hX hF
   obtain ⟨x, hxd⟩ : ∃ x, r.ys.getD j em0 = x := ⟨_, rfl⟩
   rw [hxd] at t1 hsu hX hF
   have hj2 : (j : Int) < (r.y.2.1 : Int) := by omega
   obtain ⟨l1, l2, l3⟩ := hX.len
   have na := hF.na
   have nb := hF.nb
   have nc := hF.nc
   repeat (first | refine T_seq ?_ | refine T_region ?_ | refine T_cond_true rfl ?_ | refine T_block ?_ | refine T_skip ?_ | refine TL_lt_t (hk := ?_) | refine TL_nil ?_ | refine TL_indexAddrn TE (hk := ?_))
   refine TL_loada TE (cs := emV x) (hx := rfl) (ht := rfl) (hi := rfl) (hr := hr2) (hc := t1) (h0 := Nat.succ_pos _) (hk := ?_)
   --
   refine TL_alloc TE (hk := ?_); intro b3 w3 e3 h3 h3' k3
   --
   refine TL_storea TE (hk := ?_); intro w4 m4 z4 k4
   have z3 := e3.size
   have e24 : Ext w2 w4 := e3.step m4 (fun u hu => .inr (by rw [List.mem_singleton.1 hu]; omega))
   replace k4 : Blk w4 b3 47 (emV x) := k4
   unfold emV pmV at k4
   clear k3
   by_cases hsq : seq ≤ x.sq
   ·have hfs : fromE (entsR (rs.take i) ++ (r.ys.take (j + 1)).map emE) seq = fromE (entsR (rs.take i) ++ (r.ys.take j).map emE) seq ++ [emE x] := by
     rw [hsu, ← List.append_assoc, fromE_app]
     congr 1
     unfold fromE
     rw [List.filter_cons, if_pos (decide_eq_true (show seq ≤ (emE x).sq from hsq))]
     rfl
    have hX4 := hX.be e24
    repeat (first | refine T_seq ?_ | refine T_region ?_ | refine T_cond_true rfl ?_ | refine TL_ge_t (hk := ?_) | refine TL_nil ?_ | refine TL_move (hk := ?_) | refine TL_load TE (hk := ?_) | refine TL_fieldAddr TE (hk := ?_))
    refine TL_call TE (hc := VClone_c x.m.a.1 x.m.a.2.1 x.m.a.2.2 x.m.p.q.ar w4 hX4.ra (by omega)) (hk := ?_)
    rintro _ w5 ⟨a, rfl, e5, oa⟩
    have k5 := k4.be e5
    have z5 := e5.size
    clear k4
    repeat (refine TL_fieldAddr TE (hk := ?_))
    refine TL_store TE (hk := ?_); intro w6 m6 z6 k6
    replace k6 : Blk w6 b3 47 [.int .i64 x.sq, .int .i64 x.ep, .int .i64 x.m.p.q.cl, .int .u64 (x.m.p.q.tk : Int), .string (ofL x.m.p.q.nm), sL a, .int .i64 x.m.p.how, sL x.m.b, sL x.m.c] := k6
    have z4' := e24.size
    have e46 : Ext w2 w6 := (e24.ext e5).step m6 (fun u hu => .inr (by rw [List.mem_singleton.1 hu]; omega))
    have oa6 : Own w6 w2.heap.size 161 3 a.1 a.2.1 a.2.2 (rowV veV x.m.p.q.ar) := Own.weaken (oa.modL m6 (fun u hu q => by have := (oa.bl u hu).1; have := k5.lt; rw [List.mem_singleton] at q; have := m4.size; omega)) (by omega)
    clear k5
    have hX6 := hX.be e46
    repeat (first | refine T_seq ?_ | refine T_region ?_ | refine TL_nil ?_ | refine TL_load TE (hk := ?_) | refine TL_fieldAddr TE (hk := ?_))
    refine TL_call TE (hc := TClone_c x.m.b.1 x.m.b.2.1 x.m.b.2.2 x.m.p.rd w6 hX6.rb (by omega)) (hk := ?_)
    rintro _ w7 ⟨b, rfl, e7, ob⟩
    have k7 := k6.be e7
    have z7 := e7.size
    clear k6
    repeat (refine TL_fieldAddr TE (hk := ?_))
    refine TL_store TE (hk := ?_); intro w8 m8 z8 k8
    replace k8 : Blk w8 b3 47 [.int .i64 x.sq, .int .i64 x.ep, .int .i64 x.m.p.q.cl, .int .u64 (x.m.p.q.tk : Int), .string (ofL x.m.p.q.nm), sL a, .int .i64 x.m.p.how, sL b, sL x.m.c] := k8
    have z6' := e46.size
    have e28 : Ext w2 w8 := (e46.ext e7).step m8 (fun u hu => .inr (by rw [List.mem_singleton.1 hu]; omega))
    have hbn : b3 < w6.heap.size := by have := m6.size; omega
    have ha3 : b3 ∉ blkL a.1 := fun q => by have := (oa.bl b3 q).1; have := m4.size; omega
    have oa8 := (oa6.be e7).modL m8 (fun u hu q => by rw [List.mem_singleton] at q; rw [q] at hu; exact ha3 hu)
    have ob8 : Own w8 w2.heap.size 9 1 b.1 b.2.1 b.2.2 (sv x.m.p.rd) := Own.weaken (ob.modL m8 (fun u hu q => by have := (ob.bl u hu).1; rw [List.mem_singleton] at q; omega)) (by omega)
    clear k7
    have hX8 := hX.be e28
    repeat (first | refine T_seq ?_ | refine T_region ?_ | refine TL_nil ?_ | refine TL_load TE (hk := ?_) | refine TL_fieldAddr TE (hk := ?_))
    refine TL_call TE (hc := TClone_c x.m.c.1 x.m.c.2.1 x.m.c.2.2 x.m.p.wr w8 hX8.rc (by omega)) (hk := ?_)
    rintro _ w9 ⟨cc, rfl, e9, oc⟩
    have k9 := k8.be e9
    have z9 := e9.size
    clear k8
    repeat (refine TL_fieldAddr TE (hk := ?_))
    refine TL_store TE (hk := ?_); intro w10 m10 z10 k10
    have z8' := e28.size
    have e210 : Ext w2 w10 := (e28.ext e9).step m10 (fun u hu => .inr (by rw [List.mem_singleton.1 hu]; omega))
    have hb3 : b3 ∉ blkL b.1 := fun q => by have := (ob.bl b3 q).1; omega
    have oa10 := (oa8.be e9).modL m10 (fun u hu q => by rw [List.mem_singleton] at q; rw [q] at hu; exact ha3 hu)
    have ob10 := (ob8.be e9).modL m10 (fun u hu q => by rw [List.mem_singleton] at q; rw [q] at hu; exact hb3 hu)
    have oc10 : Own w10 w2.heap.size 9 1 cc.1 cc.2.1 cc.2.2 (sv x.m.p.wr) := Own.weaken (oc.modL m10 (fun u hu q => by have := (oc.bl u hu).1; have := m8.size; rw [List.mem_singleton] at q; omega)) (by omega)
    clear k9
    obtain ⟨x', hx'⟩ : ∃ x' : EM, x' = ⟨x.sq, x.ep, ⟨x.m.p, a, b, cc⟩⟩ := ⟨_, rfl⟩
    have hxv : emV x' = [.int .i64 x.sq, .int .i64 x.ep, .int .i64 x.m.p.q.cl, .int .u64 (x.m.p.q.tk : Int), .string (ofL x.m.p.q.nm), sL a, .int .i64 x.m.p.how, sL b, sL cc] := by rw [hx']; rfl
    have hxe : emE x' = emE x := by rw [hx']; rfl
    have P10 : POwn w10 w2.heap.size x'.m := by rw [hx']; exact ⟨oa10, ob10, oc10⟩
    have F' : PFit x'.m.p := by rw [hx']; exact hF
    have O10 := O.ow.be e210
    have z10' := e210.size
    replace k10 : Blk w10 b3 47 (emV x') := by rw [hxv]; exact k10
    repeat (first | refine T_region ?_ | refine TL_nil ?_ | refine TL_move (hk := ?_))
    refine TL_loadb TE (cs := emV x') (o := 0) rfl rfl k10 rfl rfl (Nat.succ_pos _) (hk := ?_)
    --
    refine TL_buildSliceA TE (hk := ?_); intro b11 w11 e11 h11 h11' k11
    replace k11 : Blk w11 b11 47 (rowV emV [x']) := k11
    have r11 : Rd w11 (some ⟨b11, 0, none⟩) 1 9 (rowV emV [x']) := Rd.blk k11 rfl
    have O11 := O10.be e11
    have z11 := e11.size
    --
    refine TL_append TE (ho := O11) (hr := r11) (h1 := rowV_one emV_one _) (hk := ?_); intro A12 c12 w12 o12 m12 n12
    rw [← rowV_append] at o12
    have O12 := O.push (z := x') (y' := (A12, y.2.1 + 1, c12)) (e210.ext e11) (P10.be e11) F' z2 m12 o12 n12
    rw [hxe, ← hfs] at O12
    repeat (first | refine T_region ?_ | refine T_inBlock ?_ | refine TL_add (hk := ?_) | refine TL_nil ?_ | refine TL_move (hk := ?_) | refine TL_assign (hk := ?_))
    exact ih2 (j + 1, (A12, y.2.1 + 1, c12)) _ _ (by simp only; omega) ⟨(e2.ext (e210.ext e11)).own m12 O.ow.hi, by simp only; omega, _, O12⟩ (.c rfl (.c rfl (.c rfl (.c rfl (.c rfl (.c rfl (.c rfl (.c rfl (.c rfl (.n))))))))))
   ·have hfs : fromE (entsR (rs.take i) ++ (r.ys.take (j + 1)).map emE) seq = fromE (entsR (rs.take i) ++ (r.ys.take j).map emE) seq := by
     rw [hsu, ← List.append_assoc, fromE_app]
     conv => rhs; rw [← List.append_nil (fromE _ _)]
     congr 1
     unfold fromE
     rw [List.filter_cons, if_neg (show ¬ decide (seq ≤ (emE x).sq) = true from fun q => hsq (of_decide_eq_true q))]
     rfl
    have O4 : OutM w4 w.heap.size y ys (fromE (entsR (rs.take i) ++ (r.ys.take (j + 1)).map emE) seq) := by
     rw [hfs]
     exact ⟨O.ow.be e24, O.ee, fun z hz => ⟨(O.ek z hz).1.be e24, (O.ek z hz).2⟩⟩
    repeat (first | refine T_seq ?_ | refine T_region ?_ | refine T_cond_false rfl ?_ | refine T_inBlock ?_ | refine T_skip ?_ | refine TL_add (hk := ?_) | refine TL_ge_f (hk := ?_) | refine TL_nil ?_ | refine TL_move (hk := ?_) | refine TL_load TE (hk := ?_) | refine TL_fieldAddr TE (hk := ?_))
    exact ih2 (j + 1, y) _ _ (by simp only; omega) ⟨e2.ext e24, by simp only; omega, _, O4⟩ (.c rfl (.c rfl (.c rfl (.c rfl (.c rfl (.c rfl (.c rfl (.c rfl (.c rfl (.n))))))))))
  ·clear ih2
   obtain rfl : j = r.ys.length := by omega
   have hj2 : ¬ ((r.ys.length : Nat) : Int) < (r.y.2.1 : Int) := by omega
   rw [List.take_length, ← hes] at O
   repeat (first | refine T_seq ?_ | refine T_region ?_ | refine T_cond_false rfl ?_ | refine T_inBlock ?_ | refine T_exit rfl ?_ | refine TL_add (hk := ?_) | refine TL_lt_f (hk := ?_) | refine TL_nil ?_ | refine TL_move (hk := ?_))
   exact ih (i + 1, y) _ _ (by simp only; omega) ⟨e2, by simp only; omega, _, O⟩ (.c rfl (.c rfl (.c rfl (.c rfl (.c rfl (.c rfl (.n)))))))
 ·clear ih
  obtain rfl : i = rs.length := by omega
  have hlt2 : ¬ ((rs.length : Nat) : Int) < (R.2.1 : Int) := by omega
  rw [List.take_length] at O
  repeat (first | refine T_seq ?_ | refine T_region ?_ | refine T_cond_false rfl ?_ | refine T_exit rfl ?_ | refine TL_lt_f (hk := ?_) | refine TL_nil ?_ | refine TL_move (hk := ?_) | refine TL_assign (hk := ?_))
  exact T_ret1 rfl rfl ⟨y, ys, rfl, e1, O⟩
end
set_option maxHeartbeats 3200000
def imV (y : SL) : List Value := [sL y]
theorem imV_len (y : SL) : (imV y).length = 1 := rfl
theorem imV_one (y : SL) : ∀ u ∈ imV y, u.oneCell' = true := by
 intro u hu
 simp only [imV, List.mem_singleton] at hu
 rw [hu]; rfl
def sl0 : SL := (none, 0, 0)
structure ImM (w : World) (base : Nat) (y : SL) (ys : List SL) (bs : List (List UInt8)) : Prop where
 ow : Own w base 25 1 y.1 y.2.1 y.2.2 (rowV imV ys)
 ln : ys.length = bs.length
 ek : ∀ i, i < bs.length → Own w base 5 1 (ys.getD i sl0).1 (ys.getD i sl0).2.1 (ys.getD i sl0).2.2 (bv (bs.getD i [])) ∧ ∀ b ∈ blkL (ys.getD i sl0).1, b ∉ blkL y.1
section
variable {w w' w1 w2 : World} {base : Nat} {y y' : SL} {ys : List SL} {bs : List (List UInt8)} {Z : List Nat}
theorem ImM.len (O : ImM w base y ys bs) : y.2.1 = bs.length := by
 have h1 := O.ow.len
 rw [rowV_len imV_len] at h1
 have := O.ln
 omega
theorem ImM.low (O : ImM w base y ys bs) (m : Eng.Mod Z w w') (hZ : ∀ b ∈ Z, b < base) : ImM w' base y ys bs :=
 ⟨O.ow.modL m (fun b hb q => by have := (O.ow.bl b hb).1; have := hZ b q; omega), O.ln, fun i hi => ⟨(O.ek i hi).1.modL m (fun b hb q => by have := ((O.ek i hi).1.bl b hb).1; have := hZ b q; omega), (O.ek i hi).2⟩⟩
theorem ImM.ext (O : ImM w base y ys bs) (e : Ext w w') : ImM w' base y ys bs := O.low e (fun b hb => by cases hb)
theorem ImM.push (O : ImM w base y ys bs) {z : SL} {b0 : List UInt8} (X : Own w base 5 1 z.1 z.2.1 z.2.2 (bv b0)) (hX : ∀ b ∈ blkL z.1, b ∉ blkL y.1) (m : Eng.Mod (blkL y.1) w w2) (ho : Own w2 base 25 1 y'.1 y'.2.1 y'.2.2 (rowV imV (ys ++ [z]))) (hn : Near y.1 y'.1 w) : ImM w2 base y' (ys ++ [z]) (bs ++ [b0]) := by
 have ln := O.ln
 refine ⟨ho, by rw [List.length_append, List.length_append, ln]; rfl, fun i hi => ?_⟩
 rw [List.length_append, List.length_singleton] at hi
 by_cases q : i < bs.length
 ·have g1 : (ys ++ [z]).getD i sl0 = ys.getD i sl0 := by rw [List.getD_eq_getElem?_getD, List.getD_eq_getElem?_getD, List.getElem?_append_left (by omega)]
  have g2 : (bs ++ [b0]).getD i [] = bs.getD i [] := by rw [List.getD_eq_getElem?_getD, List.getD_eq_getElem?_getD, List.getElem?_append_left q]
  rw [g1, g2]
  obtain ⟨h1, h2⟩ := O.ek i q
  refine ⟨h1.modL m h2, fun b hb hc => ?_⟩
  rcases Near.mem hn b hc with a | a
  ·exact h2 b hb a
  ·have := (h1.bl b hb).2; omega
 ·obtain rfl : i = bs.length := by omega
  have g1 : (ys ++ [z]).getD bs.length sl0 = z := by rw [List.getD_eq_getElem?_getD, ← ln, List.getElem?_concat_length]; rfl
  have g2 : (bs ++ [b0]).getD bs.length [] = b0 := by rw [List.getD_eq_getElem?_getD, List.getElem?_concat_length]; rfl
  rw [g1, g2]
  refine ⟨X.modL m hX, fun b hb hc => ?_⟩
  rcases Near.mem hn b hc with a | a
  ·exact hX b hb a
  ·have := (X.bl b hb).2; omega
end
section
variable {base sb : Nat} {sz ep : Int} {R : SL} {cs : List SR} {z : SR} {h : Nat → Nat}
theorem tn_fresh {o o' : Nat → Nat} {w w1 w2 : World} {Z : List Nat} (t : Tn o o' w w1) (m : Eng.Mod Z w1 w2) (hZ : ∀ b ∈ Z, w.heap.size ≤ b) : Tn o o' w w2 := by
 obtain ⟨⟨S, m1, s1⟩, n, z⟩ := t
 exact ⟨⟨S, m1.step m (fun b hb => .inr (hZ b hb)), s1⟩, n, Nat.le_trans z m.size⟩
def imgsR (cs : List SR) (z : SR) (keep : Int) : List (List UInt8) := (cs.map fun r => bytesD r.k) ++ [leftD z.k keep]
theorem Images_c (keep : Int) (w : World) (S : ShM w base sb sz R cs z ep h) (hc : cs.length ≤ 1000) (hk : -9223372036854775808 ≤ keep ∧ keep ≤ 9223372036854775807) :
  Ret Tryz.prog 46 [pB sb, .int .i64 keep] w (fun v w' => ∃ y ys, v = sL y ∧ ShM w' base sb sz R cs z ep h ∧ Tn h h w w' ∧ ImM w' w.heap.size y ys (imgsR cs z keep)) := by
 have hl := S.len
 have hb := S.blk
 have hil : (imgsR cs z keep).length = cs.length + 1 := by unfold imgsR; rw [List.length_append, List.length_map, List.length_singleton]
 refine ret_T (n := 47) Tryz.func46 rfl rfl ?_
 repeat (first | refine T_seq ?_ | refine T_region ?_ | refine T_cond_false rfl ?_ | refine T_block ?_ | refine T_skip ?_ | refine TL_pnil_f TE (hk := ?_) | refine TL_nil ?_ | refine TL_move (hk := ?_) | refine TL_assign (hk := ?_) | refine TL_load TE (hk := ?_) | refine TL_fieldAddr TE (hk := ?_) | refine TL_len TE (hk := ?_) | refine TL_nilCheck (hk := ?_))
 refine T_loop (ι := Nat × SL) (fun q => [(15, .int .i64 (q.1 : Int)), (14, .int .i64 (R.2.1 : Int)), (13, sL R), (5, sL q.2), (1, .int .i64 keep), (0, pB sb)]) (fun q w' => q.1 ≤ cs.length + 1 ∧ ShM w' base sb sz R cs z ep h ∧ Tn h h w w' ∧ ∃ ys, ImM w' w.heap.size q.2 ys ((imgsR cs z keep).take q.1)) (fun q => cs.length + 1 - q.1) (0, (none, 0, 0)) (.c rfl (.c rfl (.c rfl (.c rfl (.c rfl (.c rfl (.n))))))) ⟨Nat.zero_le _, S, Tn.refl _ _, [], ⟨Own.nil _ _ _ _, rfl, fun i hi => absurd hi (by simp)⟩⟩ ?_
 rintro ⟨i, y⟩ w1 ⟨hi, S1, T1, ys, O⟩ ih
 simp only at hi O ih ⊢
 have V1 := S1.view (by omega)
 have z1 := T1.size
 have hb1 := S1.blk
 have hr1 := V1.row
 have hyl := O.len
 rw [List.length_take] at hyl
 have hi1 : (R.2.1 : Int) - 1 = (cs.length : Int) := by omega
 have hR := V1.ne (by simp)
 have old1 : ∀ b, h b ≠ 0 → b < w.heap.size := fun b hb => (S.old b hb).2
 have hz : ∀ b ∈ blkL y.1, h b = 0 := fun b hb => by
  by_cases q : h b = 0
  ·exact q
  ·have := (S.old b q).2; have := (O.ow.bl b hb).1; omega
 by_cases hlt : i < cs.length
 ·have ht : (ptrs (cs ++ [z]))[i]? = some (pB cs[i].xb) := by rw [ptrs_snoc]; unfold ptrs; rw [List.getElem?_append_left (by rw [List.length_map]; exact hlt), List.getElem?_map, List.getElem?_eq_getElem hlt]; rfl
  have hm : cs[i] ∈ cs := List.getElem_mem hlt
  have hsu : (imgsR cs z keep).take (i + 1) = (imgsR cs z keep).take i ++ [bytesD cs[i].k] := by
   rw [List.take_succ_eq_append_getElem (by omega)]
   congr 2
   unfold imgsR
   rw [List.getElem_append_left (by rw [List.length_map]; exact hlt), List.getElem_map]
  obtain ⟨r, hrd⟩ : ∃ r, cs[i] = r := ⟨_, rfl⟩
  rw [hrd] at ht hm hsu
  have hsg := S1.cl r hm
  have hs1 := hsg.v.blk
  have hlt2 : (i : Int) < (R.2.1 : Int) := by omega
  have hne : ¬ (i : Int) = (cs.length : Int) := by omega
  repeat (first | refine T_seq ?_ | refine T_region ?_ | refine T_cond_true rfl ?_ | refine T_cond_false rfl ?_ | refine T_block ?_ | refine T_skip ?_ | refine TL_sub (hk := ?_) | refine TL_lt_t (hk := ?_) | refine TL_eq_f (hk := ?_) | refine TL_nil ?_ | refine TL_move (hk := ?_) | refine TL_assign (hk := ?_) | refine TL_load TE (hk := ?_) | refine TL_load_rd TE (hk := ?_) | refine TL_fieldAddr TE (hk := ?_) | refine TL_indexAddr1n TE (hk := ?_) | refine TL_len TE (hk := ?_) | refine TL_nilCheck (hk := ?_))
  rw [hi1]
  --
  refine TL_call TE (hc := Bytes_c w1 hsg.dk) (hk := ?_)
  rintro _ w2 ⟨Y, rfl, D2, T2, oY⟩
  obtain ⟨S2, T2'⟩ := S1.look (List.mem_append_left _ hm) D2 T2
  have O2 : ImM w2 w.heap.size y ys ((imgsR cs z keep).take i) := by
   obtain ⟨⟨Z, m, s⟩, -, -⟩ := id T2'
   exact O.low m (fun b hb => old1 b (s b hb))
  have z2 := T2.size
  --
  refine TL_buildSlice TE (hk := ?_); intro b3 w3 e3 h3 h3' k3
  have S3 := S2.ext e3
  have O3 := O2.ext e3
  have oY3 := oY.be e3
  have z3 := e3.size
  replace k3 : Blk w3 b3 25 (rowV imV [Y]) := k3
  have r3 : Rd w3 (some ⟨b3, 0, none⟩) 1 1 (rowV imV [Y]) := Rd.blk k3 rfl
  have o3 := O3.ow
  --
  refine TL_append TE (ho := o3) (hr := r3) (h1 := rowV_one imV_one _) (hk := ?_); intro A4 c4 w4 o4 m4 n4
  rw [← rowV_append] at o4
  have O4 := O3.push (z := Y) (y' := (A4, y.2.1 + 1, c4)) (Own.weaken oY3 z1) (fun b hb q => by have := (oY.bl b hb).1; have := (O.ow.bl b q).2; omega) m4 o4 n4
  rw [← hsu] at O4
  have S4 := S3.modz m4 hz
  repeat (first | refine T_region ?_ | refine T_inBlock ?_ | refine TL_add (hk := ?_) | refine TL_nil ?_ | refine TL_move (hk := ?_) | refine TL_assign (hk := ?_))
  exact ih (i + 1, (A4, y.2.1 + 1, c4)) _ _ (by simp only; omega) ⟨by show i + 1 ≤ cs.length + 1; omega, S4, tn_fresh ((T1.trans T2').trans (Tn.ext e3)) m4 (fun b hb => (O.ow.bl b hb).1), _, O4⟩ (.c rfl (.c rfl (.c rfl (.c rfl (.c rfl (.c rfl (.n)))))))
 ·by_cases hlt3 : i = cs.length
  ·subst hlt3
   have ht : (ptrs (cs ++ [z]))[cs.length]? = some (pB z.xb) := by rw [ptrs_snoc]; unfold ptrs; simp
   have hsu : (imgsR cs z keep).take (cs.length + 1) = (imgsR cs z keep).take cs.length ++ [leftD z.k keep] := by
    rw [List.take_succ_eq_append_getElem (by omega)]
    congr 2
    unfold imgsR
    rw [List.getElem_append_right (by rw [List.length_map]; exact Nat.le_refl _)]
    simp
   have hsg := S1.la
   have hs1 := hsg.v.blk
   have hlt2 : (cs.length : Int) < (R.2.1 : Int) := by omega
   repeat (first | refine T_seq ?_ | refine T_region ?_ | refine T_cond_true rfl ?_ | refine T_block ?_ | refine T_skip ?_ | refine TL_sub (hk := ?_) | refine TL_lt_t (hk := ?_) | refine TL_eq_t (hk := ?_) | refine TL_nil ?_ | refine TL_move (hk := ?_) | refine TL_assign (hk := ?_) | refine TL_load TE (hk := ?_) | refine TL_load_rd TE (hk := ?_) | refine TL_fieldAddr TE (hk := ?_) | refine TL_indexAddr1n TE (hk := ?_) | refine TL_len TE (hk := ?_) | refine TL_nilCheck (hk := ?_))
   rw [hi1]
   --
   refine TL_call TE (hc := Left_c keep w1 hsg.dk) (hk := ?_)
   rintro _ w2 ⟨Y, rfl, D2, T2, oY⟩
   obtain ⟨S2, T2'⟩ := S1.look (List.mem_append_right _ (List.mem_singleton.2 rfl)) D2 T2
   have O2 : ImM w2 w.heap.size y ys ((imgsR cs z keep).take cs.length) := by
    obtain ⟨⟨Z, m, s⟩, -, -⟩ := id T2'
    exact O.low m (fun b hb => old1 b (s b hb))
   have z2 := T2.size
   --
   refine TL_buildSlice TE (hk := ?_); intro b3 w3 e3 h3 h3' k3
   have S3 := S2.ext e3
   have O3 := O2.ext e3
   have oY3 := oY.be e3
   have z3 := e3.size
   replace k3 : Blk w3 b3 25 (rowV imV [Y]) := k3
   have r3 : Rd w3 (some ⟨b3, 0, none⟩) 1 1 (rowV imV [Y]) := Rd.blk k3 rfl
   have o3 := O3.ow
   --
   refine TL_append TE (ho := o3) (hr := r3) (h1 := rowV_one imV_one _) (hk := ?_); intro A4 c4 w4 o4 m4 n4
   rw [← rowV_append] at o4
   have O4 := O3.push (z := Y) (y' := (A4, y.2.1 + 1, c4)) (Own.weaken oY3 z1) (fun b hb q => by have := (oY.bl b hb).1; have := (O.ow.bl b q).2; omega) m4 o4 n4
   rw [← hsu] at O4
   have S4 := S3.modz m4 hz
   repeat (first | refine T_region ?_ | refine T_inBlock ?_ | refine TL_add (hk := ?_) | refine TL_nil ?_ | refine TL_move (hk := ?_) | refine TL_assign (hk := ?_))
   exact ih (cs.length + 1, (A4, y.2.1 + 1, c4)) _ _ (by simp only; omega) ⟨Nat.le_refl _, S4, tn_fresh ((T1.trans T2').trans (Tn.ext e3)) m4 (fun b hb => (O.ow.bl b hb).1), _, O4⟩ (.c rfl (.c rfl (.c rfl (.c rfl (.c rfl (.c rfl (.n)))))))
  ·clear ih
   obtain rfl : i = cs.length + 1 := by omega
   have hlt2 : ¬ ((cs.length + 1 : Nat) : Int) < (R.2.1 : Int) := by omega
   rw [List.take_of_length_le (by omega)] at O
   repeat (first | refine T_seq ?_ | refine T_region ?_ | refine T_cond_false rfl ?_ | refine T_exit rfl ?_ | refine TL_lt_f (hk := ?_) | refine TL_nil ?_ | refine TL_move (hk := ?_) | refine TL_assign (hk := ?_))
   exact T_ret1 rfl rfl ⟨y, ys, rfl, S1, T1, O⟩
end
end Go.Proofs.YtjlaomcankmdjaaGreat
namespace Go.Proofs.YtjlaomcankmdjaaGreat
open Go.Proofs.Eng Go.Proofs.Codec Go.Proofs.Foot Go.Proofs.Journal
def ImgsOk : List (List UInt8) → Nat → Int → List PT → Prop
 | [], _, _, ss => ss = []
 |b :: bs, f, ep, ss => ∃ s t, ss = s :: t ∧ ImgOk bs.isEmpty b f ep s ∧ ImgsOk bs s.hn s.hep t
def RdOk : List SR → List PT → Prop
 | [], [] => True
 |r :: rs, s :: ss => (r.ys.map emE = s.hes ∧ r.f + r.ys.length = s.hn) ∧ RdOk rs ss
 | _, _ => False
theorem RdOk.snoc : ∀ {rs : List SR} {ss : List PT} {r : SR} {s : PT}, RdOk rs ss → r.ys.map emE = s.hes → r.f + r.ys.length = s.hn → RdOk (rs ++ [r]) (ss ++ [s])
 | [], [], r, s, _, h1, h2 => ⟨⟨h1, h2⟩, trivial⟩
 |x :: rs, y :: ss, r, s, h, h1, h2 => ⟨h.1, RdOk.snoc h.2 h1 h2⟩
 | [], _ :: _, r, s, h, _, _ => h.elim
 | _ :: _, [], r, s, h, _, _ => h.elim
theorem RdOk.ents : ∀ {rs : List SR} {ss : List PT}, RdOk rs ss → entsR rs = (ss.map (·.hes)).flatten
 | [], [], _ => rfl
 |x :: rs, y :: ss, h => by
  have := RdOk.ents h.2
  unfold entsR at this ⊢
  rw [List.map_cons, List.flatten_cons, this, h.1.1, List.map_cons, List.flatten_cons]
 | [], _ :: _, h => h.elim
 | _ :: _, [], h => h.elim
def lastN : Nat → List PT → Nat
 |n, [] => n
 | _, s :: ss => lastN s.hn ss
theorem lastN_snoc : ∀ (n : Nat) (ss : List PT) (s : PT), lastN n (ss ++ [s]) = s.hn
 |n, [], s => rfl
 |n, x :: ss, s => lastN_snoc x.hn ss s
theorem RdOk.last : ∀ {rs : List SR} {ss : List PT} {z : SR} (n : Nat), RdOk (rs ++ [z]) ss → z.f + z.ys.length = lastN n ss
 | [], [s], z, n, h => h.1.2
 | [], [], z, n, h => h.elim
 | [], s :: u :: ss, z, n, h => h.2.elim
 |x :: rs, s :: ss, z, n, h => RdOk.last (rs := rs) s.hn h.2
 |x :: rs, [], z, n, h => h.elim
theorem chain_imgs {sz : Nat} {bs : List (List UInt8)} {ss : List PT} (hb : bs ≠ []) : ∀ {L L' : LE} {ls : List (List EP)} {rs : List SR}, ChainS sz L ls rs L' → LOk L → GoodF L ls.flatten → ImgsOk bs L'.l.length L'.ep ss →
  ∃ ss0, ImgsOk ((rs.map fun r => r.k.b) ++ bs) L.l.length L.ep (ss0 ++ ss) ∧ (ss0.map (·.hes)).flatten = entsF L ls.flatten
 | L, L', [], [], ch, hL, g, h => ⟨[], by cases ch; exact h, rfl⟩
 | L, L', l :: ls, r :: rs, ch, hL, g, h => by
  rw [List.flatten_cons] at g
  obtain ⟨g1, g2⟩ := GoodF_app.1 g
  obtain ⟨ss0, h1, h2⟩ := chain_imgs hb ch.2 (logF_ok hL g1) g2 h
  obtain ⟨s, i1, i2, i3⟩ := whole_img hL g1
  have he : ((rs.map fun r => r.k.b) ++ bs).isEmpty = false := by
   cases hq : (rs.map fun r => r.k.b) ++ bs with
   |nil => exact absurd (List.append_eq_nil_iff.1 hq).2 hb
   |cons a b => rfl
  refine ⟨s :: ss0, ⟨s, ss0 ++ ss, rfl, ?_, ?_⟩, ?_⟩
  ·show ImgOk ((rs.map fun r => r.k.b) ++ bs).isEmpty r.k.b L.l.length L.ep s
   rw [he, ch.1.1.b]; exact i1
  ·show ImgsOk ((rs.map fun r => r.k.b) ++ bs) s.hn s.hep (ss0 ++ ss)
   rw [i2.n, i2.ep]; exact h1
  ·rw [List.map_cons, List.flatten_cons, h2, i3, List.flatten_cons, entsF_app]
 | L, L', [], _ :: _, ch, hL, g, h => ch.elim
 | L, L', _ :: _, [], ch, hL, g, h => ch.elim
theorem HI.imgs {sz m : Nat} {cs : List SR} {z : SR} {ep : Int} {pre : List EP} {ls : List (List EP)} {l : List EP} (H : HI sz cs z ep pre ls l m) (hsf : z.k.sf ≤ z.k.b.length) (keep : Int) :
  ∃ c ss, m ≤ c ∧ c ≤ l.length ∧ ImgsOk (imgsR cs z keep) (logF L0 pre).l.length (logF L0 pre).ep ss ∧ (logF L0 pre).l ++ (ss.map (·.hes)).flatten = (logF L0 ((pre ++ ls.flatten) ++ l.take c)).l ∧ lastN 0 ss = (logF L0 ((pre ++ ls.flatten) ++ l.take c)).l.length := by
 obtain ⟨hLz, gz⟩ := H.okL
 have gp := (GoodF_app.1 H.g).1
 have gp2 := GoodF_app.1 gp
 obtain ⟨c, s, c1, c2, i1, i2, i3⟩ := part_img hLz gz (x := leftN z.k keep) H.hm (by rw [← H.sf]; unfold leftN; omega) (by rw [← H.la.b]; unfold leftN; split <;> (try split) <;> omega)
 have hlast : leftD z.k keep = (segB (logF L0 (pre ++ ls.flatten)) l).take (leftN z.k keep) := by unfold leftD; rw [H.la.b]
 obtain ⟨ss0, j1, j2⟩ := chain_imgs (bs := [leftD z.k keep]) (ss := [s]) (by simp) H.ch H.okP gp2.2 ⟨s, [], rfl, by rw [hlast]; exact i1, rfl⟩
 have hmap : (cs.map fun r => bytesD r.k) = cs.map fun r => r.k.b := List.map_congr_left fun r hr => by
  unfold bytesD
  rw [(H.ch.size r hr).2]
  rfl
 refine ⟨c, ss0 ++ [s], c1, c2, by unfold imgsR; rw [hmap]; exact j1, ?_, ?_⟩
 ·rw [List.map_append, List.flatten_append, j2, List.map_singleton, List.flatten_singleton, i3, logF_app L0 (pre ++ ls.flatten), logF_ents (logF L0 (pre ++ ls.flatten)), logF_app L0 pre ls.flatten, logF_ents (logF L0 pre) ls.flatten, List.append_assoc]
 ·rw [lastN_snoc, i2, ← logF_app]
theorem frames_open {b : List UInt8} {x : List UInt8} {t : List (List UInt8)} {n : Nat} {why : Int} (h : frames b = (x :: t, n, why)) : (openF b).2.2 = 0 := by
 unfold frames at h
 cases hb : b.length with
 |zero => rw [hb] at h; simp [framesF] at h
 |succ k =>
  rw [hb] at h
  unfold framesF at h
  split at h
  ·simp at h
  ·split at h
   ·rename_i q; exact q
   ·simp at h
end Go.Proofs.YtjlaomcankmdjaaGreat
namespace Go.Proofs.YtjlaomcankmdjaaGreat
open Go.RowKit Go.Proofs.Eng Go.Proofs.Codec Go.Proofs.Foot Go.Proofs.Journal
set_option linter.unusedVariables false set_option maxRecDepth 10000
attribute [local irreducible] T TL LV TH TA
set_option maxHeartbeats 1600000
theorem torn_c (A : Option Addr) (n c : Nat) (b : List UInt8) (w : World) (h : Rd w A n 1 (bv b)) (hn : n ≤ 7036874417) (hcap : n ≤ c) :
  Ret Tryz.prog 85 [.slice A n c] w (fun v w' => v = .bool (decide ((openF b).2.2 = 3)) ∧ Ext w w') := by
 refine ret_T (n := 14) Tryz.func85 rfl rfl ?_
 repeat (first | refine T_seq ?_ | refine T_region ?_ | refine TL_nil ?_ | refine TL_move (hk := ?_) | refine TL_assign (hk := ?_))
 refine TL_call TE (hc := Open_c A n c b w h (by omega) hcap) (hk := ?_)
 rintro _ w1 ⟨A1, n1, c1, rfl, e1, q1⟩
 by_cases q : (openF b).2.2 = 3
 ·repeat (first | refine T_seq ?_ | refine T_region ?_ | refine TL_eq_t (hk := ?_) | refine TL_nil ?_ | refine TL_move (hk := ?_) | refine TL_assign (hk := ?_) | refine TL_extract (hk := ?_))
  exact T_ret1 rfl rfl ⟨by simp [q], e1⟩
 ·repeat (first | refine T_seq ?_ | refine T_region ?_ | refine TL_eq_f (hk := ?_) | refine TL_nil ?_ | refine TL_move (hk := ?_) | refine TL_assign (hk := ?_) | refine TL_extract (hk := ?_))
  exact T_ret1 rfl rfl ⟨by simp [q], e1⟩
theorem head_c (f : Nat) (ep : Int) (A : Option Addr) (n c : Nat) (w : World) (h : Rd w A n 1 (bv (headL f ep))) (hn : n ≤ 65536) (hcap : n ≤ c) (hf : f ≤ 65536) (hep : 0 ≤ ep ∧ ep ≤ 9223372036854775807) :
  Ret Tryz.prog 116 [.slice A n c] w (fun v w' => v = .tuple #[.int .i64 (f : Int), .int .i64 ep, .bool true] ∧ Ext w w') := by
 have hbl : (headL f ep).length = n := by simpa using h.1
 have hk3 : gb (headL f ep) 0 = 3 := rfl
 have hh : headL f ep = 3 :: (encU f ++ encU ep.toNat) := rfl
 have hl : (headL f ep).length = (encU f ++ encU ep.toNat).length + 1 := rfl
 have h1 := Rd.tail1 (p := 1) h (by omega) hcap
 have hd : (headL f ep).drop 1 = encU f ++ encU ep.toNat := rfl
 rw [hd] at h1
 have hA : A ≠ none := by obtain ⟨_, _, hq, _⟩ := h.2 (by omega); rw [hq]; simp
 have h0 : (bv (headL f ep))[0]? = some (.int .u8 3) := rfl
 have l0 := Lf.start (encU f ++ encU ep.toNat)
 obtain ⟨s1, q1, l1⟩ := l0.num (by omega)
 have l1' : Lf s1 (encU f ++ encU ep.toNat) (encU ep.toNat ++ []) := by rw [List.append_nil]; exact l1
 obtain ⟨s2, q2, l2⟩ := l1'.num (by omega)
 have hep2 : ((ep.toNat : Nat) : Int) = ep := by omega
 obtain ⟨x, hx⟩ : ∃ x, ep.toNat = x := ⟨_, rfl⟩
 rw [hx] at q2 hep2
 refine ret_T (n := 39) Tryz.func116 rfl rfl ?_
 repeat (first | refine T_seq ?_ | refine T_region ?_ | refine T_cond_false rfl ?_ | refine T_skip ?_ | refine TL_eq_f (hk := ?_) | refine TL_ne_f (hk := ?_) | refine TL_nil ?_ | refine TL_move (hk := ?_) | refine TL_assign (hk := ?_) | (refine TL_load_b TE (hk := ?_); intro _) | refine TL_indexAddr1n TE (hk := ?_) | refine TL_len TE (hk := ?_) | refine TL_yes (hk := ?_) | refine TL_pick_f (hk := ?_) | refine TL_slice_lo TE (hk := ?_))
 refine TL_call TE (hc := NewReader_c _ _ _ (encU f ++ encU ep.toNat) w h1 (by omega)) (hk := ?_)
 rintro _ w1 ⟨bR, A3, n3, c3, rfl, e1, hbR, hi3, lo3, rr⟩
 have z1 := e1.size
 repeat (first | refine T_seq ?_ | refine T_region ?_ | refine TL_nil ?_ | refine TL_move (hk := ?_) | refine TL_assign (hk := ?_))
 refine TL_call TE (hc := Uint_c bR _ A3 n3 c3 w1 rr) (hk := ?_)
 rintro _ w2 ⟨rfl, m2, rr2⟩
 rw [q1] at rr2 ⊢
 repeat (refine TL_move (hk := ?_))
 refine TL_call TE (hc := Uint_c bR _ A3 n3 c3 w2 rr2) (hk := ?_)
 rintro _ w3 ⟨rfl, m3, rr3⟩
 rw [q2] at rr3 ⊢
 repeat (first | refine T_seq ?_ | refine T_region ?_ | refine TL_nil ?_ | refine TL_move (hk := ?_) | refine TL_assign (hk := ?_))
 refine TL_call TE (hc := End_c bR _ A3 n3 c3 w3 rr3) (hk := ?_)
 rintro _ w4 ⟨rfl, m4, rr4⟩
 rw [l2.fin, l2.1]
 have z2 := m2.size
 have z3 := m3.size
 have z4 := m4.size
 have e04 : Ext w w4 := ((e1.step m2 (fun u hu => .inr (by rw [List.mem_singleton.1 hu]; omega))).step m3 (fun u hu => .inr (by rw [List.mem_singleton.1 hu]; omega))).step m4 (fun u hu => .inr (by rw [List.mem_singleton.1 hu]; omega))
 clear rr rr2 rr3 rr4
 repeat (first | refine T_seq ?_ | refine T_region ?_ | refine T_cond_false rfl ?_ | refine T_skip ?_ | refine TL_ge_f (hk := ?_) | refine TL_ne_f (hk := ?_) | refine TL_nil ?_ | refine TL_move (hk := ?_) | refine TL_assign (hk := ?_) | refine TL_yes (hk := ?_) | refine TL_pick_f (hk := ?_) | refine TL_conv TE (hk := ?_))
 exact T_ret3 rfl rfl rfl rfl ⟨by rw [hep2], e04⟩
set_option maxHeartbeats 1600000
structure PtM (w : World) (base pb : Nat) (o y : SL) (os ys : List EM) (g : Nat → Nat) (s : PT) : Prop where
 blk : Blk w pb 154 [.int .i64 (s.hn : Int), .int .i64 s.hep, sL o, sL y]
 oo : Own w base 47 9 o.1 o.2.1 o.2.2 (rowV emV os)
 yo : Own w base 47 9 y.1 y.2.1 y.2.2 (rowV emV ys)
 oe : os.map emE = s.hop
 ye : ys.map emE = s.hes
 ek : ∀ z ∈ os ++ ys, POwn w base z.m ∧ PFit z.m.p ∧ ∀ b ∈ pmB z.m, g b = 4
 g1 : g pb = 1
 g2 : ∀ b ∈ blkL o.1, g b = 2
 g3 : ∀ b ∈ blkL y.1, g b = 3
 old : ∀ b, g b ≠ 0 → base ≤ b ∧ b < w.heap.size
 nn : s.hn + s.hop.length ≤ 65536
 nx : s.hes.length ≤ s.hn
 ep : -9223372036854775808 ≤ s.hep ∧ s.hep ≤ 9223372036854775807
section
variable {w w' w1 w2 w3 : World} {base pb : Nat} {o y o' y' : SL} {os ys : List EM} {g g' : Nat → Nat} {s : PT}
theorem PtM.ext (S : PtM w base pb o y os ys g s) (e : Ext w w') : PtM w' base pb o y os ys g s :=
 { S with blk := S.blk.be e, oo := S.oo.be e, yo := S.yo.be e, ek := fun z hz => ⟨(S.ek z hz).1.be e, (S.ek z hz).2⟩, old := fun b hb => by have := S.old b hb; have := e.size; omega }
theorem PtM.len (S : PtM w base pb o y os ys g s) : os.length = o.2.1 ∧ s.hop.length = o.2.1 ∧ ys.length = y.2.1 ∧ s.hes.length = y.2.1 := by
 have h1 := S.oo.len
 have h2 := S.yo.len
 rw [rowV_len emV_len] at h1 h2
 have h3 := congrArg List.length S.oe
 have h4 := congrArg List.length S.ye
 rw [List.length_map] at h3 h4
 omega
theorem PtM.push (S : PtM w base pb o y os ys g s) {z : EM} (X : POwn w1 w.heap.size z.m) (F : PFit z.m.p) (e1 : Ext w w1) (m2 : Eng.Mod (blkL o.1) w1 w2) (ho : Own w2 base 47 9 o'.1 o'.2.1 o'.2.2 (rowV emV (os ++ [z]))) (hn : Near o.1 o'.1 w1) (m3 : Eng.Mod [pb] w2 w3) (hb : Blk w3 pb 154 [.int .i64 (s.hn : Int), .int .i64 s.hep, sL o', sL y]) (hl : s.hn + s.hop.length < 65536) :
  ∃ g', PtM w3 base pb o' y (os ++ [z]) ys g' (ptE s (emE z)) ∧ Tn g g' w w3 := by
 have z1 := e1.size
 have z2 := m2.size
 have z3 := m3.size
 have hbs : base ≤ w.heap.size := by have := S.old pb (by rw [S.g1]; decide); omega
 have M13 : Eng.Mod (pb :: blkL o.1) w1 w3 := (m2.mono (S' := pb :: blkL o.1) (fun b hb => .inl (List.mem_cons_of_mem _ hb))).step m3 (fun b hb => .inl (by rw [List.mem_singleton.1 hb]; exact List.mem_cons_self))
 have M : Eng.Mod (pb :: blkL o.1) w w3 := (e1.mono (S' := pb :: blkL o.1) (fun b hb => by cases hb)).step M13 (fun b hb => .inl hb)
 have hZ : ∀ b ∈ pb :: blkL o.1, g b = 1 ∨ g b = 2 := fun b hb => (List.mem_cons.1 hb).elim (fun q => by rw [q]; exact .inl S.g1) (fun q => .inr (S.g2 b q))
 have hz : ∀ b, w.heap.size ≤ b → g b = 0 := fun b hb => by
  by_cases q : g b = 0
  ·exact q
  ·have := (S.old b q).2; omega
 have hn' : ∀ b ∈ blkL o'.1, b ∈ blkL o.1 ∨ w1.heap.size ≤ b := fun b hb => Near.mem hn b hb
 have hX := X.bl
 obtain ⟨g', hg⟩ : ∃ g' : Nat → Nat, g' = fun b => if b ∈ pmB z.m then 4 else if b ∈ blkL o'.1 then 2 else g b := ⟨_, rfl⟩
 have e4 : ∀ b ∈ pmB z.m, g' b = 4 := fun b hb => by rw [hg]; exact if_pos hb
 have e2 : ∀ b ∈ blkL o'.1, g' b = 2 := fun b hb => by
  have q : b ∉ pmB z.m := fun q => by
   have h1 := hX b q
   rcases hn' b hb with h2 | h2
   ·have := S.g2 b h2; have := hz b h1.1; omega
   ·omega
  rw [hg]; simp only; rw [if_neg q, if_pos hb]
 have eo : ∀ b v, v ≠ 0 → g b = v → g' b = v := fun b v h0 hb => by
  have q : b ∉ pmB z.m := fun q => by have := hz b (hX b q).1; omega
  rw [hg]; simp only; rw [if_neg q]
  by_cases q2 : b ∈ blkL o'.1
  ·rw [if_pos q2]
   rcases hn' b q2 with h2 | h2
   ·have := S.g2 b h2; omega
   ·have := hz b (by omega); omega
  ·rw [if_neg q2]; exact hb
 have hnz : ∀ b, g' b ≠ 0 → g b ≠ 0 ∨ b ∈ pmB z.m ∨ b ∈ blkL o'.1 := fun b hb => by
  by_cases q : b ∈ pmB z.m
  ·exact .inr (.inl q)
  ·by_cases q2 : b ∈ blkL o'.1
   ·exact .inr (.inr q2)
   ·rw [hg] at hb; simp only at hb; rw [if_neg q, if_neg q2] at hb; exact .inl hb
 have hpn : pb ∉ blkL o'.1 := fun q => by
  have h1 := S.g1
  rcases hn' _ q with h2 | h2
  ·have := S.g2 _ h2; omega
  ·have := hz pb (by omega); omega
 refine ⟨g', ⟨hb, ho.modL m3 (fun b hb q => hpn (by rw [List.mem_singleton] at q; rw [← q]; exact hb)), S.yo.modL M (fun b hb q => by have := hZ b q; have := S.g3 b hb; omega), by rw [List.map_append, S.oe]; rfl, S.ye, fun u hu => ?_, eo _ 1 (by decide) S.g1, e2, fun b hb => eo b 3 (by decide) (S.g3 b hb), fun b hb => ?_, ?_, S.nx, S.ep⟩, ⟨⟨_, M, fun b hb => by have := hZ b hb; omega⟩, fun b hb => ?_, by omega⟩⟩
 ·rw [List.append_assoc] at hu
  have hu' : u ∈ os ++ ys ∨ u = z := by
   simp only [List.mem_append, List.mem_singleton] at hu ⊢
   rcases hu with q | q | q
   ·exact .inl (.inl q)
   ·exact .inr q
   ·exact .inl (.inr q)
  rcases hu' with q | rfl
  ·obtain ⟨h1, h2, h3⟩ := S.ek u q
   exact ⟨h1.modL M (fun b hb q2 => by have := hZ b q2; have := h3 b hb; omega), h2, fun b hb => eo b 4 (by decide) (h3 b hb)⟩
  ·exact ⟨(X.weaken hbs).modL M13 (fun b hb q2 => by have := hZ b q2; have := hz b (hX b hb).1; omega), F, e4⟩
 ·rcases hnz b hb with q | q | q
  ·have := S.old b q; omega
  ·have := hX b q; omega
  ·have := ho.bl b q; omega
 ·show s.hn + (s.hop ++ [emE z]).length ≤ 65536
  rw [List.length_append]; simp only [List.length_cons, List.length_nil]; omega
 ·rcases hnz b hb with q | q | q
  ·exact .inl q
  ·exact .inr (hX b q).1
  ·rcases hn' b q with h2 | h2
   ·left; have := S.g2 b h2; omega
   ·exact .inr (by omega)
theorem PtM.fin (S : PtM w base pb o y os ys g s) {n : Nat} (m2 : Eng.Mod (pb :: blkL y.1) w w2) (ho : Own w2 base 47 9 y'.1 y'.2.1 y'.2.2 (rowV emV (ys ++ os))) (hn : ∀ b ∈ blkL y'.1, b ∈ blkL y.1 ∨ w.heap.size ≤ b) (m3 : Eng.Mod [pb] w2 w3) (hb : Blk w3 pb 154 [.int .i64 ((s.hn + s.hop.length : Nat) : Int), .int .i64 (n : Int), sL (none, 0, 0), sL y']) (he : n ≤ 9223372036854775807) :
  ∃ g', PtM w3 base pb (none, 0, 0) y' [] (ys ++ os) g' (ptN s n) ∧ Tn g g' w w3 := by
 have z2 := m2.size
 have z3 := m3.size
 have M : Eng.Mod (pb :: blkL y.1) w w3 := m2.step m3 (fun b hb => .inl (by rw [List.mem_singleton.1 hb]; exact List.mem_cons_self))
 have hZ : ∀ b ∈ pb :: blkL y.1, g b = 1 ∨ g b = 3 := fun b hb => (List.mem_cons.1 hb).elim (fun q => by rw [q]; exact .inl S.g1) (fun q => .inr (S.g3 b q))
 have hz : ∀ b, w.heap.size ≤ b → g b = 0 := fun b hb => by
  by_cases q : g b = 0
  ·exact q
  ·have := (S.old b q).2; omega
 obtain ⟨g', hg⟩ : ∃ g' : Nat → Nat, g' = fun b => if b ∈ blkL y'.1 then 3 else g b := ⟨_, rfl⟩
 have e3 : ∀ b ∈ blkL y'.1, g' b = 3 := fun b hb => by rw [hg]; exact if_pos hb
 have eo : ∀ b v, v ≠ 0 → g b = v → g' b = v := fun b v h0 hb => by
  rw [hg]; simp only
  by_cases q2 : b ∈ blkL y'.1
  ·rw [if_pos q2]
   rcases hn b q2 with h2 | h2
   ·have := S.g3 b h2; omega
   ·have := hz b h2; omega
  ·rw [if_neg q2]; exact hb
 have hnz : ∀ b, g' b ≠ 0 → g b ≠ 0 ∨ b ∈ blkL y'.1 := fun b hb => by
  by_cases q2 : b ∈ blkL y'.1
  ·exact .inr q2
  ·rw [hg] at hb; simp only at hb; rw [if_neg q2] at hb; exact .inl hb
 have hpn : pb ∉ blkL y'.1 := fun q => by
  have h1 := S.g1
  rcases hn _ q with h2 | h2
  ·have := S.g3 _ h2; omega
  ·have := hz pb h2; omega
 refine ⟨g', ⟨hb, Own.nil _ _ _ _, ho.modL m3 (fun b hb q => hpn (by rw [List.mem_singleton] at q; rw [← q]; exact hb)), rfl, by rw [List.map_append, S.oe, S.ye]; rfl, fun u hu => ?_, eo _ 1 (by decide) S.g1, fun b hb => (by cases hb), e3, fun b hb => ?_, by have := S.nn; exact this, ?_, ?_⟩, ⟨⟨_, M, fun b hb => by have := hZ b hb; omega⟩, fun b hb => ?_, by omega⟩⟩
 ·rw [List.nil_append] at hu
  obtain ⟨h1, h2, h3⟩ := S.ek u (by simp only [List.mem_append] at hu ⊢; exact hu.symm)
  exact ⟨h1.modL M (fun b hb q2 => by have := hZ b q2; have := h3 b hb; omega), h2, fun b hb => eo b 4 (by decide) (h3 b hb)⟩
 ·rcases hnz b hb with q | q
  ·have := S.old b q; omega
  ·have := ho.bl b q; omega
 ·show (s.hes ++ s.hop).length ≤ s.hn + s.hop.length
  rw [List.length_append]; have := S.nx; omega
 ·show -9223372036854775808 ≤ (n : Int) ∧ (n : Int) ≤ 9223372036854775807
  omega
 ·rcases hnz b hb with q | q
  ·exact .inl q
  ·rcases hn b q with h2 | h2
   ·left; have := S.g3 b h2; omega
   ·exact .inr h2
end
set_option maxHeartbeats 1600000
theorem ptE_c {base pb : Nat} {o y : SL} {os ys : List EM} {g : Nat → Nat} {s s' : PT} (A : Option Addr) (n c : Nat) (b : List UInt8) (w : World) (S : PtM w base pb o y os ys g s) (h : Rd w A n 1 (bv b)) (hn : n ≤ 65536) (hcap : n ≤ c) (hE : PtE s b s') :
  Ret Tryz.prog 158 [pB pb, .slice A n c] w (fun v w' => v = .bool true ∧ ∃ o' os' g', PtM w' base pb o' y os' ys g' s' ∧ Tn g g' w w') := by
 obtain ⟨e, hg, hsq, hlt, hle, hop, rfl⟩ := hE
 obtain ⟨l1, l2, l3, l4⟩ := S.len
 have hfit := getEn_fit b e hg
 have hnn := S.nn
 have hep := S.ep
 refine ret_T (n := 74) Tryz.func158 rfl rfl ?_
 repeat (first | refine T_seq ?_ | refine T_region ?_ | refine TL_nil ?_ | refine TL_move (hk := ?_) | refine TL_assign (hk := ?_))
 refine TL_call TE (hc := EGet_c A n c b w h (by omega) hcap) (hk := ?_)
 rintro _ w1 ⟨_, qe, rfl, e1, ⟨x, rfl, ox, hx⟩⟩
 rw [hg] at hx
 obtain ⟨rfl, hxe⟩ := hx
 have hxs : x.sq = e.sq := congrArg EE.sq hxe
 have hxp : x.ep = e.ep := congrArg EE.ep hxe
 have hxm : x.m.p = e.p := congrArg EE.p hxe
 repeat (first | refine TL_move (hk := ?_) | refine TL_extract (hk := ?_))
 refine TL_alloc TE (hk := ?_); intro b2 w2 e2 h2 h2' k2
 --
 refine TL_storea TE (hk := ?_); intro w3 m3 z3 k3
 replace k3 : Blk w3 b2 47 (emV x) := k3
 unfold emV pmV at k3
 have z1 := e1.size
 have z2 := e2.size
 have e03 : Ext w w3 := (e1.ext e2).step m3 (fun u hu => .inr (by rw [List.mem_singleton.1 hu]; omega))
 have S3 := S.ext e03
 have ox3 : POwn w3 w.heap.size x.m := (ox.be e2).modL m3 (fun u hu q => by have := (ox.bl u hu).2; rw [List.mem_singleton] at q; omega)
 have kb3 := S3.blk
 have ro3 := S3.oo.rd
 clear k2
 repeat (first | refine T_seq ?_ | refine T_region_q TE.mixed (by kernel_rfl) ?_ | refine TL_add (hk := ?_) | refine TL_nil ?_ | refine TL_move (hk := ?_) | refine TL_assign (hk := ?_) | refine TL_load TE (hk := ?_) | refine TL_fieldAddr TE (hk := ?_) | refine TL_len TE (hk := ?_) | refine TL_nilCheck (hk := ?_))
 refine TL_nil_q ?_; intro w4 e4
 have S4 := S3.ext e4
 have ox4 := ox3.be e4
 have k4 := k3.be e4
 have kb4 := S4.blk
 have ro4 := S4.oo.rd
 obtain ⟨nx, hnxd⟩ : ∃ nx, s.hn + s.hop.length = nx := ⟨_, rfl⟩
 have hnx : (s.hn : Int) + (o.2.1 : Int) = (nx : Int) := by omega
 rw [hnx]
 rw [hnxd] at hsq hlt
 have d1 : x.sq = (nx : Int) := by omega
 have d2 : ¬ (65536 : Int) ≤ (nx : Int) := by omega
 have d3 : ¬ x.ep < s.hep := by omega
 clear S3 ox3 k3 kb3 ro3
 --
 refine T_seq ?_
 refine T_seq ?_
 refine T_join (ι := Unit) (fun _ => [(63, .bool false), (5, .pointer (some ⟨b2, 0, none⟩)), (1, .slice A n c), (0, pB pb)]) (fun _ w' => Ext w4 w') (fun kk join => ?_) ?_
 ·by_cases d4 : (0 : Int) < (o.2.1 : Int)
  ·have hO : o.1 ≠ none := by obtain ⟨_, _, hq, _⟩ := ro4.2 (by omega); rw [hq]; simp
   have t1 := rowV_at emV_len os 0 1 em0 (by omega) (by decide)
   have hoe : x.ep = (os.getD 0 em0).ep := by
    have h1 := hop (by omega)
    rw [hxp, h1, ← S.oe, List.getD_eq_getElem?_getD, List.getD_eq_getElem?_getD, List.getElem?_map, List.getElem?_eq_getElem (by omega)]
    rfl
   replace t1 : (rowV emV os)[0 * 9 + 1]? = some (.int .i64 x.ep) := by rw [t1, hoe]; rfl
   repeat (first | refine T_region_q TE.mixed (by kernel_rfl) ?_ | refine TL_lt_f (hk := ?_) | refine TL_gt_t (hk := ?_) | refine TL_ge_f (hk := ?_) | refine TL_ne_f (hk := ?_) | refine TL_move (hk := ?_) | refine TL_load TE (hk := ?_) | refine TL_load_rd TE (hk := ?_) | refine TL_fieldAddr TE (hk := ?_) | refine TL_fieldAddr_e TE (hk := ?_) | refine TL_indexAddrn TE (hk := ?_) | refine TL_len TE (hk := ?_) | refine TL_yes (hk := ?_) | refine TL_pick_t (hk := ?_) | refine TL_pick_f (hk := ?_) | refine TL_nilCheck (hk := ?_))
   refine TL_nil_q ?_; intro w5 e5
   exact T.sub (join () _ e5) (.c rfl (.c rfl (.c rfl (.c rfl (.n)))))
  ·repeat (first | refine T_region_q TE.mixed (by kernel_rfl) ?_ | refine TL_lt_f (hk := ?_) | refine TL_gt_f (hk := ?_) | refine TL_ge_f (hk := ?_) | refine TL_ne_f (hk := ?_) | refine TL_move (hk := ?_) | refine TL_load TE (hk := ?_) | refine TL_fieldAddr TE (hk := ?_) | refine TL_len TE (hk := ?_) | refine TL_yes (hk := ?_) | refine TL_no (hk := ?_) | refine TL_pick_f (hk := ?_) | refine TL_nilCheck (hk := ?_))
   refine TL_nil_q ?_; intro w5 e5
   exact T.sub (join () _ e5) (.c rfl (.c rfl (.c rfl (.c rfl (.n)))))
 rintro _ w5 e5
 have S5 := S4.ext e5
 have ox5 := ox4.be e5
 have k5 := k4.be e5
 have e05 := (e03.ext e4).ext e5
 have z05 := e05.size
 clear S4 ox4 k4 kb4 ro4
 have hpl : pb < w.heap.size := S.blk.lt
 have hol : ∀ u ∈ blkL o.1, u < w.heap.size := fun u hu => (S.oo.bl u hu).2
 have hpo : pb ∉ blkL o.1 := fun q => by have := S.g2 pb q; have := S.g1; omega
 have n2D : b2 ∉ pb :: blkL o.1 := fun q => (List.mem_cons.1 q).elim (fun q => by omega) (fun q => by have := hol _ q; omega)
 have hbs : base ≤ w.heap.size := by have := S.old pb (by rw [S.g1]; decide); omega
 repeat (first | refine T_seq ?_ | refine T_cond_false rfl ?_ | refine T_skip ?_)
 refine T_region_any TE.mixed (pb :: blkL o.1) ?_; intro w6 e6 z6
 have S6 := S5.ext e6
 have kb6 := S6.blk
 have o6 := S6.oo
 have k6 := k5.be e6
 have ox6 := ox5.be e6
 have e06 := e05.ext e6
 have z06 := e06.size
 have fin : ∀ (w7 w8 w9 : World) (y' : SL), Ext w6 w7 → Eng.Mod (blkL o.1) w7 w8 → Own w8 base 47 9 y'.1 y'.2.1 y'.2.2 (rowV emV (os ++ [x])) → Near o.1 y'.1 w7 → Eng.Mod [pb] w8 w9 → Blk w9 pb 154 [.int .i64 (s.hn : Int), .int .i64 s.hep, sL y', sL y] → ∃ o' os' g', PtM w9 base pb o' y os' ys g' (ptE s e) ∧ Tn g g' w w9 := by
  intro w7 w8 w9 y' e67 m78 o8 nr m89 k9
  obtain ⟨g', h1, h2⟩ := S.push (ox6.be e67) (by rw [hxm]; exact hfit) (e06.ext e67) m78 o8 nr m89 k9 (by omega)
  rw [hxe] at h1
  exact ⟨_, _, g', h1, h2⟩
 (refine TA_take 0 rfl (by kernel_rfl) (by kernel_rfl) (by kernel_rfl) ?_; (repeat (first | refine TL_move (hk := ?_) | refine TL_fieldAddr TE (hk := ?_) | refine TL_nilCheck (hk := ?_))); refine TL_nil_p ?_); (refine TA_take 1 rfl (by kernel_rfl) (by kernel_rfl) (by kernel_rfl) ?_; (repeat (first | refine TL_move (hk := ?_) | refine TL_fieldAddr TE (hk := ?_) | refine TL_nilCheck (hk := ?_))); refine TL_nil_p ?_); (refine TA_take 2 rfl (by kernel_rfl) (by kernel_rfl) (by kernel_rfl) ?_; (repeat (first | refine TL_move (hk := ?_) | refine TL_fieldAddr TE (hk := ?_) | refine TL_nilCheck (hk := ?_))); refine TL_nil_p ?_); (refine TA_take 3 rfl (by kernel_rfl) (by kernel_rfl) (by kernel_rfl) ?_; (repeat (first | refine TL_move (hk := ?_) | refine TL_fieldAddr TE (hk := ?_) | refine TL_nilCheck (hk := ?_))); refine TL_nil_p ?_)
 refine TA_take 5 rfl (by kernel_rfl) (by kernel_rfl) (by kernel_rfl) ?_
 refine TLP_loadb TE (cs := [.int .i64 x.sq, .int .i64 x.ep, .int .i64 x.m.p.q.cl, .int .u64 (x.m.p.q.tk : Int), .string (ofL x.m.p.q.nm), sL x.m.a, .int .i64 x.m.p.how, sL x.m.b, sL x.m.c]) (o := 0) (hb := k6) (hD := n2D) (hk := ?_)
 refine TL_nil_p ?_
 refine TA_two 4 6 rfl rfl (by kernel_rfl) (by kernel_rfl) ?_ ?_
 ·refine TLN_load TE (hb := kb6) (hq := Mod.refl _ _) (hk := ?_)
  refine TL_nil_p ?_
  refine TA_one 6 rfl (by kernel_rfl) (by kernel_rfl) ?_
  refine TL_buildSliceA TE (hf := rfl) (hq := fun w' e => Ext.mod e) (hk := ?_); intro b17 w8 e17 h17 h17' k17
  refine TL_nil_p ?_
  replace k17 : Blk w8 b17 47 (rowV emV [x]) := k17
  have r17 : Rd w8 (some ⟨b17, 0, none⟩) 1 9 (rowV emV [x]) := Rd.blk k17 rfl
  have o8 := o6.be e17
  have kb8 := kb6.be e17
  have zz8 := e17.size
  refine TA_one 7 rfl (by kernel_rfl) (by kernel_rfl) ?_
  refine TL_append TE (ho := o8) (hr := r17) (h1 := rowV_one emV_one _) (hf := rfl) (hq := fun w' m => (Ext.mod e17).step m (fun u hu => .inl (List.mem_cons_of_mem _ hu))) (hk := ?_); intro A9 c9 w9 o9 m9 n9
  rw [← rowV_append] at o9
  have kb9 := kb8.mod m9 hpo
  have zz9 := m9.size
  have M9 : Eng.Mod (pb :: blkL o.1) w6 w9 := (Ext.mod e17).step m9 (fun u hu => .inl (List.mem_cons_of_mem _ hu))
  refine TL_nil_p ?_
  (refine TA_take 8 rfl (by kernel_rfl) (by kernel_rfl) (by kernel_rfl) ?_; (repeat (first | refine TL_fieldAddr TE (hk := ?_) | refine TL_nilCheck (hk := ?_))); refine TL_nil_p ?_); (refine TA_take 9 rfl (by kernel_rfl) (by kernel_rfl) (by kernel_rfl) ?_; (repeat (first | refine TL_fieldAddr TE (hk := ?_) | refine TL_nilCheck (hk := ?_))); refine TL_nil_p ?_)
  refine TA_one 10 rfl (by kernel_rfl) (by kernel_rfl) ?_
  refine TL_store TE (hb := kb9) (hf := rfl) (hq := fun _ m _ => M9.step m (fun u hu => .inl (by rw [List.mem_singleton.1 hu]; exact List.mem_cons_self))) (hk := ?_); intro w10 m10 z10 k10
  refine TL_nil_p ?_
  refine TA_done (by kernel_rfl) ?_
  repeat (first | refine T_seq ?_ | refine T_region ?_ | refine TL_nil ?_ | refine TL_assign (hk := ?_))
  exact T_ret1 rfl rfl ⟨rfl, fin w8 w9 w10 (A9, o.2.1 + 1, c9) e17 m9 o9 n9 m10 k10⟩
 ·refine TL_buildSliceA TE (hf := rfl) (hq := fun w' e => Ext.mod e) (hk := ?_); intro b17 w8 e17 h17 h17' k17
  refine TL_nil_p ?_
  refine TA_one 4 rfl (by kernel_rfl) (by kernel_rfl) ?_
  refine TLN_load TE (hb := kb6.be e17) (hq := Ext.mod e17) (hk := ?_)
  refine TL_nil_p ?_
  replace k17 : Blk w8 b17 47 (rowV emV [x]) := k17
  have r17 : Rd w8 (some ⟨b17, 0, none⟩) 1 9 (rowV emV [x]) := Rd.blk k17 rfl
  have o8 := o6.be e17
  have kb8 := kb6.be e17
  have zz8 := e17.size
  refine TA_one 7 rfl (by kernel_rfl) (by kernel_rfl) ?_
  refine TL_append TE (ho := o8) (hr := r17) (h1 := rowV_one emV_one _) (hf := rfl) (hq := fun w' m => (Ext.mod e17).step m (fun u hu => .inl (List.mem_cons_of_mem _ hu))) (hk := ?_); intro A9 c9 w9 o9 m9 n9
  rw [← rowV_append] at o9
  have kb9 := kb8.mod m9 hpo
  have zz9 := m9.size
  have M9 : Eng.Mod (pb :: blkL o.1) w6 w9 := (Ext.mod e17).step m9 (fun u hu => .inl (List.mem_cons_of_mem _ hu))
  refine TL_nil_p ?_
  (refine TA_take 8 rfl (by kernel_rfl) (by kernel_rfl) (by kernel_rfl) ?_; (repeat (first | refine TL_fieldAddr TE (hk := ?_) | refine TL_nilCheck (hk := ?_))); refine TL_nil_p ?_); (refine TA_take 9 rfl (by kernel_rfl) (by kernel_rfl) (by kernel_rfl) ?_; (repeat (first | refine TL_fieldAddr TE (hk := ?_) | refine TL_nilCheck (hk := ?_))); refine TL_nil_p ?_)
  refine TA_one 10 rfl (by kernel_rfl) (by kernel_rfl) ?_
  refine TL_store TE (hb := kb9) (hf := rfl) (hq := fun _ m _ => M9.step m (fun u hu => .inl (by rw [List.mem_singleton.1 hu]; exact List.mem_cons_self))) (hk := ?_); intro w10 m10 z10 k10
  refine TL_nil_p ?_
  refine TA_done (by kernel_rfl) ?_
  repeat (first | refine T_seq ?_ | refine T_region ?_ | refine TL_nil ?_ | refine TL_assign (hk := ?_))
  exact T_ret1 rfl rfl ⟨rfl, fin w8 w9 w10 (A9, o.2.1 + 1, c9) e17 m9 o9 n9 m10 k10⟩
set_option maxHeartbeats 1600000
theorem ptN_c {base pb : Nat} {o y : SL} {os ys : List EM} {g : Nat → Nat} {s s' : PT} (A : Option Addr) (n c : Nat) (b : List UInt8) (w : World) (S : PtM w base pb o y os ys g s) (h : Rd w A n 1 (bv b)) (hn : n ≤ 65536) (hE : PtN s b s') :
  Ret Tryz.prog 159 [pB pb, .slice A n c] w (fun v w' => v = .bool true ∧ ∃ o' y' os' ys' g', PtM w' base pb o' y' os' ys' g' s' ∧ Tn g g' w w') := by
 obtain ⟨x, rfl, hx, hle, hop, rfl⟩ := hE
 obtain ⟨l1, l2, l3, l4⟩ := S.len
 have hnn := S.nn
 have hnx := S.nx
 have hep := S.ep
 have l0 : Lf ⟨encU x, 0, 0, 0, 0⟩ (encU x) (encU x ++ []) := by rw [List.append_nil]; exact Lf.start _
 obtain ⟨s1, q1, lf1⟩ := l0.num (by omega)
 refine ret_T (n := 79) Tryz.func159 rfl rfl ?_
 repeat (first | refine T_seq ?_ | refine T_region ?_ | refine TL_nil ?_ | refine TL_move (hk := ?_) | refine TL_assign (hk := ?_))
 refine TL_call TE (hc := NewReader_c A n c (encU x) w h (by omega)) (hk := ?_)
 rintro _ w1 ⟨bR, A3, n3, c3, rfl, e1, hbR, hi3, lo3, rr⟩
 have z1 := e1.size
 repeat (first | refine T_seq ?_ | refine T_region ?_ | refine TL_nil ?_ | refine TL_move (hk := ?_) | refine TL_assign (hk := ?_))
 refine TL_call TE (hc := Uint_c bR _ A3 n3 c3 w1 rr) (hk := ?_)
 rintro _ w2 ⟨rfl, m2, rr2⟩
 rw [q1] at rr2 ⊢
 have z2 := m2.size
 have e02 : Ext w w2 := e1.step m2 (fun u hu => .inr (by rw [List.mem_singleton.1 hu]; omega))
 have S2 := S.ext e02
 clear rr
 have d2 : ¬ (9223372036854775808 : Int) ≤ (x : Int) := by omega
 have d3 : ¬ (x : Int) < s.hep := by omega
 repeat (first | refine TL_nil ?_ | refine TL_assign (hk := ?_))
 refine T_seq ?_
 refine T_seq ?_
 refine T_join (ι := Unit) (fun _ => [(46, .bool false), (6, .int .u64 (x : Int)), (0, pB pb)]) (fun _ w' => Ext w w') (fun kk join => ?_) ?_
 ·repeat (first | refine T_region ?_ | refine TL_move (hk := ?_))
  refine TL_call TE (hc := End_c bR _ A3 n3 c3 w2 rr2) (hk := ?_)
  rintro _ w3 ⟨rfl, m3, rr3⟩
  rw [lf1.fin, lf1.1]
  have z3 := m3.size
  have e03 : Ext w w3 := e02.step m3 (fun u hu => .inr (by rw [List.mem_singleton.1 hu]; omega))
  have S3 := S.ext e03
  have kb3 := S3.blk
  have ro3 := S3.oo.rd
  clear rr2 rr3 S2
  by_cases d4 : (0 : Int) < (o.2.1 : Int)
  ·have hO : o.1 ≠ none := by obtain ⟨_, _, hq, _⟩ := ro3.2 (by omega); rw [hq]; simp
   have t1 := rowV_at emV_len os 0 1 em0 (by omega) (by decide)
   have hoe : (os.getD 0 em0).ep = (x : Int) := by
    have h1 := hop (by omega)
    rw [← S.oe, List.getD_eq_getElem?_getD, List.getElem?_map, List.getElem?_eq_getElem (by omega)] at h1
    rw [List.getD_eq_getElem?_getD, List.getElem?_eq_getElem (by omega)]
    exact h1
   replace t1 : (rowV emV os)[0 * 9 + 1]? = some (.int .i64 (x : Int)) := by rw [t1, ← hoe]; rfl
   repeat (first | refine TL_lt_f (hk := ?_) | refine TL_gt_t (hk := ?_) | refine TL_ge_f (hk := ?_) | refine TL_ne_f (hk := ?_) | refine TL_nil ?_ | refine TL_move (hk := ?_) | refine TL_load TE (hk := ?_) | refine TL_load_rd TE (hk := ?_) | refine TL_fieldAddr TE (hk := ?_) | refine TL_fieldAddr_e TE (hk := ?_) | refine TL_indexAddrn TE (hk := ?_) | refine TL_len TE (hk := ?_) | refine TL_yes (hk := ?_) | refine TL_pick_t (hk := ?_) | refine TL_pick_f (hk := ?_) | refine TL_nilCheck (hk := ?_) | refine TL_conv TE (hk := ?_))
   exact T.sub (join () _ e03) (.c rfl (.c rfl (.c rfl (.n))))
  ·repeat (first | refine TL_lt_f (hk := ?_) | refine TL_gt_f (hk := ?_) | refine TL_ge_f (hk := ?_) | refine TL_ne_f (hk := ?_) | refine TL_nil ?_ | refine TL_move (hk := ?_) | refine TL_load TE (hk := ?_) | refine TL_fieldAddr TE (hk := ?_) | refine TL_len TE (hk := ?_) | refine TL_yes (hk := ?_) | refine TL_no (hk := ?_) | refine TL_pick_f (hk := ?_) | refine TL_nilCheck (hk := ?_) | refine TL_conv TE (hk := ?_))
   exact T.sub (join () _ e03) (.c rfl (.c rfl (.c rfl (.n))))
 rintro _ w3 e03
 have S3 := S.ext e03
 have z03 := e03.size
 clear S2 rr2
 have hpl : pb < w.heap.size := S.blk.lt
 have hpy : pb ∉ blkL y.1 := fun q => by have := S.g3 pb q; have := S.g1; omega
 have hbs : base ≤ w.heap.size := by have := S.old pb (by rw [S.g1]; decide); omega
 have hsum : (s.hn : Int) + (o.2.1 : Int) = ((s.hn + s.hop.length : Nat) : Int) := by omega
 repeat (first | refine T_cond_false rfl ?_ | refine T_skip ?_)
 refine T_seq ?_
 refine T_join (ι := World) (fun _ => [(6, .int .u64 (x : Int)), (0, pB pb)]) (fun w4 w5 => Ext w3 w4 ∧ Eng.Mod [pb] w4 w5 ∧ w5.heap.size = w4.heap.size ∧ Blk w5 pb 154 [.int .i64 ((s.hn + s.hop.length : Nat) : Int), .int .i64 s.hep, sL o, sL y]) (fun kk join => ?_) ?_
 ·refine T_region_any TE.mixed ([pb] : List Nat) ?_; intro w4 e4 z4
  have S4 := S3.ext e4
  have kb4 := S4.blk
  (refine TA_take 0 rfl (by kernel_rfl) (by kernel_rfl) (by kernel_rfl) ?_; (repeat (first | refine TL_move (hk := ?_) | refine TL_fieldAddr TE (hk := ?_) | refine TL_nilCheck (hk := ?_))); refine TL_nil_p ?_); (refine TA_take 1 rfl (by kernel_rfl) (by kernel_rfl) (by kernel_rfl) ?_; (repeat (first | refine TL_move (hk := ?_) | refine TL_fieldAddr TE (hk := ?_) | refine TL_nilCheck (hk := ?_))); refine TL_nil_p ?_); (refine TA_take 2 rfl (by kernel_rfl) (by kernel_rfl) (by kernel_rfl) ?_; (repeat (first | refine TL_move (hk := ?_) | refine TL_fieldAddr TE (hk := ?_) | refine TL_nilCheck (hk := ?_))); refine TL_nil_p ?_); (refine TA_take 4 rfl (by kernel_rfl) (by kernel_rfl) (by kernel_rfl) ?_; (repeat (first | refine TL_move (hk := ?_) | refine TL_fieldAddr TE (hk := ?_) | refine TL_nilCheck (hk := ?_))); refine TL_nil_p ?_); (refine TA_take 5 rfl (by kernel_rfl) (by kernel_rfl) (by kernel_rfl) ?_; (repeat (first | refine TL_move (hk := ?_) | refine TL_fieldAddr TE (hk := ?_) | refine TL_nilCheck (hk := ?_))); refine TL_nil_p ?_); (refine TA_take 6 rfl (by kernel_rfl) (by kernel_rfl) (by kernel_rfl) ?_; (repeat (first | refine TL_move (hk := ?_) | refine TL_fieldAddr TE (hk := ?_) | refine TL_nilCheck (hk := ?_))); refine TL_nil_p ?_)
  refine TA_two 3 7 rfl rfl (by kernel_rfl) (by kernel_rfl) ?_ ?_
  ·refine TLN_load TE (hb := kb4) (hq := Mod.refl _ _) (hk := ?_)
   refine TL_nil_p ?_
   (refine TA_one 7 rfl (by kernel_rfl) (by kernel_rfl) ?_; (try refine TL_yes (hk := ?_)); refine TLN_load TE (hb := kb4) (hq := (Mod.refl _ _)) (hk := ?_); refine TL_nil_p ?_)
   (refine TA_take 8 rfl (by kernel_rfl) (by kernel_rfl) (by kernel_rfl) ?_; (repeat (first | refine TL_add (hk := ?_) | refine TL_len TE (hk := ?_))); refine TL_nil_p ?_); (refine TA_take 9 rfl (by kernel_rfl) (by kernel_rfl) (by kernel_rfl) ?_; (repeat (first | refine TL_add (hk := ?_) | refine TL_len TE (hk := ?_))); refine TL_nil_p ?_)
   rw [hsum]
   (refine TA_take 10 rfl (by kernel_rfl) (by kernel_rfl) (by kernel_rfl) ?_; (repeat (first | refine TL_fieldAddr TE (hk := ?_) | refine TL_nilCheck (hk := ?_))); refine TL_nil_p ?_); (refine TA_take 11 rfl (by kernel_rfl) (by kernel_rfl) (by kernel_rfl) ?_; (repeat (first | refine TL_fieldAddr TE (hk := ?_) | refine TL_nilCheck (hk := ?_))); refine TL_nil_p ?_)
   refine TA_one 12 rfl (by kernel_rfl) (by kernel_rfl) ?_
   refine TL_store TE (hb := kb4) (hf := rfl) (hq := fun _ m _ => m) (hk := ?_); intro w5 m5 z5 k5
   refine TL_nil_p ?_
   refine TA_done (by kernel_rfl) ?_
   exact T.sub (join w4 _ ⟨e4, m5, z5, k5⟩) (.c rfl (.c rfl (.n)))
  ·refine TLN_load TE (hb := kb4) (hq := Mod.refl _ _) (hk := ?_)
   refine TL_nil_p ?_
   (refine TA_take 8 rfl (by kernel_rfl) (by kernel_rfl) (by kernel_rfl) ?_; (repeat (refine TL_len TE (hk := ?_))); refine TL_nil_p ?_)
   (refine TA_one 3 rfl (by kernel_rfl) (by kernel_rfl) ?_; (try refine TL_yes (hk := ?_)); refine TLN_load TE (hb := kb4) (hq := (Mod.refl _ _)) (hk := ?_); refine TL_nil_p ?_)
   (refine TA_take 9 rfl (by kernel_rfl) (by kernel_rfl) (by kernel_rfl) ?_; (repeat (refine TL_add (hk := ?_))); refine TL_nil_p ?_)
   rw [hsum]
   (refine TA_take 10 rfl (by kernel_rfl) (by kernel_rfl) (by kernel_rfl) ?_; (repeat (first | refine TL_fieldAddr TE (hk := ?_) | refine TL_nilCheck (hk := ?_))); refine TL_nil_p ?_); (refine TA_take 11 rfl (by kernel_rfl) (by kernel_rfl) (by kernel_rfl) ?_; (repeat (first | refine TL_fieldAddr TE (hk := ?_) | refine TL_nilCheck (hk := ?_))); refine TL_nil_p ?_)
   refine TA_one 12 rfl (by kernel_rfl) (by kernel_rfl) ?_
   refine TL_store TE (hb := kb4) (hf := rfl) (hq := fun _ m _ => m) (hk := ?_); intro w5 m5 z5 k5
   refine TL_nil_p ?_
   refine TA_done (by kernel_rfl) ?_
   exact T.sub (join w4 _ ⟨e4, m5, z5, k5⟩) (.c rfl (.c rfl (.n)))
 rintro w4 w5 ⟨e4, m5, z5, k5⟩
 have S4 := S3.ext e4
 have z4 := e4.size
 have oo5 : Own w5 base 47 9 o.1 o.2.1 o.2.2 (rowV emV os) := S4.oo.modL m5 (fun b hb q => by rw [List.mem_singleton] at q; rw [q] at hb; have := S.g2 pb hb; have := S.g1; omega)
 have oy5 : Own w5 base 47 9 y.1 y.2.1 y.2.2 (rowV emV ys) := S4.yo.modL m5 (fun b hb q => by rw [List.mem_singleton] at q; rw [q] at hb; have := S.g3 pb hb; have := S.g1; omega)
 --
 refine T_seq ?_
 refine T_join (ι := World × SL) (fun _ => [(6, .int .u64 (x : Int)), (0, pB pb)]) (fun i w8 => Ext w5 i.1 ∧ Eng.Mod (pb :: blkL y.1) i.1 w8 ∧ i.1.heap.size ≤ w8.heap.size ∧ Own w8 base 47 9 i.2.1 i.2.2.1 i.2.2.2 (rowV emV (ys ++ os)) ∧ Near y.1 i.2.1 i.1 ∧ Blk w8 pb 154 [.int .i64 ((s.hn + s.hop.length : Nat) : Int), .int .i64 s.hep, sL o, sL i.2]) (fun kk join => ?_) ?_
 ·refine T_region_any TE.mixed (pb :: blkL y.1) ?_; intro w6 e6 z6
  have k6 := k5.be e6
  have oo6 := oo5.be e6
  have oy6 := oy5.be e6
  have ro6 := oo6.rd
  have hfin : ∀ (A7 : Option Addr) (c7 : Nat) (w7 : World), Own w7 base 47 9 A7 (y.2.1 + o.2.1) c7 (rowV emV ys ++ rowV emV os) → Eng.Mod (blkL y.1) w6 w7 → Near y.1 A7 w6 → Blk w7 pb 154 [.int .i64 ((s.hn + s.hop.length : Nat) : Int), .int .i64 s.hep, sL o, sL y] ∧ Eng.Mod (pb :: blkL y.1) w6 w7 ∧ pb ∉ blkL A7 := fun A7 c7 w7 o7 m7 n7 => ⟨k6.mod m7 hpy, m7.mono (fun u hu => .inl (List.mem_cons_of_mem _ hu)), fun q => (Near.mem n7 pb q).elim hpy (fun q => by omega)⟩
  (refine TA_take 0 rfl (by kernel_rfl) (by kernel_rfl) (by kernel_rfl) ?_; (repeat (first | refine TL_move (hk := ?_) | refine TL_fieldAddr TE (hk := ?_) | refine TL_nilCheck (hk := ?_))); refine TL_nil_p ?_); (refine TA_take 1 rfl (by kernel_rfl) (by kernel_rfl) (by kernel_rfl) ?_; (repeat (first | refine TL_move (hk := ?_) | refine TL_fieldAddr TE (hk := ?_) | refine TL_nilCheck (hk := ?_))); refine TL_nil_p ?_); (refine TA_take 2 rfl (by kernel_rfl) (by kernel_rfl) (by kernel_rfl) ?_; (repeat (first | refine TL_move (hk := ?_) | refine TL_fieldAddr TE (hk := ?_) | refine TL_nilCheck (hk := ?_))); refine TL_nil_p ?_); (refine TA_take 3 rfl (by kernel_rfl) (by kernel_rfl) (by kernel_rfl) ?_; (repeat (first | refine TL_move (hk := ?_) | refine TL_fieldAddr TE (hk := ?_) | refine TL_nilCheck (hk := ?_))); refine TL_nil_p ?_); (refine TA_take 5 rfl (by kernel_rfl) (by kernel_rfl) (by kernel_rfl) ?_; (repeat (first | refine TL_move (hk := ?_) | refine TL_fieldAddr TE (hk := ?_) | refine TL_nilCheck (hk := ?_))); refine TL_nil_p ?_); (refine TA_take 6 rfl (by kernel_rfl) (by kernel_rfl) (by kernel_rfl) ?_; (repeat (first | refine TL_move (hk := ?_) | refine TL_fieldAddr TE (hk := ?_) | refine TL_nilCheck (hk := ?_))); refine TL_nil_p ?_); (refine TA_take 7 rfl (by kernel_rfl) (by kernel_rfl) (by kernel_rfl) ?_; (repeat (first | refine TL_move (hk := ?_) | refine TL_fieldAddr TE (hk := ?_) | refine TL_nilCheck (hk := ?_))); refine TL_nil_p ?_)
  refine TA_two 4 8 rfl rfl (by kernel_rfl) (by kernel_rfl) ?_ ?_
  ·refine TLN_load TE (hb := k6) (hq := Mod.refl _ _) (hk := ?_)
   refine TL_nil_p ?_
   (refine TA_one 8 rfl (by kernel_rfl) (by kernel_rfl) ?_; (try refine TL_yes (hk := ?_)); refine TLN_load TE (hb := k6) (hq := (Mod.refl _ _)) (hk := ?_); refine TL_nil_p ?_)
   refine TA_one 9 rfl (by kernel_rfl) (by kernel_rfl) ?_
   refine TL_append TE (ho := oy6) (hr := ro6) (h1 := rowV_one emV_one _) (hf := rfl) (hq := fun w' m => (Mod.refl _ _).step m (fun u hu => .inl (List.mem_cons_of_mem _ hu))) (hk := ?_); intro A7 c7 w7 o7 m7 n7
   obtain ⟨k7, M7, hpn⟩ := hfin A7 c7 w7 o7 m7 n7
   rw [← rowV_append] at o7
   refine TL_nil_p ?_
   (refine TA_take 10 rfl (by kernel_rfl) (by kernel_rfl) (by kernel_rfl) ?_; (repeat (first | refine TL_fieldAddr TE (hk := ?_) | refine TL_nilCheck (hk := ?_))); refine TL_nil_p ?_); (refine TA_take 11 rfl (by kernel_rfl) (by kernel_rfl) (by kernel_rfl) ?_; (repeat (first | refine TL_fieldAddr TE (hk := ?_) | refine TL_nilCheck (hk := ?_))); refine TL_nil_p ?_)
   refine TA_one 12 rfl (by kernel_rfl) (by kernel_rfl) ?_
   refine TL_store TE (hb := k7) (hf := rfl) (hq := fun _ m _ => M7.step m (fun u hu => .inl (by rw [List.mem_singleton.1 hu]; exact List.mem_cons_self))) (hk := ?_); intro w8 m8 z8 k8
   refine TL_nil_p ?_
   refine TA_done (by kernel_rfl) ?_
   exact T.sub (join (w6, A7, y.2.1 + o.2.1, c7) _ ⟨e6, M7.step m8 (fun u hu => .inl (by rw [List.mem_singleton.1 hu]; exact List.mem_cons_self)), by have := m7.size; have := m8.size; show w6.heap.size ≤ _; omega, o7.modL m8 (fun u hu q => by rw [List.mem_singleton] at q; rw [q] at hu; exact hpn hu), n7, k8⟩) (.c rfl (.c rfl (.n)))
  ·refine TLN_load TE (hb := k6) (hq := Mod.refl _ _) (hk := ?_)
   refine TL_nil_p ?_
   (refine TA_one 4 rfl (by kernel_rfl) (by kernel_rfl) ?_; (try refine TL_yes (hk := ?_)); refine TLN_load TE (hb := k6) (hq := (Mod.refl _ _)) (hk := ?_); refine TL_nil_p ?_)
   refine TA_one 9 rfl (by kernel_rfl) (by kernel_rfl) ?_
   refine TL_append TE (ho := oy6) (hr := ro6) (h1 := rowV_one emV_one _) (hf := rfl) (hq := fun w' m => (Mod.refl _ _).step m (fun u hu => .inl (List.mem_cons_of_mem _ hu))) (hk := ?_); intro A7 c7 w7 o7 m7 n7
   obtain ⟨k7, M7, hpn⟩ := hfin A7 c7 w7 o7 m7 n7
   rw [← rowV_append] at o7
   refine TL_nil_p ?_
   (refine TA_take 10 rfl (by kernel_rfl) (by kernel_rfl) (by kernel_rfl) ?_; (repeat (first | refine TL_fieldAddr TE (hk := ?_) | refine TL_nilCheck (hk := ?_))); refine TL_nil_p ?_); (refine TA_take 11 rfl (by kernel_rfl) (by kernel_rfl) (by kernel_rfl) ?_; (repeat (first | refine TL_fieldAddr TE (hk := ?_) | refine TL_nilCheck (hk := ?_))); refine TL_nil_p ?_)
   refine TA_one 12 rfl (by kernel_rfl) (by kernel_rfl) ?_
   refine TL_store TE (hb := k7) (hf := rfl) (hq := fun _ m _ => M7.step m (fun u hu => .inl (by rw [List.mem_singleton.1 hu]; exact List.mem_cons_self))) (hk := ?_); intro w8 m8 z8 k8
   refine TL_nil_p ?_
   refine TA_done (by kernel_rfl) ?_
   exact T.sub (join (w6, A7, y.2.1 + o.2.1, c7) _ ⟨e6, M7.step m8 (fun u hu => .inl (by rw [List.mem_singleton.1 hu]; exact List.mem_cons_self)), by have := m7.size; have := m8.size; show w6.heap.size ≤ _; omega, o7.modL m8 (fun u hu q => by rw [List.mem_singleton] at q; rw [q] at hu; exact hpn hu), n7, k8⟩) (.c rfl (.c rfl (.n)))
 rintro ⟨w6, A7, n7, c7⟩ w8 ⟨e6, M8, zz8, o8, n8, k8⟩
 simp only at e6 M8 zz8 o8 n8 k8
 have z6 := e6.size
 repeat (first | refine T_seq ?_ | refine T_region ?_ | refine TL_move (hk := ?_) | refine TL_fieldAddr TE (hk := ?_) | refine TL_nilCheck (hk := ?_) | refine TL_conv TE (hk := ?_))
 refine TL_store TE (hk := ?_); intro w9 m9 z9 k9
 repeat (first | refine TL_fieldAddr TE (hk := ?_) | refine TL_nilCheck (hk := ?_))
 refine TL_store TE (hk := ?_); intro w10 m10 z10 k10
 have e46 : Ext w w4 := e03.ext e4
 have S4' := S.ext e46
 have hin : pb ∈ pb :: blkL y.1 := List.mem_cons_self
 have one : ∀ u ∈ [pb], u ∈ pb :: blkL y.1 := fun u hu => by rw [List.mem_singleton.1 hu]; exact hin
 have M : Eng.Mod (pb :: blkL y.1) w4 w9 := (((m5.mono (S' := pb :: blkL y.1) (fun u hu => .inl (one u hu))).step e6 (fun u hu => by cases hu)).step M8 (fun u hu => .inl hu)).step m9 (fun u hu => .inl (one u hu))
 have hpn : pb ∉ blkL A7 := fun q => (Near.mem n8 pb q).elim hpy (fun q => by omega)
 have o9 : Own w9 base 47 9 A7 n7 c7 (rowV emV (ys ++ os)) := o8.modL m9 (fun u hu q => by rw [List.mem_singleton] at q; rw [q] at hu; exact hpn hu)
 obtain ⟨g', h1, h2⟩ := S4'.fin (y' := (A7, n7, c7)) (n := x) M o9 (fun u hu => (Near.mem n8 u hu).elim .inl (fun q => .inr (by omega))) m10 k10 (by omega)
 repeat (first | refine T_seq ?_ | refine T_region ?_ | refine TL_nil ?_ | refine TL_assign (hk := ?_))
 exact T_ret1 rfl rfl ⟨rfl, _, _, _, _, g', h1, (Tn.ext e46).trans h2⟩
theorem ptR_c {base pb : Nat} {o y : SL} {os ys : List EM} {g : Nat → Nat} {s s' : PT} (A : Option Addr) (n c : Nat) (b : List UInt8) (w : World) (S : PtM w base pb o y os ys g s) (h : Rd w A n 1 (bv b)) (hn : n ≤ 65536) (hcap : n ≤ c) (hE : PtR s b s') :
  Ret Tryz.prog 117 [pB pb, .slice A n c] w (fun v w' => v = .bool true ∧ ∃ o' y' os' ys' g', PtM w' base pb o' y' os' ys' g' s' ∧ Tn g g' w w') := by
 have hbl : b.length = n := by simpa using h.1
 refine ret_T (n := 27) Tryz.func117 rfl rfl ?_
 rcases hE with ⟨t, rfl, hE⟩ | ⟨t, rfl, hE⟩
 ·rw [List.length_cons] at hbl
  have h1 := Rd.tail1 (p := 1) h (by omega) hcap
  rw [List.drop_succ_cons, List.drop_zero] at h1
  have hA : A ≠ none := by obtain ⟨_, _, hq, _⟩ := h.2 (by omega); rw [hq]; simp
  have h0 : (bv (1 :: t))[0]? = some (.int .u8 1) := rfl
  have hk : gb (1 :: t) 0 = 1 := rfl
  repeat (first | refine T_seq ?_ | refine T_region ?_ | refine T_cond_true rfl ?_ | refine T_cond_false rfl ?_ | refine T_block ?_ | refine TL_eq_t (hk := ?_) | refine TL_eq_f (hk := ?_) | refine TL_nil ?_ | refine TL_move (hk := ?_) | refine TL_assign (hk := ?_) | (refine TL_load_b TE (hk := ?_); intro _) | refine TL_indexAddr1n TE (hk := ?_) | refine TL_len TE (hk := ?_) | refine TL_slice_lo TE (hk := ?_))
  refine TL_call TE (hc := ptE_c _ _ _ t w S h1 (by omega) (by omega) hE) (hk := ?_)
  rintro _ w1 ⟨rfl, o', os', g', S1, T1⟩
  repeat (first | refine TL_nil ?_ | refine TL_assign (hk := ?_))
  exact T_ret1 rfl rfl ⟨rfl, _, _, _, _, _, S1, T1⟩
 ·rw [List.length_cons] at hbl
  have h1 := Rd.tail1 (p := 1) h (by omega) hcap
  rw [List.drop_succ_cons, List.drop_zero] at h1
  have hA : A ≠ none := by obtain ⟨_, _, hq, _⟩ := h.2 (by omega); rw [hq]; simp
  have h0 : (bv (2 :: t))[0]? = some (.int .u8 2) := rfl
  have hk : gb (2 :: t) 0 = 2 := rfl
  repeat (first | refine T_seq ?_ | refine T_region ?_ | refine T_cond_true rfl ?_ | refine T_cond_false rfl ?_ | refine T_block ?_ | refine TL_eq_t (hk := ?_) | refine TL_eq_f (hk := ?_) | refine TL_nil ?_ | refine TL_move (hk := ?_) | refine TL_assign (hk := ?_) | (refine TL_load_b TE (hk := ?_); intro _) | refine TL_indexAddr1n TE (hk := ?_) | refine TL_len TE (hk := ?_) | refine TL_slice_lo TE (hk := ?_))
  refine TL_call TE (hc := ptN_c _ _ _ t w S h1 (by omega) hE) (hk := ?_)
  rintro _ w1 ⟨rfl, o', y', os', ys', g', S1, T1⟩
  repeat (first | refine TL_nil ?_ | refine TL_assign (hk := ?_))
  exact T_ret1 rfl rfl ⟨rfl, _, _, _, _, _, S1, T1⟩
end Go.Proofs.YtjlaomcankmdjaaGreat
namespace Go.Proofs.Eng
open Go.RowKit
section
variable {P : Program} {fn : Func} {n : Nat} {st : Slots} {k : List Item} {w : World} {Φ : Value → World → Prop} {dd : Bool}
theorem T_ret4 {t1 t2 t3 t4 : Tmp} {v1 v2 v3 v4 : Value} (hr : fn.results = #[.tmp t1, .tmp t2, .tmp t3, .tmp t4]) (h1 : look st t1 = some v1) (h2 : look st t2 = some v2) (h3 : look st t3 = some v3) (h4 : look st t4 = some v4)
  (hR : Φ (.tuple #[v1, v2, v3, v4]) w) : T P fn (RR Φ) ⟨.b dd, []⟩ n st (.code .ret :: k) w := T_ret rfl (fun a ha => by
 have e1 := ha.get _ _ h1
 have e2 := ha.get _ _ h2
 have e3 := ha.get _ _ h3
 have e4 := ha.get _ _ h4
 simp only [Array.getD_eq_getD_getElem?] at e1 e2 e3 e4
 simp [results, hr, e1, e2, e3, e4]) hR
end
end Go.Proofs.Eng
namespace Go.Proofs.YtjlaomcankmdjaaGreat
open Go.RowKit Go.Proofs.Eng Go.Proofs.Codec Go.Proofs.Foot Go.Proofs.Journal
set_option linter.unusedVariables false set_option maxRecDepth 10000
attribute [local irreducible] T TL LV TH TA
set_option maxHeartbeats 3200000
theorem open_c (last : Bool) (A : Option Addr) (n c : Nat) (b : List UInt8) (f : Nat) (ep : Int) (s : PT) (w : World) (h : Rd w A n 1 (bv b)) (hn : n ≤ 4194304) (hcap : n ≤ c) (hI : ImgOk last b f ep s) :
  Ret Tryz.prog 87 [.slice A n c, .bool last] w (fun v w' => ∃ pb r o y, v = .tuple #[pB pb, pB r.xb, .int .i64 ep, .bool true] ∧ Ext w w' ∧ SegV w' r ∧ (∀ b ∈ segBl r, w.heap.size ≤ b ∧ b < w'.heap.size) ∧ r.f = f ∧ r.ys.map emE = s.hes ∧ Blk w' pb 154 [.int .i64 (s.hn : Int), .int .i64 s.hep, sL o, sL y] ∧ w.heap.size ≤ pb) := by
 obtain ⟨loads, nn, why, wh, hfr, hwhy, hrun, hlast, hf, hep, hwh, hnum⟩ := hI
 have hbl : b.length = n := by simpa using h.1
 refine ret_T (n := 122) Tryz.func87 rfl rfl ?_
 repeat (first | refine T_seq ?_ | refine T_region ?_ | refine TL_nil ?_ | refine TL_move (hk := ?_) | refine TL_assign (hk := ?_))
 refine TL_call TE (hc := Frames_c A n c b w h (by omega) hcap) (hk := ?_)
 rintro _ w1 ⟨AF, nF, cF, xs, rfl, e1, oF, LF⟩
 have hfl := framesF_loads b.length b
 have hfr' : framesF b.length b = (headL f ep :: loads, nn, why) := hfr
 rw [hfr'] at hfl
 rw [hfr] at LF ⊢
 simp only at hfl LF ⊢
 have hxl : xs.length = nF := by have := oF.len; simpa using this
 have hpl : xs.length = loads.length + 1 := LF.len
 have hfl2 := hfl.2
 rw [List.length_cons] at hfl2
 have z1 := e1.size
 have hcF := oF.cap.1
 have hAF : AF ≠ none := by obtain ⟨_, _, hq, _⟩ := oF.rd.2 (by omega); rw [hq]; simp
 obtain ⟨A0, n0, c0, hxi0, ox0⟩ := jloads_get (q := 0) LF (by simp)
 have ox0' : Own w1 w.heap.size 5 1 A0 n0 c0 (bv (headL f ep)) := ox0
 have l0 := ox0'.len
 rw [bv_length, Nat.mul_one] at l0
 have hl0 := headL_len f ep hf hep
 have oc0 := ox0'.cap.1
 have rF1 := oF.rd
 have rt1 : Rd w1 (cutA AF cF 1 1) (nF - 1) 1 (xs.drop 1) := by
  have q := rF1.cut (c := cF) (l := 1) (h := nF) (by omega) (Nat.le_refl _) hcF
  have e : (xs.drop (1 * 1)).take ((nF - 1) * 1) = xs.drop 1 := by rw [List.take_of_length_le (by rw [List.length_drop]; omega)]
  rw [e] at q
  exact q
 repeat (first | refine TL_nil ?_ | refine TL_move (hk := ?_) | refine TL_assign (hk := ?_) | refine TL_extract (hk := ?_))
 refine T_seq ?_
 refine T_seq ?_
 refine T_join (ι := Unit) (fun _ => [(39, .bool false), (9, .int .i64 (nn : Int)), (8, .slice AF nF cF), (1, .bool last), (0, .slice A n c)]) (fun _ w' => w' = w1) (fun kk join => ?_) ?_
 ·have hnF : ¬ (nF : Int) = 0 := by omega
  rcases hwhy with rfl | ⟨rfl, rfl⟩
  ·repeat (first | refine T_region ?_ | refine TL_eq_f (hk := ?_) | refine TL_ne_f (hk := ?_) | refine TL_nil ?_ | refine TL_move (hk := ?_) | refine TL_len TE (hk := ?_) | refine TL_yes (hk := ?_) | refine TL_no (hk := ?_) | refine TL_pick_f (hk := ?_))
   exact T.sub (join () _ rfl) (.c rfl (.c rfl (.c rfl (.c rfl (.c rfl (.n))))))
  ·repeat (first | refine T_region ?_ | refine TL_eq_f (hk := ?_) | refine TL_ne_t (hk := ?_) | refine TL_ne_f (hk := ?_) | refine TL_nil ?_ | refine TL_move (hk := ?_) | refine TL_len TE (hk := ?_) | refine TL_yes (hk := ?_) | refine TL_pick_t (hk := ?_) | refine TL_pick_f (hk := ?_) | refine TL_not (hk := ?_))
   exact T.sub (join () _ rfl) (.c rfl (.c rfl (.c rfl (.c rfl (.c rfl (.n))))))
 rintro _ w2 rfl
 repeat (first | refine T_seq ?_ | refine T_region ?_ | refine T_cond_false rfl ?_ | refine T_skip ?_ | refine TL_move (hk := ?_) | refine TL_load_rd TE (hk := ?_) | refine TL_indexAddr1n TE (hk := ?_))
 refine TL_call TE (hc := head_c f ep A0 n0 c0 w2 ox0'.rd (by omega) oc0 hf hep) (hk := ?_)
 rintro _ w3 ⟨rfl, e3⟩
 have hf2 : ¬ (65536 : Int) < (f : Int) := by omega
 have z3 := e3.size
 have e13 := e1.ext e3
 have rF3 := rF1.be e3
 have rt3 := rt1.be e3
 have LF3 := LF.mod e3 (fun x hx => by cases hx)
 repeat (first | refine T_seq ?_ | refine T_region ?_ | refine T_cond_false rfl ?_ | refine T_skip ?_ | refine TL_gt_f (hk := ?_) | refine TL_nil ?_ | refine TL_move (hk := ?_) | refine TL_assign (hk := ?_) | refine TL_yes (hk := ?_) | refine TL_pick_f (hk := ?_) | refine TL_extract (hk := ?_) | refine TL_not (hk := ?_) | refine TL_build TE (hk := ?_))
 refine TL_box (hk := ?_); intro pb w4 e4 h4 h4' k4
 have z4 := e4.size
 have rF4 := rF3.be e4
 have rt4 := rt3.be e4
 have LF4 := LF3.mod e4 (fun x hx => by cases hx)
 have S4 : PtM w4 w3.heap.size pb (none, 0, 0) (none, 0, 0) [] [] (fun u => if u = pb then 1 else 0) ⟨f, ep, [], []⟩ := by
  refine ⟨k4, Own.nil _ _ _ _, Own.nil _ _ _ _, rfl, rfl, fun z hz => (by cases hz), if_pos rfl, fun u hu => (by cases hu), fun u hu => (by cases hu), fun u hu => ?_, hf, Nat.zero_le _, by show -9223372036854775808 ≤ ep ∧ ep ≤ 9223372036854775807; omega⟩
  by_cases q : u = pb
  ·rw [q]; exact ⟨h4, k4.lt⟩
  ·have hu : (if u = pb then 1 else 0) ≠ 0 := hu
   rw [if_neg q] at hu; exact absurd rfl hu
 obtain ⟨a0, ha0⟩ : ∃ a0, (headL f ep).length + 8 = a0 := ⟨_, rfl⟩
 rw [ha0] at hrun
 have hsum0 : (n0 : Int) + 8 = (a0 : Int) := by omega
 clear LF4 rF4 rt4 rF1 rt1 LF ox0 k4
 repeat (first | refine T_seq ?_ | refine T_region ?_ | refine T_block ?_ | refine TL_add (hk := ?_) | refine TL_nil ?_ | refine TL_move (hk := ?_) | refine TL_assign (hk := ?_) | refine TL_load_rd TE (hk := ?_) | refine TL_indexAddr1n TE (hk := ?_) | refine TL_len TE (hk := ?_) | refine TL_slice_lo TE (hk := ?_))
 rw [hsum0]
 --
 refine T_loop (ι := ((Nat × Nat × Nat) × PT) × (SL × SL × List EM × List EM × (Nat → Nat))) (fun i => [(67, .int .i64 (i.1.1.1 : Int)), (66, .int .i64 ((nF - 1 : Nat) : Int)), (65, .slice (cutA AF cF 1 1) (nF - 1) (cF - 1)), (16, .int .i64 (i.1.1.2.2 : Int)), (15, .int .i64 (i.1.1.2.1 : Int)), (14, pB pb), (12, .int .i64 ep), (11, .int .i64 (f : Int)), (9, .int .i64 (nn : Int)), (1, .bool last), (0, .slice A n c)])
  (fun i w' => i.1.1.1 ≤ nF - 1 ∧ Ext w3 w' ∧ PtM w' w3.heap.size pb i.2.1 i.2.2.1 i.2.2.2.1 i.2.2.2.2.1 i.2.2.2.2.2 i.1.2 ∧ runP (loads.drop i.1.1.1) i.1.2 i.1.1.2.1 i.1.1.2.2 s wh ∧ i.1.1.2.1 ≤ 200 + 70000 * i.1.1.1) (fun i => nF - 1 - i.1.1.1) (((0, a0, a0), ⟨f, ep, [], []⟩), ((none, 0, 0), (none, 0, 0), [], [], (fun u => if u = pb then 1 else 0))) (.c rfl (.c rfl (.c rfl (.c rfl (.c rfl (.c rfl (.c rfl (.c rfl (.c rfl (.c rfl (.c rfl (.n)))))))))))) ⟨Nat.zero_le _, e4, S4, hrun, by show a0 ≤ _; omega⟩ ?_
 clear S4 hrun
 rintro ⟨⟨⟨i, at_, wi⟩, si⟩, o, y, os, ys, g⟩ w7 ⟨hi, e7, S7, hrun, hat⟩ ih
 simp only at hi e7 S7 hrun hat ih ⊢
 have z7 := e7.size
 by_cases hlt : i < nF - 1
 ·have hip : i < loads.length := by omega
  obtain ⟨A1, n1, c1, hxi, ox⟩ := jloads_get (q := i + 1) LF3 (by rw [List.length_cons]; omega)
  have hp0 : (headL f ep :: loads).getD (i + 1) [] = loads[i] := by rw [List.getD_eq_getElem?_getD, List.getElem?_cons_succ, List.getElem?_eq_getElem hip]; rfl
  rw [hp0] at ox
  have hp1 := hfl.1 _ (List.mem_cons_of_mem _ (List.getElem_mem hip))
  rw [List.drop_eq_getElem_cons hip] at hrun
  obtain ⟨s1, hR, hrun⟩ := hrun
  obtain ⟨p, hp⟩ : ∃ p, loads[i] = p := ⟨_, rfl⟩
  rw [hp] at ox hp1 hR hrun
  have hpn := ox.len
  rw [bv_length, Nat.mul_one] at hpn
  have oc := ox.cap.1
  have ox7 := ox.be e7
  have rt7 := rt3.be e7
  have hxt : (xs.drop 1)[i]? = some (.slice A1 n1 c1) := by rw [List.getElem?_drop, Nat.add_comm]; exact hxi
  have hAc : cutA AF cF 1 1 ≠ none := by obtain ⟨_, _, hq, _⟩ := rt3.2 (by omega); rw [hq]; simp
  have hlt2 : (i : Int) < ((nF - 1 : Nat) : Int) := by omega
  repeat (first | refine T_seq ?_ | refine T_region ?_ | refine T_cond_true rfl ?_ | refine T_block ?_ | refine T_skip ?_ | refine TL_lt_t (hk := ?_) | refine TL_nil ?_ | refine TL_move (hk := ?_) | refine TL_assign (hk := ?_) | refine TL_load_rd TE (hk := ?_) | refine TL_indexAddr1n TE (hk := ?_))
  refine TL_call TE (hc := ptR_c A1 n1 c1 p w7 S7 ox7.rd (by omega) oc hR) (hk := ?_)
  rintro _ w8 ⟨rfl, o', y', os', ys', g', S8, T8⟩
  have e8 : Ext w3 w8 := T8.ext0 e7 (fun b hb => (S7.old b hb).1)
  obtain ⟨at2, hat3⟩ : ∃ x, at_ + (p.length + 8) = x := ⟨_, rfl⟩
  have hai : (at_ : Int) + ((n1 : Int) + 8) = (at2 : Int) := by omega
  rw [hat3] at hrun
  have hat2 : at_ ≤ 400000000000 := by omega
  have hl8 := S8.len.2.1
  have kb8 := S8.blk
  repeat (first | refine T_seq ?_ | refine T_region ?_ | refine T_cond_false rfl ?_ | refine T_skip ?_ | refine TL_add (hk := ?_) | refine TL_nil ?_ | refine TL_move (hk := ?_) | refine TL_assign (hk := ?_) | refine TL_load TE (hk := ?_) | refine TL_fieldAddr TE (hk := ?_) | refine TL_len TE (hk := ?_) | refine TL_nilCheck (hk := ?_) | refine TL_not (hk := ?_))
  rw [hai]
  by_cases d2 : s1.hop.length = 0
  ·rw [if_pos d2] at hrun
   have d2' : (o'.2.1 : Int) = 0 := by omega
   repeat (first | refine T_region ?_ | refine T_cond_true rfl ?_ | refine T_inBlock ?_ | refine TL_add (hk := ?_) | refine TL_eq_t (hk := ?_) | refine TL_nil ?_ | refine TL_move (hk := ?_) | refine TL_assign (hk := ?_))
   exact ih (((i + 1, at2, at2), s1), o', y', os', ys', g') _ _ (by simp only; omega) ⟨by show i + 1 ≤ nF - 1; omega, e8, S8, hrun, by show at2 ≤ 200 + 70000 * (i + 1); omega⟩ (.c rfl (.c rfl (.c rfl (.c rfl (.c rfl (.c rfl (.c rfl (.c rfl (.c rfl (.c rfl (.c rfl (.n))))))))))))
  ·rw [if_neg d2] at hrun
   have d2' : ¬ (o'.2.1 : Int) = 0 := by omega
   repeat (first | refine T_region ?_ | refine T_cond_false rfl ?_ | refine T_inBlock ?_ | refine T_skip ?_ | refine TL_add (hk := ?_) | refine TL_eq_f (hk := ?_) | refine TL_nil ?_ | refine TL_move (hk := ?_))
   exact ih (((i + 1, at2, wi), s1), o', y', os', ys', g') _ _ (by simp only; omega) ⟨by show i + 1 ≤ nF - 1; omega, e8, S8, hrun, by show at2 ≤ 200 + 70000 * (i + 1); omega⟩ (.c rfl (.c rfl (.c rfl (.c rfl (.c rfl (.c rfl (.c rfl (.c rfl (.c rfl (.c rfl (.c rfl (.n))))))))))))
 ·clear ih
  obtain rfl : i = nF - 1 := by omega
  rw [List.drop_of_length_le (by omega)] at hrun
  obtain ⟨rfl, rfl⟩ := hrun
  have kb7 := S7.blk
  have hl7 := S7.len
  have hlt2 : ¬ ((nF - 1 : Nat) : Int) < ((nF - 1 : Nat) : Int) := by omega
  have e17 := e13.ext e7
  have h7 := h.be e17
  refine T_seq ?_
  refine T_region ?_
  repeat (first | refine TL_lt_f (hk := ?_) | refine TL_nil ?_)
  refine T_seq ?_
  repeat (first | refine T_cond_false rfl ?_ | refine T_exit rfl ?_)
  refine T_seq ?_
  refine T_seq ?_
  refine T_join (ι := Unit) (fun _ => [(103, .bool false), (16, .int .i64 (wh : Int)), (14, pB pb), (12, .int .i64 ep), (11, .int .i64 (f : Int)), (0, .slice A n c)]) (fun _ w' => w' = w7) (fun kk join => ?_) ?_
  ·cases last with
   |true =>
    repeat (first | refine T_region ?_ | refine TL_nil ?_ | refine TL_move (hk := ?_) | refine TL_no (hk := ?_) | refine TL_pick_f (hk := ?_) | refine TL_not (hk := ?_))
    exact T.sub (join () _ rfl) (.c rfl (.c rfl (.c rfl (.c rfl (.c rfl (.c rfl (.n)))))))
   |false =>
    obtain ⟨q1, q2⟩ := hlast rfl
    rw [q1] at hl7
    have d4 : ¬ (0 : Int) < (o.2.1 : Int) := by have := hl7.2.1; simp at this; omega
    have d5 : ¬ (nn : Int) < (n : Int) := by omega
    repeat (first | refine T_region ?_ | refine TL_lt_f (hk := ?_) | refine TL_gt_f (hk := ?_) | refine TL_nil ?_ | refine TL_move (hk := ?_) | refine TL_load TE (hk := ?_) | refine TL_fieldAddr TE (hk := ?_) | refine TL_len TE (hk := ?_) | refine TL_yes (hk := ?_) | refine TL_pick_t (hk := ?_) | refine TL_pick_f (hk := ?_) | refine TL_nilCheck (hk := ?_) | refine TL_not (hk := ?_))
    exact T.sub (join () _ rfl) (.c rfl (.c rfl (.c rfl (.c rfl (.c rfl (.c rfl (.n)))))))
  rintro _ w8 rfl
  have hrd : Rd w8 A wh 1 (bv (b.take wh)) := by
   have q := h7.take (h := wh) (by omega)
   rw [Nat.mul_one, bv_take] at q
   exact q
  repeat (first | refine T_seq ?_ | refine T_cond_false rfl ?_ | refine T_skip ?_)
  refine T_region_any TE.mixed ([] : List Nat) ?_; intro w9 e9 z9
  have kb9 := kb7.be e9
  have hsD : pb ∉ ([] : List Nat) := by simp
  have hr9 := hrd.be e9
  (refine TA_take 0 rfl (by kernel_rfl) (by kernel_rfl) (by kernel_rfl) ?_; (repeat (first | refine TL_move (hk := ?_) | refine TLP_load TE (hk := ?_) | refine TL_fieldAddr TE (hk := ?_) | refine TL_len TE (hk := ?_) | refine TL_nilCheck (hk := ?_) | refine TL_slice_hi TE (hk := ?_))); refine TL_nil_p ?_); (refine TA_take 1 rfl (by kernel_rfl) (by kernel_rfl) (by kernel_rfl) ?_; (repeat (first | refine TL_move (hk := ?_) | refine TLP_load TE (hk := ?_) | refine TL_fieldAddr TE (hk := ?_) | refine TL_len TE (hk := ?_) | refine TL_nilCheck (hk := ?_) | refine TL_slice_hi TE (hk := ?_))); refine TL_nil_p ?_); (refine TA_take 2 rfl (by kernel_rfl) (by kernel_rfl) (by kernel_rfl) ?_; (repeat (first | refine TL_move (hk := ?_) | refine TLP_load TE (hk := ?_) | refine TL_fieldAddr TE (hk := ?_) | refine TL_len TE (hk := ?_) | refine TL_nilCheck (hk := ?_) | refine TL_slice_hi TE (hk := ?_))); refine TL_nil_p ?_); (refine TA_take 3 rfl (by kernel_rfl) (by kernel_rfl) (by kernel_rfl) ?_; (repeat (first | refine TL_move (hk := ?_) | refine TLP_load TE (hk := ?_) | refine TL_fieldAddr TE (hk := ?_) | refine TL_len TE (hk := ?_) | refine TL_nilCheck (hk := ?_) | refine TL_slice_hi TE (hk := ?_))); refine TL_nil_p ?_); (refine TA_take 4 rfl (by kernel_rfl) (by kernel_rfl) (by kernel_rfl) ?_; (repeat (first | refine TL_move (hk := ?_) | refine TLP_load TE (hk := ?_) | refine TL_fieldAddr TE (hk := ?_) | refine TL_len TE (hk := ?_) | refine TL_nilCheck (hk := ?_) | refine TL_slice_hi TE (hk := ?_))); refine TL_nil_p ?_); (refine TA_take 6 rfl (by kernel_rfl) (by kernel_rfl) (by kernel_rfl) ?_; (repeat (first | refine TL_move (hk := ?_) | refine TLP_load TE (hk := ?_) | refine TL_fieldAddr TE (hk := ?_) | refine TL_len TE (hk := ?_) | refine TL_nilCheck (hk := ?_) | refine TL_slice_hi TE (hk := ?_))); refine TL_nil_p ?_); (refine TA_take 7 rfl (by kernel_rfl) (by kernel_rfl) (by kernel_rfl) ?_; (repeat (first | refine TL_move (hk := ?_) | refine TLP_load TE (hk := ?_) | refine TL_fieldAddr TE (hk := ?_) | refine TL_len TE (hk := ?_) | refine TL_nilCheck (hk := ?_) | refine TL_slice_hi TE (hk := ?_))); refine TL_nil_p ?_); (refine TA_take 8 rfl (by kernel_rfl) (by kernel_rfl) (by kernel_rfl) ?_; (repeat (first | refine TL_move (hk := ?_) | refine TLP_load TE (hk := ?_) | refine TL_fieldAddr TE (hk := ?_) | refine TL_len TE (hk := ?_) | refine TL_nilCheck (hk := ?_) | refine TL_slice_hi TE (hk := ?_))); refine TL_nil_p ?_); (refine TA_take 9 rfl (by kernel_rfl) (by kernel_rfl) (by kernel_rfl) ?_; (repeat (first | refine TL_move (hk := ?_) | refine TLP_load TE (hk := ?_) | refine TL_fieldAddr TE (hk := ?_) | refine TL_len TE (hk := ?_) | refine TL_nilCheck (hk := ?_) | refine TL_slice_hi TE (hk := ?_))); refine TL_nil_p ?_); (refine TA_take 10 rfl (by kernel_rfl) (by kernel_rfl) (by kernel_rfl) ?_; (repeat (first | refine TL_move (hk := ?_) | refine TLP_load TE (hk := ?_) | refine TL_fieldAddr TE (hk := ?_) | refine TL_len TE (hk := ?_) | refine TL_nilCheck (hk := ?_) | refine TL_slice_hi TE (hk := ?_))); refine TL_nil_p ?_); (refine TA_take 11 rfl (by kernel_rfl) (by kernel_rfl) (by kernel_rfl) ?_; (repeat (first | refine TL_move (hk := ?_) | refine TLP_load TE (hk := ?_) | refine TL_fieldAddr TE (hk := ?_) | refine TL_len TE (hk := ?_) | refine TL_nilCheck (hk := ?_) | refine TL_slice_hi TE (hk := ?_))); refine TL_nil_p ?_); (refine TA_take 12 rfl (by kernel_rfl) (by kernel_rfl) (by kernel_rfl) ?_; (repeat (first | refine TL_move (hk := ?_) | refine TLP_load TE (hk := ?_) | refine TL_fieldAddr TE (hk := ?_) | refine TL_len TE (hk := ?_) | refine TL_nilCheck (hk := ?_) | refine TL_slice_hi TE (hk := ?_))); refine TL_nil_p ?_); (refine TA_take 13 rfl (by kernel_rfl) (by kernel_rfl) (by kernel_rfl) ?_; (repeat (first | refine TL_move (hk := ?_) | refine TLP_load TE (hk := ?_) | refine TL_fieldAddr TE (hk := ?_) | refine TL_len TE (hk := ?_) | refine TL_nilCheck (hk := ?_) | refine TL_slice_hi TE (hk := ?_))); refine TL_nil_p ?_); (refine TA_take 14 rfl (by kernel_rfl) (by kernel_rfl) (by kernel_rfl) ?_; (repeat (first | refine TL_move (hk := ?_) | refine TLP_load TE (hk := ?_) | refine TL_fieldAddr TE (hk := ?_) | refine TL_len TE (hk := ?_) | refine TL_nilCheck (hk := ?_) | refine TL_slice_hi TE (hk := ?_))); refine TL_nil_p ?_); (refine TA_take 17 rfl (by kernel_rfl) (by kernel_rfl) (by kernel_rfl) ?_; (repeat (first | refine TL_move (hk := ?_) | refine TLP_load TE (hk := ?_) | refine TL_fieldAddr TE (hk := ?_) | refine TL_len TE (hk := ?_) | refine TL_nilCheck (hk := ?_) | refine TL_slice_hi TE (hk := ?_))); refine TL_nil_p ?_)
  refine TA_one 5 rfl (by kernel_rfl) (by kernel_rfl) ?_; (try refine TL_yes (hk := ?_)); refine TL_call TE (hc := (NewDisk_c A wh c (b.take wh) w9 hr9 (by omega) (by omega))) (hq := (by rintro _ w' ⟨_, _, _, _, e, _⟩; exact Ext.un e)) (hk := ?_)
  rintro _ w10 ⟨d, sd, gd, rfl, e10, D10⟩
  refine TL_nil_p ?_
  (refine TA_take 15 rfl (by kernel_rfl) (by kernel_rfl) (by kernel_rfl) ?_; (repeat (first | refine TL_assign (hk := ?_) | refine TL_build TE (hk := ?_))); refine TL_nil_p ?_); (refine TA_take 18 rfl (by kernel_rfl) (by kernel_rfl) (by kernel_rfl) ?_; (repeat (first | refine TL_assign (hk := ?_) | refine TL_build TE (hk := ?_))); refine TL_nil_p ?_)
  refine TA_one 16 rfl (by kernel_rfl) (by kernel_rfl) ?_
  refine TL_box (hf := rfl) (hq := fun _ e => (Ext.un e10).step e (fun u hu => by cases hu)) (hk := ?_); intro xb w11 e11 h11 h11' k11
  refine TL_nil_p ?_
  (refine TA_take 19 rfl (by kernel_rfl) (by kernel_rfl) (by kernel_rfl) ?_; (repeat (refine TL_assign (hk := ?_))); refine TL_nil_p ?_); (refine TA_take 20 rfl (by kernel_rfl) (by kernel_rfl) (by kernel_rfl) ?_; (repeat (refine TL_assign (hk := ?_))); refine TL_nil_p ?_); (refine TA_take 21 rfl (by kernel_rfl) (by kernel_rfl) (by kernel_rfl) ?_; (repeat (refine TL_assign (hk := ?_))); refine TL_nil_p ?_)
  refine TA_done (by kernel_rfl) ?_
  --
  have e711 := (e9.ext e10).ext e11
  have S11 := S7.ext e711
  have hnx := S11.nx
  have hnn := S11.nn
  refine T_ret4 rfl rfl rfl rfl rfl ⟨pb, ⟨xb, d, sd, gd, y, ys, f, y.2.1, newD (b.take wh)⟩, o, y, rfl, e17.ext e711, ⟨k11, S11.yo.rd, fun z hz => ⟨(S11.ek z (List.mem_append_right _ hz)).1.lies, (S11.ek z (List.mem_append_right _ hz)).2.1⟩, hf, ?_, ?_⟩, fun u hu => ?_, rfl, S11.ye, S11.blk, by omega⟩
  ·show ys.length ≤ 70000; omega
  ·show y.2.1 ≤ 70000; omega
  ·have z9 := e9.size
   have z10 := e10.size
   have z17 := e17.size
   rcases List.mem_cons.1 hu with q | hu
   ·rw [q]; exact ⟨by show w.heap.size ≤ xb; omega, k11.lt⟩
   ·rcases List.mem_append.1 hu with q | q
    ·have := S11.yo.bl u q; omega
    ·obtain ⟨q1, q2, q3⟩ := List.mem_flatten.1 q
     obtain ⟨zz, hzz, rfl⟩ := List.mem_map.1 q2
     have := ((S11.ek zz (List.mem_append_right _ hzz)).1.bl u q3); omega
set_option maxHeartbeats 3200000
section
variable {base sb : Nat} {sz ep : Int} {R : SL} {cs : List SR} {z : SR} {h : Nat → Nat}
theorem SFlush_c (w : World) (S : ShM w base sb sz R cs z ep h) (hc : cs.length ≤ 1000) :
  Ret Tryz.prog 40 [pB sb] w (fun v w' => v = .int .i64 0 ∧ ∃ sd' gd' h', ShM w' base sb sz R cs { z with sd := sd', gd := gd', k := (opD z.k synD).1, fl := z.ys.length } ep h' ∧ Tn h h' w w') := by
 have V := S.view (by omega)
 refine ret_T (n := 21) Tryz.func40 rfl rfl ?_
 repeat (first | refine T_seq ?_ | refine T_region ?_ | refine T_cond_false rfl ?_ | refine T_skip ?_ | refine TL_pnil_f TE (hk := ?_) | refine TL_nil ?_ | refine TL_move (hk := ?_) | refine TL_assign (hk := ?_))
 refine TL_call TE (hc := last_c w V) (hk := ?_)
 rintro _ w1 ⟨rfl, e1⟩
 have S1 := S.ext e1
 have hs1 := S1.la.v.blk
 repeat (first | refine T_seq ?_ | refine T_region ?_ | refine TL_nil ?_ | refine TL_move (hk := ?_) | refine TL_assign (hk := ?_) | refine TL_load TE (hk := ?_) | refine TL_fieldAddr TE (hk := ?_) | refine TL_nilCheck (hk := ?_))
 refine TL_call TE (hc := Sync_c w1 S1.la.dk) (hk := ?_)
 rintro _ w2 ⟨rfl, sd2, gd2, D2, T2⟩
 obtain ⟨h2, S2, T2'⟩ := S1.disk D2 T2
 have hs2 := S2.la.v.blk
 have hl2 := S2.la.v.len
 have hn2 := S2.la.v.hn
 have hl2' : z.ys.length = z.y.2.1 := hl2
 repeat (first | refine T_seq ?_ | refine T_region ?_ | refine TL_nil ?_ | refine TL_move (hk := ?_) | refine TL_load TE (hk := ?_) | refine TL_fieldAddr TE (hk := ?_) | refine TL_len TE (hk := ?_) | refine TL_nilCheck (hk := ?_))
 refine TL_store TE (hk := ?_); intro w3 m3 z3 k3
 obtain ⟨S3, T3⟩ := S2.setF (n := z.ys.length) m3 (by rw [hl2']; exact k3) hn2
 repeat (first | refine T_seq ?_ | refine T_region ?_ | refine TL_nil ?_ | refine TL_assign (hk := ?_))
 exact T_ret1 rfl rfl ⟨rfl, sd2, gd2, h2, S3, ((Tn.ext e1).trans T2').trans T3⟩
theorem begin_c (f : Nat) (w : World) (S : ShC w base sb sz R cs ep h) (hf : f ≤ 65536) (hep : 0 ≤ ep ∧ ep ≤ 9223372036854775807) (hc : cs.length ≤ 1000) :
  Ret Tryz.prog 86 [pB sb, .int .i64 (f : Int)] w (fun v w' => v = .tuple #[] ∧ ∃ R' r h', ShM w' base sb sz R' cs r ep h' ∧ Tn h h' w w' ∧ r.f = f ∧ r.ys = [] ∧ r.k = ⟨frame (headL f ep), (frame (headL f ep)).length, -1, false⟩ ∧ r.fl = 0) := by
 have hl := S.len
 have u1 := encU_len64 (show f < 2 ^ 64 by omega)
 have u2 := encU_len64 (show ep.toNat < 2 ^ 64 by omega)
 have hepi : ep = ((ep.toNat : Nat) : Int) := by omega
 have hhl := headL_len f ep hf hep
 have hfl : (frame (headL f ep)).length = (headL f ep).length + 8 := frame_len _
 refine ret_T (n := 33) Tryz.func86 rfl rfl ?_
 repeat (first | refine T_seq ?_ | refine T_region ?_)
 refine TL_call TE (hc := NewDisk_c none 0 0 [] w (Own.nil w 0 5 1).rd (by omega) (by omega)) (hk := ?_)
 rintro _ w1 ⟨d, sd, gd, rfl, e1, D1⟩
 have S1 := S.ext e1
 have z1 := e1.size
 have hb1 := S1.blk
 repeat (first | refine T_seq ?_ | refine TL_nil ?_ | refine TL_assign (hk := ?_))
 refine T_region_any TE.mixed (ownB w1 gd) ?_; intro w2 e2 z2
 have D2 := D1.ext e2
 have hb2 := hb1.be e2
 have hin := ownB_in (o := gd) z2
 have hsD : sb ∉ ownB w1 gd := fun q => by have h1 := ownB_mem q; have h2 := (D1.old sb h1).1; have h3 := S.blk.lt; omega
 (refine TA_take 0 rfl (by kernel_rfl) (by kernel_rfl) (by kernel_rfl) ?_; (repeat (first | refine TL_move (hk := ?_) | refine TLP_load TE (hk := ?_) | refine TL_fieldAddr TE (hk := ?_) | refine TL_nilCheck (hk := ?_) | refine TL_conv TE (hk := ?_))); refine TL_nil_p ?_); (refine TA_take 1 rfl (by kernel_rfl) (by kernel_rfl) (by kernel_rfl) ?_; (repeat (first | refine TL_move (hk := ?_) | refine TLP_load TE (hk := ?_) | refine TL_fieldAddr TE (hk := ?_) | refine TL_nilCheck (hk := ?_) | refine TL_conv TE (hk := ?_))); refine TL_nil_p ?_); (refine TA_take 2 rfl (by kernel_rfl) (by kernel_rfl) (by kernel_rfl) ?_; (repeat (first | refine TL_move (hk := ?_) | refine TLP_load TE (hk := ?_) | refine TL_fieldAddr TE (hk := ?_) | refine TL_nilCheck (hk := ?_) | refine TL_conv TE (hk := ?_))); refine TL_nil_p ?_); (refine TA_take 4 rfl (by kernel_rfl) (by kernel_rfl) (by kernel_rfl) ?_; (repeat (first | refine TL_move (hk := ?_) | refine TLP_load TE (hk := ?_) | refine TL_fieldAddr TE (hk := ?_) | refine TL_nilCheck (hk := ?_) | refine TL_conv TE (hk := ?_))); refine TL_nil_p ?_); (refine TA_take 5 rfl (by kernel_rfl) (by kernel_rfl) (by kernel_rfl) ?_; (repeat (first | refine TL_move (hk := ?_) | refine TLP_load TE (hk := ?_) | refine TL_fieldAddr TE (hk := ?_) | refine TL_nilCheck (hk := ?_) | refine TL_conv TE (hk := ?_))); refine TL_nil_p ?_); (refine TA_take 6 rfl (by kernel_rfl) (by kernel_rfl) (by kernel_rfl) ?_; (repeat (first | refine TL_move (hk := ?_) | refine TLP_load TE (hk := ?_) | refine TL_fieldAddr TE (hk := ?_) | refine TL_nilCheck (hk := ?_) | refine TL_conv TE (hk := ?_))); refine TL_nil_p ?_); (refine TA_take 7 rfl (by kernel_rfl) (by kernel_rfl) (by kernel_rfl) ?_; (repeat (first | refine TL_move (hk := ?_) | refine TLP_load TE (hk := ?_) | refine TL_fieldAddr TE (hk := ?_) | refine TL_nilCheck (hk := ?_) | refine TL_conv TE (hk := ?_))); refine TL_nil_p ?_); (refine TA_take 8 rfl (by kernel_rfl) (by kernel_rfl) (by kernel_rfl) ?_; (repeat (first | refine TL_move (hk := ?_) | refine TLP_load TE (hk := ?_) | refine TL_fieldAddr TE (hk := ?_) | refine TL_nilCheck (hk := ?_) | refine TL_conv TE (hk := ?_))); refine TL_nil_p ?_)
 refine TA_one 3 rfl (by kernel_rfl) (by kernel_rfl) ?_; (try refine TL_yes (hk := ?_)); refine TL_call TE (hc := (PutUint_c none 0 0 [] f w2 rfl (Own.nil w2 w2.heap.size 5 1).rd (by omega) (by omega))) (hq := (by rintro _ w' ⟨_, _, _, _, e, _⟩; exact Ext.un e)) (hk := ?_)
 rintro _ w3 ⟨A3, n3, c3, rfl, e3, o3⟩
 rw [List.nil_append] at o3
 have l3 := o3.len
 simp only [bv_length, Nat.mul_one] at l3
 refine TL_nil_p ?_
 refine TA_one 9 rfl (by kernel_rfl) (by kernel_rfl) ?_; (try refine TL_yes (hk := ?_)); refine TL_call TE (hc := (PutUint_c A3 n3 c3 (encU f) ep.toNat w3 hepi o3.rd (by omega) (by omega))) (hq := (by rintro _ w' ⟨_, _, _, _, e, _⟩; exact Ext.un (e3.ext e))) (hk := ?_)
 rintro _ w4 ⟨A4, n4, c4, rfl, e4, o4⟩
 have l4 := o4.len
 simp only [bv_length, Nat.mul_one, List.length_append] at l4
 refine TL_nil_p ?_
 refine TA_one 10 rfl (by kernel_rfl) (by kernel_rfl) ?_; (try refine TL_yes (hk := ?_)); refine TL_call TE (hc := (jframe_c 3 A4 n4 c4 _ w4 o4.rd (by decide) (by omega))) (hq := (by rintro _ w' ⟨_, _, _, _, e, _⟩; exact Ext.un ((e3.ext e4).ext e))) (hk := ?_)
 rintro _ w5 ⟨A5, n5, c5, rfl, e5, o5⟩
 have hkf : kindF 3 (encU f ++ encU ep.toNat) = frame (headL f ep) := rfl
 rw [hkf] at o5
 have l5 := o5.len
 rw [bv_length, Nat.mul_one] at l5
 have e25 := (e3.ext e4).ext e5
 have D5 := D2.ext e25
 refine TL_nil_p ?_
 refine TA_one 11 rfl (by kernel_rfl) (by kernel_rfl) ?_; (try refine TL_yes (hk := ?_)); refine TL_call TE (hc := (Append_c A5 n5 c5 (frame (headL f ep)) w5 D5 o5.rd (fun q => by have h1 := (o5.bl d q).1; have h2 := D2.blk.lt; have := e3.size; have := e4.size; omega) (by omega))) (hq := (by rintro _ w' ⟨_, _, _, _, t⟩; exact t.inD (Ext.un e25) hin)) (hk := ?_)
 rintro _ w6 ⟨rfl, sd6, gd6, D6, T6⟩
 refine TL_nil_p ?_
 refine TA_done (by kernel_rfl) ?_
 have hap : opD (newD []) (appD (frame (headL f ep))) = (⟨frame (headL f ep), 0, -1, false⟩, 0) := by
  unfold opD newD appD
  simp only [List.take_nil, List.length_nil, Nat.zero_add, List.nil_append]
  rw [if_neg (by decide), if_neg (by omega)]
  rfl
 rw [hap] at D6
 repeat (first | refine T_seq ?_ | refine T_region ?_ | refine TL_move (hk := ?_))
 refine TL_call TE (hc := Sync_c w6 D6) (hk := ?_)
 rintro _ w7 ⟨rfl, sd7, gd7, D7, T7⟩
 have hsy : opD ⟨frame (headL f ep), 0, -1, false⟩ synD = (⟨frame (headL f ep), (frame (headL f ep)).length, -1, false⟩, 0) := by
  unfold opD synD
  simp only
  rw [if_neg (by decide)]
  rfl
 rw [hsy] at D7
 have e15 : Ext w1 w5 := e2.ext e25
 have e05 := e1.ext e15
 have e07 : Ext w w7 := T7.ext0 (T6.ext0 e05 (fun b hb => (D5.old b hb).1)) (fun b hb => (D6.old b hb).1)
 have S7 := S.ext e07
 have hb7 := S7.blk
 have z7 := e07.size
 have hbs : base ≤ w.heap.size := by have := S.old sb (by rw [S.h1]; decide); omega
 repeat (first | refine T_region ?_ | refine TL_nil ?_ | refine TL_move (hk := ?_) | refine TL_load TE (hk := ?_) | refine TL_fieldAddr TE (hk := ?_) | refine TL_nilCheck (hk := ?_) | refine TL_build TE (hk := ?_))
 refine TL_box (hk := ?_); intro xb w8 e8 h8 h8' k8
 have S8 := S7.ext e8
 have hb8 := S8.blk
 have z8 := e8.size
 --
 refine TL_buildSlice TE (hk := ?_); intro b9 w9 e9 h9 h9' k9
 have S9 := S8.ext e9
 have hb9 := S9.blk
 have z9 := e9.size
 have hrow := S9.row
 replace k9 : Blk w9 b9 148 [pB xb] := k9
 have r9 : Rd w9 (some ⟨b9, 0, none⟩) 1 1 [pB xb] := Rd.blk k9 rfl
 have D9 := (D7.ext e8).ext e9
 obtain ⟨r, hr⟩ : ∃ r : SR, r = ⟨xb, d, sd7, gd7, (none, 0, 0), [], f, 0, ⟨frame (headL f ep), (frame (headL f ep)).length, -1, false⟩⟩ := ⟨_, rfl⟩
 have k8' : Blk w9 r.xb 152 (segC r) := by rw [hr]; exact k8.be e9
 --
 refine TL_append_g TE (ho := hrow) (hr := r9) (h1 := fun u hu => by rw [List.mem_singleton.1 hu]; rfl) (hk := ?_); intro A10 c10 w10 o10 m10 n10
 have hsn : sb ∉ blkL R.1 := fun q => by have := S.h6 sb q; have := S.h1; omega
 have hb10 := hb9.mod m10 hsn
 repeat (first | refine TL_fieldAddr TE (hk := ?_) | refine TL_nilCheck (hk := ?_))
 refine TL_store TE (hk := ?_); intro w11 m11 z11 k11
 have hgx : gd7 xb = 0 := by
  by_cases q : gd7 xb = 0
  ·exact q
  ·have := (D7.old xb q).2; omega
 have o10' : Seg w10 base 148 1 A10 (R.2.1 + 1) c10 (ptrs (cs ++ [r])) := by rw [ptrs_snoc, hr]; exact o10
 have hxb : w.heap.size ≤ r.xb := by rw [hr]; show w.heap.size ≤ xb; omega
 obtain ⟨h', S11, T11⟩ := S.add (r := r) (R' := (A10, R.2.1 + 1, c10)) ((e07.ext e8).ext e9) (by rw [hr]; exact { D9 with ow := Own.weaken D9.ow (by omega), old := fun b hb => by have := D9.old b hb; omega }) k8' hxb (by rw [hr]; exact hgx) (by rw [hr]) (by rw [hr]) (by rw [hr]; exact hf) (by rw [hr]) m10 o10' n10 m11 k11
 repeat (refine TL_nil ?_)
 exact T_end0 rfl ⟨rfl, _, r, h', S11, T11, by rw [hr], by rw [hr], by rw [hr], by rw [hr]⟩
theorem Trim_c (mark : Int) (w : World) (S : ShM w base sb sz R cs z ep h) (hc : cs.length ≤ 1000) (hm : -9223372036854775808 ≤ mark ∧ mark ≤ 9223372036854775807) :
  Ret Tryz.prog 43 [pB sb, .int .i64 mark] w (fun v w' => (∃ n : Int, v = .int .i64 n) ∧ ∃ R' k, k ≤ cs.length ∧ ShM w' base sb sz R' (cs.drop k) z ep h ∧ Tn h h w w' ∧ (0 < k → (((cs.drop k ++ [z]).getD 0 z).f : Int) ≤ mark)) := by
 refine ret_T (n := 38) Tryz.func43 rfl rfl ?_
 repeat (first | refine T_seq ?_ | refine T_region ?_ | refine T_cond_false rfl ?_ | refine T_block ?_ | refine T_skip ?_ | refine TL_pnil_f TE (hk := ?_) | refine TL_nil ?_ | refine TL_move (hk := ?_) | refine TL_assign (hk := ?_))
 refine T_loop (ι := Nat × SL) (fun q => [(5, .int .i64 (q.1 : Int)), (1, .int .i64 mark), (0, pB sb)]) (fun q w' => q.1 ≤ cs.length ∧ ShM w' base sb sz q.2 (cs.drop q.1) z ep h ∧ Tn h h w w' ∧ (0 < q.1 → (((cs.drop q.1 ++ [z]).getD 0 z).f : Int) ≤ mark)) (fun q => cs.length - q.1) (0, R) (.c rfl (.c rfl (.c rfl (.n)))) ⟨Nat.zero_le _, S, Tn.refl _ _, fun q => absurd q (Nat.lt_irrefl 0)⟩ ?_
 rintro ⟨k, R'⟩ w1 ⟨hk, S1, T1, hmk⟩ ih
 simp only at hk S1 hmk ih ⊢
 have hl1 := S1.len
 rw [List.length_drop] at hl1
 have hb1 := S1.blk
 by_cases hlt : k < cs.length
 ·obtain ⟨u, t, hu⟩ : ∃ u t, cs.drop (k + 1) ++ [z] = u :: t := by
   cases hq : cs.drop (k + 1) with
   |nil => exact ⟨_, _, rfl⟩
   |cons a b => exact ⟨_, _, rfl⟩
  have hd : cs.drop k = cs[k] :: cs.drop (k + 1) := List.drop_eq_getElem_cons hlt
  rw [hd] at S1
  have V1 := S1.view (by rw [← hd, List.length_drop]; omega)
  have hr1 := V1.row
  rw [List.cons_append, hu] at hr1
  have ht : (ptrs (cs[k] :: u :: t))[1]? = some (pB u.xb) := rfl
  have hsu := (V1.seg u (by rw [List.cons_append, hu]; simp)).blk
  have hR : R'.1 ≠ none := V1.ne (by simp)
  have hgt : (1 : Int) < (R'.2.1 : Int) := by omega
  have h1lt : 1 < R'.2.1 := by omega
  have hcap := S1.row.cap
  by_cases hle : (u.f : Int) ≤ mark
  ·repeat (first | refine T_seq ?_ | refine T_region ?_ | refine T_cond_true rfl ?_ | refine T_block ?_ | refine T_skip ?_ | refine TL_le_t (hk := ?_) | refine TL_gt_t (hk := ?_) | refine TL_nil ?_ | refine TL_move (hk := ?_) | refine TL_load TE (hk := ?_) | refine TL_load_rd TE (hk := ?_) | refine TL_fieldAddr TE (hk := ?_) | refine TL_indexAddr1n TE (hk := ?_) | refine TL_len TE (hk := ?_) | refine TL_yes (hk := ?_) | refine TL_pick_t (hk := ?_) | refine TL_nilCheck (hk := ?_) | refine TL_slice_lo TE (hk := ?_))
   refine TL_store TE (hk := ?_); intro w2 m2 z2 k2
   obtain ⟨S2, T2⟩ := S1.cut rfl m2 k2
   repeat (first | refine T_region ?_ | refine T_inBlock ?_ | refine TL_add (hk := ?_) | refine TL_nil ?_ | refine TL_move (hk := ?_) | refine TL_assign (hk := ?_))
   refine ih (k + 1, _) w2 _ (by simp only; omega) ⟨by show k + 1 ≤ cs.length; omega, S2, T1.trans T2, fun _ => ?_⟩ (.c rfl (.c rfl (.c rfl (.n))))
   show (((cs.drop (k + 1) ++ [z]).getD 0 z).f : Int) ≤ mark
   rw [hu]
   exact hle
  ·clear ih
   repeat (first | refine T_seq ?_ | refine T_region ?_ | refine T_cond_false rfl ?_ | refine T_exit rfl ?_ | refine TL_le_f (hk := ?_) | refine TL_gt_t (hk := ?_) | refine TL_nil ?_ | refine TL_move (hk := ?_) | refine TL_assign (hk := ?_) | refine TL_load TE (hk := ?_) | refine TL_load_rd TE (hk := ?_) | refine TL_fieldAddr TE (hk := ?_) | refine TL_indexAddr1n TE (hk := ?_) | refine TL_len TE (hk := ?_) | refine TL_yes (hk := ?_) | refine TL_pick_t (hk := ?_) | refine TL_nilCheck (hk := ?_))
   refine T_ret1 rfl rfl ⟨⟨_, rfl⟩, R', k, hk, by rw [hd]; exact S1, T1, hmk⟩
 ·clear ih
  obtain rfl : k = cs.length := by omega
  have hgt : ¬ (1 : Int) < (R'.2.1 : Int) := by omega
  repeat (first | refine T_seq ?_ | refine T_region ?_ | refine T_cond_false rfl ?_ | refine T_exit rfl ?_ | refine TL_gt_f (hk := ?_) | refine TL_nil ?_ | refine TL_move (hk := ?_) | refine TL_assign (hk := ?_) | refine TL_load TE (hk := ?_) | refine TL_fieldAddr TE (hk := ?_) | refine TL_len TE (hk := ?_) | refine TL_no (hk := ?_) | refine TL_pick_f (hk := ?_) | refine TL_nilCheck (hk := ?_))
  exact T_ret1 rfl rfl ⟨⟨_, rfl⟩, R', cs.length, hk, S1, T1, hmk⟩
end
end Go.Proofs.YtjlaomcankmdjaaGreat
