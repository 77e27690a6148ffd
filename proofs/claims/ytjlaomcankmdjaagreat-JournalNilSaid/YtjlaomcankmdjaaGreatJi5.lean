import Derived.Test.YtjlaomcankmdjaaGreatJi4
import Derived.KernelRfl
import Derived.SizedLaws
/- Parts: WW2 WW3 WW4 WW5 WW6 JLaw4 WLv WW7 WW8 Eng18 WN. -/
namespace Go.Proofs.YtjlaomcankmdjaaGreat
open Go.RowKit Go.Proofs.Eng Go.Proofs.Codec Go.Proofs.Foot Go.Proofs.Journal
set_option linter.unusedSimpArgs false
set_option linter.unusedVariables false set_option maxRecDepth 10000
attribute [local irreducible] T TL LV TH TA
set_option maxHeartbeats 1600000
/-- What turns lies at base or behind it. -/
def Up (base : Nat) (w w' : World) : Prop := ∃ S, Eng.Mod S w w' ∧ ∀ u ∈ S, base ≤ u
theorem Up.ext {base : Nat} {w w' : World} (e : Ext w w') : Up base w w' := ⟨[], e, fun u hu => by cases hu⟩
theorem Up.trans {base : Nat} {a b c : World} (h : Up base a b) (k : Up base b c) : Up base a c := by
  obtain ⟨S, m, hS⟩ := h
  obtain ⟨S', m', hS'⟩ := k
  exact ⟨S ++ S', (m.mono (fun u hu => .inl (List.mem_append_left _ hu))).step m' (fun u hu => .inl (List.mem_append_right _ hu)), fun u hu => (List.mem_append.1 hu).elim (hS u) (hS' u)⟩
theorem Up.to {base : Nat} {w0 w w' : World} (h : Up base w w') (e : Ext w0 w) (hb : w0.heap.size ≤ base) : Ext w0 w' := by
  obtain ⟨S, m, hS⟩ := h
  exact e.step m (fun u hu => .inr (by have := hS u hu; omega))
theorem Up.size {base : Nat} {w w' : World} (h : Up base w w') : w.heap.size ≤ w'.heap.size := by obtain ⟨S, m, _⟩ := h; exact m.size
theorem pmV_one (x : PM) : ∀ u ∈ pmV x, u.oneCell' = true := by
  intro u hu
  simp only [pmV, List.mem_cons, List.not_mem_nil, or_false] at hu
  rcases hu with rfl | rfl | rfl | rfl | rfl | rfl | rfl <;> rfl
/-- A log that is being read, in memory. -/
structure ScM (w : World) (base sb lg : Nat) (sl : SL) (es : List EM) (g : Nat → Nat) (y : SL) (ys : List PM) (s : SC) : Prop where
  blk : Blk w sb 109 [pB lg, sL y, .int .i64 s.ep, .int .i64 s.last]
  log : LogM w base lg sl es g s.log
  ok : LOk s.log
  ow : Own w base 45 7 y.1 y.2.1 y.2.2 (rowV pmV ys)
  ee : ys.map (·.p) = s.op
  ek : ∀ z ∈ ys, POwn w base z ∧ PFit z.p ∧ ∀ b ∈ pmB z, b ∉ blkL y.1 ∧ b ≠ sb ∧ g b = 0
  gs : g sb = 0
  sy : sb ∉ blkL y.1
  gy : ∀ b ∈ blkL y.1, g b = 0
  hs : base ≤ sb
  mx : s.op.length ≤ 65536
section
variable {w w' : World} {base sb lg : Nat} {sl : SL} {es : List EM} {g : Nat → Nat} {y : SL} {ys : List PM} {s : SC}
theorem ScM.ext (S : ScM w base sb lg sl es g y ys s) (e : Ext w w') : ScM w' base sb lg sl es g y ys s :=
  { S with blk := S.blk.be e, log := S.log.ext e, ow := S.ow.be e, ek := fun z hz => ⟨(S.ek z hz).1.be e, (S.ek z hz).2⟩ }
theorem ScM.len (S : ScM w base sb lg sl es g y ys s) : ys.length = y.2.1 ∧ s.op.length = y.2.1 := by
  have h1 := S.ow.len
  rw [rowV_len pmV_len] at h1
  have h2 := congrArg List.length S.ee
  rw [List.length_map] at h2
  omega
end
theorem scanE_c {base sb lg : Nat} {sl : SL} {es : List EM} {g : Nat → Nat} {y : SL} {ys : List PM} {s : SC} (A : Option Addr) (n c : Nat) (b : List UInt8) (w : World) (S : ScM w base sb lg sl es g y ys s) (h : Rd w A n 1 (bv b)) (hn : n ≤ 65536) (hcap : n ≤ c) (hbs : base ≤ w.heap.size)
    (hfit : ∀ e, getEn b = some e → PFit e.p) :
    Ret Tryz.prog 95 [pB sb, .slice A n c] w (fun v w' => v = .bool (scE s b).isSome ∧ Up base w w' ∧ ∀ s', scE s b = some s' → ∃ sl es g y ys, ScM w' base sb lg sl es g y ys s') := by
  obtain ⟨hy1, hy2⟩ := S.len
  have hln := S.ok.n
  have hmx := S.mx
  refine ret_T (n := 78) Tryz.func95 rfl rfl ?_
  repeat (first | refine T_seq ?_ | refine T_region ?_ | refine TL_nil ?_ | refine TL_move (hk := ?_) | refine TL_assign (hk := ?_))
  refine TL_call TE (hc := EGet_c A n c b w h (by omega) hcap) (hk := ?_)
  rintro _ w1 ⟨_, qe, rfl, e1, ⟨x, rfl, ox, hx⟩⟩
  repeat (first | refine TL_move (hk := ?_) | refine TL_extract (hk := ?_))
  refine TL_alloc TE (hk := ?_); intro b2 w2 e2 h2 h2' k2
  --
  refine TL_storea TE (hk := ?_); intro w3 m3 z3 k3
  replace k3 : Blk w3 b2 47 (emV x) := k3
  unfold emV pmV at k3
  have z1 := e1.size
  have z2 := e2.size
  have e03 : Ext w w3 := (e1.ext e2).step m3 (fun u hu => .inr (by rw [List.mem_singleton.1 hu]; omega))
  have S3 := S.ext e03
  have ox3 : POwn w3 w.heap.size x.m := (ox.be e2).modL m3 (fun u hu q => by have := (ox.bl u hu).2; rw [List.mem_singleton] at q; omega)
  have kb3 := S3.blk
  clear k2
  repeat (first | refine T_seq ?_ | refine TL_nil ?_ | refine TL_assign (hk := ?_))
  refine T_region_any TE.mixed ([] : List Nat) ?_; intro w4 e4 z4
  have kb4 := kb3.be e4
  have hsD : sb ∉ ([] : List Nat) := by simp
  (refine TA_take 0 rfl (by kernel_rfl) (by kernel_rfl) (by kernel_rfl) ?_; (repeat (first | refine TL_move (hk := ?_) | refine TLP_load TE (hk := ?_) | refine TL_fieldAddr TE (hk := ?_) | refine TL_len TE (hk := ?_) | refine TL_nilCheck (hk := ?_))); refine TL_nil_p ?_); (refine TA_take 1 rfl (by kernel_rfl) (by kernel_rfl) (by kernel_rfl) ?_; (repeat (first | refine TL_move (hk := ?_) | refine TLP_load TE (hk := ?_) | refine TL_fieldAddr TE (hk := ?_) | refine TL_len TE (hk := ?_) | refine TL_nilCheck (hk := ?_))); refine TL_nil_p ?_); (refine TA_take 2 rfl (by kernel_rfl) (by kernel_rfl) (by kernel_rfl) ?_; (repeat (first | refine TL_move (hk := ?_) | refine TLP_load TE (hk := ?_) | refine TL_fieldAddr TE (hk := ?_) | refine TL_len TE (hk := ?_) | refine TL_nilCheck (hk := ?_))); refine TL_nil_p ?_); (refine TA_take 3 rfl (by kernel_rfl) (by kernel_rfl) (by kernel_rfl) ?_; (repeat (first | refine TL_move (hk := ?_) | refine TLP_load TE (hk := ?_) | refine TL_fieldAddr TE (hk := ?_) | refine TL_len TE (hk := ?_) | refine TL_nilCheck (hk := ?_))); refine TL_nil_p ?_); (refine TA_take 5 rfl (by kernel_rfl) (by kernel_rfl) (by kernel_rfl) ?_; (repeat (first | refine TL_move (hk := ?_) | refine TLP_load TE (hk := ?_) | refine TL_fieldAddr TE (hk := ?_) | refine TL_len TE (hk := ?_) | refine TL_nilCheck (hk := ?_))); refine TL_nil_p ?_); (refine TA_take 6 rfl (by kernel_rfl) (by kernel_rfl) (by kernel_rfl) ?_; (repeat (first | refine TL_move (hk := ?_) | refine TLP_load TE (hk := ?_) | refine TL_fieldAddr TE (hk := ?_) | refine TL_len TE (hk := ?_) | refine TL_nilCheck (hk := ?_))); refine TL_nil_p ?_); (refine TA_take 7 rfl (by kernel_rfl) (by kernel_rfl) (by kernel_rfl) ?_; (repeat (first | refine TL_move (hk := ?_) | refine TLP_load TE (hk := ?_) | refine TL_fieldAddr TE (hk := ?_) | refine TL_len TE (hk := ?_) | refine TL_nilCheck (hk := ?_))); refine TL_nil_p ?_); (refine TA_take 8 rfl (by kernel_rfl) (by kernel_rfl) (by kernel_rfl) ?_; (repeat (first | refine TL_move (hk := ?_) | refine TLP_load TE (hk := ?_) | refine TL_fieldAddr TE (hk := ?_) | refine TL_len TE (hk := ?_) | refine TL_nilCheck (hk := ?_))); refine TL_nil_p ?_); (refine TA_take 9 rfl (by kernel_rfl) (by kernel_rfl) (by kernel_rfl) ?_; (repeat (first | refine TL_move (hk := ?_) | refine TLP_load TE (hk := ?_) | refine TL_fieldAddr TE (hk := ?_) | refine TL_len TE (hk := ?_) | refine TL_nilCheck (hk := ?_))); refine TL_nil_p ?_)
  refine TA_one 4 rfl (by kernel_rfl) (by kernel_rfl) ?_; (try refine TL_yes (hk := ?_)); refine TL_call TE (hc := (LLen_c w4 (S3.log.ext e4))) (hq := (by rintro _ _ ⟨_, h⟩; rw [h]; exact Mod.refl _ _)) (hk := ?_)
  rintro _ w5 ⟨rfl, hw5⟩
  rw [hw5]
  clear hw5 w5
  refine TL_nil_p ?_
  (refine TA_one 10 rfl (by kernel_rfl) (by kernel_rfl) ?_; (repeat (first | refine TL_add (hk := ?_) | refine TL_assign (hk := ?_))); refine TL_nil_p ?_); (refine TA_one 11 rfl (by kernel_rfl) (by kernel_rfl) ?_; (repeat (first | refine TL_add (hk := ?_) | refine TL_assign (hk := ?_))); refine TL_nil_p ?_)
  refine TA_done (by kernel_rfl) ?_
  have S4 := S3.ext e4
  have ox4 := ox3.be e4
  have k4 := k3.be e4
  have hnx : ((s.log.l.length : Nat) : Int) + ((y.2.1 : Nat) : Int) = ((s.log.l.length + s.op.length : Nat) : Int) := by omega
  rw [hnx]
  obtain ⟨nx, hnxd⟩ : ∃ nx, s.log.l.length + s.op.length = nx := ⟨_, rfl⟩
  have hnx2 : nx ≤ 131072 := by omega
  rw [hnxd]
  clear S3 ox3 k3 kb3
  --
  refine T_seq ?_
  refine T_seq ?_
  refine T_join (ι := Bool) (fun t => [(61, .bool t), (5, .pointer (some ⟨b2, 0, none⟩)), (1, .slice A n c), (0, pB sb)]) (fun t w' => Ext w4 w' ∧ (t = true ↔ scE s b = none)) (fun kk join => ?_) ?_
  · have kb := S4.blk
    cases hg : getEn b with
    | none =>
      rw [hg] at hx
      have hno : scE s b = none := by unfold scE; rw [hg]
      repeat (first | refine T_region_q TE.mixed (by kernel_rfl) ?_ | refine TL_ne_t (hk := ?_) | refine TL_move (hk := ?_) | refine TL_no (hk := ?_) | refine TL_pick_t (hk := ?_))
      refine TL_nil_q ?_; intro w6 e6
      exact T.sub (join true _ ⟨e6, fun _ => hno, fun _ => rfl⟩) (.c rfl (.c rfl (.c rfl (.c rfl (.n)))))
    | some e =>
      rw [hg] at hx
      obtain ⟨rfl, hxe⟩ := hx
      have hxs : x.sq = e.sq := congrArg EE.sq hxe
      have hxp : x.ep = e.ep := congrArg EE.ep hxe
      have huf : scE s b = if e.sq ≠ (nx : Int) ∨ 65536 ≤ nx ∨ e.ep < s.last ∨ (0 < s.op.length ∧ e.ep ≠ s.ep) then none else some { s with op := s.op ++ [e.p], ep := e.ep } := by unfold scE; rw [hg]; simp only; rw [hnxd]
      by_cases d1 : x.sq = (nx : Int)
      · by_cases d2 : (65536 : Int) ≤ (nx : Int)
        · have hno : scE s b = none := by rw [huf, if_pos (.inr (.inl (by omega)))]
          repeat (first | refine T_region_q TE.mixed (by kernel_rfl) ?_ | refine TL_ge_t (hk := ?_) | refine TL_ne_f (hk := ?_) | refine TL_move (hk := ?_) | refine TL_load TE (hk := ?_) | refine TL_fieldAddr TE (hk := ?_) | refine TL_yes (hk := ?_) | refine TL_no (hk := ?_) | refine TL_pick_t (hk := ?_) | refine TL_pick_f (hk := ?_))
          refine TL_nil_q ?_; intro w6 e6
          exact T.sub (join true _ ⟨e6, fun _ => hno, fun _ => rfl⟩) (.c rfl (.c rfl (.c rfl (.c rfl (.n)))))
        · by_cases d3 : x.ep < s.last
          · have hno : scE s b = none := by rw [huf, if_pos (.inr (.inr (.inl (by omega))))]
            repeat (first | refine T_region_q TE.mixed (by kernel_rfl) ?_ | refine TL_lt_t (hk := ?_) | refine TL_ge_f (hk := ?_) | refine TL_ne_f (hk := ?_) | refine TL_move (hk := ?_) | refine TL_load TE (hk := ?_) | refine TL_fieldAddr TE (hk := ?_) | refine TL_yes (hk := ?_) | refine TL_no (hk := ?_) | refine TL_pick_t (hk := ?_) | refine TL_pick_f (hk := ?_) | refine TL_nilCheck (hk := ?_))
            refine TL_nil_q ?_; intro w6 e6
            exact T.sub (join true _ ⟨e6, fun _ => hno, fun _ => rfl⟩) (.c rfl (.c rfl (.c rfl (.c rfl (.n)))))
          · by_cases d4 : (0 : Int) < (y.2.1 : Int)
            · by_cases d5 : x.ep = s.ep
              · have hno : ¬ scE s b = none := by rw [huf, if_neg (by omega)]; simp
                repeat (first | refine T_region_q TE.mixed (by kernel_rfl) ?_ | refine TL_lt_f (hk := ?_) | refine TL_gt_t (hk := ?_) | refine TL_ge_f (hk := ?_) | refine TL_ne_f (hk := ?_) | refine TL_move (hk := ?_) | refine TL_load TE (hk := ?_) | refine TL_fieldAddr TE (hk := ?_) | refine TL_len TE (hk := ?_) | refine TL_yes (hk := ?_) | refine TL_pick_t (hk := ?_) | refine TL_pick_f (hk := ?_) | refine TL_nilCheck (hk := ?_))
                refine TL_nil_q ?_; intro w6 e6
                exact T.sub (join false _ ⟨e6, fun q => (by cases q), fun q => absurd q hno⟩) (.c rfl (.c rfl (.c rfl (.c rfl (.n)))))
              · have hno : scE s b = none := by rw [huf, if_pos (.inr (.inr (.inr ⟨by omega, by omega⟩)))]
                repeat (first | refine T_region_q TE.mixed (by kernel_rfl) ?_ | refine TL_lt_f (hk := ?_) | refine TL_gt_t (hk := ?_) | refine TL_ge_f (hk := ?_) | refine TL_ne_t (hk := ?_) | refine TL_ne_f (hk := ?_) | refine TL_move (hk := ?_) | refine TL_load TE (hk := ?_) | refine TL_fieldAddr TE (hk := ?_) | refine TL_len TE (hk := ?_) | refine TL_yes (hk := ?_) | refine TL_pick_t (hk := ?_) | refine TL_pick_f (hk := ?_) | refine TL_nilCheck (hk := ?_))
                refine TL_nil_q ?_; intro w6 e6
                exact T.sub (join true _ ⟨e6, fun _ => hno, fun _ => rfl⟩) (.c rfl (.c rfl (.c rfl (.c rfl (.n)))))
            · have hno : ¬ scE s b = none := by rw [huf, if_neg (by omega)]; simp
              repeat (first | refine T_region_q TE.mixed (by kernel_rfl) ?_ | refine TL_lt_f (hk := ?_) | refine TL_gt_f (hk := ?_) | refine TL_ge_f (hk := ?_) | refine TL_ne_f (hk := ?_) | refine TL_move (hk := ?_) | refine TL_load TE (hk := ?_) | refine TL_fieldAddr TE (hk := ?_) | refine TL_len TE (hk := ?_) | refine TL_yes (hk := ?_) | refine TL_no (hk := ?_) | refine TL_pick_f (hk := ?_) | refine TL_nilCheck (hk := ?_))
              refine TL_nil_q ?_; intro w6 e6
              exact T.sub (join false _ ⟨e6, fun q => (by cases q), fun q => absurd q hno⟩) (.c rfl (.c rfl (.c rfl (.c rfl (.n)))))
      · have hno : scE s b = none := by rw [huf, if_pos (.inl (by omega))]
        repeat (first | refine T_region_q TE.mixed (by kernel_rfl) ?_ | refine TL_ne_t (hk := ?_) | refine TL_ne_f (hk := ?_) | refine TL_move (hk := ?_) | refine TL_load TE (hk := ?_) | refine TL_fieldAddr TE (hk := ?_) | refine TL_yes (hk := ?_) | refine TL_no (hk := ?_) | refine TL_pick_t (hk := ?_) | refine TL_pick_f (hk := ?_))
        refine TL_nil_q ?_; intro w6 e6
        exact T.sub (join true _ ⟨e6, fun _ => hno, fun _ => rfl⟩) (.c rfl (.c rfl (.c rfl (.c rfl (.n)))))
  rintro t w6 ⟨e6, ht⟩
  have e04 := e03.ext e4
  cases t with
  | true =>
    rw [ht.1 rfl]
    repeat (first | refine T_seq ?_ | refine T_region ?_ | refine T_cond_true rfl ?_ | refine TL_nil ?_ | refine TL_assign (hk := ?_))
    exact T_ret1 rfl rfl ⟨rfl, Up.ext (e04.ext e6), fun s' h => by cases h⟩
  | false => ?_
  have hsome : scE s b ≠ none := fun q => by have := ht.2 q; cases this
  repeat (first | refine T_seq ?_ | refine T_cond_false rfl ?_ | refine T_skip ?_)
  cases hg : getEn b with
  | none => exact absurd (by unfold scE; rw [hg]) hsome
  | some e => ?_
  rw [hg] at hx
  obtain ⟨rfl, hxe⟩ := hx
  have hF := hfit e hg
  have hxp : x.ep = e.ep := congrArg EE.ep hxe
  have hxm : x.m.p = e.p := congrArg EE.p hxe
  have huf : scE s b = if e.sq ≠ (nx : Int) ∨ 65536 ≤ nx ∨ e.ep < s.last ∨ (0 < s.op.length ∧ e.ep ≠ s.ep) then none else some { s with op := s.op ++ [e.p], ep := e.ep } := by unfold scE; rw [hg]; simp only; rw [hnxd]
  have hcond : ¬ (e.sq ≠ (nx : Int) ∨ 65536 ≤ nx ∨ e.ep < s.last ∨ (0 < s.op.length ∧ e.ep ≠ s.ep)) := fun q => hsome (by rw [huf, if_pos q])
  rw [if_neg hcond] at huf
  rw [huf]
  have S6 := S4.ext e6
  have ox6 := ox4.be e6
  have k6 := k4.be e6
  have e046 := e04.ext e6
  have z046 := e046.size
  clear hg S4 ox4 k4
  have hsy := S6.sy
  have hyl : ∀ u ∈ blkL y.1, u < w.heap.size := fun u hu => (S.ow.bl u hu).2
  have hsl : sb < w.heap.size := S.blk.lt
  have hgo : ∀ u, w.heap.size ≤ u → g u = 0 := fun u hu => by
    by_cases q : g u = 0
    · exact q
    · have := (S.log.old u q).2; omega
  have n2D : b2 ∉ sb :: blkL y.1 := fun q => (List.mem_cons.1 q).elim (fun q => by omega) (fun q => by have := hyl _ q; omega)
  have hDb : ∀ u ∈ sb :: blkL y.1, base ≤ u := fun u hu => (List.mem_cons.1 hu).elim (fun q => by rw [q]; exact S.hs) (fun q => (S.ow.bl u q).1)
  have hxb := ox6.bl
  have zz6 : w.heap.size ≤ w6.heap.size := z046
  refine T_region_any TE.mixed (sb :: blkL y.1) ?_; intro w7 e7 z7
  have kb7 := S6.blk.be e7
  have k7 := k6.be e7
  have o7 := S6.ow.be e7
  have fin : ∀ (wE : World) (y' : SL), Eng.Mod (sb :: blkL y.1) w7 wE → Blk wE sb 109 [pB lg, sL y', .int .i64 x.ep, .int .i64 s.last] → Own wE base 45 7 y'.1 y'.2.1 y'.2.2 (rowV pmV (ys ++ [x.m])) → ∀ {w8 : World}, Near y.1 y'.1 w8 → w7.heap.size ≤ w8.heap.size → ScM wE base sb lg sl es g y' (ys ++ [x.m]) { s with op := s.op ++ [e.p], ep := e.ep } := by
    intro wE y' M k o w8 nr z8
    have hny : ∀ u, u < w7.heap.size → u ∉ blkL y.1 → u ∉ blkL y'.1 := fun u hu hn hq => (Near.mem nr u hq).elim hn (fun q => by omega)
    have S7 := S6.ext e7
    refine ⟨by rw [← hxp]; exact k, S7.log.mod M (fun u hu => (List.mem_cons.1 hu).elim (fun q => by rw [q]; exact S.gs) (S.gy u)), S.ok, o, by rw [List.map_append, S.ee]; simp [hxm], fun z hz => ?_, S.gs, hny sb (by have := S7.blk.lt; exact this) S.sy, fun u hu => ?_, S.hs, by rw [List.length_append]; simp only [List.length_cons, List.length_nil]; omega⟩
    · rcases List.mem_append.1 hz with q | q
      · obtain ⟨q1, q2, q3⟩ := S7.ek z q
        refine ⟨q1.modL M (fun u hu hq => (List.mem_cons.1 hq).elim (q3 u hu).2.1 (q3 u hu).1), q2, fun u hu => ⟨hny u (q1.bl u hu).2 (q3 u hu).1, (q3 u hu).2.1, (q3 u hu).2.2⟩⟩
      · rw [List.mem_singleton.1 q]
        have q1 := ox6.be e7
        have hu1 : ∀ u ∈ pmB x.m, u ∉ blkL y.1 := fun u hu hq => by have h1 := (q1.bl u hu).1; have h2 := hyl u hq; omega
        have hu2 : ∀ u ∈ pmB x.m, u ≠ sb := fun u hu hq => by have h1 := (q1.bl u hu).1; omega
        exact ⟨(q1.weaken hbs).modL M (fun u hu hq => (List.mem_cons.1 hq).elim (hu2 u hu) (hu1 u hu)), by rw [hxm]; exact hF, fun u hu => ⟨hny u (q1.bl u hu).2 (hu1 u hu), hu2 u hu, hgo u (q1.bl u hu).1⟩⟩
    · exact (Near.mem nr u hu).elim (S.gy u) (fun q => hgo u (by omega))
  (refine TA_take 0 rfl (by kernel_rfl) (by kernel_rfl) (by kernel_rfl) ?_; (repeat (first | refine TL_move (hk := ?_) | refine TL_fieldAddr TE (hk := ?_) | refine TL_nilCheck (hk := ?_))); refine TL_nil_p ?_); (refine TA_take 1 rfl (by kernel_rfl) (by kernel_rfl) (by kernel_rfl) ?_; (repeat (first | refine TL_move (hk := ?_) | refine TL_fieldAddr TE (hk := ?_) | refine TL_nilCheck (hk := ?_))); refine TL_nil_p ?_); (refine TA_take 2 rfl (by kernel_rfl) (by kernel_rfl) (by kernel_rfl) ?_; (repeat (first | refine TL_move (hk := ?_) | refine TL_fieldAddr TE (hk := ?_) | refine TL_nilCheck (hk := ?_))); refine TL_nil_p ?_); (refine TA_take 3 rfl (by kernel_rfl) (by kernel_rfl) (by kernel_rfl) ?_; (repeat (first | refine TL_move (hk := ?_) | refine TL_fieldAddr TE (hk := ?_) | refine TL_nilCheck (hk := ?_))); refine TL_nil_p ?_); (refine TA_take 4 rfl (by kernel_rfl) (by kernel_rfl) (by kernel_rfl) ?_; (repeat (first | refine TL_move (hk := ?_) | refine TL_fieldAddr TE (hk := ?_) | refine TL_nilCheck (hk := ?_))); refine TL_nil_p ?_); (refine TA_take 6 rfl (by kernel_rfl) (by kernel_rfl) (by kernel_rfl) ?_; (repeat (first | refine TL_move (hk := ?_) | refine TL_fieldAddr TE (hk := ?_) | refine TL_nilCheck (hk := ?_))); refine TL_nil_p ?_)
  refine TA_take 7 rfl (by kernel_rfl) (by kernel_rfl) (by kernel_rfl) ?_
  refine TLP_loadb TE (cs := [.int .i64 x.m.p.q.cl, .int .u64 (x.m.p.q.tk : Int), .string (ofL x.m.p.q.nm), sL x.m.a, .int .i64 x.m.p.how, sL x.m.b, sL x.m.c]) (o := 2) (hb := k7) (hD := n2D) (hk := ?_)
  refine TL_nil_p ?_
  (refine TA_take 10 rfl (by kernel_rfl) (by kernel_rfl) (by kernel_rfl) ?_; (repeat (first | refine TLP_load TE (hk := ?_) | refine TL_fieldAddr TE (hk := ?_))); refine TL_nil_p ?_); (refine TA_take 11 rfl (by kernel_rfl) (by kernel_rfl) (by kernel_rfl) ?_; (repeat (first | refine TLP_load TE (hk := ?_) | refine TL_fieldAddr TE (hk := ?_))); refine TL_nil_p ?_)
  refine TA_two 5 8 rfl rfl (by kernel_rfl) (by kernel_rfl) ?_ ?_
  · refine TLN_load TE (hb := kb7) (hq := Mod.refl _ _) (hk := ?_)
    refine TL_nil_p ?_
    refine TA_one 8 rfl (by kernel_rfl) (by kernel_rfl) ?_
    refine TL_buildSliceA TE (hf := rfl) (hq := fun w' e => Ext.mod e) (hk := ?_); intro b17 w8 e17 h17 h17' k17
    refine TL_nil_p ?_
    replace k17 : Blk w8 b17 45 (rowV pmV [x.m]) := k17
    have r17 : Rd w8 (some ⟨b17, 0, none⟩) 1 7 (rowV pmV [x.m]) := Rd.blk k17 rfl
    have o8 := o7.be e17
    have kb8 := kb7.be e17
    have zz8 := e17.size
    refine TA_one 9 rfl (by kernel_rfl) (by kernel_rfl) ?_
    refine TL_append TE (ho := o8) (hr := r17) (h1 := rowV_one pmV_one _) (hf := rfl) (hq := fun w' m => (Ext.mod e17).step m (fun u hu => .inl (List.mem_cons_of_mem _ hu))) (hk := ?_); intro A9 c9 w9 o9 m9 n9
    rw [← rowV_append] at o9
    have kb9 := kb8.mod m9 S6.sy
    have zz9 := m9.size
    have M9 : Eng.Mod (sb :: blkL y.1) w7 w9 := (Ext.mod e17).step m9 (fun u hu => .inl (List.mem_cons_of_mem _ hu))
    refine TL_nil_p ?_
    (refine TA_take 12 rfl (by kernel_rfl) (by kernel_rfl) (by kernel_rfl) ?_; (repeat (first | refine TL_fieldAddr TE (hk := ?_) | refine TL_nilCheck (hk := ?_))); refine TL_nil_p ?_); (refine TA_take 13 rfl (by kernel_rfl) (by kernel_rfl) (by kernel_rfl) ?_; (repeat (first | refine TL_fieldAddr TE (hk := ?_) | refine TL_nilCheck (hk := ?_))); refine TL_nil_p ?_)
    refine TA_one 14 rfl (by kernel_rfl) (by kernel_rfl) ?_
    refine TL_store TE (hb := kb9) (hf := rfl) (hq := fun _ m _ => M9.step m (fun u hu => .inl (by rw [List.mem_singleton.1 hu]; exact List.mem_cons_self))) (hk := ?_); intro w10 m10 z10 k10
    have M10 : Eng.Mod (sb :: blkL y.1) w7 w10 := M9.step m10 (fun u hu => .inl (by rw [List.mem_singleton.1 hu]; exact List.mem_cons_self))
    refine TL_nil_p ?_
    (refine TA_take 15 rfl (by kernel_rfl) (by kernel_rfl) (by kernel_rfl) ?_; (repeat (first | refine TL_fieldAddr TE (hk := ?_) | refine TL_nilCheck (hk := ?_))); refine TL_nil_p ?_); (refine TA_take 16 rfl (by kernel_rfl) (by kernel_rfl) (by kernel_rfl) ?_; (repeat (first | refine TL_fieldAddr TE (hk := ?_) | refine TL_nilCheck (hk := ?_))); refine TL_nil_p ?_)
    refine TA_one 17 rfl (by kernel_rfl) (by kernel_rfl) ?_
    refine TL_store TE (hb := k10) (hf := rfl) (hq := fun _ m _ => M10.step m (fun u hu => .inl (by rw [List.mem_singleton.1 hu]; exact List.mem_cons_self))) (hk := ?_); intro w11 m11 z11 k11
    have M11 : Eng.Mod (sb :: blkL y.1) w7 w11 := M10.step m11 (fun u hu => .inl (by rw [List.mem_singleton.1 hu]; exact List.mem_cons_self))
    refine TL_nil_p ?_
    refine TA_done (by kernel_rfl) ?_
    repeat (first | refine T_seq ?_ | refine T_region ?_ | refine TL_nil ?_ | refine TL_assign (hk := ?_))
    have hnE : sb ∉ blkL A9 := fun q => (Near.mem n9 sb q).elim S6.sy (fun y => by have := S6.blk.lt; omega)
    have o11 := (o9.modL m10 (fun u hu q => by rw [List.mem_singleton] at q; rw [q] at hu; exact hnE hu)).modL m11 (fun u hu q => by rw [List.mem_singleton] at q; rw [q] at hu; exact hnE hu)
    refine T_ret1 rfl rfl ⟨rfl, (Up.ext (e046.ext e7)).trans ⟨_, M11, hDb⟩, fun s' h => ?_⟩
    cases h
    exact ⟨sl, es, g, (A9, y.2.1 + 1, c9), ys ++ [x.m], fin w11 (A9, y.2.1 + 1, c9) M11 k11 o11 n9 zz8⟩
  · refine TL_buildSliceA TE (hf := rfl) (hq := fun w' e => Ext.mod e) (hk := ?_); intro b17 w8 e17 h17 h17' k17
    refine TL_nil_p ?_
    refine TA_one 5 rfl (by kernel_rfl) (by kernel_rfl) ?_
    refine TLN_load TE (hb := kb7.be e17) (hq := Ext.mod e17) (hk := ?_)
    refine TL_nil_p ?_
    replace k17 : Blk w8 b17 45 (rowV pmV [x.m]) := k17
    have r17 : Rd w8 (some ⟨b17, 0, none⟩) 1 7 (rowV pmV [x.m]) := Rd.blk k17 rfl
    have o8 := o7.be e17
    have kb8 := kb7.be e17
    have zz8 := e17.size
    refine TA_one 9 rfl (by kernel_rfl) (by kernel_rfl) ?_
    refine TL_append TE (ho := o8) (hr := r17) (h1 := rowV_one pmV_one _) (hf := rfl) (hq := fun w' m => (Ext.mod e17).step m (fun u hu => .inl (List.mem_cons_of_mem _ hu))) (hk := ?_); intro A9 c9 w9 o9 m9 n9
    rw [← rowV_append] at o9
    have kb9 := kb8.mod m9 S6.sy
    have zz9 := m9.size
    have M9 : Eng.Mod (sb :: blkL y.1) w7 w9 := (Ext.mod e17).step m9 (fun u hu => .inl (List.mem_cons_of_mem _ hu))
    refine TL_nil_p ?_
    (refine TA_take 12 rfl (by kernel_rfl) (by kernel_rfl) (by kernel_rfl) ?_; (repeat (first | refine TL_fieldAddr TE (hk := ?_) | refine TL_nilCheck (hk := ?_))); refine TL_nil_p ?_); (refine TA_take 13 rfl (by kernel_rfl) (by kernel_rfl) (by kernel_rfl) ?_; (repeat (first | refine TL_fieldAddr TE (hk := ?_) | refine TL_nilCheck (hk := ?_))); refine TL_nil_p ?_)
    refine TA_one 14 rfl (by kernel_rfl) (by kernel_rfl) ?_
    refine TL_store TE (hb := kb9) (hf := rfl) (hq := fun _ m _ => M9.step m (fun u hu => .inl (by rw [List.mem_singleton.1 hu]; exact List.mem_cons_self))) (hk := ?_); intro w10 m10 z10 k10
    have M10 : Eng.Mod (sb :: blkL y.1) w7 w10 := M9.step m10 (fun u hu => .inl (by rw [List.mem_singleton.1 hu]; exact List.mem_cons_self))
    refine TL_nil_p ?_
    (refine TA_take 15 rfl (by kernel_rfl) (by kernel_rfl) (by kernel_rfl) ?_; (repeat (first | refine TL_fieldAddr TE (hk := ?_) | refine TL_nilCheck (hk := ?_))); refine TL_nil_p ?_); (refine TA_take 16 rfl (by kernel_rfl) (by kernel_rfl) (by kernel_rfl) ?_; (repeat (first | refine TL_fieldAddr TE (hk := ?_) | refine TL_nilCheck (hk := ?_))); refine TL_nil_p ?_)
    refine TA_one 17 rfl (by kernel_rfl) (by kernel_rfl) ?_
    refine TL_store TE (hb := k10) (hf := rfl) (hq := fun _ m _ => M10.step m (fun u hu => .inl (by rw [List.mem_singleton.1 hu]; exact List.mem_cons_self))) (hk := ?_); intro w11 m11 z11 k11
    have M11 : Eng.Mod (sb :: blkL y.1) w7 w11 := M10.step m11 (fun u hu => .inl (by rw [List.mem_singleton.1 hu]; exact List.mem_cons_self))
    refine TL_nil_p ?_
    refine TA_done (by kernel_rfl) ?_
    repeat (first | refine T_seq ?_ | refine T_region ?_ | refine TL_nil ?_ | refine TL_assign (hk := ?_))
    have hnE : sb ∉ blkL A9 := fun q => (Near.mem n9 sb q).elim S6.sy (fun y => by have := S6.blk.lt; omega)
    have o11 := (o9.modL m10 (fun u hu q => by rw [List.mem_singleton] at q; rw [q] at hu; exact hnE hu)).modL m11 (fun u hu q => by rw [List.mem_singleton] at q; rw [q] at hu; exact hnE hu)
    refine T_ret1 rfl rfl ⟨rfl, (Up.ext (e046.ext e7)).trans ⟨_, M11, hDb⟩, fun s' h => ?_⟩
    cases h
    exact ⟨sl, es, g, (A9, y.2.1 + 1, c9), ys ++ [x.m], fin w11 (A9, y.2.1 + 1, c9) M11 k11 o11 n9 zz8⟩
end Go.Proofs.YtjlaomcankmdjaaGreat

namespace Go.Proofs.YtjlaomcankmdjaaGreat
open Go.RowKit Go.Proofs.Eng Go.Proofs.Codec Go.Proofs.Foot Go.Proofs.Journal
set_option linter.unusedSimpArgs false
set_option linter.unusedVariables false set_option maxRecDepth 10000
attribute [local irreducible] T TL LV TH TA
set_option maxHeartbeats 1600000
theorem scanN_c {base sb lg : Nat} {sl : SL} {es : List EM} {g : Nat → Nat} {y : SL} {ys : List PM} {s : SC} (A : Option Addr) (n c : Nat) (b : List UInt8) (w : World) (S : ScM w base sb lg sl es g y ys s) (h : Rd w A n 1 (bv b)) (hn : n ≤ 65536) (hbs : base ≤ w.heap.size) :
    Ret Tryz.prog 96 [pB sb, .slice A n c] w (fun v w' => v = .bool (scN s b).isSome ∧ Up base w w' ∧ ∀ s', scN s b = some s' → ∃ sl es g y ys, ScM w' base sb lg sl es g y ys s') := by
  obtain ⟨hy1, hy2⟩ := S.len
  have hln := S.ok.n
  have hmx := S.mx
  refine ret_T (n := 69) Tryz.func96 rfl rfl ?_
  repeat (first | refine T_seq ?_ | refine T_region ?_ | refine TL_nil ?_ | refine TL_move (hk := ?_) | refine TL_assign (hk := ?_))
  refine TL_call TE (hc := NewReader_c A n c b w h (by omega)) (hk := ?_)
  rintro _ w1 ⟨bR, A3, n3, c3, rfl, e1, hbR, hi3, lo3, rr⟩
  have z1 := e1.size
  repeat (first | refine T_seq ?_ | refine T_region ?_ | refine TL_nil ?_ | refine TL_move (hk := ?_) | refine TL_assign (hk := ?_))
  refine TL_call TE (hc := Uint_c bR _ A3 n3 c3 w1 rr) (hk := ?_)
  rintro _ w2 ⟨rfl, m2, rr2⟩
  obtain ⟨p, hp⟩ : ∃ p, ge1 b = p := ⟨_, rfl⟩
  have q1 : (RS.mk b 0 0 0 0).take (0 : Nat) num0 = p := hp
  have l1 := take_lt (s := RS.mk b 0 0 0 0)
  rw [q1] at rr2 l1 ⊢
  repeat (first | refine T_seq ?_ | refine T_region ?_ | refine TL_nil ?_ | refine TL_move (hk := ?_) | refine TL_assign (hk := ?_))
  refine TL_call TE (hc := End_c bR _ A3 n3 c3 w2 rr2) (hk := ?_)
  rintro _ w3 ⟨rfl, m3, rr3⟩
  have z2 := m2.size
  have z3 := m3.size
  have e03 : Ext w w3 := (e1.step m2 (fun u hu => .inr (by rw [List.mem_singleton.1 hu]; omega))).step m3 (fun u hu => .inr (by rw [List.mem_singleton.1 hu]; omega))
  have S3 := S.ext e03
  clear rr rr2 rr3
  obtain ⟨x1, hx1⟩ : ∃ x, p.1 = x := ⟨_, rfl⟩
  have huf : scN s b = if p.2.fin.err ≠ 0 ∨ 9223372036854775808 ≤ x1 ∨ (x1 : Int) < s.last ∨ (0 < s.op.length ∧ (x1 : Int) ≠ s.ep) then none
      else if (appL s.log (x1 : Int) s.op).2.2.1 ≠ 0 then none else some ⟨(appL s.log (x1 : Int) s.op).1, [], s.ep, (x1 : Int)⟩ := by unfold scN; rw [hp, hx1]
  rw [hx1] at l1 ⊢
  have out : ∀ w', Ext w w' → scN s b = none → (Value.bool false = .bool (scN s b).isSome ∧ Up base w w' ∧ ∀ s', scN s b = some s' → ∃ sl es g y ys, ScM w' base sb lg sl es g y ys s') := fun w' e q => by rw [q]; exact ⟨rfl, Up.ext e, fun s' h => by cases h⟩
  by_cases d1 : p.2.fin.err = 0
  · by_cases d2 : (9223372036854775808 : Int) ≤ (x1 : Int)
    · repeat (first | refine T_seq ?_ | refine T_region ?_ | refine T_cond_true rfl ?_ | refine TL_ge_t (hk := ?_) | refine TL_ne_f (hk := ?_) | refine TL_nil ?_ | refine TL_move (hk := ?_) | refine TL_assign (hk := ?_) | refine TL_yes (hk := ?_) | refine TL_pick_f (hk := ?_))
      exact T_ret1 rfl rfl (out _ e03 (by rw [huf, if_pos (.inr (.inl (by omega)))]))
    · have kb := S3.blk
      repeat (first | refine T_cond_false rfl ?_ | refine T_skip ?_ | refine TL_ge_f (hk := ?_) | refine TL_ne_f (hk := ?_) | refine TL_nil ?_ | refine TL_move (hk := ?_) | refine TL_yes (hk := ?_) | refine TL_pick_f (hk := ?_))
      refine T_seq ?_
      refine T_region ?_
      repeat (first | refine TL_nil ?_ | refine TL_move (hk := ?_) | refine TL_assign (hk := ?_) | refine TL_conv TE (hk := ?_))
      refine T_seq ?_
      refine T_seq ?_
      refine T_join (ι := Bool) (fun t => [(45, .bool t), (7, .int .i64 (x1 : Int)), (0, pB sb)]) (fun t w' => w' = w3 ∧ (t = true ↔ ((x1 : Int) < s.last ∨ (0 < s.op.length ∧ (x1 : Int) ≠ s.ep)))) (fun kk join => ?_) ?_
      · by_cases d3 : (x1 : Int) < s.last
        · repeat (first | refine T_region ?_ | refine TL_lt_t (hk := ?_) | refine TL_nil ?_ | refine TL_move (hk := ?_) | refine TL_load TE (hk := ?_) | refine TL_fieldAddr TE (hk := ?_) | refine TL_no (hk := ?_) | refine TL_pick_t (hk := ?_) | refine TL_nilCheck (hk := ?_))
          exact T.sub (join true _ ⟨rfl, fun _ => .inl d3, fun _ => rfl⟩) (.c rfl (.c rfl (.c rfl (.n))))
        · by_cases d4 : (0 : Int) < (y.2.1 : Int)
          · by_cases d5 : (x1 : Int) = s.ep
            · repeat (first | refine T_region ?_ | refine TL_lt_f (hk := ?_) | refine TL_gt_t (hk := ?_) | refine TL_ne_f (hk := ?_) | refine TL_nil ?_ | refine TL_move (hk := ?_) | refine TL_load TE (hk := ?_) | refine TL_fieldAddr TE (hk := ?_) | refine TL_len TE (hk := ?_) | refine TL_yes (hk := ?_) | refine TL_pick_t (hk := ?_) | refine TL_pick_f (hk := ?_) | refine TL_nilCheck (hk := ?_))
              exact T.sub (join false _ ⟨rfl, fun q => (by cases q), fun q => absurd q (by omega)⟩) (.c rfl (.c rfl (.c rfl (.n))))
            · repeat (first | refine T_region ?_ | refine TL_lt_f (hk := ?_) | refine TL_gt_t (hk := ?_) | refine TL_ne_t (hk := ?_) | refine TL_nil ?_ | refine TL_move (hk := ?_) | refine TL_load TE (hk := ?_) | refine TL_fieldAddr TE (hk := ?_) | refine TL_len TE (hk := ?_) | refine TL_yes (hk := ?_) | refine TL_pick_t (hk := ?_) | refine TL_pick_f (hk := ?_) | refine TL_nilCheck (hk := ?_))
              exact T.sub (join true _ ⟨rfl, fun _ => .inr ⟨by omega, d5⟩, fun _ => rfl⟩) (.c rfl (.c rfl (.c rfl (.n))))
          · repeat (first | refine T_region ?_ | refine TL_lt_f (hk := ?_) | refine TL_gt_f (hk := ?_) | refine TL_nil ?_ | refine TL_move (hk := ?_) | refine TL_load TE (hk := ?_) | refine TL_fieldAddr TE (hk := ?_) | refine TL_len TE (hk := ?_) | refine TL_yes (hk := ?_) | refine TL_no (hk := ?_) | refine TL_pick_f (hk := ?_) | refine TL_nilCheck (hk := ?_))
            exact T.sub (join false _ ⟨rfl, fun q => (by cases q), fun q => absurd q (by omega)⟩) (.c rfl (.c rfl (.c rfl (.n))))
      rintro t w4 ⟨rfl, ht⟩
      cases t with
      | true =>
        have ht := ht.1 rfl
        repeat (first | refine T_seq ?_ | refine T_region ?_ | refine T_cond_true rfl ?_ | refine TL_nil ?_ | refine TL_assign (hk := ?_))
        exact T_ret1 rfl rfl (out _ e03 (by rw [huf, if_pos (.inr (.inr ht))]))
      | false => ?_
      have ht : ¬ ((x1 : Int) < s.last ∨ (0 < s.op.length ∧ (x1 : Int) ≠ s.ep)) := fun q => by have := ht.2 q; cases this
      rw [if_neg (by omega)] at huf
      repeat (first | refine T_seq ?_ | refine T_cond_false rfl ?_ | refine T_skip ?_)
      refine T_region_any TE.mixed (ownB w4 g) ?_; intro w5 e5 z5
      have S5 := S3.ext e5
      have kb5 := S5.blk
      have hsD : sb ∉ ownB w4 g := fun q => ownB_mem q S.gs
      (refine TA_take 0 rfl (by kernel_rfl) (by kernel_rfl) (by kernel_rfl) ?_; (repeat (first | refine TL_move (hk := ?_) | refine TLP_load TE (hk := ?_) | refine TL_fieldAddr TE (hk := ?_) | refine TL_nilCheck (hk := ?_))); refine TL_nil_p ?_); (refine TA_take 1 rfl (by kernel_rfl) (by kernel_rfl) (by kernel_rfl) ?_; (repeat (first | refine TL_move (hk := ?_) | refine TLP_load TE (hk := ?_) | refine TL_fieldAddr TE (hk := ?_) | refine TL_nilCheck (hk := ?_))); refine TL_nil_p ?_); (refine TA_take 2 rfl (by kernel_rfl) (by kernel_rfl) (by kernel_rfl) ?_; (repeat (first | refine TL_move (hk := ?_) | refine TLP_load TE (hk := ?_) | refine TL_fieldAddr TE (hk := ?_) | refine TL_nilCheck (hk := ?_))); refine TL_nil_p ?_); (refine TA_take 3 rfl (by kernel_rfl) (by kernel_rfl) (by kernel_rfl) ?_; (repeat (first | refine TL_move (hk := ?_) | refine TLP_load TE (hk := ?_) | refine TL_fieldAddr TE (hk := ?_) | refine TL_nilCheck (hk := ?_))); refine TL_nil_p ?_); (refine TA_take 4 rfl (by kernel_rfl) (by kernel_rfl) (by kernel_rfl) ?_; (repeat (first | refine TL_move (hk := ?_) | refine TLP_load TE (hk := ?_) | refine TL_fieldAddr TE (hk := ?_) | refine TL_nilCheck (hk := ?_))); refine TL_nil_p ?_); (refine TA_take 5 rfl (by kernel_rfl) (by kernel_rfl) (by kernel_rfl) ?_; (repeat (first | refine TL_move (hk := ?_) | refine TLP_load TE (hk := ?_) | refine TL_fieldAddr TE (hk := ?_) | refine TL_nilCheck (hk := ?_))); refine TL_nil_p ?_); (refine TA_take 6 rfl (by kernel_rfl) (by kernel_rfl) (by kernel_rfl) ?_; (repeat (first | refine TL_move (hk := ?_) | refine TLP_load TE (hk := ?_) | refine TL_fieldAddr TE (hk := ?_) | refine TL_nilCheck (hk := ?_))); refine TL_nil_p ?_); (refine TA_take 7 rfl (by kernel_rfl) (by kernel_rfl) (by kernel_rfl) ?_; (repeat (first | refine TL_move (hk := ?_) | refine TLP_load TE (hk := ?_) | refine TL_fieldAddr TE (hk := ?_) | refine TL_nilCheck (hk := ?_))); refine TL_nil_p ?_); (refine TA_take 8 rfl (by kernel_rfl) (by kernel_rfl) (by kernel_rfl) ?_; (repeat (first | refine TL_move (hk := ?_) | refine TLP_load TE (hk := ?_) | refine TL_fieldAddr TE (hk := ?_) | refine TL_nilCheck (hk := ?_))); refine TL_nil_p ?_)
      refine TA_one 9 rfl (by kernel_rfl) (by kernel_rfl) ?_; (try refine TL_yes (hk := ?_)); refine TL_call TE (hc := (LAppend_c (x1 : Int) y.1 y.2.1 y.2.2 ys w5 S5.log S5.ow.rd (fun x hx => ⟨(S5.ek x hx).1.lies, (S5.ek x hx).2.1⟩) S.gy (fun x hx u hu => ((S.ek x hx).2.2 u hu).2.2) (by omega) (by omega))) (hq := (by rintro _ w' ⟨_, _, _, g', _, t⟩; exact t.inD (Mod.refl _ _) (ownB_in z5))) (hk := ?_)
      rintro _ w6 ⟨rfl, sl', es', g', L6, T6⟩
      rw [S.ee] at L6 ⊢
      have e05 := e03.ext e5
      have hU6 : Up base w5 w6 := by
        obtain ⟨⟨Z, m6, s6⟩, -, -⟩ := T6
        exact ⟨Z, m6, fun u hu => (S.log.old u (s6 u hu)).1⟩
      have k6 : Blk w6 sb 109 [pB lg, sL y, .int .i64 s.ep, .int .i64 s.last] := by
        obtain ⟨⟨Z, m6, s6⟩, -, -⟩ := T6
        exact kb5.mod m6 (fun q => s6 sb q S.gs)
      have gs6 : g' sb = 0 := T6.old S.gs kb5.lt
      refine TL_nil_p ?_
      (refine TA_take 10 rfl (by kernel_rfl) (by kernel_rfl) (by kernel_rfl) ?_; (repeat (first | refine TL_move (hk := ?_) | refine TL_assign (hk := ?_) | refine TL_extract (hk := ?_))); refine TL_nil_p ?_); (refine TA_take 11 rfl (by kernel_rfl) (by kernel_rfl) (by kernel_rfl) ?_; (repeat (first | refine TL_move (hk := ?_) | refine TL_assign (hk := ?_) | refine TL_extract (hk := ?_))); refine TL_nil_p ?_); (refine TA_take 12 rfl (by kernel_rfl) (by kernel_rfl) (by kernel_rfl) ?_; (repeat (first | refine TL_move (hk := ?_) | refine TL_assign (hk := ?_) | refine TL_extract (hk := ?_))); refine TL_nil_p ?_); (refine TA_take 13 rfl (by kernel_rfl) (by kernel_rfl) (by kernel_rfl) ?_; (repeat (first | refine TL_move (hk := ?_) | refine TL_assign (hk := ?_) | refine TL_extract (hk := ?_))); refine TL_nil_p ?_); (refine TA_take 14 rfl (by kernel_rfl) (by kernel_rfl) (by kernel_rfl) ?_; (repeat (first | refine TL_move (hk := ?_) | refine TL_assign (hk := ?_) | refine TL_extract (hk := ?_))); refine TL_nil_p ?_); (refine TA_take 15 rfl (by kernel_rfl) (by kernel_rfl) (by kernel_rfl) ?_; (repeat (first | refine TL_move (hk := ?_) | refine TL_assign (hk := ?_) | refine TL_extract (hk := ?_))); refine TL_nil_p ?_); (refine TA_take 16 rfl (by kernel_rfl) (by kernel_rfl) (by kernel_rfl) ?_; (repeat (first | refine TL_move (hk := ?_) | refine TL_assign (hk := ?_) | refine TL_extract (hk := ?_))); refine TL_nil_p ?_)
      refine TA_done (by kernel_rfl) ?_
      by_cases d6 : (appL s.log (x1 : Int) s.op).2.2.1 = 0
      · rw [if_neg (fun q => q d6)] at huf
        rw [huf]
        rw [d6]
        repeat (first | refine T_seq ?_ | refine T_region ?_ | refine T_cond_false rfl ?_ | refine T_skip ?_ | refine TL_ne_f (hk := ?_) | refine TL_nil ?_ | refine TL_move (hk := ?_) | refine TL_fieldAddr TE (hk := ?_) | refine TL_nilCheck (hk := ?_))
        refine TL_store TE (hk := ?_); intro w7 m7 z7 k7
        repeat (first | refine TL_fieldAddr TE (hk := ?_) | refine TL_nilCheck (hk := ?_))
        refine TL_store TE (hk := ?_); intro w8 m8 z8 k8
        repeat (first | refine T_seq ?_ | refine T_region ?_ | refine TL_nil ?_ | refine TL_assign (hk := ?_))
        have hm : ∀ u ∈ [sb], g' u = 0 := fun u hu => by rw [List.mem_singleton.1 hu]; exact gs6
        have hsb : ∀ u ∈ [sb], base ≤ u := fun u hu => by rw [List.mem_singleton.1 hu]; exact S.hs
        refine T_ret1 rfl rfl ⟨rfl, (((Up.ext e05).trans hU6).trans ⟨_, m7, hsb⟩).trans ⟨_, m8, hsb⟩, fun s' h => ?_⟩
        cases h
        refine ⟨sl', es', g', (none, 0, 0), [], k8, (L6.mod m7 hm).mod m8 hm, appL_ok S.ok (by omega) (fun p hp => ?_), Own.nil _ _ _ _, rfl, fun z hz => (by cases hz), gs6, fun q => (by cases q), fun u hu => (by cases hu), S.hs, Nat.zero_le _⟩
        rw [← S.ee] at hp
        obtain ⟨z, hz, rfl⟩ := List.mem_map.1 hp
        exact (S.ek z hz).2.1
      · rw [if_pos d6] at huf
        have d6' : ¬ (((appL s.log (x1 : Int) s.op).2.2.1 : Nat) : Int) = 0 := by omega
        repeat (first | refine T_seq ?_ | refine T_region ?_ | refine T_cond_true rfl ?_ | refine TL_ne_t (hk := ?_) | refine TL_nil ?_ | refine TL_move (hk := ?_) | refine TL_assign (hk := ?_))
        refine T_ret1 rfl rfl ⟨by rw [huf]; rfl, (Up.ext e05).trans hU6, fun s' h => (by rw [huf] at h; cases h)⟩
  · repeat (first | refine T_seq ?_ | refine T_region ?_ | refine T_cond_true rfl ?_ | refine TL_ne_t (hk := ?_) | refine TL_nil ?_ | refine TL_move (hk := ?_) | refine TL_assign (hk := ?_) | refine TL_no (hk := ?_) | refine TL_pick_t (hk := ?_))
    exact T_ret1 rfl rfl (out _ e03 (by rw [huf, if_pos (.inl d1)]))
theorem scanR_c {base sb lg : Nat} {sl : SL} {es : List EM} {g : Nat → Nat} {y : SL} {ys : List PM} {s : SC} (A : Option Addr) (n c : Nat) (b : List UInt8) (w : World) (S : ScM w base sb lg sl es g y ys s) (h : Rd w A n 1 (bv b)) (hn : n ≤ 65536) (hcap : n ≤ c) (hbs : base ≤ w.heap.size)
    (hfit : ∀ b e, getEn b = some e → PFit e.p) :
    Ret Tryz.prog 51 [pB sb, .slice A n c] w (fun v w' => v = .bool (scR s b).isSome ∧ Up base w w' ∧ ∀ s', scR s b = some s' → ∃ sl es g y ys, ScM w' base sb lg sl es g y ys s') := by
  have hbl : b.length = n := by simpa using h.1
  refine ret_T (n := 23) Tryz.func51 rfl rfl ?_
  cases b with
  | nil =>
    have h0 : n = 0 := by simpa using hbl.symm
    subst h0
    repeat (first | refine T_seq ?_ | refine T_region ?_ | refine T_cond_true rfl ?_ | refine TL_eq_t (hk := ?_) | refine TL_nil ?_ | refine TL_move (hk := ?_) | refine TL_assign (hk := ?_) | refine TL_len TE (hk := ?_))
    exact T_ret1 rfl rfl ⟨rfl, Up.ext (Mod.refl _ _), fun s' h => by cases h⟩
  | cons x t => ?_
  have hx := x.toNat_lt
  rw [List.length_cons] at hbl
  have h1 := Rd.tail1 (p := 1) h (by omega) hcap
  rw [List.drop_succ_cons, List.drop_zero] at h1
  have hA : A ≠ none := by obtain ⟨_, _, hq, _⟩ := h.2 (by omega); rw [hq]; simp
  have h0 : (bv (x :: t))[0]? = some (.int .u8 ((x.toNat : Nat) : Int)) := rfl
  obtain ⟨k, hk⟩ : ∃ k, gb (x :: t) 0 = k := ⟨_, rfl⟩
  have hkx : x.toNat = k := hk
  have huf : scR s (x :: t) = if k = 1 then scE s t else if k = 2 then scN s t else none := by show (if x.toNat = 1 then scE s t else if x.toNat = 2 then scN s t else none) = _; rw [hkx]
  rw [huf]
  repeat (first | refine T_seq ?_ | refine T_region ?_ | refine T_cond_false rfl ?_ | refine T_block ?_ | refine T_skip ?_ | refine TL_eq_f (hk := ?_) | refine TL_nil ?_ | refine TL_move (hk := ?_) | refine TL_assign (hk := ?_) | (refine TL_load_b TE (hk := ?_); intro _) | refine TL_indexAddr1n TE (hk := ?_) | refine TL_len TE (hk := ?_))
  rw [hk]
  by_cases d1 : k = 1
  · rw [if_pos d1]
    repeat (first | refine T_seq ?_ | refine T_region ?_ | refine T_cond_true rfl ?_ | refine TL_eq_t (hk := ?_) | refine TL_nil ?_ | refine TL_move (hk := ?_) | refine TL_assign (hk := ?_) | refine TL_slice_lo TE (hk := ?_))
    refine TL_call TE (hc := scanE_c _ _ _ t w S h1 (by omega) (by omega) hbs (hfit t)) (hk := ?_)
    rintro _ w1 ⟨rfl, u1, hs⟩
    repeat (first | refine TL_nil ?_ | refine TL_assign (hk := ?_))
    exact T_ret1 rfl rfl ⟨rfl, u1, hs⟩
  rw [if_neg d1]
  by_cases d2 : k = 2
  · rw [if_pos d2]
    repeat (first | refine T_seq ?_ | refine T_region ?_ | refine T_cond_true rfl ?_ | refine T_cond_false rfl ?_ | refine TL_eq_t (hk := ?_) | refine TL_eq_f (hk := ?_) | refine TL_nil ?_ | refine TL_move (hk := ?_) | refine TL_assign (hk := ?_) | refine TL_slice_lo TE (hk := ?_))
    refine TL_call TE (hc := scanN_c _ _ _ t w S h1 (by omega) hbs) (hk := ?_)
    rintro _ w1 ⟨rfl, u1, hs⟩
    repeat (first | refine TL_nil ?_ | refine TL_assign (hk := ?_))
    exact T_ret1 rfl rfl ⟨rfl, u1, hs⟩
  rw [if_neg d2]
  repeat (first | refine T_seq ?_ | refine T_region ?_ | refine T_cond_false rfl ?_ | refine T_inBlock ?_ | refine T_skip ?_ | refine TL_eq_f (hk := ?_) | refine TL_nil ?_ | refine TL_assign (hk := ?_))
  exact T_ret1 rfl rfl ⟨rfl, Up.ext (Mod.refl _ _), fun s' h => by cases h⟩
end Go.Proofs.YtjlaomcankmdjaaGreat

namespace Go.Proofs.YtjlaomcankmdjaaGreat
open Go.RowKit Go.Proofs.Eng Go.Proofs.Codec Go.Proofs.Foot Go.Proofs.Journal
set_option linter.unusedSimpArgs false
set_option linter.unusedVariables false set_option maxRecDepth 10000
attribute [local irreducible] T TL LV TH TA
set_option maxHeartbeats 1600000
theorem jloads_get {w : World} : ∀ {xs : List Value} {ps : List (List UInt8)} {b e : Nat} {q : Nat}, Loads w b e xs ps → q < ps.length → ∃ A n c, xs[q]? = some (.slice A n c) ∧ Own w b 5 1 A n c (bv (ps.getD q []))
  | [], [], _, _, _, _, hx => by simp at hx
  | [], _ :: _, _, _, _, h, _ => h.elim
  | _ :: _, [], _, _, _, h, _ => h.elim
  | y :: t, p :: ps, b, e, 0, h, hx => by
    obtain ⟨A, n, c, b', h1, h2, h3, h4, h5⟩ := h
    exact ⟨A, n, c, by rw [h1]; rfl, h2⟩
  | y :: t, p :: ps, b, e, q + 1, h, hx => by
    obtain ⟨A, n, c, b', h1, h2, h3, h4, h5⟩ := h
    obtain ⟨A', n', c', g1, g2⟩ := jloads_get (q := q) h5 (by simpa using hx)
    exact ⟨A', n', c', by simpa using g1, Own.weaken (by simpa using g2) h4⟩
theorem openF_load {l : List UInt8} (h : (openF l).2.2 = 0) : (openF l).1.length ≤ 65536 ∧ (openF l).2.1 = (openF l).1.length + 8 := by
  unfold openF at h ⊢
  split
  · rename_i g; rw [if_pos g] at h; cases h
  · rename_i g
    rw [if_neg g] at h
    split
    · rename_i g; rw [if_pos g] at h; cases h
    · rename_i g
      rw [if_neg g] at h
      split
      · rename_i g; rw [if_pos g] at h; cases h
      · rename_i g
        rw [if_neg g] at h
        split
        · simp only [List.length_take, List.length_drop]; omega
        · rename_i g; rw [if_neg g] at h; cases h
theorem framesF_loads : ∀ (f : Nat) (l : List UInt8), (∀ p ∈ (framesF f l).1, p.length ≤ 65536) ∧ (framesF f l).1.length ≤ f
  | 0, l => ⟨fun p hp => (by cases hp), Nat.le_refl _⟩
  | f + 1, l => by
    unfold framesF
    split
    · exact ⟨fun p hp => (by cases hp), by simp⟩
    · split
      · rename_i h
        obtain ⟨h1, h2⟩ := framesF_loads f (l.drop (openF l).2.1)
        refine ⟨fun p hp => ?_, by simpa using h2⟩
        rcases List.mem_cons.1 hp with rfl | hp
        · exact (openF_load h).1
        · exact h1 p hp
      · exact ⟨fun p hp => (by cases hp), by simp⟩
/-- What Open hands over. -/
def OpO (w w' : World) (base d : Nat) (gd : Nat → Nat) (o : Option LE × Nat × DK) (jp : Value) : Prop :=
  ∃ sl' gd', DiskM w' base d 0 sl' gd' o.2.2 ∧ Tn gd gd' w w' ∧ (match o.1 with
    | none => jp = .pointer none
    | some L => ∃ jb lg slg es g, jp = pB jb ∧ Blk w' jb 111 [pB d, pB lg, .int .i64 (L.l.length : Int)] ∧ LogM w' w.heap.size lg slg es g L ∧ LOk L ∧ g jb = 0 ∧ w.heap.size ≤ jb ∧ (∀ b, gd' b = 0 ∨ g b = 0) ∧ gd' jb = 0)
theorem Open_j {base d : Nat} {sl : SL} {gd : Nat → Nat} {k : DK} (w : World) (D : DiskM w base d 0 sl gd k) (hfit : ∀ b e, getEn b = some e → PFit e.p) :
    Ret Tryz.prog 12 [pB d] w (fun v w' => ∃ jp, v = .tuple #[jp, .int .i64 ((openJ k).2.1 : Int)] ∧ OpO w w' base d gd (openJ k) jp) := by
  have hln := D.ok.ln
  unfold openJ
  refine ret_T (n := 90) Tryz.func12 rfl rfl ?_
  repeat (first | refine T_seq ?_ | refine T_region ?_ | refine T_cond_false rfl ?_ | refine T_block ?_ | refine TL_pnil_f TE (hk := ?_) | refine TL_nil ?_ | refine TL_move (hk := ?_) | refine TL_assign (hk := ?_))
  refine TL_call TE (hc := Dead_c w D) (hk := ?_)
  rintro _ w1 ⟨rfl, D1, T1⟩
  cases hoff : k.off with
  | true =>
    rw [if_pos rfl]
    repeat (first | refine T_seq ?_ | refine T_region ?_ | refine T_cond_true rfl ?_ | refine TL_nil ?_ | refine TL_assign (hk := ?_))
    exact T_ret2 rfl rfl rfl ⟨_, rfl, sl, gd, D1, T1, rfl⟩
  | false => ?_
  rw [if_neg (by decide)]
  repeat (first | refine T_seq ?_ | refine T_region ?_ | refine T_cond_false rfl ?_ | refine T_inBlock ?_ | refine T_skip ?_ | refine TL_nil ?_ | refine TL_move (hk := ?_) | refine TL_assign (hk := ?_))
  refine TL_call TE (hc := Bytes_c w1 D1) (hk := ?_)
  rintro _ w2 ⟨Y, rfl, D2, T2, oY⟩
  have hbd : bytesD k = k.b := by unfold bytesD; rw [hoff]; rfl
  rw [hbd] at oY
  have hYl := oY.len
  simp only [bv_length, Nat.mul_one] at hYl
  have hYc := oY.cap.1
  have T02 := T1.trans T2
  repeat (first | refine T_seq ?_ | refine T_region ?_ | refine TL_nil ?_ | refine TL_move (hk := ?_) | refine TL_assign (hk := ?_))
  refine TL_call TE (hc := Frames_c Y.1 Y.2.1 Y.2.2 k.b w2 oY.rd (by omega) hYc) (hk := ?_)
  rintro _ w3 ⟨AF, nF, cF, xs, rfl, e3, oF, LF⟩
  obtain ⟨fr, hfr⟩ : ∃ fr, frames k.b = fr := ⟨_, rfl⟩
  have hfl := framesF_loads k.b.length k.b
  have hfr' : framesF k.b.length k.b = fr := hfr
  rw [hfr'] at hfl
  rw [hfr] at LF ⊢
  have D3 := D2.ext e3
  have T03 := T02.trans (Tn.ext (o := gd) e3)
  have z3 := e3.size
  have hxl : xs.length = nF := by have := oF.len; simpa using this
  have hpl : xs.length = fr.1.length := LF.len
  by_cases c1 : fr.2.2 ≠ 0 ∧ fr.2.2 ≠ 3
  · rw [if_pos c1]
    obtain ⟨c11, c12⟩ := c1
    repeat (first | refine T_seq ?_ | refine T_region ?_ | refine T_cond_true rfl ?_ | refine TL_ne_t (hk := ?_) | refine TL_nil ?_ | refine TL_move (hk := ?_) | refine TL_assign (hk := ?_) | refine TL_yes (hk := ?_) | refine TL_pick_t (hk := ?_) | refine TL_extract (hk := ?_))
    exact T_ret2 rfl rfl rfl ⟨_, rfl, sl, gd, D3, T03, rfl⟩
  rw [if_neg c1]
  repeat (first | refine TL_nil ?_ | refine TL_move (hk := ?_) | refine TL_assign (hk := ?_) | refine TL_extract (hk := ?_))
  refine T_seq ?_
  refine T_join (ι := Unit) (fun _ => [(5, .slice AF nF cF), (4, sL Y), (0, pB d)]) (fun _ w' => w' = w3) (fun kk join => ?_) ?_
  · by_cases c2 : fr.2.2 = 0
    · repeat (first | refine T_seq ?_ | refine T_region ?_ | refine T_cond_false rfl ?_ | refine T_skip ?_ | refine TL_ne_f (hk := ?_) | refine TL_nil ?_ | refine TL_move (hk := ?_) | refine TL_no (hk := ?_) | refine TL_pick_f (hk := ?_))
      exact T.sub (join () _ rfl) (.c rfl (.c rfl (.c rfl (.n))))
    · have c3 : fr.2.2 = 3 := by omega
      repeat (first | refine T_seq ?_ | refine T_region ?_ | refine T_cond_false rfl ?_ | refine T_skip ?_ | refine TL_ne_t (hk := ?_) | refine TL_ne_f (hk := ?_) | refine TL_nil ?_ | refine TL_move (hk := ?_) | refine TL_yes (hk := ?_) | refine TL_pick_t (hk := ?_))
      exact T.sub (join () _ rfl) (.c rfl (.c rfl (.c rfl (.n))))
  rintro _ w4 rfl
  repeat (first | refine T_seq ?_ | refine T_region ?_)
  refine TL_call TE (hc := LNew_c w4) (hk := ?_)
  rintro _ w5 ⟨lg, g0, rfl, e5, L5⟩
  repeat (refine TL_build TE (hk := ?_))
  refine TL_box (hk := ?_); intro sb w6 e6 h6 h6' k6
  have z5 := e5.size
  have z6 := e6.size
  have hg0 : ∀ b, g0 b ≠ 0 → b < w5.heap.size := fun b hb => (L5.old b hb).2
  have gsb : g0 sb = 0 := by
    by_cases q : g0 sb = 0
    · exact q
    · have := hg0 sb q; omega
  have S6 : ScM w6 w4.heap.size sb lg (none, 0, 0) [] g0 (none, 0, 0) [] sc0 := ⟨k6, L5.ext e6, ⟨Nat.zero_le _, by decide, trivial⟩, Own.nil _ _ _ _, rfl, fun z hz => (by cases hz), gsb, fun q => (by cases q), fun u hu => (by cases hu), by omega, Nat.zero_le _⟩
  have e46 := e5.ext e6
  repeat (first | refine T_seq ?_ | refine T_region ?_ | refine T_block ?_ | refine TL_nil ?_ | refine TL_move (hk := ?_) | refine TL_assign (hk := ?_) | refine TL_len TE (hk := ?_))
  refine T_loop (ι := (Nat × Nat × Nat) × SC) (fun i => [(40, .int .i64 (i.1.1 : Int)), (39, .int .i64 (nF : Int)), (38, .slice AF nF cF), (10, .int .i64 (i.1.2.2 : Int)), (9, .int .i64 (i.1.2.1 : Int)), (8, pB sb), (4, sL Y), (0, pB d)])
    (fun i w' => i.1.1 ≤ nF ∧ Ext w4 w' ∧ (∃ sl es g y ys, ScM w' w4.heap.size sb lg sl es g y ys i.2) ∧ scanF (fr.1.drop i.1.1) i.2 i.1.2.1 i.1.2.2 = scanF fr.1 sc0 0 0 ∧ i.1.2.1 ≤ 70000 * i.1.1 ∧ i.1.2.2 ≤ i.1.2.1) (fun i => nF - i.1.1) ((0, 0, 0), sc0) (.c rfl (.c rfl (.c rfl (.c rfl (.c rfl (.c rfl (.c rfl (.c rfl (.n)))))))))
    ⟨Nat.zero_le _, e46, ⟨_, _, _, _, _, S6⟩, rfl, Nat.zero_le _, Nat.zero_le _⟩ ?_
  rintro ⟨⟨i, at_, wh⟩, s⟩ w7 ⟨hi, e7, ⟨sl7, es7, g7, y7, ys7, S7⟩, hsc, hat, hwh⟩ ih
  simp only at hi e7 S7 hsc hat hwh ih ⊢
  have z7 := e7.size
  by_cases hlt : i < nF
  · have hip : i < fr.1.length := by omega
    obtain ⟨A, n, c, hxi, ox⟩ := jloads_get (q := i) LF hip
    have hp0 : fr.1.getD i [] = fr.1[i] := by rw [List.getD_eq_getElem?_getD, List.getElem?_eq_getElem hip]; rfl
    have hp1 := hfl.1 _ (List.getElem_mem hip)
    rw [hp0] at ox
    rw [List.drop_eq_getElem_cons hip] at hsc
    obtain ⟨p, hp⟩ : ∃ p, fr.1[i] = p := ⟨_, rfl⟩
    rw [hp] at ox hp1 hsc
    have hpn := ox.len
    simp only [bv_length, Nat.mul_one] at hpn
    have oc := ox.cap.1
    have ox7 := ox.be e7
    have oF7 := oF.be e7
    have hAF : AF ≠ none := by obtain ⟨_, _, hq, _⟩ := oF.rd.2 (by omega); rw [hq]; simp
    have rF7 := oF7.rd
    repeat (first | refine T_seq ?_ | refine T_region ?_ | refine T_cond_true rfl ?_ | refine T_block ?_ | refine T_skip ?_ | refine TL_lt_t (hk := ?_) | refine TL_nil ?_ | refine TL_move (hk := ?_) | refine TL_assign (hk := ?_) | refine TL_load_rd TE (hk := ?_) | refine TL_indexAddr1n TE (hk := ?_))
    refine TL_call TE (hc := scanR_c A n c p w7 S7 ox7.rd (by omega) oc z7 hfit) (hk := ?_)
    rintro _ w8 ⟨rfl, u8, hs8⟩
    have e8 := u8.to e7 (Nat.le_refl _)
    have hsc2 : (match scR s p with
      | none => none
      | some s' => scanF (fr.1.drop (i + 1)) s' (at_ + (p.length + 8)) (if gb p 0 = 2 then at_ + (p.length + 8) else wh)) = scanF fr.1 sc0 0 0 := hsc
    cases hq : scR s p with
    | none =>
      rw [hq] at hsc2
      rw [← hsc2]
      repeat (first | refine T_seq ?_ | refine T_region ?_ | refine T_cond_true rfl ?_ | refine TL_nil ?_ | refine TL_assign (hk := ?_) | refine TL_not (hk := ?_))
      exact T_ret2 rfl rfl rfl ⟨_, rfl, sl, gd, D3.ext e8, T03.trans (Tn.ext (o := gd) e8), rfl⟩
    | some s' => ?_
    rw [hq] at hsc2 hs8
    simp only at hsc2
    have hs9 := hs8 s' rfl
    have hp0' : 0 < n := by
      cases p with
      | nil => cases hq
      | cons x t => simp at hpn; omega
    have ox8 := ox.be e8
    have rx8 := ox8.rd
    have hA : A ≠ none := by obtain ⟨_, _, hq, _⟩ := ox.rd.2 (by omega); rw [hq]; simp
    rw [hpn] at hsc2
    obtain ⟨kk, hkk⟩ : ∃ x, gb p 0 = x := ⟨_, rfl⟩
    rw [hkk] at hsc2
    have hat2 : at_ ≤ 400000000000 := by omega
    obtain ⟨at2, hat3⟩ : ∃ x, at_ + (n + 8) = x := ⟨_, rfl⟩
    have hai : (at_ : Int) + ((n : Int) + 8) = (at2 : Int) := by omega
    rw [hat3] at hsc2
    repeat (first | refine T_seq ?_ | refine T_region ?_ | refine T_cond_false rfl ?_ | refine T_skip ?_ | refine TL_add (hk := ?_) | refine TL_nil ?_ | refine TL_move (hk := ?_) | refine TL_assign (hk := ?_) | (refine TL_load_b TE (hk := ?_); intro _) | refine TL_indexAddr1n TE (hk := ?_) | refine TL_len TE (hk := ?_) | refine TL_not (hk := ?_))
    rw [hkk, hai]
    by_cases d2 : kk = 2
    · rw [if_pos d2] at hsc2
      repeat (first | refine T_region ?_ | refine T_cond_true rfl ?_ | refine T_inBlock ?_ | refine TL_add (hk := ?_) | refine TL_eq_t (hk := ?_) | refine TL_nil ?_ | refine TL_move (hk := ?_) | refine TL_assign (hk := ?_))
      exact ih ((i + 1, at2, at2), s') _ _ (by simp only; omega) ⟨by show i + 1 ≤ nF; omega, e8, hs9, hsc2, by show at2 ≤ 70000 * (i + 1); omega, Nat.le_refl _⟩ (.c rfl (.c rfl (.c rfl (.c rfl (.c rfl (.c rfl (.c rfl (.c rfl (.n)))))))))
    · rw [if_neg d2] at hsc2
      repeat (first | refine T_region ?_ | refine T_cond_false rfl ?_ | refine T_inBlock ?_ | refine T_skip ?_ | refine TL_add (hk := ?_) | refine TL_eq_f (hk := ?_) | refine TL_nil ?_ | refine TL_move (hk := ?_))
      exact ih ((i + 1, at2, wh), s') _ _ (by simp only; omega) ⟨by show i + 1 ≤ nF; omega, e8, hs9, hsc2, by show at2 ≤ 70000 * (i + 1); omega, by show wh ≤ at2; omega⟩ (.c rfl (.c rfl (.c rfl (.c rfl (.c rfl (.c rfl (.c rfl (.c rfl (.n)))))))))
  · clear ih
    obtain rfl : i = nF := by omega
    rw [List.drop_of_length_le (by omega)] at hsc
    have hsc2 : scanF fr.1 sc0 0 0 = some (s, wh) := hsc.symm
    rw [hsc2]
    unfold open2
    have D7 := D3.ext e7
    have T07 := T03.trans (Tn.ext (o := gd) e7)
    have hY : (k.b.length : Int) = (Y.2.1 : Int) := by omega
    obtain ⟨r1, hr1⟩ : ∃ r, (if wh < k.b.length then opD k (cutD (wh : Int)) else (k, 0)) = r := ⟨_, rfl⟩
    simp only
    rw [hr1]
    refine T_seq ?_
    refine T_region ?_
    repeat (first | refine TL_lt_f (hk := ?_) | refine TL_nil ?_)
    refine T_seq ?_
    repeat (first | refine T_cond_false rfl ?_ | refine T_exit rfl ?_)
    have hdis : ∀ b, gd b = 0 ∨ g7 b = 0 := fun b => by
      by_cases q : gd b = 0
      · exact .inl q
      · right
        have h1 := (D3.old b q).2
        by_cases q2 : g7 b = 0
        · exact q2
        · have h2 := (S7.log.old b q2).1; omega
    have gdsb : gd sb = 0 := by
      by_cases q : gd sb = 0
      · exact q
      · have h1 := (D3.old sb q).2; have h2 := S7.hs; omega
    have hbs7 := S7.blk
    refine T_seq ?_
    refine T_join (ι := SL × (Nat → Nat)) (fun _ => [(10, .int .i64 (wh : Int)), (8, pB sb), (0, pB d)]) (fun i w' => r1.2 = 0 ∧ DiskM w' base d 0 i.1 i.2 r1.1 ∧ Tn gd i.2 w w' ∧ LogM w' w4.heap.size lg sl7 es7 g7 s.log ∧ Blk w' sb 109 [pB lg, sL y7, .int .i64 s.ep, .int .i64 s.last] ∧ (∀ b, i.2 b = 0 ∨ g7 b = 0) ∧ i.2 sb = 0) (fun kk join => ?_) ?_
    · by_cases c3 : wh < k.b.length
      · rw [if_pos c3] at hr1
        have c3' : (wh : Int) < (Y.2.1 : Int) := by omega
        repeat (first | refine T_seq ?_ | refine T_region ?_ | refine T_cond_true rfl ?_ | refine TL_lt_t (hk := ?_) | refine TL_nil ?_ | refine TL_move (hk := ?_) | refine TL_len TE (hk := ?_))
        refine TL_call TE (hc := Cut_c (wh : Int) w7 D7) (hk := ?_)
        rintro _ w8 ⟨rfl, sl8, gd8, D8, T8⟩
        rw [hr1] at D8 ⊢
        have T08 := T07.trans T8
        obtain ⟨L8, hd8⟩ := S7.log.tn T8 hdis
        have k8 : Blk w8 sb 109 [pB lg, sL y7, .int .i64 s.ep, .int .i64 s.last] := by
          obtain ⟨⟨Z, m8, s8⟩, -, -⟩ := T8
          exact hbs7.mod m8 (fun q => s8 sb q gdsb)
        have gd8sb : gd8 sb = 0 := T8.old gdsb hbs7.lt
        by_cases c4 : r1.2 = 0
        · have c4' : ((r1.2 : Nat) : Int) = 0 := by omega
          repeat (first | refine T_seq ?_ | refine T_region ?_ | refine T_cond_false rfl ?_ | refine T_skip ?_ | refine TL_ne_f (hk := ?_) | refine TL_nil ?_ | refine TL_move (hk := ?_) | refine TL_assign (hk := ?_))
          exact T.sub (join (sl8, gd8) _ ⟨c4, D8, T08, L8, k8, hd8, gd8sb⟩) (.c rfl (.c rfl (.c rfl (.n))))
        · have c4' : ¬ ((r1.2 : Nat) : Int) = 0 := by omega
          rw [if_pos c4]
          repeat (first | refine T_seq ?_ | refine T_region ?_ | refine T_cond_true rfl ?_ | refine TL_ne_t (hk := ?_) | refine TL_nil ?_ | refine TL_move (hk := ?_) | refine TL_assign (hk := ?_))
          exact T_ret2 rfl rfl rfl ⟨_, rfl, sl8, gd8, D8, T08, rfl⟩
      · rw [if_neg c3] at hr1
        have c3' : ¬ (wh : Int) < (Y.2.1 : Int) := by omega
        repeat (first | refine T_seq ?_ | refine T_region ?_ | refine T_cond_false rfl ?_ | refine T_skip ?_ | refine TL_lt_f (hk := ?_) | refine TL_nil ?_ | refine TL_move (hk := ?_) | refine TL_len TE (hk := ?_))
        exact T.sub (join (sl, gd) _ ⟨by rw [← hr1], by rw [← hr1]; exact D7, T07, S7.log, hbs7, hdis, gdsb⟩) (.c rfl (.c rfl (.c rfl (.n))))
    rintro ⟨sl8, gd8⟩ w8 ⟨hr0, D8, T08, L8, k8, hd8, gs8⟩
    simp only at D8 T08 hd8 gs8
    rw [if_neg (by omega)]
    have hLok := S7.ok
    clear D7 T07 S7 hbs7 hdis gdsb
    obtain ⟨k1, hk1⟩ : ∃ x, r1.1 = x := ⟨_, rfl⟩
    rw [hk1] at D8 ⊢
    unfold open3
    obtain ⟨r2, hr2⟩ : ∃ r, (if safeD k1 < wh then opD k1 synD else (k1, 0)) = r := ⟨_, rfl⟩
    rw [hr2]
    refine T_seq ?_
    refine T_join (ι := SL × (Nat → Nat)) (fun _ => [(8, pB sb), (0, pB d)]) (fun i w' => r2.2 = 0 ∧ DiskM w' base d 0 i.1 i.2 r2.1 ∧ Tn gd i.2 w w' ∧ LogM w' w4.heap.size lg sl7 es7 g7 s.log ∧ Blk w' sb 109 [pB lg, sL y7, .int .i64 s.ep, .int .i64 s.last] ∧ (∀ b, i.2 b = 0 ∨ g7 b = 0) ∧ i.2 sb = 0) (fun kk join => ?_) ?_
    · repeat (first | refine T_seq ?_ | refine T_region ?_ | refine TL_move (hk := ?_))
      refine TL_call TE (hc := Safe_c w8 D8) (hk := ?_)
      rintro _ w9 ⟨rfl, D9, T9⟩
      have T09 := T08.trans T9
      obtain ⟨L9, hd9⟩ := L8.tn T9 hd8
      have k9 : Blk w9 sb 109 [pB lg, sL y7, .int .i64 s.ep, .int .i64 s.last] := by
        obtain ⟨⟨Z, m8, s8⟩, -, -⟩ := T9
        exact k8.mod m8 (fun q => s8 sb q gs8)
      by_cases c3 : safeD k1 < wh
      · rw [if_pos c3] at hr2
        have c3' : ((safeD k1 : Nat) : Int) < (wh : Int) := by omega
        repeat (first | refine T_seq ?_ | refine T_region ?_ | refine T_cond_true rfl ?_ | refine TL_lt_t (hk := ?_) | refine TL_nil ?_ | refine TL_move (hk := ?_))
        refine TL_call TE (hc := Sync_c w9 D9) (hk := ?_)
        rintro _ w10 ⟨rfl, sl10, gd10, D10, T10⟩
        rw [hr2] at D10 ⊢
        have T010 := T09.trans T10
        obtain ⟨L10, hd10⟩ := L9.tn T10 hd9
        have k10 : Blk w10 sb 109 [pB lg, sL y7, .int .i64 s.ep, .int .i64 s.last] := by
          obtain ⟨⟨Z, m8, s8⟩, -, -⟩ := T10
          exact k9.mod m8 (fun q => s8 sb q gs8)
        have gd10sb : gd10 sb = 0 := T10.old gs8 k9.lt
        by_cases c4 : r2.2 = 0
        · have c4' : ((r2.2 : Nat) : Int) = 0 := by omega
          repeat (first | refine T_seq ?_ | refine T_region ?_ | refine T_cond_false rfl ?_ | refine T_skip ?_ | refine TL_ne_f (hk := ?_) | refine TL_nil ?_ | refine TL_move (hk := ?_) | refine TL_assign (hk := ?_))
          exact T.sub (join (sl10, gd10) _ ⟨c4, D10, T010, L10, k10, hd10, gd10sb⟩) (.c rfl (.c rfl (.n)))
        · have c4' : ¬ ((r2.2 : Nat) : Int) = 0 := by omega
          rw [if_pos c4]
          repeat (first | refine T_seq ?_ | refine T_region ?_ | refine T_cond_true rfl ?_ | refine TL_ne_t (hk := ?_) | refine TL_nil ?_ | refine TL_move (hk := ?_) | refine TL_assign (hk := ?_))
          exact T_ret2 rfl rfl rfl ⟨_, rfl, sl10, gd10, D10, T010, rfl⟩
      · rw [if_neg c3] at hr2
        have c3' : ¬ ((safeD k1 : Nat) : Int) < (wh : Int) := by omega
        repeat (first | refine T_cond_false rfl ?_ | refine T_skip ?_ | refine TL_lt_f (hk := ?_) | refine TL_nil ?_ | refine TL_move (hk := ?_))
        exact T.sub (join (sl8, gd8) _ ⟨by rw [← hr2], by rw [← hr2]; exact D9, T09, L9, k9, hd9, gs8⟩) (.c rfl (.c rfl (.n)))
    rintro ⟨sl9, gd9⟩ w9 ⟨hr0', D9, T09, L9, k9, hd9, gs9⟩
    simp only at D9 T09 hd9 gs9
    rw [if_neg (by omega)]
    repeat (refine T_seq ?_)
    refine T_region_any TE.mixed ([] : List Nat) ?_; intro w10 e10 z10
    have k10 := k9.be e10
    have hsD : sb ∉ ([] : List Nat) := by simp
    (refine TA_take 0 rfl (by kernel_rfl) (by kernel_rfl) (by kernel_rfl) ?_; (repeat (first | refine TL_move (hk := ?_) | refine TLP_load TE (hk := ?_) | refine TL_fieldAddr TE (hk := ?_) | refine TL_nilCheck (hk := ?_))); refine TL_nil_p ?_); (refine TA_take 1 rfl (by kernel_rfl) (by kernel_rfl) (by kernel_rfl) ?_; (repeat (first | refine TL_move (hk := ?_) | refine TLP_load TE (hk := ?_) | refine TL_fieldAddr TE (hk := ?_) | refine TL_nilCheck (hk := ?_))); refine TL_nil_p ?_); (refine TA_take 2 rfl (by kernel_rfl) (by kernel_rfl) (by kernel_rfl) ?_; (repeat (first | refine TL_move (hk := ?_) | refine TLP_load TE (hk := ?_) | refine TL_fieldAddr TE (hk := ?_) | refine TL_nilCheck (hk := ?_))); refine TL_nil_p ?_); (refine TA_take 3 rfl (by kernel_rfl) (by kernel_rfl) (by kernel_rfl) ?_; (repeat (first | refine TL_move (hk := ?_) | refine TLP_load TE (hk := ?_) | refine TL_fieldAddr TE (hk := ?_) | refine TL_nilCheck (hk := ?_))); refine TL_nil_p ?_); (refine TA_take 4 rfl (by kernel_rfl) (by kernel_rfl) (by kernel_rfl) ?_; (repeat (first | refine TL_move (hk := ?_) | refine TLP_load TE (hk := ?_) | refine TL_fieldAddr TE (hk := ?_) | refine TL_nilCheck (hk := ?_))); refine TL_nil_p ?_); (refine TA_take 5 rfl (by kernel_rfl) (by kernel_rfl) (by kernel_rfl) ?_; (repeat (first | refine TL_move (hk := ?_) | refine TLP_load TE (hk := ?_) | refine TL_fieldAddr TE (hk := ?_) | refine TL_nilCheck (hk := ?_))); refine TL_nil_p ?_); (refine TA_take 6 rfl (by kernel_rfl) (by kernel_rfl) (by kernel_rfl) ?_; (repeat (first | refine TL_move (hk := ?_) | refine TLP_load TE (hk := ?_) | refine TL_fieldAddr TE (hk := ?_) | refine TL_nilCheck (hk := ?_))); refine TL_nil_p ?_); (refine TA_take 7 rfl (by kernel_rfl) (by kernel_rfl) (by kernel_rfl) ?_; (repeat (first | refine TL_move (hk := ?_) | refine TLP_load TE (hk := ?_) | refine TL_fieldAddr TE (hk := ?_) | refine TL_nilCheck (hk := ?_))); refine TL_nil_p ?_); (refine TA_take 8 rfl (by kernel_rfl) (by kernel_rfl) (by kernel_rfl) ?_; (repeat (first | refine TL_move (hk := ?_) | refine TLP_load TE (hk := ?_) | refine TL_fieldAddr TE (hk := ?_) | refine TL_nilCheck (hk := ?_))); refine TL_nil_p ?_)
    refine TA_one 9 rfl (by kernel_rfl) (by kernel_rfl) ?_; (try refine TL_yes (hk := ?_)); refine TL_call TE (hc := (LLen_c w10 (L9.ext e10))) (hq := (by rintro _ _ ⟨_, h⟩; rw [h]; exact Mod.refl _ _)) (hk := ?_)
    rintro _ w11 ⟨rfl, hw11⟩
    rw [hw11]
    clear hw11 w11
    refine TL_nil_p ?_
    (refine TA_take 10 rfl (by kernel_rfl) (by kernel_rfl) (by kernel_rfl) ?_; (repeat (refine TL_build TE (hk := ?_))); refine TL_nil_p ?_)
    refine TA_one 11 rfl (by kernel_rfl) (by kernel_rfl) ?_
    refine TL_box (hf := rfl) (hq := fun _ e => e) (hk := ?_); intro jb w12 e12 h12 h12' k12
    refine TL_nil_p ?_
    (refine TA_take 12 rfl (by kernel_rfl) (by kernel_rfl) (by kernel_rfl) ?_; (repeat (refine TL_assign (hk := ?_))); refine TL_nil_p ?_); (refine TA_take 13 rfl (by kernel_rfl) (by kernel_rfl) (by kernel_rfl) ?_; (repeat (refine TL_assign (hk := ?_))); refine TL_nil_p ?_)
    refine TA_done (by kernel_rfl) ?_
    --
    have ee := e10.ext e12
    have z10 := e10.size
    have hw4 : w.heap.size ≤ w4.heap.size := T03.size
    have D12 := D9.ext ee
    have L12 := L9.ext ee
    have gj : g7 jb = 0 := by
      by_cases q : g7 jb = 0
      · exact q
      · have := (L9.old jb q).2; omega
    have gdj : gd9 jb = 0 := by
      by_cases q : gd9 jb = 0
      · exact q
      · have := (D9.old jb q).2; omega
    exact T_ret2 rfl rfl rfl ⟨_, rfl, sl9, gd9, D12, T09.trans (Tn.ext (o := gd9) ee), jb, lg, sl7, es7, g7, rfl, k12, { L12 with ow := Own.weaken L12.ow hw4, old := fun b hb => by have := L12.old b hb; omega }, hLok, gj, by have := T09.size; omega, hd9, gdj⟩
end Go.Proofs.YtjlaomcankmdjaaGreat

namespace Go.Proofs.YtjlaomcankmdjaaGreat
open Go.RowKit Go.Proofs.Eng Go.Proofs.Codec Go.Proofs.Foot Go.Proofs.Journal
set_option linter.unusedSimpArgs false
set_option linter.unusedVariables false set_option maxRecDepth 10000
attribute [local irreducible] T TL LV TH TA
set_option maxHeartbeats 1600000
/-- A journal in memory. -/
structure JrM (w : World) (base jb d lg : Nat) (sd : SL) (gd : Nat → Nat) (k : DK) (sl : SL) (es : List EM) (g : Nat → Nat) (L : LE) (fl : Int) : Prop where
  blk : Blk w jb 111 [pB d, pB lg, .int .i64 fl]
  dk : DiskM w base d 0 sd gd k
  log : LogM w base lg sl es g L
  ok : LOk L
  ap : ∀ b, gd b = 0 ∨ g b = 0
  gj : g jb = 0
  dj : gd jb = 0
  hj : base ≤ jb
/-- Whose blocks a journal may turn. -/
def oJ (jb : Nat) (gd : Nat → Nat) (b : Nat) : Nat := if b = jb then 1 else gd b
theorem oJ_ne {jb b : Nat} {gd : Nat → Nat} (h : b ≠ jb) : oJ jb gd b = gd b := if_neg h
theorem oJ_at {jb : Nat} {gd : Nat → Nat} : oJ jb gd jb = 1 := if_pos rfl
section
variable {w w' : World} {base jb d lg : Nat} {sd : SL} {gd gd' : Nat → Nat} {k : DK} {sl : SL} {es : List EM} {g : Nat → Nat} {L : LE} {fl : Int}
theorem JrM.ext (J : JrM w base jb d lg sd gd k sl es g L fl) (e : Ext w w') : JrM w' base jb d lg sd gd k sl es g L fl := { J with blk := J.blk.be e, dk := J.dk.ext e, log := J.log.ext e }
theorem JrM.old (J : JrM w base jb d lg sd gd k sl es g L fl) : ∀ b, oJ jb gd b ≠ 0 → base ≤ b ∧ b < w.heap.size := fun b hb => by
  by_cases q : b = jb
  · rw [q]; exact ⟨J.hj, J.blk.lt⟩
  · rw [oJ_ne q] at hb; exact J.dk.old b hb
theorem oJ_tn (t : Tn gd gd' w w') : Tn (oJ jb gd) (oJ jb gd') w w' := by
  obtain ⟨⟨S, m, s⟩, n, z⟩ := t
  refine ⟨⟨S, m, fun b hb => ?_⟩, fun b hb => ?_, z⟩
  · unfold oJ; split
    · decide
    · exact s b hb
  · unfold oJ at hb ⊢
    split at hb
    · rename_i q; left; rw [if_pos q]; decide
    · rename_i q; rw [if_neg q]; exact n b hb
theorem oJ_one (m : Eng.Mod [jb] w w') : Tn (oJ jb gd) (oJ jb gd) w w' := ⟨⟨_, m, fun b hb => by rw [List.mem_singleton.1 hb, oJ_at]; decide⟩, fun b hb => .inl hb, m.size⟩
/-- The disk turns. -/
theorem JrM.disk (J : JrM w base jb d lg sd gd k sl es g L fl) {sd' : SL} {k' : DK} (D : DiskM w' base d 0 sd' gd' k') (t : Tn gd gd' w w') : JrM w' base jb d lg sd' gd' k' sl es g L fl := by
  obtain ⟨L', h'⟩ := J.log.tn t J.ap
  refine ⟨?_, D, L', J.ok, h', J.gj, t.old J.dj J.blk.lt, J.hj⟩
  obtain ⟨⟨S, m, s⟩, -, -⟩ := t
  exact J.blk.mod m (fun q => s jb q J.dj)
end
/-- So many entries' frames. -/
def frB (l : List EE) (i : Nat) : List UInt8 := ((l.take i).map fun e => kindF 1 (putEn [] e).1).flatten
theorem frB_succ (l : List EE) (i : Nat) (h : i < l.length) (d : EE) : frB l (i + 1) = frB l i ++ kindF 1 (putEn [] (l.getD i d)).1 := by
  unfold frB
  rw [List.take_succ_eq_append_getElem h, List.map_append, List.flatten_append, List.getD_eq_getElem?_getD, List.getElem?_eq_getElem h]
  simp
theorem frB_all (l : List EE) (ep : Int) : frB l l.length ++ kindF 2 (encU ep.toNat) = epF ep l := by unfold frB epF; rw [List.take_length]
theorem jframe_len (b : List UInt8) : (frame b).length = b.length + 8 := by
  unfold frame four
  simp only [List.length_append, List.length_cons, List.length_nil]
  omega
theorem kindF_len (c : Nat) (b : List UInt8) : (kindF c b).length = b.length + 9 := by unfold kindF; rw [jframe_len, List.length_cons]
theorem frB_len {l : List EE} (h : ∀ e ∈ l, EOk e) : ∀ i, i ≤ l.length → (frB l i).length ≤ 6000 * i
  | 0, _ => by simp [frB]
  | i + 1, hi => by
    have h1 := frB_len h i (by omega)
    have hm : l.getD i (emE em0) ∈ l := by rw [List.getD_eq_getElem?_getD, List.getElem?_eq_getElem (by omega)]; exact List.getElem_mem _
    have h2 := entB_len (h _ hm)
    rw [frB_succ l i (by omega) (emE em0), List.length_append, kindF_len, putEn_ok (h _ hm)]
    simp only
    omega
theorem fromL_mem {L : LE} {s m : Nat} : ∀ e ∈ fromL L s m, e ∈ L.l := fun e he => List.mem_of_mem_drop (List.mem_of_mem_take he)
theorem Write_c {base jb d lg : Nat} {sd : SL} {gd : Nat → Nat} {k : DK} {sl : SL} {es : List EM} {g : Nat → Nat} {L : LE} {fl : Int} (ep : Int) (A : Option Addr) (n c : Nat) (xs : List PM) (w : World) (J : JrM w base jb d lg sd gd k sl es g L fl)
    (hp : Rd w A n 7 (rowV pmV xs)) (hx : ∀ x ∈ xs, PLies w x ∧ PFit x.p) (hA : ∀ b ∈ blkL A, b < w.heap.size) (hB : ∀ x ∈ xs, ∀ b ∈ pmB x, b < w.heap.size) (hn : n ≤ 1000000) (hep : -9223372036854775808 ≤ ep ∧ ep ≤ 9223372036854775807) :
    Ret Tryz.prog 18 [pB jb, .int .i64 ep, .slice A n c] w (fun v w' => v = .tuple #[.int .i64 (writeJ L k ep (xs.map (·.p))).1.2.1, .int .i64 ((writeJ L k ep (xs.map (·.p))).1.2.2 : Int)] ∧
      ∃ lg' sd' gd' sl' es' g', JrM w' base jb d lg' sd' gd' (writeJ L k ep (xs.map (·.p))).2 sl' es' g' (writeJ L k ep (xs.map (·.p))).1.1 fl ∧ Tn (oJ jb gd) (oJ jb gd') w w' ∧ ∀ b, g' b ≠ 0 → g b ≠ 0 ∨ w.heap.size ≤ b) := by
  have hbk := J.blk
  have hL := J.ok
  have hLn := hL.n
  have hxl : xs.length = n := by have := hp.1; rw [rowV_len pmV_len] at this; omega
  obtain ⟨ps, hps⟩ : ∃ ps, xs.map (·.p) = ps := ⟨_, rfl⟩
  have hpsl : ps.length = n := by rw [← hps, List.length_map]; exact hxl
  obtain ⟨ap, hap⟩ : ∃ ap, appL L ep ps = ap := ⟨_, rfl⟩
  rw [hps]
  unfold writeJ
  rw [hap]
  refine ret_T (n := 76) Tryz.func18 rfl rfl ?_
  repeat (first | refine T_seq ?_ | refine T_region ?_ | refine T_cond_false rfl ?_ | refine T_skip ?_ | refine TL_pnil_f TE (hk := ?_) | refine TL_nil ?_ | refine TL_move (hk := ?_) | refine TL_assign (hk := ?_) | refine TL_load TE (hk := ?_) | refine TL_fieldAddr TE (hk := ?_) | refine TL_nilCheck (hk := ?_))
  refine TL_call TE (hc := copied_c w J.log hL) (hk := ?_)
  rintro _ w1 ⟨lg2, sl2, es2, g2, rfl, e1, L1⟩
  have J1 := J.ext e1
  have z1 := e1.size
  have hg2 : ∀ b, b < w.heap.size → g2 b = 0 := fun b hb => by
    by_cases q : g2 b = 0
    · exact q
    · have := (L1.old b q).1; omega
  repeat (first | refine T_seq ?_ | refine T_region ?_ | refine TL_nil ?_ | refine TL_move (hk := ?_) | refine TL_assign (hk := ?_))
  refine TL_call TE (hc := LAppend_c ep A n c xs w1 L1 (hp.be e1) (fun x hm => ⟨(hx x hm).1.be e1, (hx x hm).2⟩) (fun b hb => hg2 b (hA b hb)) (fun x hm b hb => hg2 b (hB x hm b hb)) hn hLn) (hk := ?_)
  rintro _ w2 ⟨rfl, sl3, es3, g3, L2, T2⟩
  rw [hps, hap] at L2 ⊢
  have e02 : Ext w w2 := T2.ext0 e1 (fun b hb => (L1.old b hb).1)
  have J2 := J.ext e02
  have z2 := e02.size
  have hLk2 : LOk ap.1 := by
    rw [← hap]
    exact appL_ok hL hep.2 (fun p hp' => by rw [← hps] at hp'; obtain ⟨x, hm, rfl⟩ := List.mem_map.1 hp'; exact (hx x hm).2)
  by_cases c1 : ap.2.2.1 = 0
  · rw [if_neg (fun q => q c1), c1]
    obtain ⟨b1, b2, b3, b4, b5⟩ := app_ok (L := L) (ep := ep) (ps := ps) (by rw [hap]; exact c1)
    rw [hap] at b5
    have hfi : ap.2.1 = (L.l.length : Int) := by rw [b5]
    rw [hfi]
    repeat (first | refine T_seq ?_ | refine T_region ?_ | refine T_cond_false rfl ?_ | refine T_skip ?_ | refine TL_ne_f (hk := ?_) | refine TL_nil ?_ | refine TL_move (hk := ?_) | refine TL_assign (hk := ?_) | refine TL_len TE (hk := ?_) | refine TL_extract (hk := ?_))
    refine TL_call TE (hc := LFrom_c (L.l.length : Int) (n : Int) w2 L2 hLk2.n (by omega)) (hk := ?_)
    rintro _ w3 ⟨y, ys, rfl, e3, O3⟩
    rw [Int.toNat_natCast, Int.toNat_natCast] at O3
    rw [hpsl]
    obtain ⟨l, hl⟩ : ∃ l, fromL ap.1 L.l.length n = l := ⟨_, rfl⟩
    rw [hl] at O3 ⊢
    have hlok : ∀ e ∈ l, EOk e := fun e he => (hLk2.run.le e (fromL_mem e (by rw [hl]; exact he))).2
    have hyl := O3.len
    have hll : l.length ≤ 65536 := by
      rw [← hl]
      unfold fromL
      rw [List.length_take, List.length_drop]
      have := hLk2.n
      omega
    have hysl : ys.length = l.length := by have := congrArg List.length O3.ee; rwa [List.length_map] at this
    have J3 := J2.ext e3
    have z3 := e3.size
    clear J1
    repeat (first | refine T_block ?_ | refine TL_nil ?_ | refine TL_move (hk := ?_) | refine TL_len TE (hk := ?_))
    refine T_loop (ι := Nat × SL) (fun i => [(42, .int .i64 (i.1 : Int)), (41, .int .i64 (y.2.1 : Int)), (40, sL y), (12, sL i.2), (9, .int .i64 (L.l.length : Int)), (8, pB lg2), (1, .int .i64 ep), (0, pB jb)])
      (fun i w' => i.1 ≤ l.length ∧ Ext w3 w' ∧ Own w' w3.heap.size 5 1 i.2.1 i.2.2.1 i.2.2.2 (bv (frB l i.1))) (fun i => l.length - i.1) (0, (none, 0, 0)) (.c rfl (.c rfl (.c rfl (.c rfl (.c rfl (.c rfl (.c rfl (.c rfl (.n))))))))) ⟨Nat.zero_le _, Mod.refl _ _, by unfold frB; exact Own.nil _ _ _ _⟩ ?_
    rintro ⟨i, Z⟩ w4 ⟨hi, e4, oZ⟩ ih
    simp only at hi oZ ih ⊢
    have z4 := e4.size
    have lZ := oZ.len
    have lF := frB_len hlok i hi
    simp only [bv_length, Nat.mul_one] at lZ
    by_cases hlt : i < l.length
    · have hr := O3.ow.rd.be e4
      have hA' : y.1 ≠ none := by obtain ⟨_, _, hq, _⟩ := hr.2 (by omega); rw [hq]; simp
      have t1 := rowV_elem emV_len ys i em0 (by omega)
      have hmem : ys.getD i em0 ∈ ys := by rw [List.getD_eq_getElem?_getD, List.getElem?_eq_getElem (by omega)]; exact List.getElem_mem _
      obtain ⟨hX, hF, -⟩ := O3.ek _ hmem
      have hat : emE (ys.getD i em0) = l.getD i (emE em0) := by
        rw [← O3.ee, List.getD_eq_getElem?_getD, List.getD_eq_getElem?_getD, List.getElem?_map, List.getElem?_eq_getElem (by omega)]
        rfl
      have hie : l.getD i (emE em0) ∈ l := by rw [List.getD_eq_getElem?_getD, List.getElem?_eq_getElem hlt]; exact List.getElem_mem _
      have hE := hlok _ hie
      have hfs := frB_succ l i hlt (emE em0)
      rw [← hat] at hE hfs
      generalize ys.getD i em0 = x at t1 hX hF hE hfs
      have hEl := entB_len hE
      rw [putEn_ok hE] at hfs
      have hX4 := hX.be e4
      have hyi : (i : Int) < (y.2.1 : Int) := by omega
      repeat (first | refine T_seq ?_ | refine T_region ?_ | refine T_cond_true rfl ?_ | refine T_block ?_ | refine T_skip ?_ | refine TL_lt_t (hk := ?_) | refine TL_nil ?_ | refine TL_indexAddrn TE (hk := ?_))
      refine TL_loada TE (cs := emV x) (hx := rfl) (ht := rfl) (hi := rfl) (hr := hr) (hc := t1) (h0 := Nat.succ_pos _) (hk := ?_)
      --
      refine TL_alloc TE (hk := ?_); intro b5 w5 e5 h5 h5' k5
      --
      refine TL_storea TE (hk := ?_); intro w6 m6 z6 k6
      have z5 := e5.size
      have e46 : Ext w4 w6 := e5.step m6 (fun u hu => .inr (by rw [List.mem_singleton.1 hu]; omega))
      replace k6 : Blk w6 b5 47 (emV x) := k6
      unfold emV pmV at k6
      have hX6 := hX4.be e46
      have oZ6 := oZ.be e46
      repeat (first | refine T_seq ?_ | refine T_region ?_ | refine TL_nil ?_)
      refine TL_loadb TE (cs := emV x) (o := 0) rfl rfl k6 rfl rfl (Nat.succ_pos _) (hk := ?_)
      --
      refine TL_call TE (hc := EPut_c x none 0 0 [] w6 hX6.lies hF hE.sq.2 hE.ep.2 (Own.nil w6 w6.heap.size 5 1).rd (by omega)) (hk := ?_)
      rintro _ w7 ⟨A7, n7, c7, rfl, e7, o7⟩
      rw [putEn_ok hE] at o7 ⊢
      simp only at o7
      have l7 := o7.len
      simp only [bv_length, Nat.mul_one] at l7
      repeat (first | refine T_region ?_ | refine TL_nil ?_ | refine TL_move (hk := ?_) | refine TL_assign (hk := ?_) | refine TL_extract (hk := ?_))
      refine TL_call TE (hc := jframe_c 1 A7 n7 c7 _ w7 o7.rd (by decide) (by omega)) (hk := ?_)
      rintro _ w8 ⟨A8, n8, c8, rfl, e8, o8⟩
      have l8 := o8.len
      rw [bv_length, kindF_len] at l8
      have oZ8 := (oZ6.be e7).be e8
      have z7 := e7.size
      have z8 := e8.size
      have r8 := o8.rd
      --
      refine TL_append TE (ho := oZ8) (hr := r8) (h1 := bv_one _) (hk := ?_); intro A9 c9 w9 o9 m9 n9
      rw [← bv_append, ← hfs] at o9
      repeat (first | refine T_region ?_ | refine T_inBlock ?_ | refine TL_add (hk := ?_) | refine TL_nil ?_ | refine TL_move (hk := ?_) | refine TL_assign (hk := ?_))
      exact ih (i + 1, (A9, Z.2.1 + n8, c9)) w9 _ (by simp only; omega) ⟨by show i + 1 ≤ l.length; omega, (((e4.ext e46).ext e7).ext e8).step m9 (fun u hu => .inr (oZ8.bl u hu).1), o9⟩ (.c rfl (.c rfl (.c rfl (.c rfl (.c rfl (.c rfl (.c rfl (.c rfl (.n)))))))))
    · clear ih
      obtain rfl : i = l.length := by omega
      have hepi : ep = ((ep.toNat : Nat) : Int) := by omega
      have u1 := encU_len64 (show ep.toNat < 2 ^ 64 by omega)
      have hyi : ¬ ((l.length : Nat) : Int) < (y.2.1 : Int) := by omega
      repeat (first | refine T_seq ?_ | refine T_region ?_ | refine T_cond_false rfl ?_ | refine T_exit rfl ?_ | refine TL_lt_f (hk := ?_) | refine TL_nil ?_ | refine TL_move (hk := ?_) | refine TL_conv TE (hk := ?_))
      refine TL_call TE (hc := PutUint_c none 0 0 [] ep.toNat w4 hepi (Own.nil w4 w4.heap.size 5 1).rd (by omega) (by omega)) (hk := ?_)
      rintro _ w5 ⟨A5, n5, c5, rfl, e5, o5⟩
      have l5 := o5.len
      simp only [bv_length, List.length_append, List.length_nil, Nat.mul_one] at l5
      --
      refine TL_call TE (hc := jframe_c 2 A5 n5 c5 _ w5 o5.rd (by decide) (by omega)) (hk := ?_)
      rintro _ w6 ⟨A6, n6, c6, rfl, e6, o6⟩
      have l6 := o6.len
      rw [bv_length, kindF_len] at l6
      simp only [List.length_append, List.length_nil] at l6
      have oZ6 := (oZ.be e5).be e6
      have z5 := e5.size
      have z6 := e6.size
      have r6 := o6.rd
      --
      refine TL_append TE (ho := oZ6) (hr := r6) (h1 := bv_one _) (hk := ?_); intro A7 c7 w7 o7 m7 n7
      rw [← bv_append, List.nil_append, frB_all] at o7
      have e37 : Ext w3 w7 := ((e4.ext e5).ext e6).step m7 (fun u hu => .inr (oZ6.bl u hu).1)
      have J7 := J3.ext e37
      have hbk7 := J7.blk
      have z7 := m7.size
      have e07 : Ext w w7 := (e02.ext e3).ext e37
      repeat (first | refine T_seq ?_ | refine T_region ?_ | refine TL_nil ?_ | refine TL_move (hk := ?_) | refine TL_assign (hk := ?_) | refine TL_load TE (hk := ?_) | refine TL_fieldAddr TE (hk := ?_) | refine TL_nilCheck (hk := ?_))
      refine TL_call TE (hc := Append_c A7 (Z.2.1 + n6) c7 (epF ep l) w7 J7.dk o7.rd (fun q => by have h1 := (o7.bl d q).1; have h2 := J.dk.blk.lt; omega) (by omega)) (hk := ?_)
      rintro _ w8 ⟨rfl, sd8, gd8, D8, T8⟩
      have J8 := J7.disk D8 T8
      have hbk8 := J8.blk
      obtain ⟨r, hr⟩ : ∃ r, opD k (appD (epF ep l)) = r := ⟨_, rfl⟩
      rw [hr] at J8 ⊢
      by_cases c2 : r.2 = 0
      · have c2' : ((r.2 : Nat) : Int) = 0 := by omega
        rw [if_neg (fun q => q c2)]
        have hdis : ∀ b, gd b = 0 ∨ g3 b = 0 := fun b => by
          by_cases q : gd b = 0
          · exact .inl q
          · right
            have h1 := (J.dk.old b q).2
            by_cases q2 : g3 b = 0
            · exact q2
            · have h2 := (L2.old b q2).1; omega
        have hgj : g3 jb = 0 := by
          by_cases q2 : g3 jb = 0
          · exact q2
          · have h2 := (L2.old jb q2).1; have h1 := J.blk.lt; omega
        obtain ⟨L8, hd8⟩ := ((L2.ext e3).ext e37).tn T8 hdis
        repeat (first | refine T_seq ?_ | refine T_region ?_ | refine T_cond_false rfl ?_ | refine T_skip ?_ | refine TL_ne_f (hk := ?_) | refine TL_nil ?_ | refine TL_move (hk := ?_) | refine TL_assign (hk := ?_) | refine TL_fieldAddr TE (hk := ?_) | refine TL_nilCheck (hk := ?_))
        refine TL_store TE (hk := ?_); intro w9 m9 z9 k9
        have gj8 := J8.dj
        have J9 : JrM w9 base jb d lg2 sd8 gd8 r.1 sl3 es3 g3 ap.1 fl := ⟨k9, J8.dk.mod m9 (fun b hb => by rw [List.mem_singleton.1 hb]; exact gj8), by
          have L9 := L8.mod m9 (fun b hb => by rw [List.mem_singleton.1 hb]; exact hgj)
          have hbw : base ≤ w.heap.size := by have := J.hj; have := J.blk.lt; omega
          exact { L9 with ow := Own.weaken L9.ow hbw, old := fun b hb => by have := L9.old b hb; omega }, hLk2, hd8, hgj, gj8, J.hj⟩
        repeat (first | refine T_seq ?_ | refine T_region ?_ | refine TL_nil ?_ | refine TL_move (hk := ?_) | refine TL_assign (hk := ?_))
        exact T_ret2 rfl rfl rfl ⟨rfl, lg2, sd8, gd8, sl3, es3, g3, J9, ((Tn.ext e07).trans (oJ_tn T8)).trans (oJ_one m9), fun b hb => .inr (L2.old b hb).1⟩
      · have c2' : ¬ ((r.2 : Nat) : Int) = 0 := by omega
        rw [if_pos c2]
        repeat (first | refine T_seq ?_ | refine T_region ?_ | refine T_cond_true rfl ?_ | refine TL_ne_t (hk := ?_) | refine TL_nil ?_ | refine TL_move (hk := ?_) | refine TL_assign (hk := ?_))
        exact T_ret2 rfl rfl rfl ⟨rfl, lg, sd8, gd8, sl, es, g, J8, (Tn.ext e07).trans (oJ_tn T8), fun b hb => .inl hb⟩
  · rw [if_pos c1]
    have c1' : ¬ ((ap.2.2.1 : Nat) : Int) = 0 := by omega
    repeat (first | refine T_seq ?_ | refine T_region ?_ | refine T_cond_true rfl ?_ | refine TL_ne_t (hk := ?_) | refine TL_nil ?_ | refine TL_move (hk := ?_) | refine TL_assign (hk := ?_) | refine TL_extract (hk := ?_))
    exact T_ret2 rfl rfl rfl ⟨rfl, lg, sd, gd, sl, es, g, J2, Tn.ext e02, fun b hb => .inl hb⟩
end Go.Proofs.YtjlaomcankmdjaaGreat

namespace Go.Proofs.YtjlaomcankmdjaaGreat
open Go.RowKit Go.Proofs.Eng Go.Proofs.Codec Go.Proofs.Foot Go.Proofs.Journal
set_option linter.unusedSimpArgs false
set_option linter.unusedVariables false set_option maxRecDepth 10000
attribute [local irreducible] T TL LV TH TA
set_option maxHeartbeats 1600000
section
variable {base jb d lg : Nat} {sd : SL} {gd : Nat → Nat} {k : DK} {sl : SL} {es : List EM} {g : Nat → Nat} {L : LE} {fl : Int}
theorem Flush_c (w : World) (J : JrM w base jb d lg sd gd k sl es g L fl) :
    Ret Tryz.prog 25 [pB jb] w (fun v w' => v = .int .i64 ((opD k synD).2 : Int) ∧ ∃ sd' gd', JrM w' base jb d lg sd' gd' (opD k synD).1 sl es g L (if (opD k synD).2 = 0 then (L.l.length : Int) else fl) ∧ Tn (oJ jb gd) (oJ jb gd') w w') := by
  have hb := J.blk
  obtain ⟨r, hr⟩ : ∃ r, opD k synD = r := ⟨_, rfl⟩
  rw [hr]
  refine ret_T (n := 22) Tryz.func25 rfl rfl ?_
  repeat (first | refine T_seq ?_ | refine T_region ?_ | refine T_cond_false rfl ?_ | refine T_skip ?_ | refine TL_pnil_f TE (hk := ?_) | refine TL_nil ?_ | refine TL_move (hk := ?_) | refine TL_assign (hk := ?_) | refine TL_load TE (hk := ?_) | refine TL_fieldAddr TE (hk := ?_) | refine TL_nilCheck (hk := ?_))
  refine TL_call TE (hc := Sync_c w J.dk) (hk := ?_)
  rintro _ w1 ⟨rfl, sd1, gd1, D1, T1⟩
  have J1 := J.disk D1 T1
  have hb1 := J1.blk
  rw [hr] at J1 ⊢
  by_cases c : r.2 = 0
  · have c' : ((r.2 : Nat) : Int) = 0 := by omega
    rw [if_pos c]
    repeat (first | refine T_seq ?_ | refine T_region ?_ | refine T_cond_true rfl ?_ | refine TL_eq_t (hk := ?_) | refine TL_nil ?_ | refine TL_move (hk := ?_) | refine TL_assign (hk := ?_) | refine TL_load TE (hk := ?_) | refine TL_fieldAddr TE (hk := ?_) | refine TL_nilCheck (hk := ?_))
    refine TL_call TE (hc := LLen_c w1 J1.log) (hk := ?_)
    rintro _ w2 ⟨rfl, hw2⟩
    rw [hw2]
    clear hw2 w2
    repeat (first | refine TL_fieldAddr TE (hk := ?_) | refine TL_nilCheck (hk := ?_))
    refine TL_store TE (hk := ?_); intro w3 m3 z3 k3
    have hJ3 : JrM w3 base jb d lg sd1 gd1 r.1 sl es g L (L.l.length : Int) := { J1 with blk := k3, dk := J1.dk.mod m3 (fun b hb => by rw [List.mem_singleton.1 hb]; exact J1.dj), log := J1.log.mod m3 (fun b hb => by rw [List.mem_singleton.1 hb]; exact J1.gj) }
    repeat (first | refine T_seq ?_ | refine T_region ?_ | refine TL_nil ?_ | refine TL_move (hk := ?_) | refine TL_assign (hk := ?_))
    exact T_ret1 rfl rfl ⟨by rw [c], sd1, gd1, hJ3, (oJ_tn T1).trans (oJ_one m3)⟩
  · have c' : ¬ ((r.2 : Nat) : Int) = 0 := by omega
    rw [if_neg c]
    repeat (first | refine T_seq ?_ | refine T_region ?_ | refine T_cond_false rfl ?_ | refine T_skip ?_ | refine TL_eq_f (hk := ?_) | refine TL_nil ?_ | refine TL_move (hk := ?_) | refine TL_assign (hk := ?_))
    exact T_ret1 rfl rfl ⟨rfl, sd1, gd1, J1, oJ_tn T1⟩
theorem Written_c (w : World) (J : JrM w base jb d lg sd gd k sl es g L fl) : Ret Tryz.prog 28 [pB jb] w (fun v w' => v = .int .i64 (L.l.length : Int) ∧ w' = w) := by
  have hb := J.blk
  refine ret_T (n := 10) Tryz.func28 rfl rfl ?_
  repeat (first | refine T_seq ?_ | refine T_region ?_ | refine T_cond_false rfl ?_ | refine T_skip ?_ | refine TL_pnil_f TE (hk := ?_) | refine TL_nil ?_ | refine TL_move (hk := ?_) | refine TL_assign (hk := ?_) | refine TL_load TE (hk := ?_) | refine TL_fieldAddr TE (hk := ?_) | refine TL_nilCheck (hk := ?_))
  refine TL_call TE (hc := LLen_c w J.log) (hk := ?_)
  rintro _ w1 ⟨rfl, rfl⟩
  repeat (first | refine TL_nil ?_ | refine TL_assign (hk := ?_))
  exact T_ret1 rfl rfl ⟨rfl, rfl⟩
end
theorem nWrite_c (ep : Int) (p : Value) (w : World) : Ret Tryz.prog 18 [.pointer none, .int .i64 ep, p] w (fun v w' => v = .tuple #[.int .i64 0, .int .i64 0] ∧ w' = w) := by
  refine ret_T (n := 76) Tryz.func18 rfl rfl ?_
  repeat (first | refine T_seq ?_ | refine T_region ?_ | refine T_cond_true rfl ?_ | refine TL_pnil_t TE (hk := ?_) | refine TL_nil ?_ | refine TL_move (hk := ?_) | refine TL_assign (hk := ?_))
  exact T_ret2 rfl rfl rfl ⟨rfl, rfl⟩
theorem nFlush_c (w : World) : Ret Tryz.prog 25 [.pointer none] w (fun v w' => v = .int .i64 0 ∧ w' = w) := by
  refine ret_T (n := 22) Tryz.func25 rfl rfl ?_
  repeat (first | refine T_seq ?_ | refine T_region ?_ | refine T_cond_true rfl ?_ | refine TL_pnil_t TE (hk := ?_) | refine TL_nil ?_ | refine TL_move (hk := ?_) | refine TL_assign (hk := ?_))
  exact T_ret1 rfl rfl ⟨rfl, rfl⟩
theorem nLog_c (w : World) : Ret Tryz.prog 29 [.pointer none] w (fun v w' => v = .pointer none ∧ w' = w) := by
  refine ret_T (n := 10) Tryz.func29 rfl rfl ?_
  repeat (first | refine T_seq ?_ | refine T_region ?_ | refine T_cond_true rfl ?_ | refine TL_pnil_t TE (hk := ?_) | refine TL_nil ?_ | refine TL_move (hk := ?_) | refine TL_assign (hk := ?_))
  exact T_ret1 rfl rfl ⟨rfl, rfl⟩
theorem nWritten_c (w : World) : Ret Tryz.prog 28 [.pointer none] w (fun v w' => v = .int .i64 0 ∧ w' = w) := by
  refine ret_T (n := 10) Tryz.func28 rfl rfl ?_
  repeat (first | refine T_seq ?_ | refine T_region ?_ | refine T_cond_true rfl ?_ | refine TL_pnil_t TE (hk := ?_) | refine TL_nil ?_ | refine TL_move (hk := ?_) | refine TL_assign (hk := ?_))
  exact T_ret1 rfl rfl ⟨rfl, rfl⟩
theorem nFlushed_c (w : World) : Ret Tryz.prog 26 [.pointer none] w (fun v w' => v = .int .i64 0 ∧ w' = w) := by
  refine ret_T (n := 9) Tryz.func26 rfl rfl ?_
  repeat (first | refine T_seq ?_ | refine T_region ?_ | refine T_cond_true rfl ?_ | refine TL_pnil_t TE (hk := ?_) | refine TL_nil ?_ | refine TL_move (hk := ?_) | refine TL_assign (hk := ?_))
  exact T_ret1 rfl rfl ⟨rfl, rfl⟩
theorem nOpen_c (w : World) : Ret Tryz.prog 12 [.pointer none] w (fun v w' => v = .tuple #[.pointer none, .int .i64 2] ∧ w' = w) := by
  refine ret_T (n := 90) Tryz.func12 rfl rfl ?_
  repeat (first | refine T_seq ?_ | refine T_region ?_ | refine T_cond_true rfl ?_ | refine T_block ?_ | refine TL_pnil_t TE (hk := ?_) | refine TL_nil ?_ | refine TL_move (hk := ?_) | refine TL_assign (hk := ?_))
  exact T_ret2 rfl rfl rfl ⟨rfl, rfl⟩
theorem jnum_c (z : Int) (w : World) : Ret Tryz.prog 9 [.int .i64 z] w (fun v w' => v = .int .i64 z ∧ w' = w) := by
  refine ret_T (n := 4) Tryz.func9 rfl rfl ?_
  repeat (first | refine T_seq ?_ | refine T_region ?_ | refine TL_nil ?_ | refine TL_move (hk := ?_) | refine TL_assign (hk := ?_))
  exact T_ret1 rfl rfl ⟨rfl, rfl⟩
end Go.Proofs.YtjlaomcankmdjaaGreat

/- What is read of bytes fits. -/
namespace Go.Proofs.YtjlaomcankmdjaaGreat
open Go.Proofs.Eng Go.Proofs.Codec Go.Proofs.Foot Go.Proofs.Journal
set_option linter.unusedSimpArgs false
set_option linter.unusedVariables false
theorem lim_le {s : RS} {most e : Int} (h0 : 0 ≤ most) : ((s.take (0 : Nat) (tLim most e)).1 : Int) ≤ most := by
  unfold RS.take
  split
  · cases h : tLim most e (s.b.drop s.pos) with
    | error x => simpa using h0
    | ok r => exact tLim_le (by rw [h])
  · simpa using h0
theorem text_le {s : RS} {most : Int} (h0 : 0 ≤ most) : ((s.take ([] : List UInt8) (tText most)).1.length : Int) ≤ most := by
  unfold RS.take
  split
  · cases h : tText most (s.b.drop s.pos) with
    | error x => simpa using h0
    | ok r => exact tText_le (by rw [h])
  · simpa using h0
theorem zag_fit {n : Nat} (h : n < 2 ^ 64) : -9223372036854775808 ≤ zag n ∧ zag n ≤ 9223372036854775807 := by
  unfold zag
  split <;> omega
theorem int_fit {s : RS} : -9223372036854775808 ≤ (s.take (0 : Int) tInt).1 ∧ (s.take (0 : Int) tInt).1 ≤ 9223372036854775807 := by
  unfold RS.take
  split
  · cases h : tInt (s.b.drop s.pos) with
    | error x => simp
    | ok r =>
      obtain ⟨v, k⟩ := r
      simp only
      unfold tInt at h
      cases hq : num0 (s.b.drop s.pos) with
      | error x => rw [hq] at h; cases h
      | ok q =>
        obtain ⟨m, j⟩ := q
        rw [hq] at h
        cases h
        exact zag_fit (num0_ok hq).1
  · simp
theorem takeV_fit (s : RS) : VFit (takeV s).1 := by
  have hz : VFit vz := ⟨by decide, by decide, by decide⟩
  have h0 : ∀ s a, VFit (takeV0 s a).1 := fun s a => by
    unfold takeV0
    split
    · exact ⟨⟨by simp, by simp⟩, int_fit, by simp⟩
    · split
      · have := text_le (s := s) (most := 64) (by decide)
        exact ⟨⟨by simp, by simp⟩, ⟨by simp, by simp⟩, by simp only; omega⟩
      · split <;> exact hz
  unfold takeV endV
  split
  · exact hz
  · exact h0 _ _
theorem argsR_fit : ∀ (n : Nat) (s : RS) (acc : List VE) (r : List VE × RS), argsR n s acc = some r → (∀ v ∈ acc, VFit v) → r.1.length = acc.length + n ∧ ∀ v ∈ r.1, VFit v
  | 0, s, acc, r, h, hf => by cases h; exact ⟨rfl, hf⟩
  | n + 1, s, acc, r, h, hf => by
    unfold argsR at h
    split at h
    · cases h
    · obtain ⟨h1, h2⟩ := argsR_fit n _ _ r h (fun v hv => by
        rcases List.mem_append.1 hv with q | q
        · exact hf v q
        · rw [List.mem_singleton.1 q]; exact takeV_fit s)
      refine ⟨?_, h2⟩
      rw [h1, List.length_append]
      simp only [List.length_cons, List.length_nil]
      omega
theorem getR_fit {b : List UInt8} {r : RE} (h : getR b = some r) : RFit r ∧ r.ar.length ≤ 8 := by
  unfold getR at h
  split at h
  · cases h
  · cases ha : argsR (rq5 b).1 (rq5 b).2 [] with
    | none => rw [ha] at h; cases h
    | some q =>
      rw [ha] at h
      unfold endR at h
      simp only at h
      split at h
      · cases h
        obtain ⟨h1, h2⟩ := argsR_fit _ _ _ _ ha (fun v hv => by cases hv)
        have n1 : ((rq1 b).1 : Int) ≤ 63 := lim_le (by decide)
        have n5 : ((rq5 b).1 : Int) ≤ 8 := lim_le (by decide)
        have n3 : (((rq3 b).1).length : Int) ≤ 16 := text_le (by decide)
        refine ⟨⟨by simp only; omega, by have := take_lt (s := (rq1 b).2); exact this, by simp only; omega, h2⟩, ?_⟩
        simp only
        rw [h1]
        simp only [List.length_nil]
        omega
      · cases h
theorem norm_fit {r k : List Tx} (h : isNorm r k = true) : r.length ≤ 64 ∧ k.length ≤ 64 ∧ Short r ∧ Short k := by
  have h1 := norm_short h
  have h2 := h
  unfold isNorm at h2
  rw [decide_eq_true_eq] at h2
  have h3 : r = keysM (ofM r k) 1 ∧ k = keysM (ofM r k) 2 := by
    obtain ⟨a, b, c⟩ := h2
    unfold normF at a b c
    split at a
    · rename_i q1
      rw [if_pos q1] at b c
      split at a
      · cases a
      · rename_i q2
        rw [if_neg q2] at b c
        exact ⟨b.symm, c.symm⟩
    · cases a
  have hk : ∀ m u, (keysM m u).length ≤ m.length := fun m u => by
    unfold keysM used
    rw [List.length_mergeSort, List.length_map]
    exact List.length_filter_le _ _
  refine ⟨by rw [h3.1]; exact Nat.le_trans (hk _ _) h1.2, by rw [h3.2]; exact Nat.le_trans (hk _ _) h1.2, fun i hi => ?_, fun i hi => ?_⟩
  · have := h1.1 (r.getD i []) (List.mem_append_left _ (by rw [List.getD_eq_getElem?_getD, List.getElem?_eq_getElem hi]; exact List.getElem_mem _))
    omega
  · have := h1.1 (k.getD i []) (List.mem_append_right _ (by rw [List.getD_eq_getElem?_getD, List.getElem?_eq_getElem hi]; exact List.getElem_mem _))
    omega
theorem getEn_fit (b : List UInt8) (e : EE) (h : getEn b = some e) : PFit e.p := by
  unfold getEn at h
  split at h
  · cases h
  · rename_i hc
    cases hq : getR (ge3 b).1 with
    | none => rw [hq] at h; cases h
    | some q =>
      rw [hq] at h
      unfold geQ at h
      simp only at h
      split at h
      · rename_i hg
        cases h
        obtain ⟨f1, f2⟩ := getR_fit hq
        obtain ⟨g1, -, -⟩ := put_get (b := b.drop (b.length - (ge4 b).2.rest)) hg.1
        obtain ⟨n1, n2, n3, n4⟩ := norm_fit g1
        have hb := byte_lt (s := (ge3 b).2)
        exact ⟨f1, by simp only; show _ ∧ ((ge4 b).1 : Int) ≤ _; have : (ge4 b).1 < 256 := hb; omega, by simp only; omega, Nat.le_trans n1 (by decide), Nat.le_trans n2 (by decide), n3, n4⟩
      · cases h
end Go.Proofs.YtjlaomcankmdjaaGreat

/- The small story of a journal, worked out. -/
namespace Go.Proofs.YtjlaomcankmdjaaGreat
open Go.RowKit Go.Proofs.Eng Go.Proofs.Codec Go.Proofs.Foot Go.Proofs.Journal
def lvP : PE := ⟨⟨0, 0, [112], []⟩, 1, [], []⟩
def lvW1 : (LE × Int × Nat) × DK := writeJ ⟨[], 0⟩ (newD []) 0 [lvP, lvP]
def lvS : DK × Nat := opD lvW1.2 synD
def lvW2 : (LE × Int × Nat) × DK := writeJ lvW1.1.1 lvS.1 1 [lvP]
def lvO : Option LE × Nat × DK := openJ (newD (leftD lvW2.2 5))
theorem lv1 : openJ (newD []) = (some ⟨[], 0⟩, 0, newD []) := by kernel_rfl
theorem lv2 : lvW1.1.2.1 = 0 := by decide +kernel
theorem lv3 : lvW1.1.2.2 = 0 := by decide +kernel
theorem lv4 : lvS.2 = 0 := by decide +kernel
theorem lv5 : lvO.2.1 = 0 := by decide +kernel
theorem lv6 : lvO.1.map (fun L => L.l.length) = some 2 := by decide +kernel
theorem lv7 : lvW2.1.1.l.length = 3 := by decide +kernel
end Go.Proofs.YtjlaomcankmdjaaGreat

namespace Go.Proofs.YtjlaomcankmdjaaGreat
open Go.RowKit Go.Proofs.Eng Go.Proofs.Codec Go.Proofs.Foot Go.Proofs.Journal
set_option linter.unusedSimpArgs false
set_option linter.unusedVariables false set_option maxRecDepth 10000
attribute [local irreducible] T TL LV TH TA
set_option maxHeartbeats 3200000
def lvM : PM := ⟨lvP, (none, 0, 0), (none, 0, 0), (none, 0, 0)⟩
theorem lvM_ok (w : World) : PLies w lvM ∧ PFit lvM.p :=
  ⟨⟨(Own.nil w 0 161 3).rd, (Own.nil w 0 9 1).rd, (Own.nil w 0 9 1).rd⟩, ⟨⟨by decide, by decide, by decide, fun v hv => by cases hv⟩, by decide, by decide, by decide, by decide, fun i hi => (by cases hi), fun i hi => (by cases hi)⟩⟩
/-- An opened journal, out of what Open hands over. -/
theorem OpO.jrm {w w' : World} {base d : Nat} {gd : Nat → Nat} {o : Option LE × Nat × DK} {jp : Value} {L : LE} (h : OpO w w' base d gd o jp) (hL : o.1 = some L) (hb : base ≤ w.heap.size) :
    ∃ sd' gd' jb lg sl es g, jp = pB jb ∧ JrM w' base jb d lg sd' gd' o.2.2 sl es g L (L.l.length : Int) ∧ Tn gd gd' w w' ∧ w.heap.size ≤ jb := by
  obtain ⟨sl', gd', D, T, hm⟩ := h
  rw [hL] at hm
  obtain ⟨jb, lg, sl, es, g, hj, k, M, ok, gj, hjb, hd, gdj⟩ := hm
  exact ⟨sl', gd', jb, lg, sl, es, g, hj, ⟨k, D, { M with ow := Own.weaken M.ow hb, old := fun b q => by have := M.old b q; omega }, ok, hd, gj, gdj, by omega⟩, T, hjb⟩
theorem OpO.no {w w' : World} {base d : Nat} {gd : Nat → Nat} {o : Option LE × Nat × DK} {jp : Value} (h : OpO w w' base d gd o jp) (hL : o.1 = none) : jp = .pointer none ∧ ∃ sd' gd', DiskM w' base d 0 sd' gd' o.2.2 ∧ Tn gd gd' w w' := by
  obtain ⟨sl', gd', D, T, hm⟩ := h
  rw [hL] at hm
  exact ⟨hm, sl', gd', D, T⟩
theorem jlive_c (w : World) : Ret Tryz.prog 10 [] w (fun v w' => v = .bool true ∧ Ext w w') := by
  refine ret_T (n := 81) Tryz.func10 rfl rfl ?_
  repeat (first | refine T_seq ?_ | refine T_region ?_ | refine TL_nil ?_ | refine TL_assign (hk := ?_))
  refine TL_call TE (hc := NewDisk_c none 0 0 [] w (Own.nil w 0 5 1).rd (by omega) (by omega)) (hk := ?_)
  rintro _ w1 ⟨d, sd1, gd1, rfl, e1, D1⟩
  have z1 := e1.size
  repeat (first | refine T_seq ?_ | refine T_region ?_ | refine TL_nil ?_ | refine TL_move (hk := ?_) | refine TL_assign (hk := ?_))
  refine TL_call TE (hc := Open_j w1 D1 getEn_fit) (hk := ?_)
  rintro _ w2 ⟨jp, rfl, O2⟩
  obtain ⟨sd2, gd2, jb, lg2, sl2, es2, g2, rfl, J2, T2, hjb⟩ := O2.jrm (L := ⟨[], 0⟩) (by rw [lv1]) z1
  rw [lv1] at J2 ⊢
  simp only at J2 ⊢
  repeat (first | refine T_seq ?_ | refine T_region ?_ | refine TL_pnil_f TE (hk := ?_) | refine TL_nil ?_ | refine TL_move (hk := ?_) | refine TL_assign (hk := ?_) | refine TL_yes (hk := ?_) | refine TL_extract (hk := ?_))
  refine TL_call TE (hc := jnum_c _ w2) (hk := ?_)
  rintro _ w3 ⟨rfl, hw3⟩
  rw [hw3]
  clear hw3 w3
  repeat (first | refine T_seq ?_ | refine T_region ?_ | refine T_cond_false rfl ?_ | refine T_skip ?_ | refine TL_ne_f (hk := ?_) | refine TL_pnil_f TE (hk := ?_) | refine TL_nil ?_ | refine TL_move (hk := ?_) | refine TL_yes (hk := ?_) | refine TL_pick_f (hk := ?_) | refine TL_build TE (hk := ?_))
  refine TL_alloc TE (hk := ?_); intro b4 w4 e4 h4 h4' k4
  --
  refine TL_storea TE (hk := ?_); intro w5 m5 z5 k5
  replace k5 : Blk w5 b4 45 (pmV lvM) := k5
  have e25 : Ext w2 w5 := e4.step m5 (fun u hu => .inr (by rw [List.mem_singleton.1 hu]; omega))
  have J5 := J2.ext e25
  unfold pmV at k5
  repeat (first | refine T_seq ?_ | refine T_region ?_ | refine TL_nil ?_ | refine TL_move (hk := ?_))
  refine TL_loadb TE (cs := pmV lvM) (o := 0) rfl rfl k5 rfl rfl (Nat.succ_pos _) (hk := ?_)
  --
  refine TL_loadb TE (cs := pmV lvM) (o := 0) rfl rfl k5 rfl rfl (Nat.succ_pos _) (hk := ?_)
  --
  refine TL_buildSliceA TE (hk := ?_); intro b6 w6 e6 h6 h6' k6
  replace k6 : Blk w6 b6 45 (rowV pmV [lvM, lvM]) := k6
  have r6 : Rd w6 (some ⟨b6, 0, none⟩) 2 7 (rowV pmV [lvM, lvM]) := Rd.blk k6 rfl
  have J6 := J5.ext e6
  have hb0 : w.heap.size ≤ w2.heap.size := by have := T2.size; omega
  have e02 : Ext w w2 := T2.ext0 e1 (fun b hb => (D1.old b hb).1)
  have e06 := (e02.ext e25).ext e6
  have hjl : jb < w2.heap.size := J2.blk.lt
  have hp4 : b4 ≠ jb := by omega
  have gd4 : gd2 b4 = 0 := by
    by_cases q : gd2 b4 = 0
    · exact q
    · have := (J2.dk.old b4 q).2; omega
  have o4 : oJ jb gd2 b4 = 0 := by rw [oJ_ne hp4]; exact gd4
  have k46 := k5.be e6
  have hx : ∀ x ∈ [lvM, lvM], PLies w6 x ∧ PFit x.p := fun x hm => by
    have : x = lvM := by simpa using hm
    rw [this]; exact lvM_ok w6
  have hA6 : ∀ u ∈ blkL (some ⟨b6, 0, none⟩), u < w6.heap.size := fun u hu => by
    have h := Lo.mem (A := some ⟨b6, 0, none⟩) (B := w6.heap.size) (fun ad e => by cases e; exact h6') u hu
    exact h
  have hB6 : ∀ x ∈ [lvM, lvM], ∀ u ∈ pmB x, u < w6.heap.size := fun x hm u hu => by
    have hm' : x = lvM := by simpa using hm
    rw [hm'] at hu
    cases hu
  --
  refine TL_call TE (hc := Write_c 0 (some ⟨b6, 0, none⟩) 2 2 [lvM, lvM] w6 J6 r6 hx hA6 hB6 (by decide) (by decide)) (hk := ?_)
  have hW1 : writeJ ⟨[], 0⟩ (newD []) 0 ([lvM, lvM].map (·.p)) = lvW1 := rfl
  rw [hW1, lv2, lv3]
  rintro _ w7 ⟨rfl, lg7, sd7, gd7, sl7, es7, g7, J7, T7, -⟩
  have e07 := T7.ext0 e06 (fun b hb => (J6.old b hb).1)
  have k47 : Blk w7 b4 45 (pmV lvM) := by
    obtain ⟨⟨Z, m7, s7⟩, -, -⟩ := T7
    exact k46.mod m7 (fun q => s7 b4 q o4)
  have o47 := T7.old o4 k46.lt
  repeat (first | refine T_seq ?_ | refine T_region ?_ | refine TL_nil ?_ | refine TL_move (hk := ?_) | refine TL_assign (hk := ?_) | refine TL_extract (hk := ?_))
  refine TL_call TE (hc := Flush_c w7 J7) (hk := ?_)
  have hS : opD lvW1.2 synD = lvS := rfl
  rw [hS, lv4]
  rintro _ w8 ⟨rfl, sd8, gd8, J8, T8⟩
  rw [if_pos rfl] at J8
  have e08 := T8.ext0 e07 (fun b hb => (J7.old b hb).1)
  have k48 : Blk w8 b4 45 (pmV lvM) := by
    obtain ⟨⟨Z, m7, s7⟩, -, -⟩ := T8
    exact k47.mod m7 (fun q => s7 b4 q o47)
  clear k47 k46 k5 k6 J6 J5 J7 r6
  unfold pmV at k48
  repeat (first | refine T_seq ?_ | refine T_region ?_ | refine TL_nil ?_ | refine TL_move (hk := ?_) | refine TL_assign (hk := ?_))
  refine TL_loadb TE (cs := pmV lvM) (o := 0) rfl rfl k48 rfl rfl (Nat.succ_pos _) (hk := ?_)
  --
  refine TL_buildSliceA TE (hk := ?_); intro b9 w9 e9 h9 h9' k9
  replace k9 : Blk w9 b9 45 (rowV pmV [lvM]) := k9
  have r9 : Rd w9 (some ⟨b9, 0, none⟩) 1 7 (rowV pmV [lvM]) := Rd.blk k9 rfl
  have J9 := J8.ext e9
  have e09 := e08.ext e9
  have hx9 : ∀ x ∈ [lvM], PLies w9 x ∧ PFit x.p := fun x hm => by
    have : x = lvM := by simpa using hm
    rw [this]; exact lvM_ok w9
  have hA9 : ∀ u ∈ blkL (some ⟨b9, 0, none⟩), u < w9.heap.size := fun u hu => by
    have h := Lo.mem (A := some ⟨b9, 0, none⟩) (B := w9.heap.size) (fun ad e => by cases e; exact h9') u hu
    exact h
  have hB9 : ∀ x ∈ [lvM], ∀ u ∈ pmB x, u < w9.heap.size := fun x hm u hu => by
    have hm' : x = lvM := by simpa using hm
    rw [hm'] at hu
    cases hu
  --
  refine TL_call TE (hc := Write_c 1 (some ⟨b9, 0, none⟩) 1 1 [lvM] w9 J9 r9 hx9 hA9 hB9 (by decide) (by decide)) (hk := ?_)
  have hW2 : writeJ lvW1.1.1 lvS.1 1 ([lvM].map (·.p)) = lvW2 := rfl
  rw [hW2]
  rintro _ w10 ⟨rfl, lg10, sd10, gd10, sl10, es10, g10, J10, T10, -⟩
  have e010 := T10.ext0 e09 (fun b hb => (J9.old b hb).1)
  clear J8 J9 k9 r9 k48
  repeat (first | refine T_seq ?_ | refine T_region ?_ | refine TL_nil ?_ | refine TL_move (hk := ?_))
  refine TL_call TE (hc := Left_c 5 w10 J10.dk) (hk := ?_)
  rintro _ w11 ⟨y, rfl, D11, T11, oy⟩
  have J11 := J10.disk D11 T11
  have e011 := T11.ext0 e010 (fun b hb => (J10.dk.old b hb).1)
  have hyl := oy.len
  have hyc := oy.cap.1
  simp only [bv_length, Nat.mul_one] at hyl
  have hll : (leftD lvW2.2 5).length ≤ 4194304 := by
    have := J10.dk.ok.ln
    unfold leftD
    rw [List.length_take]; omega
  --
  refine TL_call TE (hc := NewDisk_c y.1 y.2.1 y.2.2 (leftD lvW2.2 5) w11 oy.rd hyc (by omega)) (hk := ?_)
  rintro _ w12 ⟨d2, sd12, gd12, rfl, e12, D12⟩
  have J12 := J11.ext e12
  --
  refine TL_call TE (hc := Open_j w12 D12 getEn_fit) (hk := ?_)
  have hO : openJ (newD (leftD lvW2.2 5)) = lvO := rfl
  rw [hO, lv5]
  rintro _ w13 ⟨jp2, rfl, O13⟩
  obtain ⟨L2, hL2, hL2n⟩ : ∃ L2, lvO.1 = some L2 ∧ L2.l.length = 2 := by
    have h := lv6
    cases hq : lvO.1 with
    | none => rw [hq] at h; cases h
    | some L => rw [hq] at h; exact ⟨L, rfl, by simpa using h⟩
  obtain ⟨sd13, gd13, jb2, lg13, sl13, es13, g13, rfl, J13, T13, hjb2⟩ := O13.jrm hL2 (Nat.le_of_lt_succ (Nat.lt_succ_of_le e12.size))
  have e1213 : Ext w11 w13 := T13.ext0 e12 (fun b hb => (D12.old b hb).1)
  have J12' := J11.ext e1213
  have e013 := e011.ext e1213
  have h3 := lv7
  clear J10 J11 J12
  repeat (first | refine T_seq ?_ | refine T_region ?_ | refine TL_nil ?_ | refine TL_move (hk := ?_) | refine TL_assign (hk := ?_) | refine TL_extract (hk := ?_))
  refine TL_call TE (hc := jnum_c _ w13) (hk := ?_)
  rintro _ w14 ⟨rfl, hw⟩
  rw [hw]
  clear hw w14
  repeat (first | refine TL_eq_t (hk := ?_) | refine TL_move (hk := ?_) | refine TL_yes (hk := ?_) | refine TL_pick_t (hk := ?_))
  refine TL_call TE (hc := jnum_c _ w13) (hk := ?_)
  rintro _ w14 ⟨rfl, hw⟩
  rw [hw]
  clear hw w14
  repeat (first | refine TL_eq_t (hk := ?_) | refine TL_move (hk := ?_) | refine TL_yes (hk := ?_) | refine TL_pick_t (hk := ?_))
  refine TL_call TE (hc := jnum_c _ w13) (hk := ?_)
  rintro _ w14 ⟨rfl, hw⟩
  rw [hw]
  clear hw w14
  repeat (first | refine TL_eq_t (hk := ?_) | refine TL_pnn_t TE (hk := ?_) | refine TL_move (hk := ?_) | refine TL_yes (hk := ?_) | refine TL_pick_t (hk := ?_))
  refine TL_call TE (hc := Written_c w13 J13) (hk := ?_)
  rintro _ w14 ⟨rfl, hw⟩
  rw [hw, hL2n]
  clear hw w14
  repeat (first | refine TL_eq_t (hk := ?_) | refine TL_move (hk := ?_) | refine TL_yes (hk := ?_) | refine TL_pick_t (hk := ?_))
  refine TL_call TE (hc := Written_c w13 J12') (hk := ?_)
  rintro _ w14 ⟨rfl, hw⟩
  rw [hw, h3]
  clear hw w14
  repeat (first | refine TL_eq_t (hk := ?_) | refine TL_nil ?_ | refine TL_assign (hk := ?_) | refine TL_yes (hk := ?_) | refine TL_pick_t (hk := ?_))
  exact T_ret1 rfl rfl ⟨rfl, e013⟩
end Go.Proofs.YtjlaomcankmdjaaGreat

namespace Go.Proofs.YtjlaomcankmdjaaGreat
open Go.RowKit Go.Proofs.Eng Go.Proofs.Codec Go.Proofs.Foot Go.Proofs.Journal
set_option linter.unusedSimpArgs false
set_option linter.unusedVariables false set_option maxRecDepth 10000
attribute [local irreducible] T TL LV TH TA
set_option maxHeartbeats 3200000
theorem JournalNil_c (A : Option Addr) (n c : Nat) (l : List UInt8) (x : Int) (w : World) (hA : Rd w A n 1 (bv l)) (hnc : n ≤ c) (hcm : c ≤ maxLen) (hx : (Lit.int .i64 x).wf = true) : Ret Tryz.prog 7 [.slice A n c, .int .i64 x] w (fun v w' => v = .bool true ∧ Ext w w') := by
  refine ret_T (n := 107) Tryz.func7 rfl rfl ?_
  repeat (first | refine T_seq ?_ | refine T_region ?_ | refine TL_nil ?_ | refine TL_move (hk := ?_) | refine TL_assign (hk := ?_))
  refine TL_call TE (hc := nArm_c x w) (hk := ?_)
  rintro _ w1 hw
  rw [hw]
  clear hw w1
  repeat (first | refine T_seq ?_ | refine T_region ?_ | refine TL_nil ?_ | refine TL_assign (hk := ?_))
  refine TL_call TE (hc := nOpen_c w) (hk := ?_)
  rintro _ w2 ⟨rfl, hw⟩
  rw [hw]
  clear hw w2
  repeat (first | refine T_seq ?_ | refine T_region ?_ | refine TL_nil ?_ | refine TL_move (hk := ?_) | refine TL_assign (hk := ?_) | refine TL_extract (hk := ?_))
  refine TL_call TE (hc := nWrite_c x (.slice none 0 0) w) (hk := ?_)
  rintro _ w3 ⟨rfl, hw⟩
  rw [hw]
  clear hw w3
  repeat (first | refine T_seq ?_ | refine T_region ?_ | refine TL_nil ?_ | refine TL_move (hk := ?_) | refine TL_assign (hk := ?_) | refine TL_extract (hk := ?_))
  refine TL_call TE (hc := nAppend_c (.slice A n c) ⟨A, n, c, rfl⟩ w) (hk := ?_)
  rintro _ w4 ⟨rfl, f4⟩
  --
  refine TL_call TE (hc := jnum_c _ w4) (hk := ?_)
  rintro _ w5 ⟨rfl, hw⟩
  rw [hw]
  clear hw w5
  repeat (first | refine TL_eq_t (hk := ?_) | refine TL_move (hk := ?_) | refine TL_yes (hk := ?_))
  refine TL_call TE (hc := nSync_c w4) (hk := ?_)
  rintro _ w6 ⟨rfl, f6⟩
  repeat (refine TL_yes (hk := ?_))
  refine TL_call TE (hc := jnum_c _ w6) (hk := ?_)
  rintro _ w7 ⟨rfl, hw⟩
  rw [hw]
  clear hw w7
  repeat (first | refine TL_eq_t (hk := ?_) | refine TL_move (hk := ?_) | refine TL_yes (hk := ?_) | refine TL_pick_t (hk := ?_))
  refine TL_call TE (hc := nCut_c x w6) (hk := ?_)
  rintro _ w8 ⟨rfl, f8⟩
  repeat (refine TL_yes (hk := ?_))
  refine TL_call TE (hc := jnum_c _ w8) (hk := ?_)
  rintro _ w9 ⟨rfl, hw⟩
  rw [hw]
  clear hw w9
  repeat (first | refine TL_eq_t (hk := ?_) | refine TL_move (hk := ?_) | refine TL_yes (hk := ?_) | refine TL_pick_t (hk := ?_))
  refine TL_call TE (hc := nDead_c w8) (hk := ?_)
  rintro _ w10 ⟨rfl, hw⟩
  rw [hw]
  clear hw w10
  repeat (first | refine TL_move (hk := ?_) | refine TL_yes (hk := ?_) | refine TL_pick_t (hk := ?_) | refine TL_not (hk := ?_))
  refine TL_call TE (hc := nBytes_c w8) (hk := ?_)
  rintro _ w11 ⟨rfl, hw⟩
  rw [hw]
  clear hw w11
  repeat (first | refine TL_eq_t (hk := ?_) | refine TL_move (hk := ?_) | refine TL_len TE (hk := ?_) | refine TL_yes (hk := ?_) | refine TL_pick_t (hk := ?_))
  refine TL_call TE (hc := nSafe_c w8) (hk := ?_)
  rintro _ w12 ⟨rfl, hw⟩
  rw [hw]
  clear hw w12
  repeat (first | refine TL_eq_t (hk := ?_) | refine TL_move (hk := ?_) | refine TL_yes (hk := ?_) | refine TL_pick_t (hk := ?_))
  refine TL_call TE (hc := nLeft_c x w8) (hk := ?_)
  rintro _ w13 ⟨rfl, hw⟩
  rw [hw]
  clear hw w13
  repeat (first | refine TL_eq_t (hk := ?_) | refine TL_pnil_t TE (hk := ?_) | refine TL_move (hk := ?_) | refine TL_len TE (hk := ?_) | refine TL_yes (hk := ?_) | refine TL_pick_t (hk := ?_))
  refine TL_call TE (hc := jnum_c _ w8) (hk := ?_)
  rintro _ w14 ⟨rfl, hw⟩
  rw [hw]
  clear hw w14
  repeat (first | refine TL_eq_t (hk := ?_) | refine TL_move (hk := ?_) | refine TL_yes (hk := ?_) | refine TL_pick_t (hk := ?_))
  refine TL_call TE (hc := jnum_c _ w8) (hk := ?_)
  rintro _ w15 ⟨rfl, hw⟩
  rw [hw]
  clear hw w15
  repeat (first | refine TL_eq_t (hk := ?_) | refine TL_move (hk := ?_) | refine TL_yes (hk := ?_) | refine TL_pick_t (hk := ?_))
  refine TL_call TE (hc := nFlush_c w8) (hk := ?_)
  rintro _ w16 ⟨rfl, hw⟩
  rw [hw]
  clear hw w16
  repeat (refine TL_yes (hk := ?_))
  refine TL_call TE (hc := jnum_c _ w8) (hk := ?_)
  rintro _ w17 ⟨rfl, hw⟩
  rw [hw]
  clear hw w17
  repeat (first | refine TL_eq_t (hk := ?_) | refine TL_move (hk := ?_) | refine TL_yes (hk := ?_) | refine TL_pick_t (hk := ?_))
  refine TL_call TE (hc := nLog_c w8) (hk := ?_)
  rintro _ w18 ⟨rfl, hw⟩
  rw [hw]
  clear hw w18
  repeat (first | refine TL_pnil_t TE (hk := ?_) | refine TL_move (hk := ?_) | refine TL_yes (hk := ?_) | refine TL_pick_t (hk := ?_))
  refine TL_call TE (hc := nWritten_c w8) (hk := ?_)
  rintro _ w19 ⟨rfl, hw⟩
  rw [hw]
  clear hw w19
  repeat (first | refine TL_eq_t (hk := ?_) | refine TL_move (hk := ?_) | refine TL_yes (hk := ?_) | refine TL_pick_t (hk := ?_))
  refine TL_call TE (hc := nFlushed_c w8) (hk := ?_)
  rintro _ w20 ⟨rfl, hw⟩
  rw [hw]
  clear hw w20
  repeat (first | refine TL_eq_t (hk := ?_) | refine TL_move (hk := ?_) | refine TL_yes (hk := ?_) | refine TL_pick_t (hk := ?_))
  refine TL_call TE (hc := jlive_c w8) (hk := ?_)
  rintro _ w21 ⟨rfl, f21⟩
  repeat (first | refine TL_nil ?_ | refine TL_assign (hk := ?_) | refine TL_pick_t (hk := ?_))
  exact T_ret1 rfl rfl ⟨rfl, (((f4).ext f6).ext f8).ext f21⟩
end Go.Proofs.YtjlaomcankmdjaaGreat

/- What an argument that reads as data looks like, when each row and text of it lies within the reach. -/
namespace Go.Proofs.Eng
open Go.RowKit Go.WideShapes
set_option linter.unusedSimpArgs false
set_option linter.unusedVariables false
/-- Bytes of a type, at least. -/
def Ty.wt : Ty → Nat
  | .int _ => 1
  | .bool => 1
  | .str => 16
  | .slice _ => 24
  | .unit => 0
  | .cons a b => a.wt + b.wt
  | .struct p => p.wt
  | .array n e => n * e.wt
def FitS (w : World) : Ty → List Value → Prop
  | .int k, cs => ∃ n, cs = [.int k n] ∧ Fits k n
  | .bool, cs => ∃ b, cs = [.bool b]
  | .str, cs => ∃ s : ByteArray, cs = [.string s] ∧ s.size ≤ 140737488351232
  | .slice e, cs => ∃ (A : Option Addr) (n c : Nat) (xs : List (List Value)), cs = [.slice A n c] ∧ n ≤ c ∧ c ≤ maxLen ∧ c * e.wt ≤ 140737488351232 ∧ xs.length = n ∧ Rd w A n e.size xs.flatten ∧ ∀ x ∈ xs, x.length = e.size ∧ FitS w e x
  | .unit, cs => cs = []
  | .cons a b, cs => ∃ x y, cs = x ++ y ∧ x.length = a.size ∧ FitS w a x ∧ FitS w b y
  | .struct p, cs => FitS w p cs
  | .array n e, cs => ∃ xs : List (List Value), cs = xs.flatten ∧ xs.length = n ∧ ∀ x ∈ xs, x.length = e.size ∧ FitS w e x
def tyW {P : Program} (E : Env P) : Ty → Where → Bool
  | .slice e, .at t => match E.und t with
    | some (.slice u) => match E.inf u with
      | some (_, b, _) => Nat.ble e.wt b && tyW E e (.at u)
      | none => false
    | _ => false
  | .array n e, .at t => match E.und t with
    | some (.array m u) => tyW E e (.at u)
    | _ => false
  | .struct p, .at t => match E.fld t with
    | some fl => tyW E p (.from 0 fl)
    | none => false
  | .cons a b, .from off ((o, t) :: fl) => tyW E a (.at t) && tyW E b (.from (off + a.size) fl)
  | _, _ => true
section
variable {H : Type} {enc : TypeId × Value → H} {P : Program} {w : World} {base : Nat} {held : Bool}
theorem weightsAll_mem {e : TypeId} : ∀ {l : List (DataW H)} {d : DataW H}, d ∈ l → ∀ k ∈ d.weights P e, k ∈ DataW.weightsAll P e l
  | a :: l, d, h, k, hk => by
    simp only [DataW.weightsAll, List.mem_append]
    rcases List.mem_cons.1 h with rfl | h
    · exact .inl hk
    · exact .inr (weightsAll_mem h k hk)
theorem fits_of_trod (E : Env P) : ∀ (ty : Ty),
    (∀ t, tyOk E ty (.at t) = true → tyW E ty (.at t) = true → ∀ fuel cs x, DataW.trod enc P w base (fun _ => true) held fuel t cs = some x → (∀ k ∈ x.1.weights P t, k ≤ reachBytes) → FitS w ty cs) ∧
    (∀ off fl, tyOk E ty (.from off fl) = true → tyW E ty (.from off fl) = true → ∀ (cs : List Value) (ys : List (DataW H × List MemPlace)), cs.length = off + ty.size → ys.length = fl.length →
      (∀ (i : Nat) (o : Nat) (t : TypeId) y, fl[i]? = some (o, t) → ys[i]? = some y → ∃ n, DataW.trod enc P w base (fun _ => true) held n t ((cs.drop o).take (P.cellsOf t)) = some y) →
      (∀ k ∈ DataW.weightsEach P (fl.map (·.2)) (ys.map (·.1)), k ≤ reachBytes) → FitS w ty (cs.drop off)) := by
  intro ty
  induction ty with
  | int k =>
    refine ⟨fun t h _ fuel cs x hd _ => ?_, fun _ _ h => by simp [tyOk] at h⟩
    obtain ⟨n, h1, h3, h2⟩ := DataW.trod_int (und_int h) hd
    exact ⟨n, h1, fits_of_wf h2⟩
  | bool =>
    refine ⟨fun t h _ fuel cs x hd _ => ?_, fun _ _ h => by simp [tyOk] at h⟩
    obtain ⟨b, h1, h3⟩ := DataW.trod_bool (und_bool h) hd
    exact ⟨b, h1⟩
  | str =>
    refine ⟨fun t h _ fuel cs x hd hw => ?_, fun _ _ h => by simp [tyOk] at h⟩
    obtain ⟨s, h1, h3, h2⟩ := DataW.trod_string (und_str h) hd
    rw [h3] at hw
    have := hw s.data.toList.length (by simp [DataW.weights])
    refine ⟨s, h1, ?_⟩
    simpa [reachBytes] using this
  | slice e ih =>
    refine ⟨fun t h hW fuel cs x hd hw => ?_, fun _ _ h => by simp [tyOk] at h⟩
    simp only [tyOk] at h
    simp only [tyW] at hW
    split at h
    · rename_i u hu
      simp only [Bool.and_eq_true] at h
      obtain ⟨⟨h1, h2⟩, h3⟩ := h
      rw [hu] at hW
      simp only at hW
      split at hW
      · rename_i s' by_ z' hinf
        simp only [Bool.and_eq_true] at hW
        obtain ⟨hW1, hW2⟩ := hW
        have hW1 := Nat.le_of_ble_eq_true hW1
        have hsz := sizeIs_ok h2
        have h0 : 0 < e.size := by simpa [Nat.blt_eq] using h3
        have hund := E.und_ok _ _ hu
        have hbytes : P.bytesOf u = by_ := by
          obtain ⟨i, i1, i2, i3, i4⟩ := E.inf_ok _ _ _ _ hinf
          simp [Program.bytesOf, i1, i3]
        rcases DataW.trod_slice hund hd with ⟨rfl, hx⟩ | ⟨a, len, cap, elems, rest, n, _, rfl, hx, hb, hl, hm, hlen, hel, hsp, _⟩
        · exact ⟨none, 0, 0, [], rfl, Nat.le_refl _, by decide, by simp, rfl, Rd.nil _ _ _, by simp⟩
        · have hrest := (hsp rfl).1
          rw [hx] at hw
          simp only [DataW.weights, hund, List.length_map, hbytes] at hw
          have hcap := hw _ (List.mem_cons_self ..)
          rw [hlen, hrest] at hcap
          have hcap2 : cap * e.wt ≤ 140737488351232 := by
            have e1 : len + (cap - len) = cap := by omega
            rw [e1] at hcap
            have := Nat.mul_le_mul_left cap hW1
            simp only [reachBytes] at hcap
            omega
          rw [hsz] at hel
          have hget : ∀ i, i < len → ∃ y z, w.cells? base (a.add (i * e.size)) e.size = some y ∧ elems[i]? = some z ∧ DataW.trod enc P w base (fun _ => true) held n u y = some z := fun i hi => by
            have h4 := hel i hi
            rw [List.getElem?_eq_getElem (by omega)] at h4
            cases hc : w.cells? base (a.add (i * e.size)) e.size with
            | none => rw [hc] at h4; simp at h4
            | some y => rw [hc] at h4; simp at h4; exact ⟨y, _, rfl, List.getElem?_eq_getElem (by omega), h4⟩
          have hsome : ∀ (i : Nat) (x : List Value), ((List.range len).map fun i => (w.cells? base (a.add (i * e.size)) e.size).getD [])[i]? = some x → w.cells? base (a.add (i * e.size)) e.size = some x ∧ x.length = e.size ∧ FitS w e x := fun i x hx => by
            have hi : i < len := by have := (List.getElem?_eq_some_iff.1 hx).1; simpa using this
            obtain ⟨y, z, hy, hz, ht⟩ := hget i hi
            rw [List.getElem?_map, List.getElem?_range hi] at hx
            simp only [Option.map_some, hy, Option.getD_some, Option.some.injEq] at hx
            subst hx
            refine ⟨hy, (World.cells?_some hy).2.1, ih.1 u h1 hW2 n y z ht fun k hk => hw k (List.mem_cons_of_mem _ (List.mem_append_left _ ?_))⟩
            exact weightsAll_mem (List.mem_map_of_mem (List.mem_of_getElem? hz)) k hk
          have hmem : ∀ x ∈ (List.range len).map (fun i => (w.cells? base (a.add (i * e.size)) e.size).getD []), x.length = e.size ∧ FitS w e x := fun x hx => by
            obtain ⟨i, hi⟩ := List.getElem?_of_mem hx
            exact (hsome i x hi).2
          exact ⟨some a, len, cap, _, rfl, hl, hm, hcap2, by simp, rows_read h0 (by simp) (fun i x hx => (hsome i x hx).1) (fun x hx => (hmem x hx).1), hmem⟩
      · cases hW
    · cases h
  | unit =>
    refine ⟨fun t h => by simp [tyOk] at h, fun off fl h _ cs ys hl _ _ _ => ?_⟩
    show cs.drop off = []
    exact List.drop_of_length_le (by simp only [Ty.size] at hl; omega)
  | cons a b iha ihb =>
    refine ⟨fun t h => by simp [tyOk] at h, fun off fl h hW cs ys hl hyl hf hw => ?_⟩
    cases fl with
    | nil => simp [tyOk] at h
    | cons p fl =>
      cases ys with
      | nil => simp at hyl
      | cons y ys =>
        obtain ⟨o, t⟩ := p
        simp only [tyOk, Bool.and_eq_true] at h
        simp only [tyW, Bool.and_eq_true] at hW
        obtain ⟨⟨⟨h1, h2⟩, h3⟩, h4⟩ := h
        have ho := Nat.eq_of_beq_eq_true h1
        subst ho
        simp only [Ty.size] at hl
        have hsz := sizeIs_ok h3
        obtain ⟨n, hx⟩ := hf 0 o t y rfl rfl
        rw [hsz] at hx
        simp only [List.map_cons, DataW.weightsEach, List.mem_append] at hw
        refine ⟨(cs.drop o).take a.size, cs.drop (o + a.size), ?_, by simp; omega, iha.1 t h2 hW.1 n _ y hx (fun k hk => hw k (.inl hk)), ?_⟩
        · rw [← List.drop_drop, List.take_append_drop]
        · exact ihb.2 (o + a.size) fl h4 hW.2 cs ys (by omega) (by simpa using hyl) (fun i o' t' y' h' g' => hf (i + 1) o' t' y' (by simpa using h') (by simpa using g')) (fun k hk => hw k (.inr hk))
  | struct p ih =>
    refine ⟨fun t h hW fuel cs x hd hw => ?_, fun _ _ h => by simp [tyOk] at h⟩
    simp only [tyOk] at h
    simp only [tyW] at hW
    split at h
    · rename_i fl hfl
      rw [hfl] at hW
      simp only [Bool.and_eq_true] at h
      obtain ⟨h1, h2⟩ := h
      obtain ⟨fs, hu, hmap⟩ := E.fld_ok _ _ hfl
      obtain ⟨xs, n, _, hx, hl, hxl, hfs⟩ := DataW.trod_struct hu hd
      rw [sizeIs_ok h2] at hl
      have e9 : fl.map (·.2) = fs.toList.map (·.type) := by rw [← hmap]; simp
      have := ih.2 0 fl h1 hW cs xs (by omega) (by rw [hxl, ← hmap]; simp) (fun i o t y h' g' => by
        rw [← hmap, List.getElem?_map] at h'
        cases hf : fs.toList[i]? with
        | none => rw [hf] at h'; cases h'
        | some f =>
          rw [hf] at h'
          cases h'
          have hf' : fs[i]? = some f := by simpa using hf
          have h5 := hfs i f hf'
          rw [g'] at h5
          exact ⟨n, h5⟩) (fun k hk => hw k (by rw [hx]; simp only [DataW.weights, hu]; rw [← e9]; exact hk))
      simpa [FitS] using this
    · cases h
  | array n e ih =>
    refine ⟨fun t h hW fuel cs x hd hw => ?_, fun _ _ h => by simp [tyOk] at h⟩
    simp only [tyOk] at h
    simp only [tyW] at hW
    split at h
    · rename_i m u hu
      rw [hu] at hW
      simp only [Bool.and_eq_true] at h
      obtain ⟨⟨⟨h1, h2⟩, h3⟩, h4⟩ := h
      have hm := Nat.eq_of_beq_eq_true h1
      subst hm
      have hund := E.und_ok _ _ hu
      obtain ⟨xs, q, _, hx, hl, hxl, hel⟩ := DataW.trod_array hund hd
      rw [sizeIs_ok h4] at hl
      rw [sizeIs_ok h3] at hel
      refine ⟨(List.range m).map fun i => (cs.drop (i * e.size)).take e.size, (take_drop_chunks m cs hl).symm, by simp, fun y hy => ?_⟩
      obtain ⟨i, hi, rfl⟩ := List.mem_map.1 hy
      have hi' : i < m := by simpa using hi
      have h5 := hel i hi'
      cases ht : DataW.trod enc P w base (fun _ => true) held q u ((cs.drop (i * e.size)).take e.size) with
      | none => rw [ht] at h5; rw [List.getElem?_eq_getElem (by omega)] at h5; cases h5
      | some z =>
        refine ⟨?_, ih.1 u h2 hW q _ _ ht fun k hk => hw k ?_⟩
        · have : (i + 1) * e.size ≤ m * e.size := Nat.mul_le_mul_right _ hi'
          rw [Nat.succ_mul] at this
          simp; omega
        · rw [hx]
          simp only [DataW.weights, hund]
          rw [ht] at h5
          exact weightsAll_mem (List.mem_map_of_mem (List.mem_of_getElem? h5.symm)) k hk
    · cases h
/-- An argument that reads as data, each row and text of it within the reach. -/
def ReadsS (P : Program) (w : World) (base : Nat) (t : TypeId) (v : Value) : Prop :=
  ∃ (H : Type) (enc : TypeId × Value → H) (d : DataW H) (ps : List MemPlace), DataW.Trod enc P w 0 (fun _ => true) true t v d ps ∧ Value.okWide P w .any base t v ∧ ∀ k ∈ d.weights P t, k ≤ reachBytes
theorem ReadsS.fit {t : TypeId} {v : Value} (E : Env P) (h : ReadsS P w base t v) (ty : Ty) (hok : tyOk E ty (.at t) = true) (hW : tyW E ty (.at t) = true) : FitS w ty v.cells.toList := by
  obtain ⟨H, enc, d, ps, ⟨fuel, hf⟩, _, hm⟩ := h
  exact (fits_of_trod E ty).1 t hok hW fuel _ _ hf hm
theorem ReadsS.slice {t e : TypeId} {v : Value} (E : Env P) (h : ReadsS P w base t v) (ht : E.und t = some (.slice e)) : ∃ A n c, v = .slice A n c := by
  obtain ⟨_, _, _, _, _, hv, _⟩ := h
  exact okWide_slice (E.und_ok _ _ ht) hv
theorem FitS.fit : ∀ {ty : Ty} {cs : List Value}, FitS w ty cs → Fit w ty cs
  | .int _, _, h => h
  | .bool, _, h => h
  | .str, _, ⟨s, h1, h2⟩ => ⟨s, h1, by unfold maxLen; omega⟩
  | .slice _, _, ⟨A, n, c, xs, h1, h2, h3, _, h5, h6, h7⟩ => ⟨A, n, c, xs, h1, h2, h3, h5, h6, fun x hx => ⟨(h7 x hx).1, FitS.fit (h7 x hx).2⟩⟩
  | .unit, _, h => h
  | .cons _ _, _, ⟨x, y, h1, h2, h3, h4⟩ => ⟨x, y, h1, h2, FitS.fit h3, FitS.fit h4⟩
  | .struct p, _, h => FitS.fit (ty := p) h
  | .array _ _, _, ⟨xs, h1, h2, h3⟩ => ⟨xs, h1, h2, fun x hx => ⟨(h3 x hx).1, FitS.fit (h3 x hx).2⟩⟩
theorem FitS.bytes {A : Option Addr} {n c : Nat} (h : FitS w (.slice (.int .u8)) [.slice A n c]) : ∃ l, Rd w A n 1 (bv l) ∧ n ≤ c ∧ c ≤ 140737488351232 := by
  obtain ⟨l, h1, h2, _⟩ := Fit.bytes h.fit
  obtain ⟨A', n', c', xs, hv, _, _, h3, _⟩ := h
  cases hv
  exact ⟨l, h1, h2, by simpa [Ty.wt] using h3⟩
theorem bytes_inS {H : Type} {enc : TypeId × Value → H} (E : Env P) {t : TypeId} {A : Option Addr} {n c : Nat} {d : DataW H} {ps : List MemPlace} (hok : tyOk E (.slice (.int .u8)) (.at t) = true) (hW : tyW E (.slice (.int .u8)) (.at t) = true)
    (h : DataW.Trod enc P w 0 (fun _ => true) true t (.slice A n c) d ps) (hw : ∀ k ∈ d.weights P t, k ≤ reachBytes) : ∃ l, Rd w A n 1 (bv l) ∧ n ≤ c ∧ c ≤ 140737488351232 := by
  obtain ⟨fuel, hf⟩ := h
  exact FitS.bytes ((fits_of_trod E _).1 t hok hW fuel _ _ hf hw)
theorem each_one {H : Type} {P : Program} {t : TypeId} {ts : List TypeId} {d : DataW H} {ds : List (DataW H)} (h : ∀ k ∈ DataW.weightsEach P (t :: ts) (d :: ds), k ≤ reachBytes) : (∀ k ∈ d.weights P t, k ≤ reachBytes) ∧ ∀ k ∈ DataW.weightsEach P ts ds, k ≤ reachBytes :=
  ⟨fun k hk => h k (by simp only [DataW.weightsEach, List.mem_append]; exact .inl hk), fun k hk => h k (by simp only [DataW.weightsEach, List.mem_append]; exact .inr hk)⟩
end
end Go.Proofs.Eng

namespace Go.Proofs.YtjlaomcankmdjaaGreat
open Go.RowKit Go.Proofs.Eng Go.Proofs.Codec Go.Proofs.Foot Go.Proofs.Journal
theorem JournalNil_n (A : Option Addr) (n c : Nat) (l : List UInt8) (x : Int) (w : World) (hA : Rd w A n 1 (bv l)) (hnc : n ≤ c) (hcm : c ≤ 140737488351232) (hx : -9223372036854775808 ≤ x ∧ x ≤ 9223372036854775807) : Ret Tryz.prog 7 [.slice A n c, .int .i64 x] w (fun v w' => v = .bool true ∧ Ext w w') :=
  JournalNil_c A n c l x w hA hnc (by unfold maxLen; omega) (by
    show (decide _ && decide _) = true
    rw [Bool.and_eq_true, decide_eq_true_eq, decide_eq_true_eq]
    exact hx)
end Go.Proofs.YtjlaomcankmdjaaGreat
