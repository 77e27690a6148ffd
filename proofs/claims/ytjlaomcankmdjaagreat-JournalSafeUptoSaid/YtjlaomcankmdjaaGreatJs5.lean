import Derived.Test.YtjlaomcankmdjaaGreatJs4
import Derived.KernelRfl
/- Parts: WW1 WW2 WW3 WW4 WW5 WW6 JLaw4 WLv WW7 WW8 WW9 WW10 WW11 CLaw2 CLaw3 CLaw5 JLaw5 JLaw6 WW12 WW13 WW14 WW15 WW16. -/
namespace Go.Proofs.YtjlaomcankmdjaaGreat
open Go.RowKit Go.Proofs.Eng Go.Proofs.Codec Go.Proofs.Foot Go.Proofs.Journal
set_option linter.unusedSimpArgs false
set_option linter.unusedVariables false set_option maxRecDepth 10000
attribute [local irreducible] T TL LV TH TA
set_option maxHeartbeats 1600000
theorem jframe_c (k : Nat) (A : Option Addr) (n c : Nat) (l : List UInt8) (w : World) (h : Rd w A n 1 (bv l)) (hk : k < 256) (hn : n ≤ 65535) :
    Ret Tryz.prog 65 [.int .u8 (k : Int), .slice A n c] w (fun v w' => ∃ A' n' c', v = .slice A' n' c' ∧ Ext w w' ∧ Own w' w.heap.size 5 1 A' n' c' (bv (kindF k l))) := by
  have hlen : l.length = n := by simpa using h.1
  have hbv : bv [UInt8.ofNat k] = [.int .u8 (k : Int)] := by
    simp only [bv, List.map_cons, List.map_nil]
    rw [ofNat_u8 hk]
  refine ret_T (n := 16) Tryz.func65 rfl rfl ?_
  repeat (first | refine T_seq ?_ | refine T_region ?_ | refine TL_nil ?_ | refine TL_move (hk := ?_) | refine TL_assign (hk := ?_))
  refine TL_buildSlice TE (hk := ?_); intro b1 w1 e1 h1 h1' k1
  have o1 : Own w1 w.heap.size 5 1 (some ⟨b1, 0, none⟩) 1 1 (bv [UInt8.ofNat k]) := by rw [hbv]; exact Own.of_blk k1 h1 rfl (by decide)
  have z1 := e1.size
  have hr1 := h.be e1
  repeat (refine TL_move (hk := ?_))
  refine TL_append TE (ho := o1) (hr := hr1) (h1 := bv_one _) (hk := ?_); intro A2 c2 w2 o2 m2 n2
  rw [← bv_append] at o2
  have e02 : Ext w w2 := e1.step m2 (fun u hu => .inr (o1.bl u hu).1)
  --
  refine TL_call TE (hc := Seal_c A2 (1 + n) c2 ([UInt8.ofNat k] ++ l) w2 o2.rd (by omega)) (hk := ?_)
  rintro _ w3 ⟨A3, c3, rfl, e3, o3⟩
  repeat (first | refine T_seq ?_ | refine T_region ?_ | refine TL_nil ?_ | refine TL_move (hk := ?_) | refine TL_assign (hk := ?_) | refine TL_extract (hk := ?_))
  exact T_ret1 rfl rfl ⟨A3, _, c3, rfl, e02.ext e3, Own.weaken o3 e02.size⟩
theorem copied_c {base lg : Nat} {sl : SL} {es : List EM} {g : Nat → Nat} {L : LE} (w : World) (D : LogM w base lg sl es g L) (hL : LOk L) :
    Ret Tryz.prog 62 [pB lg] w (fun v w' => ∃ lg' sl' es' g', v = pB lg' ∧ Ext w w' ∧ LogM w' w.heap.size lg' sl' es' g' L) := by
  refine ret_T (n := 14) Tryz.func62 rfl rfl ?_
  repeat (first | refine T_seq ?_ | refine T_region ?_ | refine TL_nil ?_ | refine TL_move (hk := ?_) | refine TL_assign (hk := ?_))
  refine TL_call TE (hc := LBytes_c w D hL.n hL.ep (fun e he => (hL.run.le e he).2)) (hk := ?_)
  rintro _ w1 ⟨A1, n1, c1, rfl, e1, o1⟩
  --
  refine TL_call TE (hc := LLoad_c L hL A1 n1 c1 w1 o1.rd) (hk := ?_)
  rintro _ w2 ⟨lg', sl', es', g', rfl, e2, D2⟩
  have z1 := e1.size
  repeat (first | refine T_seq ?_ | refine T_region ?_ | refine TL_nil ?_ | refine TL_move (hk := ?_) | refine TL_assign (hk := ?_) | refine TL_extract (hk := ?_))
  exact T_ret1 rfl rfl ⟨lg', sl', es', g', rfl, e1.ext e2, { D2 with ow := Own.weaken D2.ow z1, old := fun b hb => by have := D2.old b hb; omega }⟩
end Go.Proofs.YtjlaomcankmdjaaGreat

namespace Go.Proofs.YtjlaomcankmdjaaGreat
open Go.RowKit Go.Proofs.Eng Go.Proofs.Codec Go.Proofs.Foot Go.Proofs.Journal
set_option linter.unusedSimpArgs false
set_option linter.unusedVariables false set_option maxRecDepth 10000
attribute [local irreducible] T TL LV TH TA
set_option maxHeartbeats 1600000
/-- What turns lies at base or behind it. -/
def Up (base : Nat) (w w' : World) : Prop := ∃ S, Eng.Mod S w w' ∧ ∀ u ∈ S, base ≤ u
theorem Up.ext {base : Nat} {w w' : World} (e : Ext w w') : Up base w w' := ⟨[], e, fun u hu => by cases hu⟩
theorem Up.trans {base : Nat} {a b c : World} (h : Up base a b) (k : Up base b c) : Up base a c := by
  obtain ⟨S, m, hS⟩ := h
  obtain ⟨S', m', hS'⟩ := k
  exact ⟨S ++ S', (m.mono (fun u hu => .inl (List.mem_append_left _ hu))).step m' (fun u hu => .inl (List.mem_append_right _ hu)), fun u hu => (List.mem_append.1 hu).elim (hS u) (hS' u)⟩
theorem Up.to {base : Nat} {w0 w w' : World} (h : Up base w w') (e : Ext w0 w) (hb : w0.heap.size ≤ base) : Ext w0 w' := by
  obtain ⟨S, m, hS⟩ := h
  exact e.step m (fun u hu => .inr (by have := hS u hu; omega))
theorem Up.size {base : Nat} {w w' : World} (h : Up base w w') : w.heap.size ≤ w'.heap.size := by obtain ⟨S, m, _⟩ := h; exact m.size
theorem pmV_one (x : PM) : ∀ u ∈ pmV x, u.oneCell' = true := by
  intro u hu
  simp only [pmV, List.mem_cons, List.not_mem_nil, or_false] at hu
  rcases hu with rfl | rfl | rfl | rfl | rfl | rfl | rfl <;> rfl
/-- A log that is being read, in memory. -/
structure ScM (w : World) (base sb lg : Nat) (sl : SL) (es : List EM) (g : Nat → Nat) (y : SL) (ys : List PM) (s : SC) : Prop where
  blk : Blk w sb 109 [pB lg, sL y, .int .i64 s.ep, .int .i64 s.last]
  log : LogM w base lg sl es g s.log
  ok : LOk s.log
  ow : Own w base 45 7 y.1 y.2.1 y.2.2 (rowV pmV ys)
  ee : ys.map (·.p) = s.op
  ek : ∀ z ∈ ys, POwn w base z ∧ PFit z.p ∧ ∀ b ∈ pmB z, b ∉ blkL y.1 ∧ b ≠ sb ∧ g b = 0
  gs : g sb = 0
  sy : sb ∉ blkL y.1
  gy : ∀ b ∈ blkL y.1, g b = 0
  hs : base ≤ sb
  mx : s.op.length ≤ 65536
section
variable {w w' : World} {base sb lg : Nat} {sl : SL} {es : List EM} {g : Nat → Nat} {y : SL} {ys : List PM} {s : SC}
theorem ScM.ext (S : ScM w base sb lg sl es g y ys s) (e : Ext w w') : ScM w' base sb lg sl es g y ys s :=
  { S with blk := S.blk.be e, log := S.log.ext e, ow := S.ow.be e, ek := fun z hz => ⟨(S.ek z hz).1.be e, (S.ek z hz).2⟩ }
theorem ScM.len (S : ScM w base sb lg sl es g y ys s) : ys.length = y.2.1 ∧ s.op.length = y.2.1 := by
  have h1 := S.ow.len
  rw [rowV_len pmV_len] at h1
  have h2 := congrArg List.length S.ee
  rw [List.length_map] at h2
  omega
end
theorem scanE_c {base sb lg : Nat} {sl : SL} {es : List EM} {g : Nat → Nat} {y : SL} {ys : List PM} {s : SC} (A : Option Addr) (n c : Nat) (b : List UInt8) (w : World) (S : ScM w base sb lg sl es g y ys s) (h : Rd w A n 1 (bv b)) (hn : n ≤ 65536) (hcap : n ≤ c) (hbs : base ≤ w.heap.size)
    (hfit : ∀ e, getEn b = some e → PFit e.p) :
    Ret Tryz.prog 95 [pB sb, .slice A n c] w (fun v w' => v = .bool (scE s b).isSome ∧ Up base w w' ∧ ∀ s', scE s b = some s' → ∃ sl es g y ys, ScM w' base sb lg sl es g y ys s') := by
  obtain ⟨hy1, hy2⟩ := S.len
  have hln := S.ok.n
  have hmx := S.mx
  refine ret_T (n := 78) Tryz.func95 rfl rfl ?_
  repeat (first | refine T_seq ?_ | refine T_region ?_ | refine TL_nil ?_ | refine TL_move (hk := ?_) | refine TL_assign (hk := ?_))
  refine TL_call TE (hc := EGet_c A n c b w h (by omega) hcap) (hk := ?_)
  rintro _ w1 ⟨_, qe, rfl, e1, ⟨x, rfl, ox, hx⟩⟩
  repeat (first | refine TL_move (hk := ?_) | refine TL_extract (hk := ?_))
  refine TL_alloc TE (hk := ?_); intro b2 w2 e2 h2 h2' k2
  --
  refine TL_storea TE (hk := ?_); intro w3 m3 z3 k3
  replace k3 : Blk w3 b2 47 (emV x) := k3
  unfold emV pmV at k3
  have z1 := e1.size
  have z2 := e2.size
  have e03 : Ext w w3 := (e1.ext e2).step m3 (fun u hu => .inr (by rw [List.mem_singleton.1 hu]; omega))
  have S3 := S.ext e03
  have ox3 : POwn w3 w.heap.size x.m := (ox.be e2).modL m3 (fun u hu q => by have := (ox.bl u hu).2; rw [List.mem_singleton] at q; omega)
  have kb3 := S3.blk
  clear k2
  repeat (first | refine T_seq ?_ | refine TL_nil ?_ | refine TL_assign (hk := ?_))
  refine T_region_any TE.mixed ([] : List Nat) ?_; intro w4 e4 z4
  have kb4 := kb3.be e4
  have hsD : sb ∉ ([] : List Nat) := by simp
  (refine TA_take 0 rfl (by kernel_rfl) (by kernel_rfl) (by kernel_rfl) ?_; (repeat (first | refine TL_move (hk := ?_) | refine TLP_load TE (hk := ?_) | refine TL_fieldAddr TE (hk := ?_) | refine TL_len TE (hk := ?_) | refine TL_nilCheck (hk := ?_))); refine TL_nil_p ?_); (refine TA_take 1 rfl (by kernel_rfl) (by kernel_rfl) (by kernel_rfl) ?_; (repeat (first | refine TL_move (hk := ?_) | refine TLP_load TE (hk := ?_) | refine TL_fieldAddr TE (hk := ?_) | refine TL_len TE (hk := ?_) | refine TL_nilCheck (hk := ?_))); refine TL_nil_p ?_); (refine TA_take 2 rfl (by kernel_rfl) (by kernel_rfl) (by kernel_rfl) ?_; (repeat (first | refine TL_move (hk := ?_) | refine TLP_load TE (hk := ?_) | refine TL_fieldAddr TE (hk := ?_) | refine TL_len TE (hk := ?_) | refine TL_nilCheck (hk := ?_))); refine TL_nil_p ?_); (refine TA_take 3 rfl (by kernel_rfl) (by kernel_rfl) (by kernel_rfl) ?_; (repeat (first | refine TL_move (hk := ?_) | refine TLP_load TE (hk := ?_) | refine TL_fieldAddr TE (hk := ?_) | refine TL_len TE (hk := ?_) | refine TL_nilCheck (hk := ?_))); refine TL_nil_p ?_); (refine TA_take 5 rfl (by kernel_rfl) (by kernel_rfl) (by kernel_rfl) ?_; (repeat (first | refine TL_move (hk := ?_) | refine TLP_load TE (hk := ?_) | refine TL_fieldAddr TE (hk := ?_) | refine TL_len TE (hk := ?_) | refine TL_nilCheck (hk := ?_))); refine TL_nil_p ?_); (refine TA_take 6 rfl (by kernel_rfl) (by kernel_rfl) (by kernel_rfl) ?_; (repeat (first | refine TL_move (hk := ?_) | refine TLP_load TE (hk := ?_) | refine TL_fieldAddr TE (hk := ?_) | refine TL_len TE (hk := ?_) | refine TL_nilCheck (hk := ?_))); refine TL_nil_p ?_); (refine TA_take 7 rfl (by kernel_rfl) (by kernel_rfl) (by kernel_rfl) ?_; (repeat (first | refine TL_move (hk := ?_) | refine TLP_load TE (hk := ?_) | refine TL_fieldAddr TE (hk := ?_) | refine TL_len TE (hk := ?_) | refine TL_nilCheck (hk := ?_))); refine TL_nil_p ?_); (refine TA_take 8 rfl (by kernel_rfl) (by kernel_rfl) (by kernel_rfl) ?_; (repeat (first | refine TL_move (hk := ?_) | refine TLP_load TE (hk := ?_) | refine TL_fieldAddr TE (hk := ?_) | refine TL_len TE (hk := ?_) | refine TL_nilCheck (hk := ?_))); refine TL_nil_p ?_); (refine TA_take 9 rfl (by kernel_rfl) (by kernel_rfl) (by kernel_rfl) ?_; (repeat (first | refine TL_move (hk := ?_) | refine TLP_load TE (hk := ?_) | refine TL_fieldAddr TE (hk := ?_) | refine TL_len TE (hk := ?_) | refine TL_nilCheck (hk := ?_))); refine TL_nil_p ?_)
  refine TA_one 4 rfl (by kernel_rfl) (by kernel_rfl) ?_; (try refine TL_yes (hk := ?_)); refine TL_call TE (hc := (LLen_c w4 (S3.log.ext e4))) (hq := (by rintro _ _ ⟨_, h⟩; rw [h]; exact Mod.refl _ _)) (hk := ?_)
  rintro _ w5 ⟨rfl, hw5⟩
  rw [hw5]
  clear hw5 w5
  refine TL_nil_p ?_
  (refine TA_one 10 rfl (by kernel_rfl) (by kernel_rfl) ?_; (repeat (first | refine TL_add (hk := ?_) | refine TL_assign (hk := ?_))); refine TL_nil_p ?_); (refine TA_one 11 rfl (by kernel_rfl) (by kernel_rfl) ?_; (repeat (first | refine TL_add (hk := ?_) | refine TL_assign (hk := ?_))); refine TL_nil_p ?_)
  refine TA_done (by kernel_rfl) ?_
  have S4 := S3.ext e4
  have ox4 := ox3.be e4
  have k4 := k3.be e4
  have hnx : ((s.log.l.length : Nat) : Int) + ((y.2.1 : Nat) : Int) = ((s.log.l.length + s.op.length : Nat) : Int) := by omega
  rw [hnx]
  obtain ⟨nx, hnxd⟩ : ∃ nx, s.log.l.length + s.op.length = nx := ⟨_, rfl⟩
  have hnx2 : nx ≤ 131072 := by omega
  rw [hnxd]
  clear S3 ox3 k3 kb3
  --
  refine T_seq ?_
  refine T_seq ?_
  refine T_join (ι := Bool) (fun t => [(61, .bool t), (5, .pointer (some ⟨b2, 0, none⟩)), (1, .slice A n c), (0, pB sb)]) (fun t w' => Ext w4 w' ∧ (t = true ↔ scE s b = none)) (fun kk join => ?_) ?_
  · have kb := S4.blk
    cases hg : getEn b with
    | none =>
      rw [hg] at hx
      have hno : scE s b = none := by unfold scE; rw [hg]
      repeat (first | refine T_region_q TE.mixed (by kernel_rfl) ?_ | refine TL_ne_t (hk := ?_) | refine TL_move (hk := ?_) | refine TL_no (hk := ?_) | refine TL_pick_t (hk := ?_))
      refine TL_nil_q ?_; intro w6 e6
      exact T.sub (join true _ ⟨e6, fun _ => hno, fun _ => rfl⟩) (.c rfl (.c rfl (.c rfl (.c rfl (.n)))))
    | some e =>
      rw [hg] at hx
      obtain ⟨rfl, hxe⟩ := hx
      have hxs : x.sq = e.sq := congrArg EE.sq hxe
      have hxp : x.ep = e.ep := congrArg EE.ep hxe
      have huf : scE s b = if e.sq ≠ (nx : Int) ∨ 65536 ≤ nx ∨ e.ep < s.last ∨ (0 < s.op.length ∧ e.ep ≠ s.ep) then none else some { s with op := s.op ++ [e.p], ep := e.ep } := by unfold scE; rw [hg]; simp only; rw [hnxd]
      by_cases d1 : x.sq = (nx : Int)
      · by_cases d2 : (65536 : Int) ≤ (nx : Int)
        · have hno : scE s b = none := by rw [huf, if_pos (.inr (.inl (by omega)))]
          repeat (first | refine T_region_q TE.mixed (by kernel_rfl) ?_ | refine TL_ge_t (hk := ?_) | refine TL_ne_f (hk := ?_) | refine TL_move (hk := ?_) | refine TL_load TE (hk := ?_) | refine TL_fieldAddr TE (hk := ?_) | refine TL_yes (hk := ?_) | refine TL_no (hk := ?_) | refine TL_pick_t (hk := ?_) | refine TL_pick_f (hk := ?_))
          refine TL_nil_q ?_; intro w6 e6
          exact T.sub (join true _ ⟨e6, fun _ => hno, fun _ => rfl⟩) (.c rfl (.c rfl (.c rfl (.c rfl (.n)))))
        · by_cases d3 : x.ep < s.last
          · have hno : scE s b = none := by rw [huf, if_pos (.inr (.inr (.inl (by omega))))]
            repeat (first | refine T_region_q TE.mixed (by kernel_rfl) ?_ | refine TL_lt_t (hk := ?_) | refine TL_ge_f (hk := ?_) | refine TL_ne_f (hk := ?_) | refine TL_move (hk := ?_) | refine TL_load TE (hk := ?_) | refine TL_fieldAddr TE (hk := ?_) | refine TL_yes (hk := ?_) | refine TL_no (hk := ?_) | refine TL_pick_t (hk := ?_) | refine TL_pick_f (hk := ?_) | refine TL_nilCheck (hk := ?_))
            refine TL_nil_q ?_; intro w6 e6
            exact T.sub (join true _ ⟨e6, fun _ => hno, fun _ => rfl⟩) (.c rfl (.c rfl (.c rfl (.c rfl (.n)))))
          · by_cases d4 : (0 : Int) < (y.2.1 : Int)
            · by_cases d5 : x.ep = s.ep
              · have hno : ¬ scE s b = none := by rw [huf, if_neg (by omega)]; simp
                repeat (first | refine T_region_q TE.mixed (by kernel_rfl) ?_ | refine TL_lt_f (hk := ?_) | refine TL_gt_t (hk := ?_) | refine TL_ge_f (hk := ?_) | refine TL_ne_f (hk := ?_) | refine TL_move (hk := ?_) | refine TL_load TE (hk := ?_) | refine TL_fieldAddr TE (hk := ?_) | refine TL_len TE (hk := ?_) | refine TL_yes (hk := ?_) | refine TL_pick_t (hk := ?_) | refine TL_pick_f (hk := ?_) | refine TL_nilCheck (hk := ?_))
                refine TL_nil_q ?_; intro w6 e6
                exact T.sub (join false _ ⟨e6, fun q => (by cases q), fun q => absurd q hno⟩) (.c rfl (.c rfl (.c rfl (.c rfl (.n)))))
              · have hno : scE s b = none := by rw [huf, if_pos (.inr (.inr (.inr ⟨by omega, by omega⟩)))]
                repeat (first | refine T_region_q TE.mixed (by kernel_rfl) ?_ | refine TL_lt_f (hk := ?_) | refine TL_gt_t (hk := ?_) | refine TL_ge_f (hk := ?_) | refine TL_ne_t (hk := ?_) | refine TL_ne_f (hk := ?_) | refine TL_move (hk := ?_) | refine TL_load TE (hk := ?_) | refine TL_fieldAddr TE (hk := ?_) | refine TL_len TE (hk := ?_) | refine TL_yes (hk := ?_) | refine TL_pick_t (hk := ?_) | refine TL_pick_f (hk := ?_) | refine TL_nilCheck (hk := ?_))
                refine TL_nil_q ?_; intro w6 e6
                exact T.sub (join true _ ⟨e6, fun _ => hno, fun _ => rfl⟩) (.c rfl (.c rfl (.c rfl (.c rfl (.n)))))
            · have hno : ¬ scE s b = none := by rw [huf, if_neg (by omega)]; simp
              repeat (first | refine T_region_q TE.mixed (by kernel_rfl) ?_ | refine TL_lt_f (hk := ?_) | refine TL_gt_f (hk := ?_) | refine TL_ge_f (hk := ?_) | refine TL_ne_f (hk := ?_) | refine TL_move (hk := ?_) | refine TL_load TE (hk := ?_) | refine TL_fieldAddr TE (hk := ?_) | refine TL_len TE (hk := ?_) | refine TL_yes (hk := ?_) | refine TL_no (hk := ?_) | refine TL_pick_f (hk := ?_) | refine TL_nilCheck (hk := ?_))
              refine TL_nil_q ?_; intro w6 e6
              exact T.sub (join false _ ⟨e6, fun q => (by cases q), fun q => absurd q hno⟩) (.c rfl (.c rfl (.c rfl (.c rfl (.n)))))
      · have hno : scE s b = none := by rw [huf, if_pos (.inl (by omega))]
        repeat (first | refine T_region_q TE.mixed (by kernel_rfl) ?_ | refine TL_ne_t (hk := ?_) | refine TL_ne_f (hk := ?_) | refine TL_move (hk := ?_) | refine TL_load TE (hk := ?_) | refine TL_fieldAddr TE (hk := ?_) | refine TL_yes (hk := ?_) | refine TL_no (hk := ?_) | refine TL_pick_t (hk := ?_) | refine TL_pick_f (hk := ?_))
        refine TL_nil_q ?_; intro w6 e6
        exact T.sub (join true _ ⟨e6, fun _ => hno, fun _ => rfl⟩) (.c rfl (.c rfl (.c rfl (.c rfl (.n)))))
  rintro t w6 ⟨e6, ht⟩
  have e04 := e03.ext e4
  cases t with
  | true =>
    rw [ht.1 rfl]
    repeat (first | refine T_seq ?_ | refine T_region ?_ | refine T_cond_true rfl ?_ | refine TL_nil ?_ | refine TL_assign (hk := ?_))
    exact T_ret1 rfl rfl ⟨rfl, Up.ext (e04.ext e6), fun s' h => by cases h⟩
  | false => ?_
  have hsome : scE s b ≠ none := fun q => by have := ht.2 q; cases this
  repeat (first | refine T_seq ?_ | refine T_cond_false rfl ?_ | refine T_skip ?_)
  cases hg : getEn b with
  | none => exact absurd (by unfold scE; rw [hg]) hsome
  | some e => ?_
  rw [hg] at hx
  obtain ⟨rfl, hxe⟩ := hx
  have hF := hfit e hg
  have hxp : x.ep = e.ep := congrArg EE.ep hxe
  have hxm : x.m.p = e.p := congrArg EE.p hxe
  have huf : scE s b = if e.sq ≠ (nx : Int) ∨ 65536 ≤ nx ∨ e.ep < s.last ∨ (0 < s.op.length ∧ e.ep ≠ s.ep) then none else some { s with op := s.op ++ [e.p], ep := e.ep } := by unfold scE; rw [hg]; simp only; rw [hnxd]
  have hcond : ¬ (e.sq ≠ (nx : Int) ∨ 65536 ≤ nx ∨ e.ep < s.last ∨ (0 < s.op.length ∧ e.ep ≠ s.ep)) := fun q => hsome (by rw [huf, if_pos q])
  rw [if_neg hcond] at huf
  rw [huf]
  have S6 := S4.ext e6
  have ox6 := ox4.be e6
  have k6 := k4.be e6
  have e046 := e04.ext e6
  have z046 := e046.size
  clear hg S4 ox4 k4
  have hsy := S6.sy
  have hyl : ∀ u ∈ blkL y.1, u < w.heap.size := fun u hu => (S.ow.bl u hu).2
  have hsl : sb < w.heap.size := S.blk.lt
  have hgo : ∀ u, w.heap.size ≤ u → g u = 0 := fun u hu => by
    by_cases q : g u = 0
    · exact q
    · have := (S.log.old u q).2; omega
  have n2D : b2 ∉ sb :: blkL y.1 := fun q => (List.mem_cons.1 q).elim (fun q => by omega) (fun q => by have := hyl _ q; omega)
  have hDb : ∀ u ∈ sb :: blkL y.1, base ≤ u := fun u hu => (List.mem_cons.1 hu).elim (fun q => by rw [q]; exact S.hs) (fun q => (S.ow.bl u q).1)
  have hxb := ox6.bl
  have zz6 : w.heap.size ≤ w6.heap.size := z046
  refine T_region_any TE.mixed (sb :: blkL y.1) ?_; intro w7 e7 z7
  have kb7 := S6.blk.be e7
  have k7 := k6.be e7
  have o7 := S6.ow.be e7
  have fin : ∀ (wE : World) (y' : SL), Eng.Mod (sb :: blkL y.1) w7 wE → Blk wE sb 109 [pB lg, sL y', .int .i64 x.ep, .int .i64 s.last] → Own wE base 45 7 y'.1 y'.2.1 y'.2.2 (rowV pmV (ys ++ [x.m])) → ∀ {w8 : World}, Near y.1 y'.1 w8 → w7.heap.size ≤ w8.heap.size → ScM wE base sb lg sl es g y' (ys ++ [x.m]) { s with op := s.op ++ [e.p], ep := e.ep } := by
    intro wE y' M k o w8 nr z8
    have hny : ∀ u, u < w7.heap.size → u ∉ blkL y.1 → u ∉ blkL y'.1 := fun u hu hn hq => (Near.mem nr u hq).elim hn (fun q => by omega)
    have S7 := S6.ext e7
    refine ⟨by rw [← hxp]; exact k, S7.log.mod M (fun u hu => (List.mem_cons.1 hu).elim (fun q => by rw [q]; exact S.gs) (S.gy u)), S.ok, o, by rw [List.map_append, S.ee]; simp [hxm], fun z hz => ?_, S.gs, hny sb (by have := S7.blk.lt; exact this) S.sy, fun u hu => ?_, S.hs, by rw [List.length_append]; simp only [List.length_cons, List.length_nil]; omega⟩
    · rcases List.mem_append.1 hz with q | q
      · obtain ⟨q1, q2, q3⟩ := S7.ek z q
        refine ⟨q1.modL M (fun u hu hq => (List.mem_cons.1 hq).elim (q3 u hu).2.1 (q3 u hu).1), q2, fun u hu => ⟨hny u (q1.bl u hu).2 (q3 u hu).1, (q3 u hu).2.1, (q3 u hu).2.2⟩⟩
      · rw [List.mem_singleton.1 q]
        have q1 := ox6.be e7
        have hu1 : ∀ u ∈ pmB x.m, u ∉ blkL y.1 := fun u hu hq => by have h1 := (q1.bl u hu).1; have h2 := hyl u hq; omega
        have hu2 : ∀ u ∈ pmB x.m, u ≠ sb := fun u hu hq => by have h1 := (q1.bl u hu).1; omega
        exact ⟨(q1.weaken hbs).modL M (fun u hu hq => (List.mem_cons.1 hq).elim (hu2 u hu) (hu1 u hu)), by rw [hxm]; exact hF, fun u hu => ⟨hny u (q1.bl u hu).2 (hu1 u hu), hu2 u hu, hgo u (q1.bl u hu).1⟩⟩
    · exact (Near.mem nr u hu).elim (S.gy u) (fun q => hgo u (by omega))
  (refine TA_take 0 rfl (by kernel_rfl) (by kernel_rfl) (by kernel_rfl) ?_; (repeat (first | refine TL_move (hk := ?_) | refine TL_fieldAddr TE (hk := ?_) | refine TL_nilCheck (hk := ?_))); refine TL_nil_p ?_); (refine TA_take 1 rfl (by kernel_rfl) (by kernel_rfl) (by kernel_rfl) ?_; (repeat (first | refine TL_move (hk := ?_) | refine TL_fieldAddr TE (hk := ?_) | refine TL_nilCheck (hk := ?_))); refine TL_nil_p ?_); (refine TA_take 2 rfl (by kernel_rfl) (by kernel_rfl) (by kernel_rfl) ?_; (repeat (first | refine TL_move (hk := ?_) | refine TL_fieldAddr TE (hk := ?_) | refine TL_nilCheck (hk := ?_))); refine TL_nil_p ?_); (refine TA_take 3 rfl (by kernel_rfl) (by kernel_rfl) (by kernel_rfl) ?_; (repeat (first | refine TL_move (hk := ?_) | refine TL_fieldAddr TE (hk := ?_) | refine TL_nilCheck (hk := ?_))); refine TL_nil_p ?_); (refine TA_take 4 rfl (by kernel_rfl) (by kernel_rfl) (by kernel_rfl) ?_; (repeat (first | refine TL_move (hk := ?_) | refine TL_fieldAddr TE (hk := ?_) | refine TL_nilCheck (hk := ?_))); refine TL_nil_p ?_); (refine TA_take 6 rfl (by kernel_rfl) (by kernel_rfl) (by kernel_rfl) ?_; (repeat (first | refine TL_move (hk := ?_) | refine TL_fieldAddr TE (hk := ?_) | refine TL_nilCheck (hk := ?_))); refine TL_nil_p ?_)
  refine TA_take 7 rfl (by kernel_rfl) (by kernel_rfl) (by kernel_rfl) ?_
  refine TLP_loadb TE (cs := [.int .i64 x.m.p.q.cl, .int .u64 (x.m.p.q.tk : Int), .string (ofL x.m.p.q.nm), sL x.m.a, .int .i64 x.m.p.how, sL x.m.b, sL x.m.c]) (o := 2) (hb := k7) (hD := n2D) (hk := ?_)
  refine TL_nil_p ?_
  (refine TA_take 10 rfl (by kernel_rfl) (by kernel_rfl) (by kernel_rfl) ?_; (repeat (first | refine TLP_load TE (hk := ?_) | refine TL_fieldAddr TE (hk := ?_))); refine TL_nil_p ?_); (refine TA_take 11 rfl (by kernel_rfl) (by kernel_rfl) (by kernel_rfl) ?_; (repeat (first | refine TLP_load TE (hk := ?_) | refine TL_fieldAddr TE (hk := ?_))); refine TL_nil_p ?_)
  refine TA_two 5 8 rfl rfl (by kernel_rfl) (by kernel_rfl) ?_ ?_
  · refine TLN_load TE (hb := kb7) (hq := Mod.refl _ _) (hk := ?_)
    refine TL_nil_p ?_
    refine TA_one 8 rfl (by kernel_rfl) (by kernel_rfl) ?_
    refine TL_buildSliceA TE (hf := rfl) (hq := fun w' e => Ext.mod e) (hk := ?_); intro b17 w8 e17 h17 h17' k17
    refine TL_nil_p ?_
    replace k17 : Blk w8 b17 45 (rowV pmV [x.m]) := k17
    have r17 : Rd w8 (some ⟨b17, 0, none⟩) 1 7 (rowV pmV [x.m]) := Rd.blk k17 rfl
    have o8 := o7.be e17
    have kb8 := kb7.be e17
    have zz8 := e17.size
    refine TA_one 9 rfl (by kernel_rfl) (by kernel_rfl) ?_
    refine TL_append TE (ho := o8) (hr := r17) (h1 := rowV_one pmV_one _) (hf := rfl) (hq := fun w' m => (Ext.mod e17).step m (fun u hu => .inl (List.mem_cons_of_mem _ hu))) (hk := ?_); intro A9 c9 w9 o9 m9 n9
    rw [← rowV_append] at o9
    have kb9 := kb8.mod m9 S6.sy
    have zz9 := m9.size
    have M9 : Eng.Mod (sb :: blkL y.1) w7 w9 := (Ext.mod e17).step m9 (fun u hu => .inl (List.mem_cons_of_mem _ hu))
    refine TL_nil_p ?_
    (refine TA_take 12 rfl (by kernel_rfl) (by kernel_rfl) (by kernel_rfl) ?_; (repeat (first | refine TL_fieldAddr TE (hk := ?_) | refine TL_nilCheck (hk := ?_))); refine TL_nil_p ?_); (refine TA_take 13 rfl (by kernel_rfl) (by kernel_rfl) (by kernel_rfl) ?_; (repeat (first | refine TL_fieldAddr TE (hk := ?_) | refine TL_nilCheck (hk := ?_))); refine TL_nil_p ?_)
    refine TA_one 14 rfl (by kernel_rfl) (by kernel_rfl) ?_
    refine TL_store TE (hb := kb9) (hf := rfl) (hq := fun _ m _ => M9.step m (fun u hu => .inl (by rw [List.mem_singleton.1 hu]; exact List.mem_cons_self))) (hk := ?_); intro w10 m10 z10 k10
    have M10 : Eng.Mod (sb :: blkL y.1) w7 w10 := M9.step m10 (fun u hu => .inl (by rw [List.mem_singleton.1 hu]; exact List.mem_cons_self))
    refine TL_nil_p ?_
    (refine TA_take 15 rfl (by kernel_rfl) (by kernel_rfl) (by kernel_rfl) ?_; (repeat (first | refine TL_fieldAddr TE (hk := ?_) | refine TL_nilCheck (hk := ?_))); refine TL_nil_p ?_); (refine TA_take 16 rfl (by kernel_rfl) (by kernel_rfl) (by kernel_rfl) ?_; (repeat (first | refine TL_fieldAddr TE (hk := ?_) | refine TL_nilCheck (hk := ?_))); refine TL_nil_p ?_)
    refine TA_one 17 rfl (by kernel_rfl) (by kernel_rfl) ?_
    refine TL_store TE (hb := k10) (hf := rfl) (hq := fun _ m _ => M10.step m (fun u hu => .inl (by rw [List.mem_singleton.1 hu]; exact List.mem_cons_self))) (hk := ?_); intro w11 m11 z11 k11
    have M11 : Eng.Mod (sb :: blkL y.1) w7 w11 := M10.step m11 (fun u hu => .inl (by rw [List.mem_singleton.1 hu]; exact List.mem_cons_self))
    refine TL_nil_p ?_
    refine TA_done (by kernel_rfl) ?_
    repeat (first | refine T_seq ?_ | refine T_region ?_ | refine TL_nil ?_ | refine TL_assign (hk := ?_))
    have hnE : sb ∉ blkL A9 := fun q => (Near.mem n9 sb q).elim S6.sy (fun y => by have := S6.blk.lt; omega)
    have o11 := (o9.modL m10 (fun u hu q => by rw [List.mem_singleton] at q; rw [q] at hu; exact hnE hu)).modL m11 (fun u hu q => by rw [List.mem_singleton] at q; rw [q] at hu; exact hnE hu)
    refine T_ret1 rfl rfl ⟨rfl, (Up.ext (e046.ext e7)).trans ⟨_, M11, hDb⟩, fun s' h => ?_⟩
    cases h
    exact ⟨sl, es, g, (A9, y.2.1 + 1, c9), ys ++ [x.m], fin w11 (A9, y.2.1 + 1, c9) M11 k11 o11 n9 zz8⟩
  · refine TL_buildSliceA TE (hf := rfl) (hq := fun w' e => Ext.mod e) (hk := ?_); intro b17 w8 e17 h17 h17' k17
    refine TL_nil_p ?_
    refine TA_one 5 rfl (by kernel_rfl) (by kernel_rfl) ?_
    refine TLN_load TE (hb := kb7.be e17) (hq := Ext.mod e17) (hk := ?_)
    refine TL_nil_p ?_
    replace k17 : Blk w8 b17 45 (rowV pmV [x.m]) := k17
    have r17 : Rd w8 (some ⟨b17, 0, none⟩) 1 7 (rowV pmV [x.m]) := Rd.blk k17 rfl
    have o8 := o7.be e17
    have kb8 := kb7.be e17
    have zz8 := e17.size
    refine TA_one 9 rfl (by kernel_rfl) (by kernel_rfl) ?_
    refine TL_append TE (ho := o8) (hr := r17) (h1 := rowV_one pmV_one _) (hf := rfl) (hq := fun w' m => (Ext.mod e17).step m (fun u hu => .inl (List.mem_cons_of_mem _ hu))) (hk := ?_); intro A9 c9 w9 o9 m9 n9
    rw [← rowV_append] at o9
    have kb9 := kb8.mod m9 S6.sy
    have zz9 := m9.size
    have M9 : Eng.Mod (sb :: blkL y.1) w7 w9 := (Ext.mod e17).step m9 (fun u hu => .inl (List.mem_cons_of_mem _ hu))
    refine TL_nil_p ?_
    (refine TA_take 12 rfl (by kernel_rfl) (by kernel_rfl) (by kernel_rfl) ?_; (repeat (first | refine TL_fieldAddr TE (hk := ?_) | refine TL_nilCheck (hk := ?_))); refine TL_nil_p ?_); (refine TA_take 13 rfl (by kernel_rfl) (by kernel_rfl) (by kernel_rfl) ?_; (repeat (first | refine TL_fieldAddr TE (hk := ?_) | refine TL_nilCheck (hk := ?_))); refine TL_nil_p ?_)
    refine TA_one 14 rfl (by kernel_rfl) (by kernel_rfl) ?_
    refine TL_store TE (hb := kb9) (hf := rfl) (hq := fun _ m _ => M9.step m (fun u hu => .inl (by rw [List.mem_singleton.1 hu]; exact List.mem_cons_self))) (hk := ?_); intro w10 m10 z10 k10
    have M10 : Eng.Mod (sb :: blkL y.1) w7 w10 := M9.step m10 (fun u hu => .inl (by rw [List.mem_singleton.1 hu]; exact List.mem_cons_self))
    refine TL_nil_p ?_
    (refine TA_take 15 rfl (by kernel_rfl) (by kernel_rfl) (by kernel_rfl) ?_; (repeat (first | refine TL_fieldAddr TE (hk := ?_) | refine TL_nilCheck (hk := ?_))); refine TL_nil_p ?_); (refine TA_take 16 rfl (by kernel_rfl) (by kernel_rfl) (by kernel_rfl) ?_; (repeat (first | refine TL_fieldAddr TE (hk := ?_) | refine TL_nilCheck (hk := ?_))); refine TL_nil_p ?_)
    refine TA_one 17 rfl (by kernel_rfl) (by kernel_rfl) ?_
    refine TL_store TE (hb := k10) (hf := rfl) (hq := fun _ m _ => M10.step m (fun u hu => .inl (by rw [List.mem_singleton.1 hu]; exact List.mem_cons_self))) (hk := ?_); intro w11 m11 z11 k11
    have M11 : Eng.Mod (sb :: blkL y.1) w7 w11 := M10.step m11 (fun u hu => .inl (by rw [List.mem_singleton.1 hu]; exact List.mem_cons_self))
    refine TL_nil_p ?_
    refine TA_done (by kernel_rfl) ?_
    repeat (first | refine T_seq ?_ | refine T_region ?_ | refine TL_nil ?_ | refine TL_assign (hk := ?_))
    have hnE : sb ∉ blkL A9 := fun q => (Near.mem n9 sb q).elim S6.sy (fun y => by have := S6.blk.lt; omega)
    have o11 := (o9.modL m10 (fun u hu q => by rw [List.mem_singleton] at q; rw [q] at hu; exact hnE hu)).modL m11 (fun u hu q => by rw [List.mem_singleton] at q; rw [q] at hu; exact hnE hu)
    refine T_ret1 rfl rfl ⟨rfl, (Up.ext (e046.ext e7)).trans ⟨_, M11, hDb⟩, fun s' h => ?_⟩
    cases h
    exact ⟨sl, es, g, (A9, y.2.1 + 1, c9), ys ++ [x.m], fin w11 (A9, y.2.1 + 1, c9) M11 k11 o11 n9 zz8⟩
end Go.Proofs.YtjlaomcankmdjaaGreat

namespace Go.Proofs.YtjlaomcankmdjaaGreat
open Go.RowKit Go.Proofs.Eng Go.Proofs.Codec Go.Proofs.Foot Go.Proofs.Journal
set_option linter.unusedSimpArgs false
set_option linter.unusedVariables false set_option maxRecDepth 10000
attribute [local irreducible] T TL LV TH TA
set_option maxHeartbeats 1600000
theorem scanN_c {base sb lg : Nat} {sl : SL} {es : List EM} {g : Nat → Nat} {y : SL} {ys : List PM} {s : SC} (A : Option Addr) (n c : Nat) (b : List UInt8) (w : World) (S : ScM w base sb lg sl es g y ys s) (h : Rd w A n 1 (bv b)) (hn : n ≤ 65536) (hbs : base ≤ w.heap.size) :
    Ret Tryz.prog 96 [pB sb, .slice A n c] w (fun v w' => v = .bool (scN s b).isSome ∧ Up base w w' ∧ ∀ s', scN s b = some s' → ∃ sl es g y ys, ScM w' base sb lg sl es g y ys s') := by
  obtain ⟨hy1, hy2⟩ := S.len
  have hln := S.ok.n
  have hmx := S.mx
  refine ret_T (n := 69) Tryz.func96 rfl rfl ?_
  repeat (first | refine T_seq ?_ | refine T_region ?_ | refine TL_nil ?_ | refine TL_move (hk := ?_) | refine TL_assign (hk := ?_))
  refine TL_call TE (hc := NewReader_c A n c b w h (by omega)) (hk := ?_)
  rintro _ w1 ⟨bR, A3, n3, c3, rfl, e1, hbR, hi3, lo3, rr⟩
  have z1 := e1.size
  repeat (first | refine T_seq ?_ | refine T_region ?_ | refine TL_nil ?_ | refine TL_move (hk := ?_) | refine TL_assign (hk := ?_))
  refine TL_call TE (hc := Uint_c bR _ A3 n3 c3 w1 rr) (hk := ?_)
  rintro _ w2 ⟨rfl, m2, rr2⟩
  obtain ⟨p, hp⟩ : ∃ p, ge1 b = p := ⟨_, rfl⟩
  have q1 : (RS.mk b 0 0 0 0).take (0 : Nat) num0 = p := hp
  have l1 := take_lt (s := RS.mk b 0 0 0 0)
  rw [q1] at rr2 l1 ⊢
  repeat (first | refine T_seq ?_ | refine T_region ?_ | refine TL_nil ?_ | refine TL_move (hk := ?_) | refine TL_assign (hk := ?_))
  refine TL_call TE (hc := End_c bR _ A3 n3 c3 w2 rr2) (hk := ?_)
  rintro _ w3 ⟨rfl, m3, rr3⟩
  have z2 := m2.size
  have z3 := m3.size
  have e03 : Ext w w3 := (e1.step m2 (fun u hu => .inr (by rw [List.mem_singleton.1 hu]; omega))).step m3 (fun u hu => .inr (by rw [List.mem_singleton.1 hu]; omega))
  have S3 := S.ext e03
  clear rr rr2 rr3
  obtain ⟨x1, hx1⟩ : ∃ x, p.1 = x := ⟨_, rfl⟩
  have huf : scN s b = if p.2.fin.err ≠ 0 ∨ 9223372036854775808 ≤ x1 ∨ (x1 : Int) < s.last ∨ (0 < s.op.length ∧ (x1 : Int) ≠ s.ep) then none
      else if (appL s.log (x1 : Int) s.op).2.2.1 ≠ 0 then none else some ⟨(appL s.log (x1 : Int) s.op).1, [], s.ep, (x1 : Int)⟩ := by unfold scN; rw [hp, hx1]
  rw [hx1] at l1 ⊢
  have out : ∀ w', Ext w w' → scN s b = none → (Value.bool false = .bool (scN s b).isSome ∧ Up base w w' ∧ ∀ s', scN s b = some s' → ∃ sl es g y ys, ScM w' base sb lg sl es g y ys s') := fun w' e q => by rw [q]; exact ⟨rfl, Up.ext e, fun s' h => by cases h⟩
  by_cases d1 : p.2.fin.err = 0
  · by_cases d2 : (9223372036854775808 : Int) ≤ (x1 : Int)
    · repeat (first | refine T_seq ?_ | refine T_region ?_ | refine T_cond_true rfl ?_ | refine TL_ge_t (hk := ?_) | refine TL_ne_f (hk := ?_) | refine TL_nil ?_ | refine TL_move (hk := ?_) | refine TL_assign (hk := ?_) | refine TL_yes (hk := ?_) | refine TL_pick_f (hk := ?_))
      exact T_ret1 rfl rfl (out _ e03 (by rw [huf, if_pos (.inr (.inl (by omega)))]))
    · have kb := S3.blk
      repeat (first | refine T_cond_false rfl ?_ | refine T_skip ?_ | refine TL_ge_f (hk := ?_) | refine TL_ne_f (hk := ?_) | refine TL_nil ?_ | refine TL_move (hk := ?_) | refine TL_yes (hk := ?_) | refine TL_pick_f (hk := ?_))
      refine T_seq ?_
      refine T_region ?_
      repeat (first | refine TL_nil ?_ | refine TL_move (hk := ?_) | refine TL_assign (hk := ?_) | refine TL_conv TE (hk := ?_))
      refine T_seq ?_
      refine T_seq ?_
      refine T_join (ι := Bool) (fun t => [(45, .bool t), (7, .int .i64 (x1 : Int)), (0, pB sb)]) (fun t w' => w' = w3 ∧ (t = true ↔ ((x1 : Int) < s.last ∨ (0 < s.op.length ∧ (x1 : Int) ≠ s.ep)))) (fun kk join => ?_) ?_
      · by_cases d3 : (x1 : Int) < s.last
        · repeat (first | refine T_region ?_ | refine TL_lt_t (hk := ?_) | refine TL_nil ?_ | refine TL_move (hk := ?_) | refine TL_load TE (hk := ?_) | refine TL_fieldAddr TE (hk := ?_) | refine TL_no (hk := ?_) | refine TL_pick_t (hk := ?_) | refine TL_nilCheck (hk := ?_))
          exact T.sub (join true _ ⟨rfl, fun _ => .inl d3, fun _ => rfl⟩) (.c rfl (.c rfl (.c rfl (.n))))
        · by_cases d4 : (0 : Int) < (y.2.1 : Int)
          · by_cases d5 : (x1 : Int) = s.ep
            · repeat (first | refine T_region ?_ | refine TL_lt_f (hk := ?_) | refine TL_gt_t (hk := ?_) | refine TL_ne_f (hk := ?_) | refine TL_nil ?_ | refine TL_move (hk := ?_) | refine TL_load TE (hk := ?_) | refine TL_fieldAddr TE (hk := ?_) | refine TL_len TE (hk := ?_) | refine TL_yes (hk := ?_) | refine TL_pick_t (hk := ?_) | refine TL_pick_f (hk := ?_) | refine TL_nilCheck (hk := ?_))
              exact T.sub (join false _ ⟨rfl, fun q => (by cases q), fun q => absurd q (by omega)⟩) (.c rfl (.c rfl (.c rfl (.n))))
            · repeat (first | refine T_region ?_ | refine TL_lt_f (hk := ?_) | refine TL_gt_t (hk := ?_) | refine TL_ne_t (hk := ?_) | refine TL_nil ?_ | refine TL_move (hk := ?_) | refine TL_load TE (hk := ?_) | refine TL_fieldAddr TE (hk := ?_) | refine TL_len TE (hk := ?_) | refine TL_yes (hk := ?_) | refine TL_pick_t (hk := ?_) | refine TL_pick_f (hk := ?_) | refine TL_nilCheck (hk := ?_))
              exact T.sub (join true _ ⟨rfl, fun _ => .inr ⟨by omega, d5⟩, fun _ => rfl⟩) (.c rfl (.c rfl (.c rfl (.n))))
          · repeat (first | refine T_region ?_ | refine TL_lt_f (hk := ?_) | refine TL_gt_f (hk := ?_) | refine TL_nil ?_ | refine TL_move (hk := ?_) | refine TL_load TE (hk := ?_) | refine TL_fieldAddr TE (hk := ?_) | refine TL_len TE (hk := ?_) | refine TL_yes (hk := ?_) | refine TL_no (hk := ?_) | refine TL_pick_f (hk := ?_) | refine TL_nilCheck (hk := ?_))
            exact T.sub (join false _ ⟨rfl, fun q => (by cases q), fun q => absurd q (by omega)⟩) (.c rfl (.c rfl (.c rfl (.n))))
      rintro t w4 ⟨rfl, ht⟩
      cases t with
      | true =>
        have ht := ht.1 rfl
        repeat (first | refine T_seq ?_ | refine T_region ?_ | refine T_cond_true rfl ?_ | refine TL_nil ?_ | refine TL_assign (hk := ?_))
        exact T_ret1 rfl rfl (out _ e03 (by rw [huf, if_pos (.inr (.inr ht))]))
      | false => ?_
      have ht : ¬ ((x1 : Int) < s.last ∨ (0 < s.op.length ∧ (x1 : Int) ≠ s.ep)) := fun q => by have := ht.2 q; cases this
      rw [if_neg (by omega)] at huf
      repeat (first | refine T_seq ?_ | refine T_cond_false rfl ?_ | refine T_skip ?_)
      refine T_region_any TE.mixed (ownB w4 g) ?_; intro w5 e5 z5
      have S5 := S3.ext e5
      have kb5 := S5.blk
      have hsD : sb ∉ ownB w4 g := fun q => ownB_mem q S.gs
      (refine TA_take 0 rfl (by kernel_rfl) (by kernel_rfl) (by kernel_rfl) ?_; (repeat (first | refine TL_move (hk := ?_) | refine TLP_load TE (hk := ?_) | refine TL_fieldAddr TE (hk := ?_) | refine TL_nilCheck (hk := ?_))); refine TL_nil_p ?_); (refine TA_take 1 rfl (by kernel_rfl) (by kernel_rfl) (by kernel_rfl) ?_; (repeat (first | refine TL_move (hk := ?_) | refine TLP_load TE (hk := ?_) | refine TL_fieldAddr TE (hk := ?_) | refine TL_nilCheck (hk := ?_))); refine TL_nil_p ?_); (refine TA_take 2 rfl (by kernel_rfl) (by kernel_rfl) (by kernel_rfl) ?_; (repeat (first | refine TL_move (hk := ?_) | refine TLP_load TE (hk := ?_) | refine TL_fieldAddr TE (hk := ?_) | refine TL_nilCheck (hk := ?_))); refine TL_nil_p ?_); (refine TA_take 3 rfl (by kernel_rfl) (by kernel_rfl) (by kernel_rfl) ?_; (repeat (first | refine TL_move (hk := ?_) | refine TLP_load TE (hk := ?_) | refine TL_fieldAddr TE (hk := ?_) | refine TL_nilCheck (hk := ?_))); refine TL_nil_p ?_); (refine TA_take 4 rfl (by kernel_rfl) (by kernel_rfl) (by kernel_rfl) ?_; (repeat (first | refine TL_move (hk := ?_) | refine TLP_load TE (hk := ?_) | refine TL_fieldAddr TE (hk := ?_) | refine TL_nilCheck (hk := ?_))); refine TL_nil_p ?_); (refine TA_take 5 rfl (by kernel_rfl) (by kernel_rfl) (by kernel_rfl) ?_; (repeat (first | refine TL_move (hk := ?_) | refine TLP_load TE (hk := ?_) | refine TL_fieldAddr TE (hk := ?_) | refine TL_nilCheck (hk := ?_))); refine TL_nil_p ?_); (refine TA_take 6 rfl (by kernel_rfl) (by kernel_rfl) (by kernel_rfl) ?_; (repeat (first | refine TL_move (hk := ?_) | refine TLP_load TE (hk := ?_) | refine TL_fieldAddr TE (hk := ?_) | refine TL_nilCheck (hk := ?_))); refine TL_nil_p ?_); (refine TA_take 7 rfl (by kernel_rfl) (by kernel_rfl) (by kernel_rfl) ?_; (repeat (first | refine TL_move (hk := ?_) | refine TLP_load TE (hk := ?_) | refine TL_fieldAddr TE (hk := ?_) | refine TL_nilCheck (hk := ?_))); refine TL_nil_p ?_); (refine TA_take 8 rfl (by kernel_rfl) (by kernel_rfl) (by kernel_rfl) ?_; (repeat (first | refine TL_move (hk := ?_) | refine TLP_load TE (hk := ?_) | refine TL_fieldAddr TE (hk := ?_) | refine TL_nilCheck (hk := ?_))); refine TL_nil_p ?_)
      refine TA_one 9 rfl (by kernel_rfl) (by kernel_rfl) ?_; (try refine TL_yes (hk := ?_)); refine TL_call TE (hc := (LAppend_c (x1 : Int) y.1 y.2.1 y.2.2 ys w5 S5.log S5.ow.rd (fun x hx => ⟨(S5.ek x hx).1.lies, (S5.ek x hx).2.1⟩) S.gy (fun x hx u hu => ((S.ek x hx).2.2 u hu).2.2) (by omega) (by omega))) (hq := (by rintro _ w' ⟨_, _, _, g', _, t⟩; exact t.inD (Mod.refl _ _) (ownB_in z5))) (hk := ?_)
      rintro _ w6 ⟨rfl, sl', es', g', L6, T6⟩
      rw [S.ee] at L6 ⊢
      have e05 := e03.ext e5
      have hU6 : Up base w5 w6 := by
        obtain ⟨⟨Z, m6, s6⟩, -, -⟩ := T6
        exact ⟨Z, m6, fun u hu => (S.log.old u (s6 u hu)).1⟩
      have k6 : Blk w6 sb 109 [pB lg, sL y, .int .i64 s.ep, .int .i64 s.last] := by
        obtain ⟨⟨Z, m6, s6⟩, -, -⟩ := T6
        exact kb5.mod m6 (fun q => s6 sb q S.gs)
      have gs6 : g' sb = 0 := T6.old S.gs kb5.lt
      refine TL_nil_p ?_
      (refine TA_take 10 rfl (by kernel_rfl) (by kernel_rfl) (by kernel_rfl) ?_; (repeat (first | refine TL_move (hk := ?_) | refine TL_assign (hk := ?_) | refine TL_extract (hk := ?_))); refine TL_nil_p ?_); (refine TA_take 11 rfl (by kernel_rfl) (by kernel_rfl) (by kernel_rfl) ?_; (repeat (first | refine TL_move (hk := ?_) | refine TL_assign (hk := ?_) | refine TL_extract (hk := ?_))); refine TL_nil_p ?_); (refine TA_take 12 rfl (by kernel_rfl) (by kernel_rfl) (by kernel_rfl) ?_; (repeat (first | refine TL_move (hk := ?_) | refine TL_assign (hk := ?_) | refine TL_extract (hk := ?_))); refine TL_nil_p ?_); (refine TA_take 13 rfl (by kernel_rfl) (by kernel_rfl) (by kernel_rfl) ?_; (repeat (first | refine TL_move (hk := ?_) | refine TL_assign (hk := ?_) | refine TL_extract (hk := ?_))); refine TL_nil_p ?_); (refine TA_take 14 rfl (by kernel_rfl) (by kernel_rfl) (by kernel_rfl) ?_; (repeat (first | refine TL_move (hk := ?_) | refine TL_assign (hk := ?_) | refine TL_extract (hk := ?_))); refine TL_nil_p ?_); (refine TA_take 15 rfl (by kernel_rfl) (by kernel_rfl) (by kernel_rfl) ?_; (repeat (first | refine TL_move (hk := ?_) | refine TL_assign (hk := ?_) | refine TL_extract (hk := ?_))); refine TL_nil_p ?_); (refine TA_take 16 rfl (by kernel_rfl) (by kernel_rfl) (by kernel_rfl) ?_; (repeat (first | refine TL_move (hk := ?_) | refine TL_assign (hk := ?_) | refine TL_extract (hk := ?_))); refine TL_nil_p ?_)
      refine TA_done (by kernel_rfl) ?_
      by_cases d6 : (appL s.log (x1 : Int) s.op).2.2.1 = 0
      · rw [if_neg (fun q => q d6)] at huf
        rw [huf]
        rw [d6]
        repeat (first | refine T_seq ?_ | refine T_region ?_ | refine T_cond_false rfl ?_ | refine T_skip ?_ | refine TL_ne_f (hk := ?_) | refine TL_nil ?_ | refine TL_move (hk := ?_) | refine TL_fieldAddr TE (hk := ?_) | refine TL_nilCheck (hk := ?_))
        refine TL_store TE (hk := ?_); intro w7 m7 z7 k7
        repeat (first | refine TL_fieldAddr TE (hk := ?_) | refine TL_nilCheck (hk := ?_))
        refine TL_store TE (hk := ?_); intro w8 m8 z8 k8
        repeat (first | refine T_seq ?_ | refine T_region ?_ | refine TL_nil ?_ | refine TL_assign (hk := ?_))
        have hm : ∀ u ∈ [sb], g' u = 0 := fun u hu => by rw [List.mem_singleton.1 hu]; exact gs6
        have hsb : ∀ u ∈ [sb], base ≤ u := fun u hu => by rw [List.mem_singleton.1 hu]; exact S.hs
        refine T_ret1 rfl rfl ⟨rfl, (((Up.ext e05).trans hU6).trans ⟨_, m7, hsb⟩).trans ⟨_, m8, hsb⟩, fun s' h => ?_⟩
        cases h
        refine ⟨sl', es', g', (none, 0, 0), [], k8, (L6.mod m7 hm).mod m8 hm, appL_ok S.ok (by omega) (fun p hp => ?_), Own.nil _ _ _ _, rfl, fun z hz => (by cases hz), gs6, fun q => (by cases q), fun u hu => (by cases hu), S.hs, Nat.zero_le _⟩
        rw [← S.ee] at hp
        obtain ⟨z, hz, rfl⟩ := List.mem_map.1 hp
        exact (S.ek z hz).2.1
      · rw [if_pos d6] at huf
        have d6' : ¬ (((appL s.log (x1 : Int) s.op).2.2.1 : Nat) : Int) = 0 := by omega
        repeat (first | refine T_seq ?_ | refine T_region ?_ | refine T_cond_true rfl ?_ | refine TL_ne_t (hk := ?_) | refine TL_nil ?_ | refine TL_move (hk := ?_) | refine TL_assign (hk := ?_))
        refine T_ret1 rfl rfl ⟨by rw [huf]; rfl, (Up.ext e05).trans hU6, fun s' h => (by rw [huf] at h; cases h)⟩
  · repeat (first | refine T_seq ?_ | refine T_region ?_ | refine T_cond_true rfl ?_ | refine TL_ne_t (hk := ?_) | refine TL_nil ?_ | refine TL_move (hk := ?_) | refine TL_assign (hk := ?_) | refine TL_no (hk := ?_) | refine TL_pick_t (hk := ?_))
    exact T_ret1 rfl rfl (out _ e03 (by rw [huf, if_pos (.inl d1)]))
theorem scanR_c {base sb lg : Nat} {sl : SL} {es : List EM} {g : Nat → Nat} {y : SL} {ys : List PM} {s : SC} (A : Option Addr) (n c : Nat) (b : List UInt8) (w : World) (S : ScM w base sb lg sl es g y ys s) (h : Rd w A n 1 (bv b)) (hn : n ≤ 65536) (hcap : n ≤ c) (hbs : base ≤ w.heap.size)
    (hfit : ∀ b e, getEn b = some e → PFit e.p) :
    Ret Tryz.prog 51 [pB sb, .slice A n c] w (fun v w' => v = .bool (scR s b).isSome ∧ Up base w w' ∧ ∀ s', scR s b = some s' → ∃ sl es g y ys, ScM w' base sb lg sl es g y ys s') := by
  have hbl : b.length = n := by simpa using h.1
  refine ret_T (n := 23) Tryz.func51 rfl rfl ?_
  cases b with
  | nil =>
    have h0 : n = 0 := by simpa using hbl.symm
    subst h0
    repeat (first | refine T_seq ?_ | refine T_region ?_ | refine T_cond_true rfl ?_ | refine TL_eq_t (hk := ?_) | refine TL_nil ?_ | refine TL_move (hk := ?_) | refine TL_assign (hk := ?_) | refine TL_len TE (hk := ?_))
    exact T_ret1 rfl rfl ⟨rfl, Up.ext (Mod.refl _ _), fun s' h => by cases h⟩
  | cons x t => ?_
  have hx := x.toNat_lt
  rw [List.length_cons] at hbl
  have h1 := Rd.tail1 (p := 1) h (by omega) hcap
  rw [List.drop_succ_cons, List.drop_zero] at h1
  have hA : A ≠ none := by obtain ⟨_, _, hq, _⟩ := h.2 (by omega); rw [hq]; simp
  have h0 : (bv (x :: t))[0]? = some (.int .u8 ((x.toNat : Nat) : Int)) := rfl
  obtain ⟨k, hk⟩ : ∃ k, gb (x :: t) 0 = k := ⟨_, rfl⟩
  have hkx : x.toNat = k := hk
  have huf : scR s (x :: t) = if k = 1 then scE s t else if k = 2 then scN s t else none := by show (if x.toNat = 1 then scE s t else if x.toNat = 2 then scN s t else none) = _; rw [hkx]
  rw [huf]
  repeat (first | refine T_seq ?_ | refine T_region ?_ | refine T_cond_false rfl ?_ | refine T_block ?_ | refine T_skip ?_ | refine TL_eq_f (hk := ?_) | refine TL_nil ?_ | refine TL_move (hk := ?_) | refine TL_assign (hk := ?_) | (refine TL_load_b TE (hk := ?_); intro _) | refine TL_indexAddr1n TE (hk := ?_) | refine TL_len TE (hk := ?_))
  rw [hk]
  by_cases d1 : k = 1
  · rw [if_pos d1]
    repeat (first | refine T_seq ?_ | refine T_region ?_ | refine T_cond_true rfl ?_ | refine TL_eq_t (hk := ?_) | refine TL_nil ?_ | refine TL_move (hk := ?_) | refine TL_assign (hk := ?_) | refine TL_slice_lo TE (hk := ?_))
    refine TL_call TE (hc := scanE_c _ _ _ t w S h1 (by omega) (by omega) hbs (hfit t)) (hk := ?_)
    rintro _ w1 ⟨rfl, u1, hs⟩
    repeat (first | refine TL_nil ?_ | refine TL_assign (hk := ?_))
    exact T_ret1 rfl rfl ⟨rfl, u1, hs⟩
  rw [if_neg d1]
  by_cases d2 : k = 2
  · rw [if_pos d2]
    repeat (first | refine T_seq ?_ | refine T_region ?_ | refine T_cond_true rfl ?_ | refine T_cond_false rfl ?_ | refine TL_eq_t (hk := ?_) | refine TL_eq_f (hk := ?_) | refine TL_nil ?_ | refine TL_move (hk := ?_) | refine TL_assign (hk := ?_) | refine TL_slice_lo TE (hk := ?_))
    refine TL_call TE (hc := scanN_c _ _ _ t w S h1 (by omega) hbs) (hk := ?_)
    rintro _ w1 ⟨rfl, u1, hs⟩
    repeat (first | refine TL_nil ?_ | refine TL_assign (hk := ?_))
    exact T_ret1 rfl rfl ⟨rfl, u1, hs⟩
  rw [if_neg d2]
  repeat (first | refine T_seq ?_ | refine T_region ?_ | refine T_cond_false rfl ?_ | refine T_inBlock ?_ | refine T_skip ?_ | refine TL_eq_f (hk := ?_) | refine TL_nil ?_ | refine TL_assign (hk := ?_))
  exact T_ret1 rfl rfl ⟨rfl, Up.ext (Mod.refl _ _), fun s' h => by cases h⟩
end Go.Proofs.YtjlaomcankmdjaaGreat

namespace Go.Proofs.YtjlaomcankmdjaaGreat
open Go.RowKit Go.Proofs.Eng Go.Proofs.Codec Go.Proofs.Foot Go.Proofs.Journal
set_option linter.unusedSimpArgs false
set_option linter.unusedVariables false set_option maxRecDepth 10000
attribute [local irreducible] T TL LV TH TA
set_option maxHeartbeats 1600000
theorem jloads_get {w : World} : ∀ {xs : List Value} {ps : List (List UInt8)} {b e : Nat} {q : Nat}, Loads w b e xs ps → q < ps.length → ∃ A n c, xs[q]? = some (.slice A n c) ∧ Own w b 5 1 A n c (bv (ps.getD q []))
  | [], [], _, _, _, _, hx => by simp at hx
  | [], _ :: _, _, _, _, h, _ => h.elim
  | _ :: _, [], _, _, _, h, _ => h.elim
  | y :: t, p :: ps, b, e, 0, h, hx => by
    obtain ⟨A, n, c, b', h1, h2, h3, h4, h5⟩ := h
    exact ⟨A, n, c, by rw [h1]; rfl, h2⟩
  | y :: t, p :: ps, b, e, q + 1, h, hx => by
    obtain ⟨A, n, c, b', h1, h2, h3, h4, h5⟩ := h
    obtain ⟨A', n', c', g1, g2⟩ := jloads_get (q := q) h5 (by simpa using hx)
    exact ⟨A', n', c', by simpa using g1, Own.weaken (by simpa using g2) h4⟩
theorem openF_load {l : List UInt8} (h : (openF l).2.2 = 0) : (openF l).1.length ≤ 65536 ∧ (openF l).2.1 = (openF l).1.length + 8 := by
  unfold openF at h ⊢
  split
  · rename_i g; rw [if_pos g] at h; cases h
  · rename_i g
    rw [if_neg g] at h
    split
    · rename_i g; rw [if_pos g] at h; cases h
    · rename_i g
      rw [if_neg g] at h
      split
      · rename_i g; rw [if_pos g] at h; cases h
      · rename_i g
        rw [if_neg g] at h
        split
        · simp only [List.length_take, List.length_drop]; omega
        · rename_i g; rw [if_neg g] at h; cases h
theorem framesF_loads : ∀ (f : Nat) (l : List UInt8), (∀ p ∈ (framesF f l).1, p.length ≤ 65536) ∧ (framesF f l).1.length ≤ f
  | 0, l => ⟨fun p hp => (by cases hp), Nat.le_refl _⟩
  | f + 1, l => by
    unfold framesF
    split
    · exact ⟨fun p hp => (by cases hp), by simp⟩
    · split
      · rename_i h
        obtain ⟨h1, h2⟩ := framesF_loads f (l.drop (openF l).2.1)
        refine ⟨fun p hp => ?_, by simpa using h2⟩
        rcases List.mem_cons.1 hp with rfl | hp
        · exact (openF_load h).1
        · exact h1 p hp
      · exact ⟨fun p hp => (by cases hp), by simp⟩
/-- What Open hands over. -/
def OpO (w w' : World) (base d : Nat) (gd : Nat → Nat) (o : Option LE × Nat × DK) (jp : Value) : Prop :=
  ∃ sl' gd', DiskM w' base d 0 sl' gd' o.2.2 ∧ Tn gd gd' w w' ∧ (match o.1 with
    | none => jp = .pointer none
    | some L => ∃ jb lg slg es g, jp = pB jb ∧ Blk w' jb 111 [pB d, pB lg, .int .i64 (L.l.length : Int)] ∧ LogM w' w.heap.size lg slg es g L ∧ LOk L ∧ g jb = 0 ∧ w.heap.size ≤ jb ∧ (∀ b, gd' b = 0 ∨ g b = 0) ∧ gd' jb = 0)
theorem Open_j {base d : Nat} {sl : SL} {gd : Nat → Nat} {k : DK} (w : World) (D : DiskM w base d 0 sl gd k) (hfit : ∀ b e, getEn b = some e → PFit e.p) :
    Ret Tryz.prog 12 [pB d] w (fun v w' => ∃ jp, v = .tuple #[jp, .int .i64 ((openJ k).2.1 : Int)] ∧ OpO w w' base d gd (openJ k) jp) := by
  have hln := D.ok.ln
  unfold openJ
  refine ret_T (n := 90) Tryz.func12 rfl rfl ?_
  repeat (first | refine T_seq ?_ | refine T_region ?_ | refine T_cond_false rfl ?_ | refine T_block ?_ | refine TL_pnil_f TE (hk := ?_) | refine TL_nil ?_ | refine TL_move (hk := ?_) | refine TL_assign (hk := ?_))
  refine TL_call TE (hc := Dead_c w D) (hk := ?_)
  rintro _ w1 ⟨rfl, D1, T1⟩
  cases hoff : k.off with
  | true =>
    rw [if_pos rfl]
    repeat (first | refine T_seq ?_ | refine T_region ?_ | refine T_cond_true rfl ?_ | refine TL_nil ?_ | refine TL_assign (hk := ?_))
    exact T_ret2 rfl rfl rfl ⟨_, rfl, sl, gd, D1, T1, rfl⟩
  | false => ?_
  rw [if_neg (by decide)]
  repeat (first | refine T_seq ?_ | refine T_region ?_ | refine T_cond_false rfl ?_ | refine T_inBlock ?_ | refine T_skip ?_ | refine TL_nil ?_ | refine TL_move (hk := ?_) | refine TL_assign (hk := ?_))
  refine TL_call TE (hc := Bytes_c w1 D1) (hk := ?_)
  rintro _ w2 ⟨Y, rfl, D2, T2, oY⟩
  have hbd : bytesD k = k.b := by unfold bytesD; rw [hoff]; rfl
  rw [hbd] at oY
  have hYl := oY.len
  simp only [bv_length, Nat.mul_one] at hYl
  have hYc := oY.cap.1
  have T02 := T1.trans T2
  repeat (first | refine T_seq ?_ | refine T_region ?_ | refine TL_nil ?_ | refine TL_move (hk := ?_) | refine TL_assign (hk := ?_))
  refine TL_call TE (hc := Frames_c Y.1 Y.2.1 Y.2.2 k.b w2 oY.rd (by omega) hYc) (hk := ?_)
  rintro _ w3 ⟨AF, nF, cF, xs, rfl, e3, oF, LF⟩
  obtain ⟨fr, hfr⟩ : ∃ fr, frames k.b = fr := ⟨_, rfl⟩
  have hfl := framesF_loads k.b.length k.b
  have hfr' : framesF k.b.length k.b = fr := hfr
  rw [hfr'] at hfl
  rw [hfr] at LF ⊢
  have D3 := D2.ext e3
  have T03 := T02.trans (Tn.ext (o := gd) e3)
  have z3 := e3.size
  have hxl : xs.length = nF := by have := oF.len; simpa using this
  have hpl : xs.length = fr.1.length := LF.len
  by_cases c1 : fr.2.2 ≠ 0 ∧ fr.2.2 ≠ 3
  · rw [if_pos c1]
    obtain ⟨c11, c12⟩ := c1
    repeat (first | refine T_seq ?_ | refine T_region ?_ | refine T_cond_true rfl ?_ | refine TL_ne_t (hk := ?_) | refine TL_nil ?_ | refine TL_move (hk := ?_) | refine TL_assign (hk := ?_) | refine TL_yes (hk := ?_) | refine TL_pick_t (hk := ?_) | refine TL_extract (hk := ?_))
    exact T_ret2 rfl rfl rfl ⟨_, rfl, sl, gd, D3, T03, rfl⟩
  rw [if_neg c1]
  repeat (first | refine TL_nil ?_ | refine TL_move (hk := ?_) | refine TL_assign (hk := ?_) | refine TL_extract (hk := ?_))
  refine T_seq ?_
  refine T_join (ι := Unit) (fun _ => [(5, .slice AF nF cF), (4, sL Y), (0, pB d)]) (fun _ w' => w' = w3) (fun kk join => ?_) ?_
  · by_cases c2 : fr.2.2 = 0
    · repeat (first | refine T_seq ?_ | refine T_region ?_ | refine T_cond_false rfl ?_ | refine T_skip ?_ | refine TL_ne_f (hk := ?_) | refine TL_nil ?_ | refine TL_move (hk := ?_) | refine TL_no (hk := ?_) | refine TL_pick_f (hk := ?_))
      exact T.sub (join () _ rfl) (.c rfl (.c rfl (.c rfl (.n))))
    · have c3 : fr.2.2 = 3 := by omega
      repeat (first | refine T_seq ?_ | refine T_region ?_ | refine T_cond_false rfl ?_ | refine T_skip ?_ | refine TL_ne_t (hk := ?_) | refine TL_ne_f (hk := ?_) | refine TL_nil ?_ | refine TL_move (hk := ?_) | refine TL_yes (hk := ?_) | refine TL_pick_t (hk := ?_))
      exact T.sub (join () _ rfl) (.c rfl (.c rfl (.c rfl (.n))))
  rintro _ w4 rfl
  repeat (first | refine T_seq ?_ | refine T_region ?_)
  refine TL_call TE (hc := LNew_c w4) (hk := ?_)
  rintro _ w5 ⟨lg, g0, rfl, e5, L5⟩
  repeat (refine TL_build TE (hk := ?_))
  refine TL_box (hk := ?_); intro sb w6 e6 h6 h6' k6
  have z5 := e5.size
  have z6 := e6.size
  have hg0 : ∀ b, g0 b ≠ 0 → b < w5.heap.size := fun b hb => (L5.old b hb).2
  have gsb : g0 sb = 0 := by
    by_cases q : g0 sb = 0
    · exact q
    · have := hg0 sb q; omega
  have S6 : ScM w6 w4.heap.size sb lg (none, 0, 0) [] g0 (none, 0, 0) [] sc0 := ⟨k6, L5.ext e6, ⟨Nat.zero_le _, by decide, trivial⟩, Own.nil _ _ _ _, rfl, fun z hz => (by cases hz), gsb, fun q => (by cases q), fun u hu => (by cases hu), by omega, Nat.zero_le _⟩
  have e46 := e5.ext e6
  repeat (first | refine T_seq ?_ | refine T_region ?_ | refine T_block ?_ | refine TL_nil ?_ | refine TL_move (hk := ?_) | refine TL_assign (hk := ?_) | refine TL_len TE (hk := ?_))
  refine T_loop (ι := (Nat × Nat × Nat) × SC) (fun i => [(40, .int .i64 (i.1.1 : Int)), (39, .int .i64 (nF : Int)), (38, .slice AF nF cF), (10, .int .i64 (i.1.2.2 : Int)), (9, .int .i64 (i.1.2.1 : Int)), (8, pB sb), (4, sL Y), (0, pB d)])
    (fun i w' => i.1.1 ≤ nF ∧ Ext w4 w' ∧ (∃ sl es g y ys, ScM w' w4.heap.size sb lg sl es g y ys i.2) ∧ scanF (fr.1.drop i.1.1) i.2 i.1.2.1 i.1.2.2 = scanF fr.1 sc0 0 0 ∧ i.1.2.1 ≤ 70000 * i.1.1 ∧ i.1.2.2 ≤ i.1.2.1) (fun i => nF - i.1.1) ((0, 0, 0), sc0) (.c rfl (.c rfl (.c rfl (.c rfl (.c rfl (.c rfl (.c rfl (.c rfl (.n)))))))))
    ⟨Nat.zero_le _, e46, ⟨_, _, _, _, _, S6⟩, rfl, Nat.zero_le _, Nat.zero_le _⟩ ?_
  rintro ⟨⟨i, at_, wh⟩, s⟩ w7 ⟨hi, e7, ⟨sl7, es7, g7, y7, ys7, S7⟩, hsc, hat, hwh⟩ ih
  simp only at hi e7 S7 hsc hat hwh ih ⊢
  have z7 := e7.size
  by_cases hlt : i < nF
  · have hip : i < fr.1.length := by omega
    obtain ⟨A, n, c, hxi, ox⟩ := jloads_get (q := i) LF hip
    have hp0 : fr.1.getD i [] = fr.1[i] := by rw [List.getD_eq_getElem?_getD, List.getElem?_eq_getElem hip]; rfl
    have hp1 := hfl.1 _ (List.getElem_mem hip)
    rw [hp0] at ox
    rw [List.drop_eq_getElem_cons hip] at hsc
    obtain ⟨p, hp⟩ : ∃ p, fr.1[i] = p := ⟨_, rfl⟩
    rw [hp] at ox hp1 hsc
    have hpn := ox.len
    simp only [bv_length, Nat.mul_one] at hpn
    have oc := ox.cap.1
    have ox7 := ox.be e7
    have oF7 := oF.be e7
    have hAF : AF ≠ none := by obtain ⟨_, _, hq, _⟩ := oF.rd.2 (by omega); rw [hq]; simp
    have rF7 := oF7.rd
    repeat (first | refine T_seq ?_ | refine T_region ?_ | refine T_cond_true rfl ?_ | refine T_block ?_ | refine T_skip ?_ | refine TL_lt_t (hk := ?_) | refine TL_nil ?_ | refine TL_move (hk := ?_) | refine TL_assign (hk := ?_) | refine TL_load_rd TE (hk := ?_) | refine TL_indexAddr1n TE (hk := ?_))
    refine TL_call TE (hc := scanR_c A n c p w7 S7 ox7.rd (by omega) oc z7 hfit) (hk := ?_)
    rintro _ w8 ⟨rfl, u8, hs8⟩
    have e8 := u8.to e7 (Nat.le_refl _)
    have hsc2 : (match scR s p with
      | none => none
      | some s' => scanF (fr.1.drop (i + 1)) s' (at_ + (p.length + 8)) (if gb p 0 = 2 then at_ + (p.length + 8) else wh)) = scanF fr.1 sc0 0 0 := hsc
    cases hq : scR s p with
    | none =>
      rw [hq] at hsc2
      rw [← hsc2]
      repeat (first | refine T_seq ?_ | refine T_region ?_ | refine T_cond_true rfl ?_ | refine TL_nil ?_ | refine TL_assign (hk := ?_) | refine TL_not (hk := ?_))
      exact T_ret2 rfl rfl rfl ⟨_, rfl, sl, gd, D3.ext e8, T03.trans (Tn.ext (o := gd) e8), rfl⟩
    | some s' => ?_
    rw [hq] at hsc2 hs8
    simp only at hsc2
    have hs9 := hs8 s' rfl
    have hp0' : 0 < n := by
      cases p with
      | nil => cases hq
      | cons x t => simp at hpn; omega
    have ox8 := ox.be e8
    have rx8 := ox8.rd
    have hA : A ≠ none := by obtain ⟨_, _, hq, _⟩ := ox.rd.2 (by omega); rw [hq]; simp
    rw [hpn] at hsc2
    obtain ⟨kk, hkk⟩ : ∃ x, gb p 0 = x := ⟨_, rfl⟩
    rw [hkk] at hsc2
    have hat2 : at_ ≤ 400000000000 := by omega
    obtain ⟨at2, hat3⟩ : ∃ x, at_ + (n + 8) = x := ⟨_, rfl⟩
    have hai : (at_ : Int) + ((n : Int) + 8) = (at2 : Int) := by omega
    rw [hat3] at hsc2
    repeat (first | refine T_seq ?_ | refine T_region ?_ | refine T_cond_false rfl ?_ | refine T_skip ?_ | refine TL_add (hk := ?_) | refine TL_nil ?_ | refine TL_move (hk := ?_) | refine TL_assign (hk := ?_) | (refine TL_load_b TE (hk := ?_); intro _) | refine TL_indexAddr1n TE (hk := ?_) | refine TL_len TE (hk := ?_) | refine TL_not (hk := ?_))
    rw [hkk, hai]
    by_cases d2 : kk = 2
    · rw [if_pos d2] at hsc2
      repeat (first | refine T_region ?_ | refine T_cond_true rfl ?_ | refine T_inBlock ?_ | refine TL_add (hk := ?_) | refine TL_eq_t (hk := ?_) | refine TL_nil ?_ | refine TL_move (hk := ?_) | refine TL_assign (hk := ?_))
      exact ih ((i + 1, at2, at2), s') _ _ (by simp only; omega) ⟨by show i + 1 ≤ nF; omega, e8, hs9, hsc2, by show at2 ≤ 70000 * (i + 1); omega, Nat.le_refl _⟩ (.c rfl (.c rfl (.c rfl (.c rfl (.c rfl (.c rfl (.c rfl (.c rfl (.n)))))))))
    · rw [if_neg d2] at hsc2
      repeat (first | refine T_region ?_ | refine T_cond_false rfl ?_ | refine T_inBlock ?_ | refine T_skip ?_ | refine TL_add (hk := ?_) | refine TL_eq_f (hk := ?_) | refine TL_nil ?_ | refine TL_move (hk := ?_))
      exact ih ((i + 1, at2, wh), s') _ _ (by simp only; omega) ⟨by show i + 1 ≤ nF; omega, e8, hs9, hsc2, by show at2 ≤ 70000 * (i + 1); omega, by show wh ≤ at2; omega⟩ (.c rfl (.c rfl (.c rfl (.c rfl (.c rfl (.c rfl (.c rfl (.c rfl (.n)))))))))
  · clear ih
    obtain rfl : i = nF := by omega
    rw [List.drop_of_length_le (by omega)] at hsc
    have hsc2 : scanF fr.1 sc0 0 0 = some (s, wh) := hsc.symm
    rw [hsc2]
    unfold open2
    have D7 := D3.ext e7
    have T07 := T03.trans (Tn.ext (o := gd) e7)
    have hY : (k.b.length : Int) = (Y.2.1 : Int) := by omega
    obtain ⟨r1, hr1⟩ : ∃ r, (if wh < k.b.length then opD k (cutD (wh : Int)) else (k, 0)) = r := ⟨_, rfl⟩
    simp only
    rw [hr1]
    refine T_seq ?_
    refine T_region ?_
    repeat (first | refine TL_lt_f (hk := ?_) | refine TL_nil ?_)
    refine T_seq ?_
    repeat (first | refine T_cond_false rfl ?_ | refine T_exit rfl ?_)
    have hdis : ∀ b, gd b = 0 ∨ g7 b = 0 := fun b => by
      by_cases q : gd b = 0
      · exact .inl q
      · right
        have h1 := (D3.old b q).2
        by_cases q2 : g7 b = 0
        · exact q2
        · have h2 := (S7.log.old b q2).1; omega
    have gdsb : gd sb = 0 := by
      by_cases q : gd sb = 0
      · exact q
      · have h1 := (D3.old sb q).2; have h2 := S7.hs; omega
    have hbs7 := S7.blk
    refine T_seq ?_
    refine T_join (ι := SL × (Nat → Nat)) (fun _ => [(10, .int .i64 (wh : Int)), (8, pB sb), (0, pB d)]) (fun i w' => r1.2 = 0 ∧ DiskM w' base d 0 i.1 i.2 r1.1 ∧ Tn gd i.2 w w' ∧ LogM w' w4.heap.size lg sl7 es7 g7 s.log ∧ Blk w' sb 109 [pB lg, sL y7, .int .i64 s.ep, .int .i64 s.last] ∧ (∀ b, i.2 b = 0 ∨ g7 b = 0) ∧ i.2 sb = 0) (fun kk join => ?_) ?_
    · by_cases c3 : wh < k.b.length
      · rw [if_pos c3] at hr1
        have c3' : (wh : Int) < (Y.2.1 : Int) := by omega
        repeat (first | refine T_seq ?_ | refine T_region ?_ | refine T_cond_true rfl ?_ | refine TL_lt_t (hk := ?_) | refine TL_nil ?_ | refine TL_move (hk := ?_) | refine TL_len TE (hk := ?_))
        refine TL_call TE (hc := Cut_c (wh : Int) w7 D7) (hk := ?_)
        rintro _ w8 ⟨rfl, sl8, gd8, D8, T8⟩
        rw [hr1] at D8 ⊢
        have T08 := T07.trans T8
        obtain ⟨L8, hd8⟩ := S7.log.tn T8 hdis
        have k8 : Blk w8 sb 109 [pB lg, sL y7, .int .i64 s.ep, .int .i64 s.last] := by
          obtain ⟨⟨Z, m8, s8⟩, -, -⟩ := T8
          exact hbs7.mod m8 (fun q => s8 sb q gdsb)
        have gd8sb : gd8 sb = 0 := T8.old gdsb hbs7.lt
        by_cases c4 : r1.2 = 0
        · have c4' : ((r1.2 : Nat) : Int) = 0 := by omega
          repeat (first | refine T_seq ?_ | refine T_region ?_ | refine T_cond_false rfl ?_ | refine T_skip ?_ | refine TL_ne_f (hk := ?_) | refine TL_nil ?_ | refine TL_move (hk := ?_) | refine TL_assign (hk := ?_))
          exact T.sub (join (sl8, gd8) _ ⟨c4, D8, T08, L8, k8, hd8, gd8sb⟩) (.c rfl (.c rfl (.c rfl (.n))))
        · have c4' : ¬ ((r1.2 : Nat) : Int) = 0 := by omega
          rw [if_pos c4]
          repeat (first | refine T_seq ?_ | refine T_region ?_ | refine T_cond_true rfl ?_ | refine TL_ne_t (hk := ?_) | refine TL_nil ?_ | refine TL_move (hk := ?_) | refine TL_assign (hk := ?_))
          exact T_ret2 rfl rfl rfl ⟨_, rfl, sl8, gd8, D8, T08, rfl⟩
      · rw [if_neg c3] at hr1
        have c3' : ¬ (wh : Int) < (Y.2.1 : Int) := by omega
        repeat (first | refine T_seq ?_ | refine T_region ?_ | refine T_cond_false rfl ?_ | refine T_skip ?_ | refine TL_lt_f (hk := ?_) | refine TL_nil ?_ | refine TL_move (hk := ?_) | refine TL_len TE (hk := ?_))
        exact T.sub (join (sl, gd) _ ⟨by rw [← hr1], by rw [← hr1]; exact D7, T07, S7.log, hbs7, hdis, gdsb⟩) (.c rfl (.c rfl (.c rfl (.n))))
    rintro ⟨sl8, gd8⟩ w8 ⟨hr0, D8, T08, L8, k8, hd8, gs8⟩
    simp only at D8 T08 hd8 gs8
    rw [if_neg (by omega)]
    have hLok := S7.ok
    clear D7 T07 S7 hbs7 hdis gdsb
    obtain ⟨k1, hk1⟩ : ∃ x, r1.1 = x := ⟨_, rfl⟩
    rw [hk1] at D8 ⊢
    unfold open3
    obtain ⟨r2, hr2⟩ : ∃ r, (if safeD k1 < wh then opD k1 synD else (k1, 0)) = r := ⟨_, rfl⟩
    rw [hr2]
    refine T_seq ?_
    refine T_join (ι := SL × (Nat → Nat)) (fun _ => [(8, pB sb), (0, pB d)]) (fun i w' => r2.2 = 0 ∧ DiskM w' base d 0 i.1 i.2 r2.1 ∧ Tn gd i.2 w w' ∧ LogM w' w4.heap.size lg sl7 es7 g7 s.log ∧ Blk w' sb 109 [pB lg, sL y7, .int .i64 s.ep, .int .i64 s.last] ∧ (∀ b, i.2 b = 0 ∨ g7 b = 0) ∧ i.2 sb = 0) (fun kk join => ?_) ?_
    · repeat (first | refine T_seq ?_ | refine T_region ?_ | refine TL_move (hk := ?_))
      refine TL_call TE (hc := Safe_c w8 D8) (hk := ?_)
      rintro _ w9 ⟨rfl, D9, T9⟩
      have T09 := T08.trans T9
      obtain ⟨L9, hd9⟩ := L8.tn T9 hd8
      have k9 : Blk w9 sb 109 [pB lg, sL y7, .int .i64 s.ep, .int .i64 s.last] := by
        obtain ⟨⟨Z, m8, s8⟩, -, -⟩ := T9
        exact k8.mod m8 (fun q => s8 sb q gs8)
      by_cases c3 : safeD k1 < wh
      · rw [if_pos c3] at hr2
        have c3' : ((safeD k1 : Nat) : Int) < (wh : Int) := by omega
        repeat (first | refine T_seq ?_ | refine T_region ?_ | refine T_cond_true rfl ?_ | refine TL_lt_t (hk := ?_) | refine TL_nil ?_ | refine TL_move (hk := ?_))
        refine TL_call TE (hc := Sync_c w9 D9) (hk := ?_)
        rintro _ w10 ⟨rfl, sl10, gd10, D10, T10⟩
        rw [hr2] at D10 ⊢
        have T010 := T09.trans T10
        obtain ⟨L10, hd10⟩ := L9.tn T10 hd9
        have k10 : Blk w10 sb 109 [pB lg, sL y7, .int .i64 s.ep, .int .i64 s.last] := by
          obtain ⟨⟨Z, m8, s8⟩, -, -⟩ := T10
          exact k9.mod m8 (fun q => s8 sb q gs8)
        have gd10sb : gd10 sb = 0 := T10.old gs8 k9.lt
        by_cases c4 : r2.2 = 0
        · have c4' : ((r2.2 : Nat) : Int) = 0 := by omega
          repeat (first | refine T_seq ?_ | refine T_region ?_ | refine T_cond_false rfl ?_ | refine T_skip ?_ | refine TL_ne_f (hk := ?_) | refine TL_nil ?_ | refine TL_move (hk := ?_) | refine TL_assign (hk := ?_))
          exact T.sub (join (sl10, gd10) _ ⟨c4, D10, T010, L10, k10, hd10, gd10sb⟩) (.c rfl (.c rfl (.n)))
        · have c4' : ¬ ((r2.2 : Nat) : Int) = 0 := by omega
          rw [if_pos c4]
          repeat (first | refine T_seq ?_ | refine T_region ?_ | refine T_cond_true rfl ?_ | refine TL_ne_t (hk := ?_) | refine TL_nil ?_ | refine TL_move (hk := ?_) | refine TL_assign (hk := ?_))
          exact T_ret2 rfl rfl rfl ⟨_, rfl, sl10, gd10, D10, T010, rfl⟩
      · rw [if_neg c3] at hr2
        have c3' : ¬ ((safeD k1 : Nat) : Int) < (wh : Int) := by omega
        repeat (first | refine T_cond_false rfl ?_ | refine T_skip ?_ | refine TL_lt_f (hk := ?_) | refine TL_nil ?_ | refine TL_move (hk := ?_))
        exact T.sub (join (sl8, gd8) _ ⟨by rw [← hr2], by rw [← hr2]; exact D9, T09, L9, k9, hd9, gs8⟩) (.c rfl (.c rfl (.n)))
    rintro ⟨sl9, gd9⟩ w9 ⟨hr0', D9, T09, L9, k9, hd9, gs9⟩
    simp only at D9 T09 hd9 gs9
    rw [if_neg (by omega)]
    repeat (refine T_seq ?_)
    refine T_region_any TE.mixed ([] : List Nat) ?_; intro w10 e10 z10
    have k10 := k9.be e10
    have hsD : sb ∉ ([] : List Nat) := by simp
    (refine TA_take 0 rfl (by kernel_rfl) (by kernel_rfl) (by kernel_rfl) ?_; (repeat (first | refine TL_move (hk := ?_) | refine TLP_load TE (hk := ?_) | refine TL_fieldAddr TE (hk := ?_) | refine TL_nilCheck (hk := ?_))); refine TL_nil_p ?_); (refine TA_take 1 rfl (by kernel_rfl) (by kernel_rfl) (by kernel_rfl) ?_; (repeat (first | refine TL_move (hk := ?_) | refine TLP_load TE (hk := ?_) | refine TL_fieldAddr TE (hk := ?_) | refine TL_nilCheck (hk := ?_))); refine TL_nil_p ?_); (refine TA_take 2 rfl (by kernel_rfl) (by kernel_rfl) (by kernel_rfl) ?_; (repeat (first | refine TL_move (hk := ?_) | refine TLP_load TE (hk := ?_) | refine TL_fieldAddr TE (hk := ?_) | refine TL_nilCheck (hk := ?_))); refine TL_nil_p ?_); (refine TA_take 3 rfl (by kernel_rfl) (by kernel_rfl) (by kernel_rfl) ?_; (repeat (first | refine TL_move (hk := ?_) | refine TLP_load TE (hk := ?_) | refine TL_fieldAddr TE (hk := ?_) | refine TL_nilCheck (hk := ?_))); refine TL_nil_p ?_); (refine TA_take 4 rfl (by kernel_rfl) (by kernel_rfl) (by kernel_rfl) ?_; (repeat (first | refine TL_move (hk := ?_) | refine TLP_load TE (hk := ?_) | refine TL_fieldAddr TE (hk := ?_) | refine TL_nilCheck (hk := ?_))); refine TL_nil_p ?_); (refine TA_take 5 rfl (by kernel_rfl) (by kernel_rfl) (by kernel_rfl) ?_; (repeat (first | refine TL_move (hk := ?_) | refine TLP_load TE (hk := ?_) | refine TL_fieldAddr TE (hk := ?_) | refine TL_nilCheck (hk := ?_))); refine TL_nil_p ?_); (refine TA_take 6 rfl (by kernel_rfl) (by kernel_rfl) (by kernel_rfl) ?_; (repeat (first | refine TL_move (hk := ?_) | refine TLP_load TE (hk := ?_) | refine TL_fieldAddr TE (hk := ?_) | refine TL_nilCheck (hk := ?_))); refine TL_nil_p ?_); (refine TA_take 7 rfl (by kernel_rfl) (by kernel_rfl) (by kernel_rfl) ?_; (repeat (first | refine TL_move (hk := ?_) | refine TLP_load TE (hk := ?_) | refine TL_fieldAddr TE (hk := ?_) | refine TL_nilCheck (hk := ?_))); refine TL_nil_p ?_); (refine TA_take 8 rfl (by kernel_rfl) (by kernel_rfl) (by kernel_rfl) ?_; (repeat (first | refine TL_move (hk := ?_) | refine TLP_load TE (hk := ?_) | refine TL_fieldAddr TE (hk := ?_) | refine TL_nilCheck (hk := ?_))); refine TL_nil_p ?_)
    refine TA_one 9 rfl (by kernel_rfl) (by kernel_rfl) ?_; (try refine TL_yes (hk := ?_)); refine TL_call TE (hc := (LLen_c w10 (L9.ext e10))) (hq := (by rintro _ _ ⟨_, h⟩; rw [h]; exact Mod.refl _ _)) (hk := ?_)
    rintro _ w11 ⟨rfl, hw11⟩
    rw [hw11]
    clear hw11 w11
    refine TL_nil_p ?_
    (refine TA_take 10 rfl (by kernel_rfl) (by kernel_rfl) (by kernel_rfl) ?_; (repeat (refine TL_build TE (hk := ?_))); refine TL_nil_p ?_)
    refine TA_one 11 rfl (by kernel_rfl) (by kernel_rfl) ?_
    refine TL_box (hf := rfl) (hq := fun _ e => e) (hk := ?_); intro jb w12 e12 h12 h12' k12
    refine TL_nil_p ?_
    (refine TA_take 12 rfl (by kernel_rfl) (by kernel_rfl) (by kernel_rfl) ?_; (repeat (refine TL_assign (hk := ?_))); refine TL_nil_p ?_); (refine TA_take 13 rfl (by kernel_rfl) (by kernel_rfl) (by kernel_rfl) ?_; (repeat (refine TL_assign (hk := ?_))); refine TL_nil_p ?_)
    refine TA_done (by kernel_rfl) ?_
    --
    have ee := e10.ext e12
    have z10 := e10.size
    have hw4 : w.heap.size ≤ w4.heap.size := T03.size
    have D12 := D9.ext ee
    have L12 := L9.ext ee
    have gj : g7 jb = 0 := by
      by_cases q : g7 jb = 0
      · exact q
      · have := (L9.old jb q).2; omega
    have gdj : gd9 jb = 0 := by
      by_cases q : gd9 jb = 0
      · exact q
      · have := (D9.old jb q).2; omega
    exact T_ret2 rfl rfl rfl ⟨_, rfl, sl9, gd9, D12, T09.trans (Tn.ext (o := gd9) ee), jb, lg, sl7, es7, g7, rfl, k12, { L12 with ow := Own.weaken L12.ow hw4, old := fun b hb => by have := L12.old b hb; omega }, hLok, gj, by have := T09.size; omega, hd9, gdj⟩
end Go.Proofs.YtjlaomcankmdjaaGreat

namespace Go.Proofs.YtjlaomcankmdjaaGreat
open Go.RowKit Go.Proofs.Eng Go.Proofs.Codec Go.Proofs.Foot Go.Proofs.Journal
set_option linter.unusedSimpArgs false
set_option linter.unusedVariables false set_option maxRecDepth 10000
attribute [local irreducible] T TL LV TH TA
set_option maxHeartbeats 1600000
/-- A journal in memory. -/
structure JrM (w : World) (base jb d lg : Nat) (sd : SL) (gd : Nat → Nat) (k : DK) (sl : SL) (es : List EM) (g : Nat → Nat) (L : LE) (fl : Int) : Prop where
  blk : Blk w jb 111 [pB d, pB lg, .int .i64 fl]
  dk : DiskM w base d 0 sd gd k
  log : LogM w base lg sl es g L
  ok : LOk L
  ap : ∀ b, gd b = 0 ∨ g b = 0
  gj : g jb = 0
  dj : gd jb = 0
  hj : base ≤ jb
/-- Whose blocks a journal may turn. -/
def oJ (jb : Nat) (gd : Nat → Nat) (b : Nat) : Nat := if b = jb then 1 else gd b
theorem oJ_ne {jb b : Nat} {gd : Nat → Nat} (h : b ≠ jb) : oJ jb gd b = gd b := if_neg h
theorem oJ_at {jb : Nat} {gd : Nat → Nat} : oJ jb gd jb = 1 := if_pos rfl
section
variable {w w' : World} {base jb d lg : Nat} {sd : SL} {gd gd' : Nat → Nat} {k : DK} {sl : SL} {es : List EM} {g : Nat → Nat} {L : LE} {fl : Int}
theorem JrM.ext (J : JrM w base jb d lg sd gd k sl es g L fl) (e : Ext w w') : JrM w' base jb d lg sd gd k sl es g L fl := { J with blk := J.blk.be e, dk := J.dk.ext e, log := J.log.ext e }
theorem JrM.old (J : JrM w base jb d lg sd gd k sl es g L fl) : ∀ b, oJ jb gd b ≠ 0 → base ≤ b ∧ b < w.heap.size := fun b hb => by
  by_cases q : b = jb
  · rw [q]; exact ⟨J.hj, J.blk.lt⟩
  · rw [oJ_ne q] at hb; exact J.dk.old b hb
theorem oJ_tn (t : Tn gd gd' w w') : Tn (oJ jb gd) (oJ jb gd') w w' := by
  obtain ⟨⟨S, m, s⟩, n, z⟩ := t
  refine ⟨⟨S, m, fun b hb => ?_⟩, fun b hb => ?_, z⟩
  · unfold oJ; split
    · decide
    · exact s b hb
  · unfold oJ at hb ⊢
    split at hb
    · rename_i q; left; rw [if_pos q]; decide
    · rename_i q; rw [if_neg q]; exact n b hb
theorem oJ_one (m : Eng.Mod [jb] w w') : Tn (oJ jb gd) (oJ jb gd) w w' := ⟨⟨_, m, fun b hb => by rw [List.mem_singleton.1 hb, oJ_at]; decide⟩, fun b hb => .inl hb, m.size⟩
/-- The disk turns. -/
theorem JrM.disk (J : JrM w base jb d lg sd gd k sl es g L fl) {sd' : SL} {k' : DK} (D : DiskM w' base d 0 sd' gd' k') (t : Tn gd gd' w w') : JrM w' base jb d lg sd' gd' k' sl es g L fl := by
  obtain ⟨L', h'⟩ := J.log.tn t J.ap
  refine ⟨?_, D, L', J.ok, h', J.gj, t.old J.dj J.blk.lt, J.hj⟩
  obtain ⟨⟨S, m, s⟩, -, -⟩ := t
  exact J.blk.mod m (fun q => s jb q J.dj)
end
/-- So many entries' frames. -/
def frB (l : List EE) (i : Nat) : List UInt8 := ((l.take i).map fun e => kindF 1 (putEn [] e).1).flatten
theorem frB_succ (l : List EE) (i : Nat) (h : i < l.length) (d : EE) : frB l (i + 1) = frB l i ++ kindF 1 (putEn [] (l.getD i d)).1 := by
  unfold frB
  rw [List.take_succ_eq_append_getElem h, List.map_append, List.flatten_append, List.getD_eq_getElem?_getD, List.getElem?_eq_getElem h]
  simp
theorem frB_all (l : List EE) (ep : Int) : frB l l.length ++ kindF 2 (encU ep.toNat) = epF ep l := by unfold frB epF; rw [List.take_length]
theorem jframe_len (b : List UInt8) : (frame b).length = b.length + 8 := by
  unfold frame four
  simp only [List.length_append, List.length_cons, List.length_nil]
  omega
theorem kindF_len (c : Nat) (b : List UInt8) : (kindF c b).length = b.length + 9 := by unfold kindF; rw [jframe_len, List.length_cons]
theorem frB_len {l : List EE} (h : ∀ e ∈ l, EOk e) : ∀ i, i ≤ l.length → (frB l i).length ≤ 6000 * i
  | 0, _ => by simp [frB]
  | i + 1, hi => by
    have h1 := frB_len h i (by omega)
    have hm : l.getD i (emE em0) ∈ l := by rw [List.getD_eq_getElem?_getD, List.getElem?_eq_getElem (by omega)]; exact List.getElem_mem _
    have h2 := entB_len (h _ hm)
    rw [frB_succ l i (by omega) (emE em0), List.length_append, kindF_len, putEn_ok (h _ hm)]
    simp only
    omega
theorem fromL_mem {L : LE} {s m : Nat} : ∀ e ∈ fromL L s m, e ∈ L.l := fun e he => List.mem_of_mem_drop (List.mem_of_mem_take he)
theorem Write_c {base jb d lg : Nat} {sd : SL} {gd : Nat → Nat} {k : DK} {sl : SL} {es : List EM} {g : Nat → Nat} {L : LE} {fl : Int} (ep : Int) (A : Option Addr) (n c : Nat) (xs : List PM) (w : World) (J : JrM w base jb d lg sd gd k sl es g L fl)
    (hp : Rd w A n 7 (rowV pmV xs)) (hx : ∀ x ∈ xs, PLies w x ∧ PFit x.p) (hA : ∀ b ∈ blkL A, b < w.heap.size) (hB : ∀ x ∈ xs, ∀ b ∈ pmB x, b < w.heap.size) (hn : n ≤ 1000000) (hep : -9223372036854775808 ≤ ep ∧ ep ≤ 9223372036854775807) :
    Ret Tryz.prog 18 [pB jb, .int .i64 ep, .slice A n c] w (fun v w' => v = .tuple #[.int .i64 (writeJ L k ep (xs.map (·.p))).1.2.1, .int .i64 ((writeJ L k ep (xs.map (·.p))).1.2.2 : Int)] ∧
      ∃ lg' sd' gd' sl' es' g', JrM w' base jb d lg' sd' gd' (writeJ L k ep (xs.map (·.p))).2 sl' es' g' (writeJ L k ep (xs.map (·.p))).1.1 fl ∧ Tn (oJ jb gd) (oJ jb gd') w w' ∧ ∀ b, g' b ≠ 0 → g b ≠ 0 ∨ w.heap.size ≤ b) := by
  have hbk := J.blk
  have hL := J.ok
  have hLn := hL.n
  have hxl : xs.length = n := by have := hp.1; rw [rowV_len pmV_len] at this; omega
  obtain ⟨ps, hps⟩ : ∃ ps, xs.map (·.p) = ps := ⟨_, rfl⟩
  have hpsl : ps.length = n := by rw [← hps, List.length_map]; exact hxl
  obtain ⟨ap, hap⟩ : ∃ ap, appL L ep ps = ap := ⟨_, rfl⟩
  rw [hps]
  unfold writeJ
  rw [hap]
  refine ret_T (n := 76) Tryz.func18 rfl rfl ?_
  repeat (first | refine T_seq ?_ | refine T_region ?_ | refine T_cond_false rfl ?_ | refine T_skip ?_ | refine TL_pnil_f TE (hk := ?_) | refine TL_nil ?_ | refine TL_move (hk := ?_) | refine TL_assign (hk := ?_) | refine TL_load TE (hk := ?_) | refine TL_fieldAddr TE (hk := ?_) | refine TL_nilCheck (hk := ?_))
  refine TL_call TE (hc := copied_c w J.log hL) (hk := ?_)
  rintro _ w1 ⟨lg2, sl2, es2, g2, rfl, e1, L1⟩
  have J1 := J.ext e1
  have z1 := e1.size
  have hg2 : ∀ b, b < w.heap.size → g2 b = 0 := fun b hb => by
    by_cases q : g2 b = 0
    · exact q
    · have := (L1.old b q).1; omega
  repeat (first | refine T_seq ?_ | refine T_region ?_ | refine TL_nil ?_ | refine TL_move (hk := ?_) | refine TL_assign (hk := ?_))
  refine TL_call TE (hc := LAppend_c ep A n c xs w1 L1 (hp.be e1) (fun x hm => ⟨(hx x hm).1.be e1, (hx x hm).2⟩) (fun b hb => hg2 b (hA b hb)) (fun x hm b hb => hg2 b (hB x hm b hb)) hn hLn) (hk := ?_)
  rintro _ w2 ⟨rfl, sl3, es3, g3, L2, T2⟩
  rw [hps, hap] at L2 ⊢
  have e02 : Ext w w2 := T2.ext0 e1 (fun b hb => (L1.old b hb).1)
  have J2 := J.ext e02
  have z2 := e02.size
  have hLk2 : LOk ap.1 := by
    rw [← hap]
    exact appL_ok hL hep.2 (fun p hp' => by rw [← hps] at hp'; obtain ⟨x, hm, rfl⟩ := List.mem_map.1 hp'; exact (hx x hm).2)
  by_cases c1 : ap.2.2.1 = 0
  · rw [if_neg (fun q => q c1), c1]
    obtain ⟨b1, b2, b3, b4, b5⟩ := app_ok (L := L) (ep := ep) (ps := ps) (by rw [hap]; exact c1)
    rw [hap] at b5
    have hfi : ap.2.1 = (L.l.length : Int) := by rw [b5]
    rw [hfi]
    repeat (first | refine T_seq ?_ | refine T_region ?_ | refine T_cond_false rfl ?_ | refine T_skip ?_ | refine TL_ne_f (hk := ?_) | refine TL_nil ?_ | refine TL_move (hk := ?_) | refine TL_assign (hk := ?_) | refine TL_len TE (hk := ?_) | refine TL_extract (hk := ?_))
    refine TL_call TE (hc := LFrom_c (L.l.length : Int) (n : Int) w2 L2 hLk2.n (by omega)) (hk := ?_)
    rintro _ w3 ⟨y, ys, rfl, e3, O3⟩
    rw [Int.toNat_natCast, Int.toNat_natCast] at O3
    rw [hpsl]
    obtain ⟨l, hl⟩ : ∃ l, fromL ap.1 L.l.length n = l := ⟨_, rfl⟩
    rw [hl] at O3 ⊢
    have hlok : ∀ e ∈ l, EOk e := fun e he => (hLk2.run.le e (fromL_mem e (by rw [hl]; exact he))).2
    have hyl := O3.len
    have hll : l.length ≤ 65536 := by
      rw [← hl]
      unfold fromL
      rw [List.length_take, List.length_drop]
      have := hLk2.n
      omega
    have hysl : ys.length = l.length := by have := congrArg List.length O3.ee; rwa [List.length_map] at this
    have J3 := J2.ext e3
    have z3 := e3.size
    clear J1
    repeat (first | refine T_block ?_ | refine TL_nil ?_ | refine TL_move (hk := ?_) | refine TL_len TE (hk := ?_))
    refine T_loop (ι := Nat × SL) (fun i => [(42, .int .i64 (i.1 : Int)), (41, .int .i64 (y.2.1 : Int)), (40, sL y), (12, sL i.2), (9, .int .i64 (L.l.length : Int)), (8, pB lg2), (1, .int .i64 ep), (0, pB jb)])
      (fun i w' => i.1 ≤ l.length ∧ Ext w3 w' ∧ Own w' w3.heap.size 5 1 i.2.1 i.2.2.1 i.2.2.2 (bv (frB l i.1))) (fun i => l.length - i.1) (0, (none, 0, 0)) (.c rfl (.c rfl (.c rfl (.c rfl (.c rfl (.c rfl (.c rfl (.c rfl (.n))))))))) ⟨Nat.zero_le _, Mod.refl _ _, by unfold frB; exact Own.nil _ _ _ _⟩ ?_
    rintro ⟨i, Z⟩ w4 ⟨hi, e4, oZ⟩ ih
    simp only at hi oZ ih ⊢
    have z4 := e4.size
    have lZ := oZ.len
    have lF := frB_len hlok i hi
    simp only [bv_length, Nat.mul_one] at lZ
    by_cases hlt : i < l.length
    · have hr := O3.ow.rd.be e4
      have hA' : y.1 ≠ none := by obtain ⟨_, _, hq, _⟩ := hr.2 (by omega); rw [hq]; simp
      have t1 := rowV_elem emV_len ys i em0 (by omega)
      have hmem : ys.getD i em0 ∈ ys := by rw [List.getD_eq_getElem?_getD, List.getElem?_eq_getElem (by omega)]; exact List.getElem_mem _
      obtain ⟨hX, hF, -⟩ := O3.ek _ hmem
      have hat : emE (ys.getD i em0) = l.getD i (emE em0) := by
        rw [← O3.ee, List.getD_eq_getElem?_getD, List.getD_eq_getElem?_getD, List.getElem?_map, List.getElem?_eq_getElem (by omega)]
        rfl
      have hie : l.getD i (emE em0) ∈ l := by rw [List.getD_eq_getElem?_getD, List.getElem?_eq_getElem hlt]; exact List.getElem_mem _
      have hE := hlok _ hie
      have hfs := frB_succ l i hlt (emE em0)
      rw [← hat] at hE hfs
      generalize ys.getD i em0 = x at t1 hX hF hE hfs
      have hEl := entB_len hE
      rw [putEn_ok hE] at hfs
      have hX4 := hX.be e4
      have hyi : (i : Int) < (y.2.1 : Int) := by omega
      repeat (first | refine T_seq ?_ | refine T_region ?_ | refine T_cond_true rfl ?_ | refine T_block ?_ | refine T_skip ?_ | refine TL_lt_t (hk := ?_) | refine TL_nil ?_ | refine TL_indexAddrn TE (hk := ?_))
      refine TL_loada TE (cs := emV x) (hx := rfl) (ht := rfl) (hi := rfl) (hr := hr) (hc := t1) (h0 := Nat.succ_pos _) (hk := ?_)
      --
      refine TL_alloc TE (hk := ?_); intro b5 w5 e5 h5 h5' k5
      --
      refine TL_storea TE (hk := ?_); intro w6 m6 z6 k6
      have z5 := e5.size
      have e46 : Ext w4 w6 := e5.step m6 (fun u hu => .inr (by rw [List.mem_singleton.1 hu]; omega))
      replace k6 : Blk w6 b5 47 (emV x) := k6
      unfold emV pmV at k6
      have hX6 := hX4.be e46
      have oZ6 := oZ.be e46
      repeat (first | refine T_seq ?_ | refine T_region ?_ | refine TL_nil ?_)
      refine TL_loadb TE (cs := emV x) (o := 0) rfl rfl k6 rfl rfl (Nat.succ_pos _) (hk := ?_)
      --
      refine TL_call TE (hc := EPut_c x none 0 0 [] w6 hX6.lies hF hE.sq.2 hE.ep.2 (Own.nil w6 w6.heap.size 5 1).rd (by omega)) (hk := ?_)
      rintro _ w7 ⟨A7, n7, c7, rfl, e7, o7⟩
      rw [putEn_ok hE] at o7 ⊢
      simp only at o7
      have l7 := o7.len
      simp only [bv_length, Nat.mul_one] at l7
      repeat (first | refine T_region ?_ | refine TL_nil ?_ | refine TL_move (hk := ?_) | refine TL_assign (hk := ?_) | refine TL_extract (hk := ?_))
      refine TL_call TE (hc := jframe_c 1 A7 n7 c7 _ w7 o7.rd (by decide) (by omega)) (hk := ?_)
      rintro _ w8 ⟨A8, n8, c8, rfl, e8, o8⟩
      have l8 := o8.len
      rw [bv_length, kindF_len] at l8
      have oZ8 := (oZ6.be e7).be e8
      have z7 := e7.size
      have z8 := e8.size
      have r8 := o8.rd
      --
      refine TL_append TE (ho := oZ8) (hr := r8) (h1 := bv_one _) (hk := ?_); intro A9 c9 w9 o9 m9 n9
      rw [← bv_append, ← hfs] at o9
      repeat (first | refine T_region ?_ | refine T_inBlock ?_ | refine TL_add (hk := ?_) | refine TL_nil ?_ | refine TL_move (hk := ?_) | refine TL_assign (hk := ?_))
      exact ih (i + 1, (A9, Z.2.1 + n8, c9)) w9 _ (by simp only; omega) ⟨by show i + 1 ≤ l.length; omega, (((e4.ext e46).ext e7).ext e8).step m9 (fun u hu => .inr (oZ8.bl u hu).1), o9⟩ (.c rfl (.c rfl (.c rfl (.c rfl (.c rfl (.c rfl (.c rfl (.c rfl (.n)))))))))
    · clear ih
      obtain rfl : i = l.length := by omega
      have hepi : ep = ((ep.toNat : Nat) : Int) := by omega
      have u1 := encU_len64 (show ep.toNat < 2 ^ 64 by omega)
      have hyi : ¬ ((l.length : Nat) : Int) < (y.2.1 : Int) := by omega
      repeat (first | refine T_seq ?_ | refine T_region ?_ | refine T_cond_false rfl ?_ | refine T_exit rfl ?_ | refine TL_lt_f (hk := ?_) | refine TL_nil ?_ | refine TL_move (hk := ?_) | refine TL_conv TE (hk := ?_))
      refine TL_call TE (hc := PutUint_c none 0 0 [] ep.toNat w4 hepi (Own.nil w4 w4.heap.size 5 1).rd (by omega) (by omega)) (hk := ?_)
      rintro _ w5 ⟨A5, n5, c5, rfl, e5, o5⟩
      have l5 := o5.len
      simp only [bv_length, List.length_append, List.length_nil, Nat.mul_one] at l5
      --
      refine TL_call TE (hc := jframe_c 2 A5 n5 c5 _ w5 o5.rd (by decide) (by omega)) (hk := ?_)
      rintro _ w6 ⟨A6, n6, c6, rfl, e6, o6⟩
      have l6 := o6.len
      rw [bv_length, kindF_len] at l6
      simp only [List.length_append, List.length_nil] at l6
      have oZ6 := (oZ.be e5).be e6
      have z5 := e5.size
      have z6 := e6.size
      have r6 := o6.rd
      --
      refine TL_append TE (ho := oZ6) (hr := r6) (h1 := bv_one _) (hk := ?_); intro A7 c7 w7 o7 m7 n7
      rw [← bv_append, List.nil_append, frB_all] at o7
      have e37 : Ext w3 w7 := ((e4.ext e5).ext e6).step m7 (fun u hu => .inr (oZ6.bl u hu).1)
      have J7 := J3.ext e37
      have hbk7 := J7.blk
      have z7 := m7.size
      have e07 : Ext w w7 := (e02.ext e3).ext e37
      repeat (first | refine T_seq ?_ | refine T_region ?_ | refine TL_nil ?_ | refine TL_move (hk := ?_) | refine TL_assign (hk := ?_) | refine TL_load TE (hk := ?_) | refine TL_fieldAddr TE (hk := ?_) | refine TL_nilCheck (hk := ?_))
      refine TL_call TE (hc := Append_c A7 (Z.2.1 + n6) c7 (epF ep l) w7 J7.dk o7.rd (fun q => by have h1 := (o7.bl d q).1; have h2 := J.dk.blk.lt; omega) (by omega)) (hk := ?_)
      rintro _ w8 ⟨rfl, sd8, gd8, D8, T8⟩
      have J8 := J7.disk D8 T8
      have hbk8 := J8.blk
      obtain ⟨r, hr⟩ : ∃ r, opD k (appD (epF ep l)) = r := ⟨_, rfl⟩
      rw [hr] at J8 ⊢
      by_cases c2 : r.2 = 0
      · have c2' : ((r.2 : Nat) : Int) = 0 := by omega
        rw [if_neg (fun q => q c2)]
        have hdis : ∀ b, gd b = 0 ∨ g3 b = 0 := fun b => by
          by_cases q : gd b = 0
          · exact .inl q
          · right
            have h1 := (J.dk.old b q).2
            by_cases q2 : g3 b = 0
            · exact q2
            · have h2 := (L2.old b q2).1; omega
        have hgj : g3 jb = 0 := by
          by_cases q2 : g3 jb = 0
          · exact q2
          · have h2 := (L2.old jb q2).1; have h1 := J.blk.lt; omega
        obtain ⟨L8, hd8⟩ := ((L2.ext e3).ext e37).tn T8 hdis
        repeat (first | refine T_seq ?_ | refine T_region ?_ | refine T_cond_false rfl ?_ | refine T_skip ?_ | refine TL_ne_f (hk := ?_) | refine TL_nil ?_ | refine TL_move (hk := ?_) | refine TL_assign (hk := ?_) | refine TL_fieldAddr TE (hk := ?_) | refine TL_nilCheck (hk := ?_))
        refine TL_store TE (hk := ?_); intro w9 m9 z9 k9
        have gj8 := J8.dj
        have J9 : JrM w9 base jb d lg2 sd8 gd8 r.1 sl3 es3 g3 ap.1 fl := ⟨k9, J8.dk.mod m9 (fun b hb => by rw [List.mem_singleton.1 hb]; exact gj8), by
          have L9 := L8.mod m9 (fun b hb => by rw [List.mem_singleton.1 hb]; exact hgj)
          have hbw : base ≤ w.heap.size := by have := J.hj; have := J.blk.lt; omega
          exact { L9 with ow := Own.weaken L9.ow hbw, old := fun b hb => by have := L9.old b hb; omega }, hLk2, hd8, hgj, gj8, J.hj⟩
        repeat (first | refine T_seq ?_ | refine T_region ?_ | refine TL_nil ?_ | refine TL_move (hk := ?_) | refine TL_assign (hk := ?_))
        exact T_ret2 rfl rfl rfl ⟨rfl, lg2, sd8, gd8, sl3, es3, g3, J9, ((Tn.ext e07).trans (oJ_tn T8)).trans (oJ_one m9), fun b hb => .inr (L2.old b hb).1⟩
      · have c2' : ¬ ((r.2 : Nat) : Int) = 0 := by omega
        rw [if_pos c2]
        repeat (first | refine T_seq ?_ | refine T_region ?_ | refine T_cond_true rfl ?_ | refine TL_ne_t (hk := ?_) | refine TL_nil ?_ | refine TL_move (hk := ?_) | refine TL_assign (hk := ?_))
        exact T_ret2 rfl rfl rfl ⟨rfl, lg, sd8, gd8, sl, es, g, J8, (Tn.ext e07).trans (oJ_tn T8), fun b hb => .inl hb⟩
  · rw [if_pos c1]
    have c1' : ¬ ((ap.2.2.1 : Nat) : Int) = 0 := by omega
    repeat (first | refine T_seq ?_ | refine T_region ?_ | refine T_cond_true rfl ?_ | refine TL_ne_t (hk := ?_) | refine TL_nil ?_ | refine TL_move (hk := ?_) | refine TL_assign (hk := ?_) | refine TL_extract (hk := ?_))
    exact T_ret2 rfl rfl rfl ⟨rfl, lg, sd, gd, sl, es, g, J2, Tn.ext e02, fun b hb => .inl hb⟩
end Go.Proofs.YtjlaomcankmdjaaGreat

namespace Go.Proofs.YtjlaomcankmdjaaGreat
open Go.RowKit Go.Proofs.Eng Go.Proofs.Codec Go.Proofs.Foot Go.Proofs.Journal
set_option linter.unusedSimpArgs false
set_option linter.unusedVariables false set_option maxRecDepth 10000
attribute [local irreducible] T TL LV TH TA
set_option maxHeartbeats 1600000
section
variable {base jb d lg : Nat} {sd : SL} {gd : Nat → Nat} {k : DK} {sl : SL} {es : List EM} {g : Nat → Nat} {L : LE} {fl : Int}
theorem Flush_c (w : World) (J : JrM w base jb d lg sd gd k sl es g L fl) :
    Ret Tryz.prog 25 [pB jb] w (fun v w' => v = .int .i64 ((opD k synD).2 : Int) ∧ ∃ sd' gd', JrM w' base jb d lg sd' gd' (opD k synD).1 sl es g L (if (opD k synD).2 = 0 then (L.l.length : Int) else fl) ∧ Tn (oJ jb gd) (oJ jb gd') w w') := by
  have hb := J.blk
  obtain ⟨r, hr⟩ : ∃ r, opD k synD = r := ⟨_, rfl⟩
  rw [hr]
  refine ret_T (n := 22) Tryz.func25 rfl rfl ?_
  repeat (first | refine T_seq ?_ | refine T_region ?_ | refine T_cond_false rfl ?_ | refine T_skip ?_ | refine TL_pnil_f TE (hk := ?_) | refine TL_nil ?_ | refine TL_move (hk := ?_) | refine TL_assign (hk := ?_) | refine TL_load TE (hk := ?_) | refine TL_fieldAddr TE (hk := ?_) | refine TL_nilCheck (hk := ?_))
  refine TL_call TE (hc := Sync_c w J.dk) (hk := ?_)
  rintro _ w1 ⟨rfl, sd1, gd1, D1, T1⟩
  have J1 := J.disk D1 T1
  have hb1 := J1.blk
  rw [hr] at J1 ⊢
  by_cases c : r.2 = 0
  · have c' : ((r.2 : Nat) : Int) = 0 := by omega
    rw [if_pos c]
    repeat (first | refine T_seq ?_ | refine T_region ?_ | refine T_cond_true rfl ?_ | refine TL_eq_t (hk := ?_) | refine TL_nil ?_ | refine TL_move (hk := ?_) | refine TL_assign (hk := ?_) | refine TL_load TE (hk := ?_) | refine TL_fieldAddr TE (hk := ?_) | refine TL_nilCheck (hk := ?_))
    refine TL_call TE (hc := LLen_c w1 J1.log) (hk := ?_)
    rintro _ w2 ⟨rfl, hw2⟩
    rw [hw2]
    clear hw2 w2
    repeat (first | refine TL_fieldAddr TE (hk := ?_) | refine TL_nilCheck (hk := ?_))
    refine TL_store TE (hk := ?_); intro w3 m3 z3 k3
    have hJ3 : JrM w3 base jb d lg sd1 gd1 r.1 sl es g L (L.l.length : Int) := { J1 with blk := k3, dk := J1.dk.mod m3 (fun b hb => by rw [List.mem_singleton.1 hb]; exact J1.dj), log := J1.log.mod m3 (fun b hb => by rw [List.mem_singleton.1 hb]; exact J1.gj) }
    repeat (first | refine T_seq ?_ | refine T_region ?_ | refine TL_nil ?_ | refine TL_move (hk := ?_) | refine TL_assign (hk := ?_))
    exact T_ret1 rfl rfl ⟨by rw [c], sd1, gd1, hJ3, (oJ_tn T1).trans (oJ_one m3)⟩
  · have c' : ¬ ((r.2 : Nat) : Int) = 0 := by omega
    rw [if_neg c]
    repeat (first | refine T_seq ?_ | refine T_region ?_ | refine T_cond_false rfl ?_ | refine T_skip ?_ | refine TL_eq_f (hk := ?_) | refine TL_nil ?_ | refine TL_move (hk := ?_) | refine TL_assign (hk := ?_))
    exact T_ret1 rfl rfl ⟨rfl, sd1, gd1, J1, oJ_tn T1⟩
theorem Log_c (w : World) (J : JrM w base jb d lg sd gd k sl es g L fl) : Ret Tryz.prog 29 [pB jb] w (fun v w' => ∃ lg' sl' es' g', v = pB lg' ∧ Ext w w' ∧ LogM w' w.heap.size lg' sl' es' g' L) := by
  have hb := J.blk
  refine ret_T (n := 10) Tryz.func29 rfl rfl ?_
  repeat (first | refine T_seq ?_ | refine T_region ?_ | refine T_cond_false rfl ?_ | refine T_skip ?_ | refine TL_pnil_f TE (hk := ?_) | refine TL_nil ?_ | refine TL_move (hk := ?_) | refine TL_assign (hk := ?_) | refine TL_load TE (hk := ?_) | refine TL_fieldAddr TE (hk := ?_) | refine TL_nilCheck (hk := ?_))
  refine TL_call TE (hc := copied_c w J.log J.ok) (hk := ?_)
  rintro _ w1 ⟨lg', sl', es', g', rfl, e1, L1⟩
  repeat (first | refine TL_nil ?_ | refine TL_assign (hk := ?_))
  exact T_ret1 rfl rfl ⟨lg', sl', es', g', rfl, e1, L1⟩
theorem Written_c (w : World) (J : JrM w base jb d lg sd gd k sl es g L fl) : Ret Tryz.prog 28 [pB jb] w (fun v w' => v = .int .i64 (L.l.length : Int) ∧ w' = w) := by
  have hb := J.blk
  refine ret_T (n := 10) Tryz.func28 rfl rfl ?_
  repeat (first | refine T_seq ?_ | refine T_region ?_ | refine T_cond_false rfl ?_ | refine T_skip ?_ | refine TL_pnil_f TE (hk := ?_) | refine TL_nil ?_ | refine TL_move (hk := ?_) | refine TL_assign (hk := ?_) | refine TL_load TE (hk := ?_) | refine TL_fieldAddr TE (hk := ?_) | refine TL_nilCheck (hk := ?_))
  refine TL_call TE (hc := LLen_c w J.log) (hk := ?_)
  rintro _ w1 ⟨rfl, rfl⟩
  repeat (first | refine TL_nil ?_ | refine TL_assign (hk := ?_))
  exact T_ret1 rfl rfl ⟨rfl, rfl⟩
theorem Flushed_c (w : World) (J : JrM w base jb d lg sd gd k sl es g L fl) : Ret Tryz.prog 26 [pB jb] w (fun v w' => v = .int .i64 fl ∧ w' = w) := by
  have hb := J.blk
  refine ret_T (n := 9) Tryz.func26 rfl rfl ?_
  repeat (first | refine T_seq ?_ | refine T_region ?_ | refine T_cond_false rfl ?_ | refine T_skip ?_ | refine TL_pnil_f TE (hk := ?_) | refine TL_nil ?_ | refine TL_move (hk := ?_) | refine TL_assign (hk := ?_) | refine TL_load TE (hk := ?_) | refine TL_fieldAddr TE (hk := ?_) | refine TL_nilCheck (hk := ?_))
  exact T_ret1 rfl rfl ⟨rfl, rfl⟩
end
theorem jnum_c (z : Int) (w : World) : Ret Tryz.prog 9 [.int .i64 z] w (fun v w' => v = .int .i64 z ∧ w' = w) := by
  refine ret_T (n := 4) Tryz.func9 rfl rfl ?_
  repeat (first | refine T_seq ?_ | refine T_region ?_ | refine TL_nil ?_ | refine TL_move (hk := ?_) | refine TL_assign (hk := ?_))
  exact T_ret1 rfl rfl ⟨rfl, rfl⟩
end Go.Proofs.YtjlaomcankmdjaaGreat

/- What is read of bytes fits. -/
namespace Go.Proofs.YtjlaomcankmdjaaGreat
open Go.Proofs.Eng Go.Proofs.Codec Go.Proofs.Foot Go.Proofs.Journal
set_option linter.unusedSimpArgs false
set_option linter.unusedVariables false
theorem lim_le {s : RS} {most e : Int} (h0 : 0 ≤ most) : ((s.take (0 : Nat) (tLim most e)).1 : Int) ≤ most := by
  unfold RS.take
  split
  · cases h : tLim most e (s.b.drop s.pos) with
    | error x => simpa using h0
    | ok r => exact tLim_le (by rw [h])
  · simpa using h0
theorem text_le {s : RS} {most : Int} (h0 : 0 ≤ most) : ((s.take ([] : List UInt8) (tText most)).1.length : Int) ≤ most := by
  unfold RS.take
  split
  · cases h : tText most (s.b.drop s.pos) with
    | error x => simpa using h0
    | ok r => exact tText_le (by rw [h])
  · simpa using h0
theorem zag_fit {n : Nat} (h : n < 2 ^ 64) : -9223372036854775808 ≤ zag n ∧ zag n ≤ 9223372036854775807 := by
  unfold zag
  split <;> omega
theorem int_fit {s : RS} : -9223372036854775808 ≤ (s.take (0 : Int) tInt).1 ∧ (s.take (0 : Int) tInt).1 ≤ 9223372036854775807 := by
  unfold RS.take
  split
  · cases h : tInt (s.b.drop s.pos) with
    | error x => simp
    | ok r =>
      obtain ⟨v, k⟩ := r
      simp only
      unfold tInt at h
      cases hq : num0 (s.b.drop s.pos) with
      | error x => rw [hq] at h; cases h
      | ok q =>
        obtain ⟨m, j⟩ := q
        rw [hq] at h
        cases h
        exact zag_fit (num0_ok hq).1
  · simp
theorem takeV_fit (s : RS) : VFit (takeV s).1 := by
  have hz : VFit vz := ⟨by decide, by decide, by decide⟩
  have h0 : ∀ s a, VFit (takeV0 s a).1 := fun s a => by
    unfold takeV0
    split
    · exact ⟨⟨by simp, by simp⟩, int_fit, by simp⟩
    · split
      · have := text_le (s := s) (most := 64) (by decide)
        exact ⟨⟨by simp, by simp⟩, ⟨by simp, by simp⟩, by simp only; omega⟩
      · split <;> exact hz
  unfold takeV endV
  split
  · exact hz
  · exact h0 _ _
theorem argsR_fit : ∀ (n : Nat) (s : RS) (acc : List VE) (r : List VE × RS), argsR n s acc = some r → (∀ v ∈ acc, VFit v) → r.1.length = acc.length + n ∧ ∀ v ∈ r.1, VFit v
  | 0, s, acc, r, h, hf => by cases h; exact ⟨rfl, hf⟩
  | n + 1, s, acc, r, h, hf => by
    unfold argsR at h
    split at h
    · cases h
    · obtain ⟨h1, h2⟩ := argsR_fit n _ _ r h (fun v hv => by
        rcases List.mem_append.1 hv with q | q
        · exact hf v q
        · rw [List.mem_singleton.1 q]; exact takeV_fit s)
      refine ⟨?_, h2⟩
      rw [h1, List.length_append]
      simp only [List.length_cons, List.length_nil]
      omega
theorem getR_fit {b : List UInt8} {r : RE} (h : getR b = some r) : RFit r ∧ r.ar.length ≤ 8 := by
  unfold getR at h
  split at h
  · cases h
  · cases ha : argsR (rq5 b).1 (rq5 b).2 [] with
    | none => rw [ha] at h; cases h
    | some q =>
      rw [ha] at h
      unfold endR at h
      simp only at h
      split at h
      · cases h
        obtain ⟨h1, h2⟩ := argsR_fit _ _ _ _ ha (fun v hv => by cases hv)
        have n1 : ((rq1 b).1 : Int) ≤ 63 := lim_le (by decide)
        have n5 : ((rq5 b).1 : Int) ≤ 8 := lim_le (by decide)
        have n3 : (((rq3 b).1).length : Int) ≤ 16 := text_le (by decide)
        refine ⟨⟨by simp only; omega, by have := take_lt (s := (rq1 b).2); exact this, by simp only; omega, h2⟩, ?_⟩
        simp only
        rw [h1]
        simp only [List.length_nil]
        omega
      · cases h
theorem norm_fit {r k : List Tx} (h : isNorm r k = true) : r.length ≤ 64 ∧ k.length ≤ 64 ∧ Short r ∧ Short k := by
  have h1 := norm_short h
  have h2 := h
  unfold isNorm at h2
  rw [decide_eq_true_eq] at h2
  have h3 : r = keysM (ofM r k) 1 ∧ k = keysM (ofM r k) 2 := by
    obtain ⟨a, b, c⟩ := h2
    unfold normF at a b c
    split at a
    · rename_i q1
      rw [if_pos q1] at b c
      split at a
      · cases a
      · rename_i q2
        rw [if_neg q2] at b c
        exact ⟨b.symm, c.symm⟩
    · cases a
  have hk : ∀ m u, (keysM m u).length ≤ m.length := fun m u => by
    unfold keysM used
    rw [List.length_mergeSort, List.length_map]
    exact List.length_filter_le _ _
  refine ⟨by rw [h3.1]; exact Nat.le_trans (hk _ _) h1.2, by rw [h3.2]; exact Nat.le_trans (hk _ _) h1.2, fun i hi => ?_, fun i hi => ?_⟩
  · have := h1.1 (r.getD i []) (List.mem_append_left _ (by rw [List.getD_eq_getElem?_getD, List.getElem?_eq_getElem hi]; exact List.getElem_mem _))
    omega
  · have := h1.1 (k.getD i []) (List.mem_append_right _ (by rw [List.getD_eq_getElem?_getD, List.getElem?_eq_getElem hi]; exact List.getElem_mem _))
    omega
theorem getEn_fit (b : List UInt8) (e : EE) (h : getEn b = some e) : PFit e.p := by
  unfold getEn at h
  split at h
  · cases h
  · rename_i hc
    cases hq : getR (ge3 b).1 with
    | none => rw [hq] at h; cases h
    | some q =>
      rw [hq] at h
      unfold geQ at h
      simp only at h
      split at h
      · rename_i hg
        cases h
        obtain ⟨f1, f2⟩ := getR_fit hq
        obtain ⟨g1, -, -⟩ := put_get (b := b.drop (b.length - (ge4 b).2.rest)) hg.1
        obtain ⟨n1, n2, n3, n4⟩ := norm_fit g1
        have hb := byte_lt (s := (ge3 b).2)
        exact ⟨f1, by simp only; show _ ∧ ((ge4 b).1 : Int) ≤ _; have : (ge4 b).1 < 256 := hb; omega, by simp only; omega, Nat.le_trans n1 (by decide), Nat.le_trans n2 (by decide), n3, n4⟩
      · cases h
end Go.Proofs.YtjlaomcankmdjaaGreat

/- The small story of a journal, worked out. -/
namespace Go.Proofs.YtjlaomcankmdjaaGreat
open Go.RowKit Go.Proofs.Eng Go.Proofs.Codec Go.Proofs.Foot Go.Proofs.Journal
def lvP : PE := ⟨⟨0, 0, [112], []⟩, 1, [], []⟩
def lvW1 : (LE × Int × Nat) × DK := writeJ ⟨[], 0⟩ (newD []) 0 [lvP, lvP]
def lvS : DK × Nat := opD lvW1.2 synD
def lvW2 : (LE × Int × Nat) × DK := writeJ lvW1.1.1 lvS.1 1 [lvP]
def lvO : Option LE × Nat × DK := openJ (newD (leftD lvW2.2 5))
theorem lv1 : openJ (newD []) = (some ⟨[], 0⟩, 0, newD []) := by kernel_rfl
theorem lv2 : lvW1.1.2.1 = 0 := by decide +kernel
theorem lv3 : lvW1.1.2.2 = 0 := by decide +kernel
theorem lv4 : lvS.2 = 0 := by decide +kernel
theorem lv5 : lvO.2.1 = 0 := by decide +kernel
theorem lv6 : lvO.1.map (fun L => L.l.length) = some 2 := by decide +kernel
theorem lv7 : lvW2.1.1.l.length = 3 := by decide +kernel
end Go.Proofs.YtjlaomcankmdjaaGreat

namespace Go.Proofs.YtjlaomcankmdjaaGreat
open Go.RowKit Go.Proofs.Eng Go.Proofs.Codec Go.Proofs.Foot Go.Proofs.Journal
set_option linter.unusedSimpArgs false
set_option linter.unusedVariables false set_option maxRecDepth 10000
attribute [local irreducible] T TL LV TH TA
set_option maxHeartbeats 3200000
def lvM : PM := ⟨lvP, (none, 0, 0), (none, 0, 0), (none, 0, 0)⟩
theorem lvM_ok (w : World) : PLies w lvM ∧ PFit lvM.p :=
  ⟨⟨(Own.nil w 0 161 3).rd, (Own.nil w 0 9 1).rd, (Own.nil w 0 9 1).rd⟩, ⟨⟨by decide, by decide, by decide, fun v hv => by cases hv⟩, by decide, by decide, by decide, by decide, fun i hi => (by cases hi), fun i hi => (by cases hi)⟩⟩
/-- An opened journal, out of what Open hands over. -/
theorem OpO.jrm {w w' : World} {base d : Nat} {gd : Nat → Nat} {o : Option LE × Nat × DK} {jp : Value} {L : LE} (h : OpO w w' base d gd o jp) (hL : o.1 = some L) (hb : base ≤ w.heap.size) :
    ∃ sd' gd' jb lg sl es g, jp = pB jb ∧ JrM w' base jb d lg sd' gd' o.2.2 sl es g L (L.l.length : Int) ∧ Tn gd gd' w w' ∧ w.heap.size ≤ jb := by
  obtain ⟨sl', gd', D, T, hm⟩ := h
  rw [hL] at hm
  obtain ⟨jb, lg, sl, es, g, hj, k, M, ok, gj, hjb, hd, gdj⟩ := hm
  exact ⟨sl', gd', jb, lg, sl, es, g, hj, ⟨k, D, { M with ow := Own.weaken M.ow hb, old := fun b q => by have := M.old b q; omega }, ok, hd, gj, gdj, by omega⟩, T, hjb⟩
theorem OpO.no {w w' : World} {base d : Nat} {gd : Nat → Nat} {o : Option LE × Nat × DK} {jp : Value} (h : OpO w w' base d gd o jp) (hL : o.1 = none) : jp = .pointer none ∧ ∃ sd' gd', DiskM w' base d 0 sd' gd' o.2.2 ∧ Tn gd gd' w w' := by
  obtain ⟨sl', gd', D, T, hm⟩ := h
  rw [hL] at hm
  exact ⟨hm, sl', gd', D, T⟩
theorem jlive_c (w : World) : Ret Tryz.prog 10 [] w (fun v w' => v = .bool true ∧ Ext w w') := by
  refine ret_T (n := 81) Tryz.func10 rfl rfl ?_
  repeat (first | refine T_seq ?_ | refine T_region ?_ | refine TL_nil ?_ | refine TL_assign (hk := ?_))
  refine TL_call TE (hc := NewDisk_c none 0 0 [] w (Own.nil w 0 5 1).rd (by omega) (by omega)) (hk := ?_)
  rintro _ w1 ⟨d, sd1, gd1, rfl, e1, D1⟩
  have z1 := e1.size
  repeat (first | refine T_seq ?_ | refine T_region ?_ | refine TL_nil ?_ | refine TL_move (hk := ?_) | refine TL_assign (hk := ?_))
  refine TL_call TE (hc := Open_j w1 D1 getEn_fit) (hk := ?_)
  rintro _ w2 ⟨jp, rfl, O2⟩
  obtain ⟨sd2, gd2, jb, lg2, sl2, es2, g2, rfl, J2, T2, hjb⟩ := O2.jrm (L := ⟨[], 0⟩) (by rw [lv1]) z1
  rw [lv1] at J2 ⊢
  simp only at J2 ⊢
  repeat (first | refine T_seq ?_ | refine T_region ?_ | refine TL_pnil_f TE (hk := ?_) | refine TL_nil ?_ | refine TL_move (hk := ?_) | refine TL_assign (hk := ?_) | refine TL_yes (hk := ?_) | refine TL_extract (hk := ?_))
  refine TL_call TE (hc := jnum_c _ w2) (hk := ?_)
  rintro _ w3 ⟨rfl, hw3⟩
  rw [hw3]
  clear hw3 w3
  repeat (first | refine T_seq ?_ | refine T_region ?_ | refine T_cond_false rfl ?_ | refine T_skip ?_ | refine TL_ne_f (hk := ?_) | refine TL_pnil_f TE (hk := ?_) | refine TL_nil ?_ | refine TL_move (hk := ?_) | refine TL_yes (hk := ?_) | refine TL_pick_f (hk := ?_) | refine TL_build TE (hk := ?_))
  refine TL_alloc TE (hk := ?_); intro b4 w4 e4 h4 h4' k4
  --
  refine TL_storea TE (hk := ?_); intro w5 m5 z5 k5
  replace k5 : Blk w5 b4 45 (pmV lvM) := k5
  have e25 : Ext w2 w5 := e4.step m5 (fun u hu => .inr (by rw [List.mem_singleton.1 hu]; omega))
  have J5 := J2.ext e25
  unfold pmV at k5
  repeat (first | refine T_seq ?_ | refine T_region ?_ | refine TL_nil ?_ | refine TL_move (hk := ?_))
  refine TL_loadb TE (cs := pmV lvM) (o := 0) rfl rfl k5 rfl rfl (Nat.succ_pos _) (hk := ?_)
  --
  refine TL_loadb TE (cs := pmV lvM) (o := 0) rfl rfl k5 rfl rfl (Nat.succ_pos _) (hk := ?_)
  --
  refine TL_buildSliceA TE (hk := ?_); intro b6 w6 e6 h6 h6' k6
  replace k6 : Blk w6 b6 45 (rowV pmV [lvM, lvM]) := k6
  have r6 : Rd w6 (some ⟨b6, 0, none⟩) 2 7 (rowV pmV [lvM, lvM]) := Rd.blk k6 rfl
  have J6 := J5.ext e6
  have hb0 : w.heap.size ≤ w2.heap.size := by have := T2.size; omega
  have e02 : Ext w w2 := T2.ext0 e1 (fun b hb => (D1.old b hb).1)
  have e06 := (e02.ext e25).ext e6
  have hjl : jb < w2.heap.size := J2.blk.lt
  have hp4 : b4 ≠ jb := by omega
  have gd4 : gd2 b4 = 0 := by
    by_cases q : gd2 b4 = 0
    · exact q
    · have := (J2.dk.old b4 q).2; omega
  have o4 : oJ jb gd2 b4 = 0 := by rw [oJ_ne hp4]; exact gd4
  have k46 := k5.be e6
  have hx : ∀ x ∈ [lvM, lvM], PLies w6 x ∧ PFit x.p := fun x hm => by
    have : x = lvM := by simpa using hm
    rw [this]; exact lvM_ok w6
  have hA6 : ∀ u ∈ blkL (some ⟨b6, 0, none⟩), u < w6.heap.size := fun u hu => by
    have h := Lo.mem (A := some ⟨b6, 0, none⟩) (B := w6.heap.size) (fun ad e => by cases e; exact h6') u hu
    exact h
  have hB6 : ∀ x ∈ [lvM, lvM], ∀ u ∈ pmB x, u < w6.heap.size := fun x hm u hu => by
    have hm' : x = lvM := by simpa using hm
    rw [hm'] at hu
    cases hu
  --
  refine TL_call TE (hc := Write_c 0 (some ⟨b6, 0, none⟩) 2 2 [lvM, lvM] w6 J6 r6 hx hA6 hB6 (by decide) (by decide)) (hk := ?_)
  have hW1 : writeJ ⟨[], 0⟩ (newD []) 0 ([lvM, lvM].map (·.p)) = lvW1 := rfl
  rw [hW1, lv2, lv3]
  rintro _ w7 ⟨rfl, lg7, sd7, gd7, sl7, es7, g7, J7, T7, -⟩
  have e07 := T7.ext0 e06 (fun b hb => (J6.old b hb).1)
  have k47 : Blk w7 b4 45 (pmV lvM) := by
    obtain ⟨⟨Z, m7, s7⟩, -, -⟩ := T7
    exact k46.mod m7 (fun q => s7 b4 q o4)
  have o47 := T7.old o4 k46.lt
  repeat (first | refine T_seq ?_ | refine T_region ?_ | refine TL_nil ?_ | refine TL_move (hk := ?_) | refine TL_assign (hk := ?_) | refine TL_extract (hk := ?_))
  refine TL_call TE (hc := Flush_c w7 J7) (hk := ?_)
  have hS : opD lvW1.2 synD = lvS := rfl
  rw [hS, lv4]
  rintro _ w8 ⟨rfl, sd8, gd8, J8, T8⟩
  rw [if_pos rfl] at J8
  have e08 := T8.ext0 e07 (fun b hb => (J7.old b hb).1)
  have k48 : Blk w8 b4 45 (pmV lvM) := by
    obtain ⟨⟨Z, m7, s7⟩, -, -⟩ := T8
    exact k47.mod m7 (fun q => s7 b4 q o47)
  clear k47 k46 k5 k6 J6 J5 J7 r6
  unfold pmV at k48
  repeat (first | refine T_seq ?_ | refine T_region ?_ | refine TL_nil ?_ | refine TL_move (hk := ?_) | refine TL_assign (hk := ?_))
  refine TL_loadb TE (cs := pmV lvM) (o := 0) rfl rfl k48 rfl rfl (Nat.succ_pos _) (hk := ?_)
  --
  refine TL_buildSliceA TE (hk := ?_); intro b9 w9 e9 h9 h9' k9
  replace k9 : Blk w9 b9 45 (rowV pmV [lvM]) := k9
  have r9 : Rd w9 (some ⟨b9, 0, none⟩) 1 7 (rowV pmV [lvM]) := Rd.blk k9 rfl
  have J9 := J8.ext e9
  have e09 := e08.ext e9
  have hx9 : ∀ x ∈ [lvM], PLies w9 x ∧ PFit x.p := fun x hm => by
    have : x = lvM := by simpa using hm
    rw [this]; exact lvM_ok w9
  have hA9 : ∀ u ∈ blkL (some ⟨b9, 0, none⟩), u < w9.heap.size := fun u hu => by
    have h := Lo.mem (A := some ⟨b9, 0, none⟩) (B := w9.heap.size) (fun ad e => by cases e; exact h9') u hu
    exact h
  have hB9 : ∀ x ∈ [lvM], ∀ u ∈ pmB x, u < w9.heap.size := fun x hm u hu => by
    have hm' : x = lvM := by simpa using hm
    rw [hm'] at hu
    cases hu
  --
  refine TL_call TE (hc := Write_c 1 (some ⟨b9, 0, none⟩) 1 1 [lvM] w9 J9 r9 hx9 hA9 hB9 (by decide) (by decide)) (hk := ?_)
  have hW2 : writeJ lvW1.1.1 lvS.1 1 ([lvM].map (·.p)) = lvW2 := rfl
  rw [hW2]
  rintro _ w10 ⟨rfl, lg10, sd10, gd10, sl10, es10, g10, J10, T10, -⟩
  have e010 := T10.ext0 e09 (fun b hb => (J9.old b hb).1)
  clear J8 J9 k9 r9 k48
  repeat (first | refine T_seq ?_ | refine T_region ?_ | refine TL_nil ?_ | refine TL_move (hk := ?_))
  refine TL_call TE (hc := Left_c 5 w10 J10.dk) (hk := ?_)
  rintro _ w11 ⟨y, rfl, D11, T11, oy⟩
  have J11 := J10.disk D11 T11
  have e011 := T11.ext0 e010 (fun b hb => (J10.dk.old b hb).1)
  have hyl := oy.len
  have hyc := oy.cap.1
  simp only [bv_length, Nat.mul_one] at hyl
  have hll : (leftD lvW2.2 5).length ≤ 4194304 := by
    have := J10.dk.ok.ln
    unfold leftD
    rw [List.length_take]; omega
  --
  refine TL_call TE (hc := NewDisk_c y.1 y.2.1 y.2.2 (leftD lvW2.2 5) w11 oy.rd hyc (by omega)) (hk := ?_)
  rintro _ w12 ⟨d2, sd12, gd12, rfl, e12, D12⟩
  have J12 := J11.ext e12
  --
  refine TL_call TE (hc := Open_j w12 D12 getEn_fit) (hk := ?_)
  have hO : openJ (newD (leftD lvW2.2 5)) = lvO := rfl
  rw [hO, lv5]
  rintro _ w13 ⟨jp2, rfl, O13⟩
  obtain ⟨L2, hL2, hL2n⟩ : ∃ L2, lvO.1 = some L2 ∧ L2.l.length = 2 := by
    have h := lv6
    cases hq : lvO.1 with
    | none => rw [hq] at h; cases h
    | some L => rw [hq] at h; exact ⟨L, rfl, by simpa using h⟩
  obtain ⟨sd13, gd13, jb2, lg13, sl13, es13, g13, rfl, J13, T13, hjb2⟩ := O13.jrm hL2 (Nat.le_of_lt_succ (Nat.lt_succ_of_le e12.size))
  have e1213 : Ext w11 w13 := T13.ext0 e12 (fun b hb => (D12.old b hb).1)
  have J12' := J11.ext e1213
  have e013 := e011.ext e1213
  have h3 := lv7
  clear J10 J11 J12
  repeat (first | refine T_seq ?_ | refine T_region ?_ | refine TL_nil ?_ | refine TL_move (hk := ?_) | refine TL_assign (hk := ?_) | refine TL_extract (hk := ?_))
  refine TL_call TE (hc := jnum_c _ w13) (hk := ?_)
  rintro _ w14 ⟨rfl, hw⟩
  rw [hw]
  clear hw w14
  repeat (first | refine TL_eq_t (hk := ?_) | refine TL_move (hk := ?_) | refine TL_yes (hk := ?_) | refine TL_pick_t (hk := ?_))
  refine TL_call TE (hc := jnum_c _ w13) (hk := ?_)
  rintro _ w14 ⟨rfl, hw⟩
  rw [hw]
  clear hw w14
  repeat (first | refine TL_eq_t (hk := ?_) | refine TL_move (hk := ?_) | refine TL_yes (hk := ?_) | refine TL_pick_t (hk := ?_))
  refine TL_call TE (hc := jnum_c _ w13) (hk := ?_)
  rintro _ w14 ⟨rfl, hw⟩
  rw [hw]
  clear hw w14
  repeat (first | refine TL_eq_t (hk := ?_) | refine TL_pnn_t TE (hk := ?_) | refine TL_move (hk := ?_) | refine TL_yes (hk := ?_) | refine TL_pick_t (hk := ?_))
  refine TL_call TE (hc := Written_c w13 J13) (hk := ?_)
  rintro _ w14 ⟨rfl, hw⟩
  rw [hw, hL2n]
  clear hw w14
  repeat (first | refine TL_eq_t (hk := ?_) | refine TL_move (hk := ?_) | refine TL_yes (hk := ?_) | refine TL_pick_t (hk := ?_))
  refine TL_call TE (hc := Written_c w13 J12') (hk := ?_)
  rintro _ w14 ⟨rfl, hw⟩
  rw [hw, h3]
  clear hw w14
  repeat (first | refine TL_eq_t (hk := ?_) | refine TL_nil ?_ | refine TL_assign (hk := ?_) | refine TL_yes (hk := ?_) | refine TL_pick_t (hk := ?_))
  exact T_ret1 rfl rfl ⟨rfl, e013⟩
end Go.Proofs.YtjlaomcankmdjaaGreat

namespace Go.Proofs.YtjlaomcankmdjaaGreat
open Go.RowKit Go.Proofs.Eng Go.Proofs.Codec Go.Proofs.Foot Go.Proofs.Journal
set_option linter.unusedSimpArgs false
set_option linter.unusedVariables false set_option maxRecDepth 10000
attribute [local irreducible] T TL LV TH TA
set_option maxHeartbeats 3200000
end Go.Proofs.YtjlaomcankmdjaaGreat

namespace Go.Proofs.YtjlaomcankmdjaaGreat
open Go.RowKit Go.Proofs.Eng Go.Proofs.Codec Go.Proofs.Foot Go.Proofs.Journal
set_option linter.unusedSimpArgs false
set_option linter.unusedVariables false set_option maxRecDepth 10000
attribute [local irreducible] T TL LV TH TA
set_option maxHeartbeats 3200000
/-- Both disks, side by side. -/
structure B2 (w : World) (base d r : Nat) (sl : SL) (g : Nat → Nat) (slr : SL) (gr : Nat → Nat) (k : DK) : Prop where
  dk : DiskM w base d 0 sl g k
  rk : RDiskM w base r slr gr k
  ap : ∀ b, g b = 0 ∨ gr b = 0
section
variable {w w' : World} {base d r : Nat} {sl slr : SL} {g gr g' gr' : Nat → Nat} {k : DK} {Z : List Nat}
theorem B2.mod (B : B2 w base d r sl g slr gr k) (m : Eng.Mod Z w w') (h1 : ∀ b ∈ Z, g b = 0) (h2 : ∀ b ∈ Z, gr b = 0) : B2 w' base d r sl g slr gr k := ⟨B.dk.mod m h1, B.rk.mod m h2, B.ap⟩
theorem B2.ext (B : B2 w base d r sl g slr gr k) (e : Ext w w') : B2 w' base d r sl g slr gr k := ⟨B.dk.ext e, B.rk.ext e, B.ap⟩
end
end Go.Proofs.YtjlaomcankmdjaaGreat

namespace Go.Proofs.YtjlaomcankmdjaaGreat
open Go.RowKit Go.Proofs.Eng Go.Proofs.Codec Go.Proofs.Foot Go.Proofs.Journal
set_option linter.unusedSimpArgs false
set_option linter.unusedVariables false set_option maxRecDepth 10000
attribute [local irreducible] T TL LV TH TA
set_option maxHeartbeats 3200000
/-- An act in a row. -/
structure KV where
  kd : Int
  A : Option Addr
  n : Nat
  c : Nat
  b : List UInt8
  x : Int
def kv0 : KV := ⟨0, none, 0, 0, [], 0⟩
def kvV (x : KV) : List Value := [.int .i64 x.kd, .slice x.A x.n x.c, .int .i64 x.x]
structure KVOk (w : World) (x : KV) : Prop where
  rd : Rd w x.A x.n 1 (bv x.b)
  nc : x.n ≤ x.c
  n : x.n ≤ 1048576
  kd : -9223372036854775808 ≤ x.kd ∧ x.kd ≤ 9223372036854775807
  x : -9223372036854775808 ≤ x.x ∧ x.x ≤ 9223372036854775807
theorem KVOk.be {w w' : World} {x : KV} (h : KVOk w x) (e : Ext w w') : KVOk w' x := ⟨h.rd.be e, h.nc, h.n, h.kd, h.x⟩
abbrev tyKAct : Ty := .struct (.cons (.int .i64) (.cons (.slice (.int .u8)) (.cons (.int .i64) .unit)))
theorem DiskM.weaken {w : World} {base base' d : Nat} {lk : Int} {sl : SL} {g : Nat → Nat} {k : DK} (D : DiskM w base d lk sl g k) (h : base' ≤ base) : DiskM w base' d lk sl g k := { D with ow := Own.weaken D.ow h, old := fun b hb => by have := D.old b hb; omega }
theorem RDiskM.weaken {w : World} {base base' d : Nat} {sl : SL} {g : Nat → Nat} {k : DK} (D : RDiskM w base d sl g k) (h : base' ≤ base) : RDiskM w base' d sl g k := { D with ow := Own.weaken D.ow h, old := fun b hb => by have := D.old b hb; omega }
def totK (l : List KV) (i : Nat) : Nat := ((l.take i).map fun x => x.n).sum
end Go.Proofs.YtjlaomcankmdjaaGreat

namespace Go.Proofs.YtjlaomcankmdjaaGreat
open Go.RowKit Go.Proofs.Eng Go.Proofs.Codec Go.Proofs.Foot Go.Proofs.Journal
set_option linter.unusedSimpArgs false
set_option linter.unusedVariables false set_option maxRecDepth 10000
attribute [local irreducible] T TL LV TH TA
set_option maxHeartbeats 3200000
end Go.Proofs.YtjlaomcankmdjaaGreat

/- The sum tells turned bits: plain facts on numbers. -/
namespace Go.Proofs.Codec
open Go.Proofs.Eng
/-- Bytes as one number, the lowest first. -/
def num : List UInt8 → Nat
  | [] => 0
  | b :: l => b.toNat + 256 * num l
theorem le4_num {l : List UInt8} (h : 4 ≤ l.length) : le4 l = num (l.take 4) := by
  match l, h with
  | a :: b :: c :: d :: t, _ =>
    have ha := UInt8.toNat_lt a
    have hb := UInt8.toNat_lt b
    have hc := UInt8.toNat_lt c
    have hd := UInt8.toNat_lt d
    have e0 : gb (a :: b :: c :: d :: t) 0 = a.toNat := rfl
    have e1 : gb (a :: b :: c :: d :: t) 1 = b.toNat := rfl
    have e2 : gb (a :: b :: c :: d :: t) 2 = c.toNat := rfl
    have e3 : gb (a :: b :: c :: d :: t) 3 = d.toNat := rfl
    have lor : ∀ {x y k : Nat}, x < 2 ^ k → x ||| y * 2 ^ k = x + y * 2 ^ k := fun {x y k} h => by
      rw [Nat.or_comm, Nat.mul_comm y, ← Nat.two_pow_add_eq_or_of_lt h, Nat.add_comm]
    unfold le4
    rw [e0, e1, e2, e3, Nat.mod_eq_of_lt (by omega), Nat.mod_eq_of_lt (by omega), Nat.mod_eq_of_lt (by omega)]
    have s1 : a.toNat ||| b.toNat * 2 ^ 8 = a.toNat + b.toNat * 2 ^ 8 := lor (by omega)
    have s2 : (a.toNat + b.toNat * 2 ^ 8) ||| c.toNat * 2 ^ 16 = (a.toNat + b.toNat * 2 ^ 8) + c.toNat * 2 ^ 16 := lor (by omega)
    have s3 : ((a.toNat + b.toNat * 2 ^ 8) + c.toNat * 2 ^ 16) ||| d.toNat * 2 ^ 24 = ((a.toNat + b.toNat * 2 ^ 8) + c.toNat * 2 ^ 16) + d.toNat * 2 ^ 24 := lor (by omega)
    rw [s1, s2, s3]
    simp only [List.take, num]
    omega
theorem four_num {x : Nat} (h : x < 2 ^ 32) : num (four x) = x := by
  simp only [four, num]
  rw [UInt8.toNat_ofNat', UInt8.toNat_ofNat', UInt8.toNat_ofNat', UInt8.toNat_ofNat']
  omega
theorem four_len (x : Nat) : (four x).length = 4 := rfl
end Go.Proofs.Codec

/- A frame opens to its load; turned bits are told. -/
namespace Go.Proofs.YtjlaomcankmdjaaGreat
open Go.Proofs.Eng Go.Proofs.Codec
theorem frame_len (l : List UInt8) : (frame l).length = l.length + 8 := by
  unfold frame
  simp only [List.length_append, four_len]
  omega
theorem frame_take (l : List UInt8) : (frame l).take (l.length + 4) = four l.length ++ l := by
  unfold frame
  have h : (four l.length ++ l).length = l.length + 4 := by simp only [List.length_append, four_len]; omega
  rw [← h, List.take_left]
theorem frame_drop (l : List UInt8) : (frame l).drop (l.length + 4) = four (crc (four l.length ++ l)) := by
  unfold frame
  have h : (four l.length ++ l).length = l.length + 4 := by simp only [List.length_append, four_len]; omega
  rw [← h, List.drop_left]
theorem frame_le4 (l : List UInt8) (h : l.length ≤ 65536) : le4 (frame l) = l.length := by
  rw [le4_num (by rw [frame_len]; omega)]
  have : (frame l).take 4 = four l.length := by
    unfold frame
    rw [List.append_assoc, List.take_append_of_le_length (by rw [four_len]; omega)]
    exact List.take_of_length_le (by rw [four_len]; omega)
  rw [this, four_num (by omega)]
end Go.Proofs.YtjlaomcankmdjaaGreat

/- Frames in a row, and a beginning of one more. -/
namespace Go.Proofs.YtjlaomcankmdjaaGreat
open Go.Proofs.Eng Go.Proofs.Codec
def cat : List (List UInt8) → List UInt8
  | [] => []
  | l :: t => frame l ++ cat t
theorem cat_snoc (a : List (List UInt8)) (l : List UInt8) : cat (a ++ [l]) = cat a ++ frame l := by
  induction a with
  | nil => simp [cat]
  | cons x a ih => simp only [List.cons_append, cat, ih, List.append_assoc]
def total : List (List UInt8) → Nat
  | [] => 0
  | l :: t => l.length + total t
theorem openF_frame_app (l t : List UInt8) (h : l.length ≤ 65536) : openF (frame l ++ t) = (l, l.length + 8, 0) := by
  have hf : frame l ++ t = four l.length ++ (l ++ (four (crc (four l.length ++ l)) ++ t)) := by unfold frame; simp
  have hl : (frame l ++ t).length = l.length + 8 + t.length := by rw [List.length_append, frame_len]
  have h4 : le4 (frame l ++ t) = l.length := by
    rw [le4_num (by omega), hf, List.take_append_of_le_length (by rw [four_len]; omega), List.take_of_length_le (by rw [four_len]; omega), four_num (by omega)]
  have ht : (frame l ++ t).take (l.length + 4) = four l.length ++ l := by
    rw [List.take_append_of_le_length (by rw [frame_len]; omega), frame_take]
  have hd : (frame l ++ t).drop (l.length + 4) = four (crc (four l.length ++ l)) ++ t := by
    rw [List.drop_append_of_le_length (by rw [frame_len]; omega), frame_drop]
  have hc : le4 (four (crc (four l.length ++ l)) ++ t) = crc (four l.length ++ l) := by
    rw [le4_num (by rw [List.length_append, four_len]; omega), List.take_append_of_le_length (by rw [four_len]; omega), List.take_of_length_le (by rw [four_len]; omega), four_num (crc_lt _)]
  unfold openF
  rw [hl, h4, if_neg (by omega), if_neg (by omega), if_neg (by omega), ht, hd, hc, if_pos rfl, hf]
  have h5 : (four l.length ++ (l ++ (four (crc (four l.length ++ l)) ++ t))).drop 4 = l ++ (four (crc (four l.length ++ l)) ++ t) := List.drop_left (l₁ := four l.length)
  rw [h5, List.take_left]
theorem openF_short (l : List UInt8) (k : Nat) (h : l.length ≤ 65536) (hk : k < l.length + 8) : openF ((frame l).take k) = ([], 0, 3) := by
  have hl : ((frame l).take k).length = k := by rw [List.length_take, frame_len]; omega
  unfold openF
  rw [hl]
  by_cases h4 : k < 4
  · rw [if_pos h4]
  · have hle : le4 ((frame l).take k) = l.length := by
      rw [← frame_le4 l h, le4_num (by omega), le4_num (by rw [frame_len]; omega), List.take_take, Nat.min_eq_left (by omega)]
    rw [if_neg h4, hle, if_neg (by omega), if_pos (by omega)]
theorem framesF_cat (last : List UInt8) (k : Nat) (hlast : last.length ≤ 65536) (hk : k < last.length + 8) : ∀ (Ls : List (List UInt8)) (f : Nat), (∀ l ∈ Ls, l.length ≤ 65536) → (cat Ls).length + k ≤ f →
    framesF f (cat Ls ++ (frame last).take k) = (Ls, (cat Ls).length, if k = 0 then 0 else 3)
  | [], f, _, hf => by
    have hl : ((frame last).take k).length = k := by rw [List.length_take, frame_len]; omega
    simp only [cat, List.nil_append, List.length_nil] at hf ⊢
    cases f with
    | zero =>
      have : k = 0 := by omega
      subst this
      rfl
    | succ f =>
      rw [framesF, hl]
      by_cases h0 : k = 0
      · rw [if_pos h0, if_pos h0]
      · rw [if_neg h0, if_neg h0, openF_short last k hlast hk]
        rw [if_neg (by decide)]
  | l :: Ls, f, hLs, hf => by
    have hl := hLs l (by simp)
    simp only [cat, List.length_append, frame_len] at hf ⊢
    cases f with
    | zero => omega
    | succ f =>
      rw [List.append_assoc, framesF, if_neg (by simp only [List.length_append, frame_len]; omega), openF_frame_app l _ hl, if_pos rfl]
      simp only
      have hd : (frame l ++ (cat Ls ++ (frame last).take k)).drop (l.length + 8) = cat Ls ++ (frame last).take k := by
        rw [← frame_len l, List.drop_left]
      rw [hd, framesF_cat last k hlast hk Ls f (fun x hx => hLs x (by simp [hx])) (by omega)]
theorem frames_cat (last : List UInt8) (k : Nat) (hlast : last.length ≤ 65536) (hk : k < last.length + 8) (Ls : List (List UInt8)) (h : ∀ l ∈ Ls, l.length ≤ 65536) :
    frames (cat Ls ++ (frame last).take k) = (Ls, (cat Ls).length, if k = 0 then 0 else 3) := by
  unfold frames
  refine framesF_cat last k hlast hk Ls _ h ?_
  rw [List.length_append, List.length_take, frame_len]
  omega
end Go.Proofs.YtjlaomcankmdjaaGreat

/- The plain law of JournalSafe: whatever beginning of the bytes is left, whole epochs come back, in order. -/
namespace Go.Proofs.YtjlaomcankmdjaaGreat
open Go.Proofs.Eng Go.Proofs.Codec Go.Proofs.Foot Go.Proofs.Journal
set_option linter.unusedSimpArgs false
set_option linter.unusedVariables false
abbrev EP := Int × List PE
def newE (L : LE) (ep : Int) (ps : List PE) : List EE := (List.range ps.length).map (fun j => ⟨((L.l.length + j : Nat) : Int), ep, ps.getD j pe0⟩)
theorem addL_l (L : LE) (ep : Int) (ps : List PE) : (addL L ep ps).l = L.l ++ newE L ep ps := rfl
theorem newE_len (L : LE) (ep : Int) (ps : List PE) : (newE L ep ps).length = ps.length := by simp [newE]
theorem from_add (L : LE) (ep : Int) (ps : List PE) : fromL (addL L ep ps) L.l.length ps.length = newE L ep ps := by
  unfold fromL
  rw [addL_l, List.drop_left, ← newE_len L ep ps, List.take_length]
def logF (L : LE) (l : List EP) : LE := l.foldl (fun L e => addL L e.1 e.2) L
def entL (e : EE) : List UInt8 := 1 :: entB [] e
def endL2 (ep : Int) : List UInt8 := 2 :: encU ep.toNat
def loadsE (L : LE) (e : EP) : List (List UInt8) := (newE L e.1 e.2).map entL ++ [endL2 e.1]
def loadsF : LE → List EP → List (List UInt8)
  | _, [] => []
  | L, e :: t => loadsE L e ++ loadsF (addL L e.1 e.2) t
/-- Epochs that may be written, one behind the other. -/
def GoodE (L : LE) (e : EP) : Prop := L.ep ≤ e.1 ∧ e.1 ≤ 9223372036854775807 ∧ L.l.length + e.2.length ≤ 65536 ∧ (∀ p ∈ e.2, rightP p = 0) ∧ ∀ p ∈ e.2, PFit p
def GoodF : LE → List EP → Prop
  | _, [] => True
  | L, e :: t => GoodE L e ∧ GoodF (addL L e.1 e.2) t
theorem logF_snoc (L : LE) (l : List EP) (e : EP) : logF L (l ++ [e]) = addL (logF L l) e.1 e.2 := by unfold logF; rw [List.foldl_append]; rfl
theorem loadsF_snoc : ∀ (L : LE) (l : List EP) (e : EP), loadsF L (l ++ [e]) = loadsF L l ++ loadsE (logF L l) e
  | L, [], e => by simp [loadsF, logF]
  | L, x :: l, e => by
    rw [List.cons_append, loadsF, loadsF, loadsF_snoc, List.append_assoc]
    rfl
theorem GoodF_snoc : ∀ {L : LE} {l : List EP} {e : EP}, GoodF L l → GoodE (logF L l) e → GoodF L (l ++ [e])
  | L, [], e, _, h => ⟨h, trivial⟩
  | L, x :: l, e, h, h2 => ⟨h.1, GoodF_snoc h.2 h2⟩
theorem GoodF_take : ∀ {L : LE} {l : List EP} (c : Nat), GoodF L l → GoodF L (l.take c)
  | L, [], c, _ => by simp [GoodF]
  | L, x :: l, 0, _ => trivial
  | L, x :: l, c + 1, h => ⟨h.1, GoodF_take c h.2⟩
theorem logF_ok : ∀ {L : LE} {l : List EP}, LOk L → GoodF L l → LOk (logF L l)
  | L, [], h, _ => h
  | L, x :: l, h, g => logF_ok (l := l) (addL_ok h g.1.1 g.1.2.1 g.1.2.2.2.1 g.1.2.2.2.2 g.1.2.2.1) g.2
def bytesE (l : List EP) : List UInt8 := cat (loadsF ⟨[], 0⟩ l)
theorem cat_app (a b : List (List UInt8)) : cat (a ++ b) = cat a ++ cat b := by
  induction a with
  | nil => rfl
  | cons x a ih => rw [List.cons_append, cat, cat, ih, List.append_assoc]
theorem cat_ents {l : List EE} (h : ∀ e ∈ l, EOk e) : (l.map fun e => kindF 1 (putEn [] e).1).flatten = cat (l.map entL) := by
  induction l with
  | nil => rfl
  | cons x l ih =>
    rw [List.map_cons, List.flatten_cons, List.map_cons, cat, ih (fun e he => h e (List.mem_cons_of_mem _ he)), putEn_ok (h x List.mem_cons_self)]
    rfl
theorem newE_ok {L : LE} (hL : LOk L) {e : EP} (g : GoodE L e) : ∀ x ∈ newE L e.1 e.2, EOk x := fun x hx => by
  have h := (addL_ok hL g.1 g.2.1 g.2.2.2.1 g.2.2.2.2 g.2.2.1).run.le x (by rw [addL_l]; exact List.mem_append_right _ hx)
  exact h.2
theorem epF_cat {L : LE} (hL : LOk L) {e : EP} (g : GoodE L e) : epF e.1 (newE L e.1 e.2) = cat (loadsE L e) := by
  unfold epF loadsE
  rw [cat_app, cat_ents (newE_ok hL g)]
  congr 1
  simp only [cat, List.append_nil]
  rfl
/-! A reading, load by load. -/
def stepF (q : SC × Nat × Nat) (p : List UInt8) : Option (SC × Nat × Nat) := match scR q.1 p with
  | none => none
  | some s' => some (s', q.2.1 + (p.length + 8), if gb p 0 = 2 then q.2.1 + (p.length + 8) else q.2.2)
def runF : List (List UInt8) → SC × Nat × Nat → Option (SC × Nat × Nat)
  | [], q => some q
  | p :: ps, q => (stepF q p).bind (runF ps)
theorem scanF_run : ∀ (ps : List (List UInt8)) (s : SC) (a w : Nat), scanF ps s a w = (runF ps (s, a, w)).map (fun q => (q.1, q.2.2))
  | [], s, a, w => rfl
  | p :: ps, s, a, w => by
    unfold scanF runF stepF
    simp only
    cases h : scR s p with
    | none => rfl
    | some s' => exact scanF_run ps s' _ _
theorem runF_app (b : List (List UInt8)) : ∀ (a : List (List UInt8)) (q : SC × Nat × Nat), runF (a ++ b) q = (runF a q).bind (runF b)
  | [], q => rfl
  | p :: a, q => by
    rw [List.cons_append, runF, runF]
    cases h : stepF q p with
    | none => rfl
    | some r => exact runF_app b a r
/-- At the beginning of an epoch. -/
structure At0 (s : SC) (L : LE) : Prop where
  log : s.log = L
  op : s.op = []
  last : s.last = L.ep
theorem newE_at (L : LE) (ep : Int) (ps : List PE) (t : Nat) (h : t < ps.length) : (newE L ep ps)[t]'(by rw [newE_len]; exact h) = ⟨((L.l.length + t : Nat) : Int), ep, ps.getD t pe0⟩ := by
  unfold newE
  rw [List.getElem_map, List.getElem_range]
theorem ents_run {L : LE} (hL : LOk L) {e : EP} (g : GoodE L e) {s : SC} (h : At0 s L) (a w : Nat) : ∀ t, t ≤ e.2.length → ∃ s', runF (((newE L e.1 e.2).map entL).take t) (s, a, w) = some (s', a + (cat (((newE L e.1 e.2).map entL).take t)).length, w) ∧ s'.log = L ∧ s'.op = e.2.take t ∧ s'.last = L.ep ∧ (0 < t → s'.ep = e.1)
  | 0, _ => ⟨s, rfl, h.log, by rw [h.op]; rfl, h.last, fun q => absurd q (by omega)⟩
  | t + 1, ht => by
    obtain ⟨s1, h1, h2, h3, h4, h5⟩ := ents_run hL g h a w t (by omega)
    have hlen : t < ((newE L e.1 e.2).map entL).length := by rw [List.length_map, newE_len]; omega
    have hn : t < (newE L e.1 e.2).length := by rw [newE_len]; omega
    rw [List.take_succ_eq_append_getElem hlen, runF_app, h1, List.getElem_map]
    have hE := newE_ok hL g _ (List.getElem_mem hn)
    have hat := newE_at L e.1 e.2 t (by omega)
    obtain ⟨x, hx⟩ : ∃ x, (newE L e.1 e.2)[t] = x := ⟨_, rfl⟩
    rw [hx] at hE hat ⊢
    have hop : s1.op.length = t := by rw [h3, List.length_take]; omega
    have hsc : scR s1 (entL x) = some { s1 with op := s1.op ++ [x.p], ep := x.ep } := by
      show scE s1 (entB [] x) = _
      unfold scE
      rw [getEn_put hE]
      simp only
      have g3 := g.2.2.1
      have g1 := g.1
      rw [if_neg]
      rw [h2, hop, h4]
      rw [hat]
      simp only
      rintro (q | q | q | ⟨q1, q2⟩)
      · exact q rfl
      · omega
      · omega
      · exact q2 (h5 q1).symm
    have hst : stepF (s1, a + (cat (((newE L e.1 e.2).map entL).take t)).length, w) (entL x) = some ({ s1 with op := s1.op ++ [x.p], ep := x.ep }, a + (cat (((newE L e.1 e.2).map entL).take t)).length + ((entL x).length + 8), w) := by
      unfold stepF
      simp only
      rw [hsc]
      rfl
    refine ⟨{ s1 with op := s1.op ++ [x.p], ep := x.ep }, ?_, h2, ?_, h4, fun _ => ?_⟩
    · show (stepF _ (entL x)).bind (runF []) = _
      rw [hst, cat_snoc, List.length_append, frame_len]
      simp only [Option.bind_some, runF, Nat.add_assoc]
    · show s1.op ++ [x.p] = _
      rw [h3, hat, List.take_succ_eq_append_getElem (by omega), List.getD_eq_getElem?_getD, List.getElem?_eq_getElem (by omega)]
      rfl
    · show x.ep = e.1
      rw [hat]
theorem ge_end (ep : Int) (h : 0 ≤ ep ∧ ep ≤ 9223372036854775807) : (ge1 (encU ep.toNat)).1 = ep.toNat ∧ (ge1 (encU ep.toNat)).2.fin.err = 0 := by
  have l0 : Lf ⟨encU ep.toNat, 0, 0, 0, 0⟩ (encU ep.toNat) (encU ep.toNat ++ []) := by rw [List.append_nil]; exact Lf.start _
  obtain ⟨s1, e1, l1⟩ := l0.num (by omega)
  have q : ge1 (encU ep.toNat) = (ep.toNat, s1) := e1
  rw [q]
  exact ⟨rfl, by rw [l1.fin]; exact l1.1⟩
theorem epoch_run {L : LE} (hL : LOk L) {e : EP} (g : GoodE L e) {s : SC} (h : At0 s L) (a w : Nat) : ∃ s', runF (loadsE L e) (s, a, w) = some (s', a + (cat (loadsE L e)).length, a + (cat (loadsE L e)).length) ∧ At0 s' (addL L e.1 e.2) := by
  obtain ⟨s1, h1, h2, h3, h4, h5⟩ := ents_run hL g h a w e.2.length (Nat.le_refl _)
  have hall : ((newE L e.1 e.2).map entL).take e.2.length = (newE L e.1 e.2).map entL := List.take_of_length_le (by rw [List.length_map, newE_len]; exact Nat.le_refl _)
  rw [hall] at h1
  rw [List.take_length] at h3
  have hep := hL.ep
  have g1 := g.1
  have g2 := g.2.1
  obtain ⟨q1, q2⟩ := ge_end e.1 (by omega)
  have hy := app_yes (L := L) (ep := e.1) (ps := e.2) g1 (by omega) g.2.2.1 g.2.2.2.1
  have hsc : scR s1 (endL2 e.1) = some ⟨addL L e.1 e.2, [], s1.ep, e.1⟩ := by
    show scN s1 (encU e.1.toNat) = _
    have hi : ((e.1.toNat : Nat) : Int) = e.1 := by omega
    unfold scN
    rw [q1, q2, hi, h2, h3, h4, hy, if_neg, if_neg (fun q => q rfl)]
    rintro (q | q | q | ⟨q3, q4⟩)
    · exact q rfl
    · omega
    · omega
    · exact q4 (h5 q3).symm
  refine ⟨⟨addL L e.1 e.2, [], s1.ep, e.1⟩, ?_, rfl, rfl, rfl⟩
  unfold loadsE
  rw [runF_app, h1, cat_snoc, List.length_append, frame_len]
  show (stepF _ (endL2 e.1)).bind (runF []) = _
  unfold stepF
  simp only
  rw [hsc]
  simp only [Option.bind_some, runF, Nat.add_assoc]
  rfl
theorem epochs_run : ∀ {l : List EP} {L : LE} (hL : LOk L) (g : GoodF L l) {s : SC} (h : At0 s L) (a w : Nat), ∃ s', runF (loadsF L l) (s, a, w) = some (s', a + (cat (loadsF L l)).length, if l = [] then w else a + (cat (loadsF L l)).length) ∧ At0 s' (logF L l)
  | [], L, hL, g, s, h, a, w => ⟨s, rfl, h⟩
  | e :: l, L, hL, g, s, h, a, w => by
    obtain ⟨s1, h1, h2⟩ := epoch_run hL g.1 h a w
    obtain ⟨s2, h3, h4⟩ := epochs_run (l := l) (addL_ok hL g.1.1 g.1.2.1 g.1.2.2.2.1 g.1.2.2.2.2 g.1.2.2.1) g.2 h2 (a + (cat (loadsE L e)).length) (a + (cat (loadsE L e)).length)
    refine ⟨s2, ?_, h4⟩
    rw [loadsF, runF_app, h1, Option.bind_some, h3, cat_app, List.length_append, if_neg (show ¬ (e :: l = []) from fun q => by cases q)]
    by_cases q : l = []
    · subst q
      simp [loadsF, cat]
    · rw [if_neg q]
      simp only [Nat.add_assoc]
/-- How many whole epochs lie ahead of a load. -/
theorem cut_at : ∀ {l : List EP} {L : LE} (j : Nat), j ≤ (loadsF L l).length → ∃ c, c ≤ l.length ∧ (loadsF L (l.take c)).length ≤ j ∧ (c = l.length ∧ j = (loadsF L l).length ∨ ∃ h : c < l.length, ∃ t, t ≤ l[c].2.length ∧ (loadsF L l).take j = loadsF L (l.take c) ++ ((newE (logF L (l.take c)) l[c].1 l[c].2).map entL).take t ∧ j < (loadsF L (l.take (c + 1))).length)
  | [], L, j, hj => ⟨0, Nat.le_refl _, Nat.zero_le _, .inl ⟨rfl, by simp [loadsF] at hj ⊢; omega⟩⟩
  | e :: l, L, j, hj => by
    have hE : (loadsE L e).length = e.2.length + 1 := by unfold loadsE; rw [List.length_append, List.length_map, newE_len]; rfl
    by_cases q : j < (loadsE L e).length
    · refine ⟨0, Nat.zero_le _, by simp [loadsF], .inr ⟨by simp, j, by simp only [List.getElem_cons_zero]; omega, ?_, ?_⟩⟩
      · simp only [List.take_zero, loadsF, List.nil_append, List.getElem_cons_zero]
        rw [List.take_append_of_le_length (by omega)]
        unfold loadsE
        rw [List.take_append_of_le_length (by rw [List.length_map, newE_len]; omega)]
        rfl
      · simp only [List.take_succ_cons, List.take_zero, loadsF, List.append_nil]
        exact q
    · have hj' : j - (loadsE L e).length ≤ (loadsF (addL L e.1 e.2) l).length := by rw [loadsF, List.length_append] at hj; omega
      obtain ⟨c, h1, h2, h3⟩ := cut_at (l := l) (L := addL L e.1 e.2) (j - (loadsE L e).length) hj'
      refine ⟨c + 1, by simpa using h1, by rw [List.take_succ_cons, loadsF, List.length_append]; omega, ?_⟩
      rcases h3 with ⟨h4, h5⟩ | ⟨h4, t, h5, h6, h7⟩
      · left
        exact ⟨by simpa using h4, by rw [loadsF, List.length_append]; omega⟩
      · right
        refine ⟨by simpa using h4, t, by simpa using h5, ?_, ?_⟩
        · rw [loadsF, List.take_append, List.take_of_length_le (by omega), h6, List.take_succ_cons, loadsF, List.append_assoc]
          rfl
        · rw [List.take_succ_cons, loadsF, List.length_append]; omega
/-- A beginning of frames. -/
theorem cat_take : ∀ (A : List (List UInt8)) (x : Nat), (∀ l ∈ A, l.length ≤ 65536) → x ≤ (cat A).length → ∃ j last k, j ≤ A.length ∧ last.length ≤ 65536 ∧ k < last.length + 8 ∧ (cat A).take x = cat (A.take j) ++ (frame last).take k ∧ (cat (A.take j)).length ≤ x ∧ (j = A.length ∨ x < (cat (A.take (j + 1))).length)
  | [], x, _, hx => ⟨0, [], 0, Nat.le_refl _, Nat.zero_le _, by decide, by simp [cat], Nat.zero_le _, .inl rfl⟩
  | a :: A, x, h, hx => by
    have ha := h a List.mem_cons_self
    by_cases q : x < (frame a).length
    · refine ⟨0, a, x, Nat.zero_le _, ha, by rw [frame_len] at q; exact q, ?_, Nat.zero_le _, .inr (by simp only [Nat.zero_add, List.take_succ_cons, List.take_zero, cat, List.append_nil]; exact q)⟩
      simp only [List.take_zero, cat, List.nil_append]
      rw [List.take_append_of_le_length (by omega)]
    · rw [cat, List.length_append] at hx
      obtain ⟨j, last, k, h1, h2, h3, h4, h5, h6⟩ := cat_take A (x - (frame a).length) (fun l hl => h l (List.mem_cons_of_mem _ hl)) (by omega)
      refine ⟨j + 1, last, k, by simpa using h1, h2, h3, ?_, ?_, ?_⟩
      · rw [cat, List.take_append, List.take_of_length_le (by omega), h4, List.take_succ_cons, cat, List.append_assoc]
      · rw [List.take_succ_cons, cat, List.length_append]; omega
      · rcases h6 with h6 | h6
        · left; simpa using h6
        · right
          rw [List.take_succ_cons, cat, List.length_append]; omega
theorem cat_mono {A : List (List UInt8)} {i j : Nat} (h : i ≤ j) : (cat (A.take i)).length ≤ (cat (A.take j)).length := by
  have : A.take i = (A.take j).take i := by rw [List.take_take, Nat.min_eq_left h]
  have h2 : A.take j = (A.take j).take i ++ (A.take j).drop i := (List.take_append_drop i _).symm
  rw [this]
  have h3 := congrArg (fun x => (cat x).length) h2
  simp only [cat_app, List.length_append] at h3
  omega
theorem loadsF_take : ∀ (L : LE) (l : List EP) (c : Nat), (loadsF L l).take (loadsF L (l.take c)).length = loadsF L (l.take c)
  | L, [], c => by simp [loadsF]
  | L, e :: l, 0 => by simp [loadsF]
  | L, e :: l, c + 1 => by
    rw [List.take_succ_cons, loadsF, loadsF, List.length_append, List.take_append, List.take_of_length_le (by omega), Nat.add_sub_cancel_left, loadsF_take]
theorem loadsF_le (L : LE) (l : List EP) {c d : Nat} (h : c ≤ d) : (loadsF L (l.take c)).length ≤ (loadsF L (l.take d)).length := by
  have : l.take c = (l.take d).take c := by rw [List.take_take, Nat.min_eq_left h]
  rw [this, ← loadsF_take L (l.take d) c, List.length_take]
  omega
theorem loadsF_short : ∀ {l : List EP} {L : LE} (hL : LOk L) (g : GoodF L l), ∀ p ∈ loadsF L l, p.length ≤ 65536
  | [], L, _, _, p, hp => by cases hp
  | e :: l, L, hL, g, p, hp => by
    rw [loadsF] at hp
    rcases List.mem_append.1 hp with q | q
    · unfold loadsE at q
      rcases List.mem_append.1 q with q | q
      · obtain ⟨x, hx, rfl⟩ := List.mem_map.1 q
        have := entB_len (newE_ok hL g.1 x hx)
        unfold entL
        rw [List.length_cons]; omega
      · rw [List.mem_singleton.1 q]
        have := hL.ep
        have := g.1.1
        have := g.1.2.1
        have := encU_len64 (show e.1.toNat < 2 ^ 64 by omega)
        unfold endL2
        rw [List.length_cons]; omega
    · exact loadsF_short (addL_ok hL g.1.1 g.1.2.1 g.1.2.2.2.1 g.1.2.2.2.2 g.1.2.2.1) g.2 p q
def L0 : LE := ⟨[], 0⟩
theorem L0_ok : LOk L0 := ⟨Nat.zero_le _, by decide, trivial⟩
/-- What a reading of a beginning finds. -/
theorem prefix_scan {l : List EP} (g : GoodF L0 l) {x m : Nat} (hm : m ≤ l.length) (hx1 : (bytesE (l.take m)).length ≤ x) (hx2 : x ≤ (bytesE l).length) :
    ((frames ((bytesE l).take x)).2.2 = 0 ∨ (frames ((bytesE l).take x)).2.2 = 3) ∧ ∃ c s, m ≤ c ∧ c ≤ l.length ∧ scanF (frames ((bytesE l).take x)).1 sc0 0 0 = some (s, (bytesE (l.take c)).length) ∧ s.log = logF L0 (l.take c) ∧ (bytesE (l.take c)).length ≤ x ∧ ((bytesE l).take x).take (bytesE (l.take c)).length = bytesE (l.take c) := by
  have hsh := loadsF_short L0_ok g
  obtain ⟨j, last, k, h1, h2, h3, h4, h5, h6⟩ := cat_take (loadsF L0 l) x hsh hx2
  have hb : (bytesE l).take x = cat ((loadsF L0 l).take j) ++ (frame last).take k := h4
  have hfr := frames_cat last k h2 h3 ((loadsF L0 l).take j) (fun p hp => hsh p (List.mem_of_mem_take hp))
  rw [hb, hfr]
  refine ⟨by simp only; split <;> simp, ?_⟩
  obtain ⟨c, c1, c2, c3⟩ := cut_at (l := l) (L := L0) j h1
  have hmj : (loadsF L0 (l.take m)).length ≤ j := by
    rcases h6 with h6 | h6
    · have := loadsF_le L0 l hm
      rw [List.take_length] at this
      omega
    · rcases Nat.lt_or_ge j (loadsF L0 (l.take m)).length with q | q
      · have h7 := cat_mono (A := loadsF L0 l) (i := j + 1) (j := (loadsF L0 (l.take m)).length) (by omega)
        rw [loadsF_take] at h7
        have : (bytesE (l.take m)).length = (cat (loadsF L0 (l.take m))).length := rfl
        omega
      · exact q
  have hmc : m ≤ c := by
    rcases c3 with ⟨q, _⟩ | ⟨q, t, _, _, q4⟩
    · omega
    · rcases Nat.lt_or_ge c m with q5 | q5
      · have := loadsF_le L0 l (c := c + 1) (d := m) (by omega)
        omega
      · exact q5
  obtain ⟨s1, r1, r2⟩ := epochs_run (l := l.take c) L0_ok (GoodF_take c g) (s := sc0) ⟨rfl, rfl, rfl⟩ 0 0
  have hw : (if l.take c = [] then 0 else 0 + (cat (loadsF L0 (l.take c))).length) = (bytesE (l.take c)).length := by
    split
    · rename_i q; rw [q]; rfl
    · rw [Nat.zero_add]; rfl
  rw [hw] at r1
  have hscan : ∃ s, scanF ((loadsF L0 l).take j) sc0 0 0 = some (s, (bytesE (l.take c)).length) ∧ s.log = logF L0 (l.take c) := by
    rcases c3 with ⟨q1, q2⟩ | ⟨q1, t, q2, q3, q4⟩
    · have hall : (loadsF L0 l).take j = loadsF L0 (l.take c) := by rw [q2, q1, List.take_length, List.take_length]
      rw [hall, scanF_run, r1]
      exact ⟨s1, rfl, r2.log⟩
    · have hgc : GoodE (logF L0 (l.take c)) l[c] := by
        have h7 := GoodF_take (c + 1) g
        rw [List.take_succ_eq_append_getElem q1] at h7
        have : ∀ {a : List EP} {L : LE} {e : EP}, GoodF L (a ++ [e]) → GoodE (logF L a) e := by
          intro a
          induction a with
          | nil => intro L e h; exact h.1
          | cons y a ih => intro L e h; exact ih h.2
        exact this h7
      obtain ⟨s2, p1, p2, -⟩ := ents_run (logF_ok L0_ok (GoodF_take c g)) hgc r2 (0 + (cat (loadsF L0 (l.take c))).length) (bytesE (l.take c)).length t q2
      rw [q3, scanF_run, runF_app, r1, Option.bind_some, p1]
      exact ⟨s2, rfl, p2⟩
  obtain ⟨s, hs1, hs2⟩ := hscan
  have hcx : (bytesE (l.take c)).length ≤ x := by
    have h7 := cat_mono (A := loadsF L0 l) c2
    rw [loadsF_take] at h7
    have : (bytesE (l.take c)).length = (cat (loadsF L0 (l.take c))).length := rfl
    omega
  refine ⟨c, s, hmc, c1, hs1, hs2, hcx, ?_⟩
  rw [← hb, List.take_take, Nat.min_eq_left hcx]
  have h8 : bytesE l = bytesE (l.take c) ++ cat ((loadsF L0 l).drop (loadsF L0 (l.take c)).length) := by
    show cat (loadsF L0 l) = cat (loadsF L0 (l.take c)) ++ _
    rw [← cat_app]
    conv => lhs; rw [← List.take_append_drop (loadsF L0 (l.take c)).length (loadsF L0 l), loadsF_take]
  rw [h8, List.take_left]
end Go.Proofs.YtjlaomcankmdjaaGreat

/- The plain law of JournalSafe, with the disk. -/
namespace Go.Proofs.YtjlaomcankmdjaaGreat
open Go.Proofs.Eng Go.Proofs.Codec Go.Proofs.Foot Go.Proofs.Journal
set_option linter.unusedSimpArgs false
set_option linter.unusedVariables false
theorem bytesE_mono (l : List EP) {c d : Nat} (h : c ≤ d) : (bytesE (l.take c)).length ≤ (bytesE (l.take d)).length := by
  have h1 := loadsF_le L0 l h
  have h2 := cat_mono (A := loadsF L0 l) h1
  rw [loadsF_take, loadsF_take] at h2
  exact h2
theorem bytesE_all (l : List EP) (c : Nat) : (bytesE (l.take c)).length ≤ (bytesE l).length := by
  rcases Nat.le_total c l.length with h | h
  · have := bytesE_mono l h
    rwa [List.take_length] at this
  · rw [List.take_of_length_le h]; exact Nat.le_refl _
/-- A beginning of an epochs' bytes that holds the first m epochs. -/
def Part (l : List EP) (m : Nat) (b : List UInt8) : Prop := ∃ x, b = (bytesE l).take x ∧ (bytesE (l.take m)).length ≤ x ∧ x ≤ (bytesE l).length
theorem left_full {k : DK} (h : k.sf = k.b.length) (n : Int) : leftD k n = k.b := by
  unfold leftD leftN
  rw [h]
  have : (if n < 0 then 0 else if (k.b.length : Int) - (k.b.length : Int) < n then k.b.length - k.b.length else n.toNat) = 0 := by split <;> (try split) <;> omega
  rw [this, Nat.add_zero, List.take_length]
theorem cutD_ok {k : DK} {wh : Nat} (h : wh ≤ k.b.length) : cutD (wh : Int) k = ({ k with b := k.b.take wh, sf := wh }, 0) := by
  unfold cutD
  rw [if_neg (by omega)]
  rfl
theorem open_left {l : List EP} (g : GoodF L0 l) {m : Nat} (hm : m ≤ l.length) {k : DK} (hp : Part l m k.b) (hsf : k.sf = k.b.length) :
    Part l m (openJ k).2.2.b ∧ (openJ k).2.2.sf = (openJ k).2.2.b.length ∧ (k.off = false → k.lf = -1 → ∃ c, m ≤ c ∧ c ≤ l.length ∧ (openJ k).1 = some (logF L0 (l.take c)) ∧ (openJ k).2.1 = 0) := by
  have hp0 := hp
  obtain ⟨x, hb, h1, h2⟩ := hp
  unfold openJ
  cases hoff : k.off with
  | true => rw [if_pos rfl]; exact ⟨hp0, hsf, fun q => by cases q⟩
  | false =>
    rw [if_neg (by decide)]
    obtain ⟨hf, c, s, c1, c2, hs, hl, hcx, htk⟩ := prefix_scan g hm h1 h2
    rw [← hb] at hf hs htk
    rw [if_neg (by omega), hs]
    simp only
    have hxl : k.b.length = x := by rw [hb, List.length_take]; omega
    obtain ⟨wh, hwh⟩ : ∃ wh, (bytesE (l.take c)).length = wh := ⟨_, rfl⟩
    rw [hwh] at hcx htk ⊢
    unfold open2
    by_cases q : wh < k.b.length
    · rw [if_pos q]
      unfold opD
      by_cases q2 : k.off = true ∨ k.lf = 0
      · rw [if_pos q2]
        simp only
        rw [if_pos (by decide)]
        refine ⟨hp0, hsf, fun _ q3 => ?_⟩
        rcases q2 with q2 | q2
        · rw [hoff] at q2; cases q2
        · omega
      · rw [if_neg q2, cutD_ok (k := { k with lf := if 0 < k.lf then k.lf - 1 else k.lf }) (Nat.le_of_lt q)]
        simp only
        rw [if_neg (by decide)]
        unfold open3
        have hsd : ¬ safeD { b := k.b.take wh, sf := wh, lf := if 0 < k.lf then k.lf - 1 else k.lf, off := k.off } < wh := by unfold safeD; simp only; rw [if_neg (by rw [hoff]; decide)]; omega
        rw [if_neg hsd]
        simp only
        rw [if_neg (by decide)]
        simp only
        have hwl : (k.b.take wh).length = wh := by rw [List.length_take]; omega
        refine ⟨⟨wh, ?_, ?_, ?_⟩, hwl.symm, fun _ _ => ⟨c, c1, c2, by rw [hl], (by first | rfl | trivial)⟩⟩
        · rw [hb, List.take_take, Nat.min_eq_left hcx]
        · rw [← hwh]; exact bytesE_mono l c1
        · omega
    · rw [if_neg q]
      simp only
      rw [if_neg (by decide)]
      unfold open3
      have hsd : ¬ safeD k < wh := by unfold safeD; rw [if_neg (by rw [hoff]; decide), hsf]; omega
      rw [if_neg hsd]
      simp only
      rw [if_neg (by decide)]
      exact ⟨hp0, hsf, fun _ _ => ⟨c, c1, c2, by rw [hl], (by first | rfl | trivial)⟩⟩
theorem newD_b {b : List UInt8} (h : b.length ≤ 4194304) : (newD b).b = b ∧ (newD b).sf = b.length ∧ (newD b).off = false ∧ (newD b).lf = -1 := by
  unfold newD
  rw [List.take_of_length_le h]
  exact ⟨rfl, rfl, rfl, rfl⟩
theorem armD_b (n : Int) (k : DK) : (armD n k).b = k.b ∧ (armD n k).sf = k.sf ∧ (armD n k).off = k.off := by
  unfold armD
  split <;> exact ⟨rfl, rfl, rfl⟩
/-- Once more: the power fails while it is opened. -/
theorem again_part {l : List EP} (g : GoodF L0 l) {m : Nat} (hm : m ≤ l.length) {b : List UInt8} (hp : Part l m b) (hb : b.length ≤ 4194304) (a n : Int) : Part l m (leftD (openJ (armD a (newD b))).2.2 n) ∧ (leftD (openJ (armD a (newD b))).2.2 n) = (openJ (armD a (newD b))).2.2.b := by
  obtain ⟨n1, n2, n3, n4⟩ := newD_b hb
  obtain ⟨a1, a2, a3⟩ := armD_b a (newD b)
  obtain ⟨o1, o2, -⟩ := open_left g hm (k := armD a (newD b)) (by rw [a1, n1]; exact hp) (by rw [a1, a2, n1, n2])
  rw [left_full o2]
  exact ⟨o1, rfl⟩
theorem last_part {l : List EP} (g : GoodF L0 l) {m : Nat} (hm : m ≤ l.length) {b : List UInt8} (hp : Part l m b) (hb : b.length ≤ 4194304) : ∃ c, m ≤ c ∧ c ≤ l.length ∧ (openJ (newD b)).1 = some (logF L0 (l.take c)) ∧ (openJ (newD b)).2.1 = 0 := by
  obtain ⟨n1, n2, n3, n4⟩ := newD_b hb
  exact (open_left g hm (k := newD b) (by rw [n1]; exact hp) (by rw [n1, n2])).2.2 n3 n4
/-- What holds while epochs are written. -/
structure JI (L : LE) (k : DK) (fl : Int) (l : List EP) (m : Nat) : Prop where
  g : GoodF L0 l
  log : L = logF L0 l
  b : k.b = bytesE l
  hm : m ≤ l.length
  sf : k.sf = (bytesE (l.take m)).length
  fl : fl = ((logF L0 (l.take m)).l.length : Int)
theorem JI.start : JI ⟨[], 0⟩ (newD []) 0 [] 0 := ⟨trivial, rfl, rfl, Nat.le_refl _, rfl, rfl⟩
section
variable {L : LE} {k : DK} {fl : Int} {l : List EP} {m : Nat}
theorem JI.ok (J : JI L k fl l m) : LOk L := by rw [J.log]; exact logF_ok L0_ok J.g
theorem JI.arm (J : JI L k fl l m) (n : Int) : JI L (armD n k) fl l m := by
  obtain ⟨a1, a2, a3⟩ := armD_b n k
  exact ⟨J.g, J.log, by rw [a1]; exact J.b, J.hm, by rw [a2]; exact J.sf, J.fl⟩
theorem JI.write (J : JI L k fl l m) {ep : Int} {ps : List PE} (hep : ep ≤ 9223372036854775807) (hf : ∀ p ∈ ps, PFit p) :
    ((writeJ L k ep ps).1.2.2 = 0 → JI (writeJ L k ep ps).1.1 (writeJ L k ep ps).2 fl (l ++ [(ep, ps)]) m) ∧ ((writeJ L k ep ps).1.2.2 ≠ 0 → JI (writeJ L k ep ps).1.1 (writeJ L k ep ps).2 fl l m) := by
  have hJ := J
  obtain ⟨g, hlog, hb, hm, hsf, hfl⟩ := J
  unfold writeJ
  by_cases c1 : (appL L ep ps).2.2.1 = 0
  · rw [if_neg (fun q => q c1)]
    obtain ⟨b1, b2, b3, b4, b5⟩ := app_ok c1
    rw [b5]
    simp only
    have hG : GoodE (logF L0 l) (ep, ps) := by rw [← hlog]; exact ⟨b1, hep, b3, b4, hf⟩
    have hep2 : epF ep (fromL (addL L ep ps) L.l.length ps.length) = cat (loadsE L (ep, ps)) := by
      rw [from_add]
      exact epF_cat hJ.ok (by rw [hlog]; exact hG)
    rw [hep2]
    unfold opD
    by_cases q : k.off = true ∨ k.lf = 0
    · rw [if_pos q]
      simp only
      rw [if_pos (by decide)]
      exact ⟨(fun q => by cases q), fun _ => ⟨g, hlog, hb, hm, hsf, hfl⟩⟩
    · rw [if_neg q]
      unfold appD
      simp only
      by_cases q2 : 4194304 < k.b.length + (cat (loadsE L (ep, ps))).length
      · rw [if_pos q2]
        simp only
        rw [if_pos (by decide)]
        exact ⟨(fun q => by cases q), fun _ => ⟨g, hlog, hb, hm, hsf, hfl⟩⟩
      · rw [if_neg q2]
        simp only
        rw [if_neg (by decide)]
        refine ⟨fun _ => ⟨GoodF_snoc g hG, by rw [logF_snoc, hlog], ?_, by rw [List.length_append]; omega, ?_, ?_⟩, fun q => absurd rfl q⟩
        · show k.b ++ cat (loadsE L (ep, ps)) = cat (loadsF L0 (l ++ [(ep, ps)]))
          rw [loadsF_snoc, cat_app, hb, hlog]
          rfl
        · rw [List.take_append_of_le_length hm]; exact hsf
        · rw [List.take_append_of_le_length hm]; exact hfl
  · rw [if_pos c1]
    exact ⟨fun q => absurd q c1, fun _ => ⟨g, hlog, hb, hm, hsf, hfl⟩⟩
theorem JI.flush (J : JI L k fl l m) : JI L (opD k synD).1 (if (opD k synD).2 = 0 then (L.l.length : Int) else fl) l (if (opD k synD).2 = 0 then l.length else m) := by
  obtain ⟨g, hlog, hb, hm, hsf, hfl⟩ := J
  unfold opD
  by_cases q : k.off = true ∨ k.lf = 0
  · rw [if_pos q]
    simp only
    rw [if_neg (by decide), if_neg (by decide)]
    exact ⟨g, hlog, hb, hm, hsf, hfl⟩
  · rw [if_neg q]
    unfold synD
    simp only [if_true]
    exact ⟨g, hlog, hb, Nat.le_refl _, by rw [List.take_length, hb], by rw [List.take_length, hlog]⟩
theorem JI.part (J : JI L k fl l m) (n : Int) : Part l m (leftD k n) := by
  have h1 := bytesE_all l m
  have h2 := J.sf
  have h3 := J.b
  refine ⟨leftN k n, by unfold leftD; rw [h3], ?_, ?_⟩
  · unfold leftN; omega
  · unfold leftN
    have : k.b.length = (bytesE l).length := by rw [h3]
    split
    · omega
    · split <;> omega
end
/-! What comes back is what was written. -/
theorem newE_p (L : LE) (ep : Int) (ps : List PE) : (newE L ep ps).map (·.p) = ps := by
  apply List.ext_getElem
  · rw [List.length_map, newE_len]
  · intro i h1 h2
    rw [List.getElem_map, newE_at L ep ps i h2, List.getD_eq_getElem?_getD, List.getElem?_eq_getElem h2]
    rfl
theorem logF_p : ∀ (L : LE) (l : List EP), (logF L l).l.map (·.p) = L.l.map (·.p) ++ (l.map (·.2)).flatten
  | L, [] => by simp [logF]
  | L, e :: l => by
    have h := logF_p (addL L e.1 e.2) l
    show (logF (addL L e.1 e.2) l).l.map (·.p) = _
    rw [h, addL_l, List.map_append, newE_p, List.map_cons, List.flatten_cons, List.append_assoc]
theorem logF_app (L : LE) (a b : List EP) : logF L (a ++ b) = logF (logF L a) b := by unfold logF; rw [List.foldl_append]
theorem logF_pre : ∀ (L : LE) (l : List EP), ∃ t, (logF L l).l = L.l ++ t
  | L, [] => ⟨[], by simp [logF]⟩
  | L, e :: l => by
    obtain ⟨t, h⟩ := logF_pre (addL L e.1 e.2) l
    exact ⟨newE L e.1 e.2 ++ t, by show (logF (addL L e.1 e.2) l).l = _; rw [h, addL_l, List.append_assoc]⟩
theorem logF_part (l : List EP) (c : Nat) : ∃ t, (logF L0 l).l = (logF L0 (l.take c)).l ++ t := by
  obtain ⟨t, h⟩ := logF_pre (logF L0 (l.take c)) (l.drop c)
  rw [← logF_app, List.take_append_drop] at h
  exact ⟨t, h⟩
theorem Run.at {ep : Int} : ∀ {l : List EE} {last : Int} {n : Nat}, Run ep last n l → ∀ (i : Nat) (h : i < l.length), l[i].sq = ((n + i : Nat) : Int)
  | x :: l, last, n, hr, 0, h => by simpa using hr.1
  | x :: l, last, n, hr, i + 1, h => by
    have := Run.at hr.2.2.2.2 i (by simpa using h)
    simp only [List.getElem_cons_succ]
    rw [this]
    omega
end Go.Proofs.YtjlaomcankmdjaaGreat

namespace Go.Proofs.YtjlaomcankmdjaaGreat
open Go.RowKit Go.Proofs.Eng Go.Proofs.Codec Go.Proofs.Foot Go.Proofs.Journal
set_option linter.unusedSimpArgs false
set_option linter.unusedVariables false set_option maxRecDepth 10000
attribute [local irreducible] T TL LV TH TA
set_option maxHeartbeats 3200000
theorem eqValue (a b : Int) (t : ByteArray) (w : World) : (Op.equalIn 10000 161 (.agg #[.int .i64 a, .int .i64 b, .string t]) (.agg #[.int .i64 a, .int .i64 b, .string t])).run Tryz.prog w = .ok true w := by
  rw [run_equalIn_struct w 9999 _ _ _ (by kernel_rfl) (by kernel_rfl)]
  have e : (Tryz.prog.fieldsOf 161).toList = [{ name := "Kind", type := 3, offset := 0, embedded := false, tag := "", pkgPath := "", byteOffset := 0 }, { name := "Int", type := 2, offset := 1, embedded := false, tag := "", pkgPath := "", byteOffset := 8 }, { name := "Text", type := 9, offset := 2, embedded := false, tag := "", pkgPath := "", byteOffset := 16 }] := by kernel_rfl
  rw [e]
  have h1 := str_beq t t
  simp [Op.eqFields, part, run_equalIn_int w 9998 3 .i64 .i64 _ _ Tryz.underlying3, run_equalIn_int w 9998 2 .i64 .i64 _ _ Tryz.underlying2, run_equalIn_string w 9998 9 _ _ Tryz.underlying9, run_isAgg_no Tryz.underlying9 rfl, run_isAgg_no Tryz.underlying3 rfl, run_isAgg_no Tryz.underlying2 rfl, h1]
theorem rvalues_c (A B : Option Addr) (n c d : Nat) (l : List VE) (w : World) (h : Rd w A n 3 (rowV veV l)) (g : Rd w B n 3 (rowV veV l)) (hn : n ≤ 1048576) :
    Ret Tryz.prog 79 [.slice A n c, .slice B n d] w (fun v w' => v = .bool true ∧ Ext w w') := by
  have hla : l.length = n := by have := h.1; rw [rowV_len veV_len] at this; omega
  refine ret_T (n := 26) Tryz.func79 rfl rfl ?_
  repeat (first | refine T_seq ?_ | refine T_region ?_ | refine T_cond_false rfl ?_ | refine T_block ?_ | refine T_skip ?_ | refine TL_ne_f (hk := ?_) | refine TL_nil ?_ | refine TL_move (hk := ?_) | refine TL_assign (hk := ?_) | refine TL_len TE (hk := ?_))
  refine T_loop (ι := Nat) (fun i => [(5, .int .i64 (i : Int)), (0, .slice A n c), (1, .slice B n d)]) (fun i w' => Ext w w' ∧ i ≤ n) (fun i => n - i) 0 (.c rfl (.c rfl (.c rfl (.n)))) ⟨Mod.refl _ _, Nat.zero_le _⟩ ?_
  rintro i w1 ⟨e1, hi⟩ ih
  have h1 := h.be e1
  have g1 := g.be e1
  by_cases hlt : i < n
  · obtain ⟨x, hx⟩ : ∃ x, l.getD i ⟨0, 0, []⟩ = x := ⟨_, rfl⟩
    have hta := rowV_elem veV_len l i ⟨0, 0, []⟩ (by omega)
    have hA : A ≠ none := by obtain ⟨_, _, hq, _⟩ := h1.2 (by omega); rw [hq]; simp
    have hB : B ≠ none := by obtain ⟨_, _, hq, _⟩ := g1.2 (by omega); rw [hq]; simp
    rw [hx] at hta
    repeat (first | refine T_seq ?_ | refine T_region ?_ | refine T_region_q TE.mixed (by kernel_rfl) ?_ | refine T_cond_true rfl ?_ | refine T_block ?_ | refine T_skip ?_ | refine TL_lt_t (hk := ?_) | refine TL_nil ?_ | refine TL_move (hk := ?_) | refine TL_indexAddrn TE (hk := ?_) | refine TL_len TE (hk := ?_))
    refine TL_loada TE (cs := [.int .i64 x.kd, .int .i64 x.n, .string (ofL x.t)]) (hx := rfl) (ht := rfl) (hi := rfl) (hr := h1) (hc := hta) (h0 := Nat.succ_pos _) (hk := ?_)
    repeat (first | refine TL_move (hk := ?_) | refine TL_indexAddrn TE (hk := ?_))
    refine TL_loada TE (cs := [.int .i64 x.kd, .int .i64 x.n, .string (ofL x.t)]) (hx := rfl) (ht := rfl) (hi := rfl) (hr := g1) (hc := hta) (h0 := Nat.succ_pos _) (hk := ?_)
    refine TL_ane (r := true) (by kernel_rfl) (eqValue _ _ _) (hk := ?_)
    refine TL_nil_q ?_; intro w2 e2
    repeat (first | refine T_region ?_ | refine T_cond_false rfl ?_ | refine T_inBlock ?_ | refine T_skip ?_ | refine TL_add (hk := ?_) | refine TL_nil ?_ | refine TL_move (hk := ?_) | refine TL_assign (hk := ?_))
    exact ih (i + 1) _ _ (by omega) ⟨e1.ext e2, by omega⟩ (.c rfl (.c rfl (.c rfl (.n))))
  · clear ih
    repeat (first | refine T_seq ?_ | refine T_region ?_ | refine T_cond_false rfl ?_ | refine T_exit rfl ?_ | refine TL_lt_f (hk := ?_) | refine TL_nil ?_ | refine TL_move (hk := ?_) | refine TL_assign (hk := ?_) | refine TL_len TE (hk := ?_))
    exact T_ret1 rfl rfl ⟨rfl, e1⟩
theorem rtexts_c (A B : Option Addr) (n c d : Nat) (l : List (List UInt8)) (w : World) (h : Rd w A n 1 (sv l)) (g : Rd w B n 1 (sv l)) (hn : n ≤ 1048576) :
    Ret Tryz.prog 80 [.slice A n c, .slice B n d] w (fun v w' => v = .bool true ∧ Ext w w') := by
  have hla : l.length = n := by simpa using h.1
  refine ret_T (n := 26) Tryz.func80 rfl rfl ?_
  repeat (first | refine T_seq ?_ | refine T_region ?_ | refine T_cond_false rfl ?_ | refine T_block ?_ | refine T_skip ?_ | refine TL_ne_f (hk := ?_) | refine TL_nil ?_ | refine TL_move (hk := ?_) | refine TL_assign (hk := ?_) | refine TL_len TE (hk := ?_))
  refine T_loop (ι := Nat) (fun i => [(5, .int .i64 (i : Int)), (0, .slice A n c), (1, .slice B n d)]) (fun i w' => Ext w w' ∧ i ≤ n) (fun i => n - i) 0 (.c rfl (.c rfl (.c rfl (.n)))) ⟨Mod.refl _ _, Nat.zero_le _⟩ ?_
  rintro i w1 ⟨e1, hi⟩ ih
  have h1 := h.be e1
  have g1 := g.be e1
  by_cases hlt : i < n
  · have hA : A ≠ none := by obtain ⟨_, _, hq, _⟩ := h1.2 (by omega); rw [hq]; simp
    have hB : B ≠ none := by obtain ⟨_, _, hq, _⟩ := g1.2 (by omega); rw [hq]; simp
    repeat (first | refine T_seq ?_ | refine T_region ?_ | refine T_region_q TE.mixed (by kernel_rfl) ?_ | refine T_cond_true rfl ?_ | refine T_block ?_ | refine T_skip ?_ | refine TL_lt_t (hk := ?_) | refine TL_sne_f (hk := ?_) | refine TL_nil ?_ | refine TL_move (hk := ?_) | refine TL_indexAddr1n TE (hk := ?_) | refine TL_len TE (hk := ?_) | refine TL_load_s TE (hk := ?_))
    refine TL_nil_q ?_; intro w2 e2
    repeat (first | refine T_region ?_ | refine T_cond_false rfl ?_ | refine T_inBlock ?_ | refine T_skip ?_ | refine TL_add (hk := ?_) | refine TL_nil ?_ | refine TL_move (hk := ?_) | refine TL_assign (hk := ?_))
    exact ih (i + 1) _ _ (by omega) ⟨e1.ext e2, by omega⟩ (.c rfl (.c rfl (.c rfl (.n))))
  · clear ih
    repeat (first | refine T_seq ?_ | refine T_region ?_ | refine T_cond_false rfl ?_ | refine T_exit rfl ?_ | refine TL_lt_f (hk := ?_) | refine TL_nil ?_ | refine TL_move (hk := ?_) | refine TL_assign (hk := ?_) | refine TL_len TE (hk := ?_))
    exact T_ret1 rfl rfl ⟨rfl, e1⟩
theorem PSame_c (x y : PM) (w : World) (X : PLies w x) (Y : PLies w y) (F : PFit x.p) (hxy : x.p = y.p) : Ret Tryz.prog 31 [pA x, pA y] w (fun v w' => v = .bool true ∧ Ext w w') := by
  obtain ⟨l1, l2, l3⟩ := X.len
  obtain ⟨m1, m2, m3⟩ := Y.len
  rw [← hxy] at m1 m2 m3
  have na := F.na
  have nb := F.nb
  have nc := F.nc
  have tk := F.q.tk
  have cl := F.q.cl
  have hw := F.how
  obtain ⟨P, a, b, c⟩ := x
  obtain ⟨P2, a2, b2, c2⟩ := y
  obtain ⟨a, an, ac⟩ := a
  obtain ⟨b, bn, bc⟩ := b
  obtain ⟨c, cn, cc⟩ := c
  obtain ⟨a2, an2, ac2⟩ := a2
  obtain ⟨b2, bn2, bc2⟩ := b2
  obtain ⟨c2, cn2, cc2⟩ := c2
  simp only at hxy
  subst hxy
  simp only at l1 l2 l3 m1 m2 m3 na nb nc tk cl hw
  have q1 : an2 = an := by omega
  have q2 : bn2 = bn := by omega
  have q3 : cn2 = cn := by omega
  subst q1 q2 q3
  obtain ⟨xa, xb, xc⟩ := X
  obtain ⟨ya, yb, yc⟩ := Y
  simp only at xa xb xc ya yb yc
  refine ret_T (n := 62) Tryz.func31 rfl rfl ?_
  repeat (first | refine T_seq ?_ | refine T_region ?_)
  refine TL_box (hk := ?_); intro p1 w1 e1 h1 h1' k1
  refine TL_box (hk := ?_); intro p2 w2 e2 h2 h2' k2
  replace k1 : Blk w1 p1 45 [.int .i64 P.q.cl, .int .u64 (P.q.tk : Int), .string (ofL P.q.nm), .slice a an2 ac, .int .i64 P.how, .slice b bn2 bc, .slice c cn2 cc] := k1
  replace k2 : Blk w2 p2 45 [.int .i64 P.q.cl, .int .u64 (P.q.tk : Int), .string (ofL P.q.nm), .slice a2 an2 ac2, .int .i64 P.how, .slice b2 bn2 bc2, .slice c2 cn2 cc2] := k2
  have k12 := k1.be e2
  have e02 := e1.ext e2
  clear k1
  repeat (first | refine T_seq ?_ | refine T_region ?_ | refine TL_nil ?_ | refine TL_assign (hk := ?_) | refine TL_fieldAddr TE (hk := ?_))
  refine TL_loadb TE (cs := [.int .i64 P.q.cl, .int .u64 (P.q.tk : Int), .string (ofL P.q.nm), .slice a an2 ac]) (o := 0) rfl rfl k12 rfl rfl (Nat.succ_pos _) (hk := ?_)
  --
  refine TL_alloc TE (hk := ?_); intro p3 w3 e3 h3 h3' k3
  --
  refine TL_storea TE (hk := ?_); intro w4 m4 z4 k4
  replace k4 : Blk w4 p3 40 [.int .i64 P.q.cl, .int .u64 (P.q.tk : Int), .string (ofL P.q.nm), .slice a an2 ac] := k4
  have e24 : Ext w2 w4 := e3.step m4 (fun u hu => .inr (by rw [List.mem_singleton.1 hu]; omega))
  have k14 := k12.be e24
  have k24 := k2.be e24
  clear k12 k2
  repeat (first | refine T_seq ?_ | refine T_region ?_ | refine TL_nil ?_ | refine TL_fieldAddr TE (hk := ?_))
  refine TL_loadb TE (cs := [.int .i64 P.q.cl, .int .u64 (P.q.tk : Int), .string (ofL P.q.nm), .slice a2 an2 ac2]) (o := 0) rfl rfl k24 rfl rfl (Nat.succ_pos _) (hk := ?_)
  --
  refine TL_alloc TE (hk := ?_); intro p5 w5 e5 h5 h5' k5
  --
  refine TL_storea TE (hk := ?_); intro w6 m6 z6 k6
  replace k6 : Blk w6 p5 40 [.int .i64 P.q.cl, .int .u64 (P.q.tk : Int), .string (ofL P.q.nm), .slice a2 an2 ac2] := k6
  have e46 : Ext w4 w6 := e5.step m6 (fun u hu => .inr (by rw [List.mem_singleton.1 hu]; omega))
  have k16 := k14.be e46
  have k26 := k24.be e46
  have k36 := k4.be e46
  have e06 := (e02.ext e24).ext e46
  clear k14 k24 k4
  repeat (first | refine T_seq ?_ | refine T_region ?_ | refine TL_eq_t (hk := ?_) | refine TL_seq_t (hk := ?_) | refine TL_nil ?_ | refine TL_move (hk := ?_) | refine TL_load TE (hk := ?_) | refine TL_fieldAddr TE (hk := ?_) | refine TL_yes (hk := ?_) | refine TL_pick_t (hk := ?_))
  refine TL_call TE (hc := rvalues_c a a2 an2 ac ac2 P.q.ar w6 (xa.be e06) (ya.be e06) (by omega)) (hk := ?_)
  rintro _ w7 ⟨rfl, e7⟩
  have k17 := k16.be e7
  have k27 := k26.be e7
  have e07 := e06.ext e7
  clear k16 k26 k36 k6
  repeat (first | refine TL_eq_t (hk := ?_) | refine TL_move (hk := ?_) | refine TL_load TE (hk := ?_) | refine TL_fieldAddr TE (hk := ?_) | refine TL_yes (hk := ?_) | refine TL_pick_t (hk := ?_))
  refine TL_call TE (hc := rtexts_c b b2 bn2 bc bc2 P.rd w7 (xb.be e07) (yb.be e07) (by omega)) (hk := ?_)
  rintro _ w8 ⟨rfl, e8⟩
  have k18 := k17.be e8
  have k28 := k27.be e8
  have e08 := e07.ext e8
  clear k17 k27
  repeat (first | refine TL_move (hk := ?_) | refine TL_load TE (hk := ?_) | refine TL_fieldAddr TE (hk := ?_) | refine TL_yes (hk := ?_) | refine TL_pick_t (hk := ?_))
  refine TL_call TE (hc := rtexts_c c c2 cn2 cc cc2 P.wr w8 (xc.be e08) (yc.be e08) (by omega)) (hk := ?_)
  rintro _ w9 ⟨rfl, e9⟩
  repeat (first | refine TL_nil ?_ | refine TL_assign (hk := ?_) | refine TL_pick_t (hk := ?_))
  exact T_ret1 rfl rfl ⟨rfl, e08.ext e9⟩
theorem rplan_c (x : PM) (w : World) (X : PLies w x) (F : PFit x.p) : Ret Tryz.prog 77 [pA x] w (fun v w' => ∃ x', v = pA x' ∧ x'.p = x.p ∧ Ext w w' ∧ POwn w' w.heap.size x') := by
  obtain ⟨l1, l2, l3⟩ := X.len
  have na := F.na
  have nb := F.nb
  have nc := F.nc
  obtain ⟨P, a, b, c⟩ := x
  obtain ⟨a, an, ac⟩ := a
  obtain ⟨b, bn, bc⟩ := b
  obtain ⟨c, cn, cc⟩ := c
  obtain ⟨xa, xb, xc⟩ := X
  simp only at xa xb xc l1 l2 l3 na nb nc
  have hone := rowV_one veV_one P.q.ar
  have sone := sv_one P.rd
  have sone2 := sv_one P.wr
  refine ret_T (n := 25) Tryz.func77 rfl rfl ?_
  repeat (first | refine T_seq ?_ | refine T_region ?_)
  refine TL_box (hk := ?_); intro b1 w1 e1 h1 h1' k1
  replace k1 : Blk w1 b1 45 [.int .i64 P.q.cl, .int .u64 (P.q.tk : Int), .string (ofL P.q.nm), .slice a an ac, .int .i64 P.how, .slice b bn bc, .slice c cn cc] := k1
  --
  refine TL_alloc TE (hk := ?_); intro b2 w2 e2 h2 h2' k2
  have k12 := k1.be e2
  have e02 := e1.ext e2
  have z1 := e1.size
  have z2 := e2.size
  clear k1
  repeat (first | refine T_seq ?_ | refine T_region ?_ | refine TL_nil ?_)
  refine TL_buildSlice0 TE (hk := ?_); intro b3 w3 e3 h3 h3' k3
  have o3 : Own w3 w2.heap.size 161 3 (some ⟨b3, 0, none⟩) 0 0 [] := Own.of_blk k3 h3 rfl (by decide)
  have k13 := k12.be e3
  have xa3 := xa.be (e02.ext e3)
  repeat (first | refine TL_load TE (hk := ?_) | refine TL_fieldAddr TE (hk := ?_))
  refine TL_append TE (hk := ?_); intro A4 c4 w4 o4 m4 n4
  rw [List.nil_append] at o4
  have e24 : Ext w2 w4 := Mod.own e3 m4 o3.hi
  have k14 := k12.be e24
  have z4 := e24.size
  clear k13 k12 xa3 k3 o3
  repeat (refine TL_fieldAddr TE (hk := ?_))
  refine TL_store TE (hk := ?_); intro w5 m5 z5 k5
  replace k5 : Blk w5 b1 45 [.int .i64 P.q.cl, .int .u64 (P.q.tk : Int), .string (ofL P.q.nm), .slice A4 (0 + an) c4, .int .i64 P.how, .slice b bn bc, .slice c cn cc] := k5
  have e05 : Ext w w5 := (e02.ext e24).step m5 (fun u hu => .inr (by rw [List.mem_singleton.1 hu]; omega))
  have k25 := (k2.be e24).mod m5 (by simp; omega)
  have o5 : Own w5 w2.heap.size 161 3 A4 (0 + an) c4 (rowV veV P.q.ar) := o4.modL m5 (fun u hu q => by have := (o4.bl u hu).1; rw [List.mem_singleton] at q; omega)
  clear k14 k2 o4
  repeat (first | refine T_seq ?_ | refine T_region ?_ | refine TL_nil ?_)
  refine TL_buildSlice0 TE (hk := ?_); intro b6 w6 e6 h6 h6' k6
  have o6 : Own w6 w5.heap.size 9 1 (some ⟨b6, 0, none⟩) 0 0 [] := Own.of_blk k6 h6 rfl (by decide)
  have k16 := k5.be e6
  have xb6 := xb.be (e05.ext e6)
  repeat (first | refine TL_load TE (hk := ?_) | refine TL_fieldAddr TE (hk := ?_))
  refine TL_append TE (hk := ?_); intro A7 c7 w7 o7 m7 n7
  rw [List.nil_append] at o7
  have e57 : Ext w5 w7 := Mod.own e6 m7 o6.hi
  have k17 := k5.be e57
  have z7 := e57.size
  clear k16 k5 xb6 k6 o6
  repeat (refine TL_fieldAddr TE (hk := ?_))
  refine TL_store TE (hk := ?_); intro w8 m8 z8 k8
  replace k8 : Blk w8 b1 45 [.int .i64 P.q.cl, .int .u64 (P.q.tk : Int), .string (ofL P.q.nm), .slice A4 (0 + an) c4, .int .i64 P.how, .slice A7 (0 + bn) c7, .slice c cn cc] := k8
  have e08 : Ext w w8 := (e05.ext e57).step m8 (fun u hu => .inr (by rw [List.mem_singleton.1 hu]; omega))
  have k28 := (k25.be e57).mod m8 (by simp; omega)
  have o57 := o5.be e57
  have o8 : Own w8 w2.heap.size 161 3 A4 (0 + an) c4 (rowV veV P.q.ar) := o57.modL m8 (fun u hu q => by have := (o57.bl u hu).1; rw [List.mem_singleton] at q; omega)
  have p8 : Own w8 w5.heap.size 9 1 A7 (0 + bn) c7 (sv P.rd) := o7.modL m8 (fun u hu q => by have := (o7.bl u hu).1; rw [List.mem_singleton] at q; omega)
  clear k17 k25 o7 o5 o57
  repeat (first | refine T_seq ?_ | refine T_region ?_ | refine TL_nil ?_)
  refine TL_buildSlice0 TE (hk := ?_); intro b9 w9 e9 h9 h9' k9
  have o9 : Own w9 w8.heap.size 9 1 (some ⟨b9, 0, none⟩) 0 0 [] := Own.of_blk k9 h9 rfl (by decide)
  have k19 := k8.be e9
  have xc9 := xc.be (e08.ext e9)
  repeat (first | refine TL_load TE (hk := ?_) | refine TL_fieldAddr TE (hk := ?_))
  refine TL_append TE (hk := ?_); intro A10 c10 w10 o10 m10 n10
  rw [List.nil_append] at o10
  have e810 : Ext w8 w10 := Mod.own e9 m10 o9.hi
  have k110 := k8.be e810
  have z10 := e810.size
  clear k19 k8 xc9 k9 o9
  repeat (refine TL_fieldAddr TE (hk := ?_))
  refine TL_store TE (hk := ?_); intro w11 m11 z11 k11
  replace k11 : Blk w11 b1 45 [.int .i64 P.q.cl, .int .u64 (P.q.tk : Int), .string (ofL P.q.nm), .slice A4 (0 + an) c4, .int .i64 P.how, .slice A7 (0 + bn) c7, .slice A10 (0 + cn) c10] := k11
  have e011 : Ext w w11 := (e08.ext e810).step m11 (fun u hu => .inr (by rw [List.mem_singleton.1 hu]; omega))
  have k211 := (k28.be e810).mod m11 (by simp; omega)
  have o810 := o8.be e810
  have p810 := p8.be e810
  have oa : Own w11 w2.heap.size 161 3 A4 (0 + an) c4 (rowV veV P.q.ar) := o810.modL m11 (fun u hu q => by have := (o810.bl u hu).1; rw [List.mem_singleton] at q; omega)
  have ob : Own w11 w5.heap.size 9 1 A7 (0 + bn) c7 (sv P.rd) := p810.modL m11 (fun u hu q => by have := (p810.bl u hu).1; rw [List.mem_singleton] at q; omega)
  have oc : Own w11 w8.heap.size 9 1 A10 (0 + cn) c10 (sv P.wr) := o10.modL m11 (fun u hu q => by have := (o10.bl u hu).1; rw [List.mem_singleton] at q; omega)
  clear k110 k28 o10 o8 p8 o810 p810
  repeat (first | refine T_seq ?_ | refine T_region ?_ | refine TL_nil ?_)
  refine TL_loadb TE (cs := [.int .i64 P.q.cl, .int .u64 (P.q.tk : Int), .string (ofL P.q.nm), .slice A4 (0 + an) c4, .int .i64 P.how, .slice A7 (0 + bn) c7, .slice A10 (0 + cn) c10]) (o := 0) rfl rfl k11 rfl rfl (Nat.succ_pos _) (hk := ?_)
  --
  refine TL_storea TE (hk := ?_); intro w12 m12 z12 k12
  have d12 : ∀ u, w2.heap.size ≤ u → u ∉ [b2] := fun u hu q => by rw [List.mem_singleton] at q; omega
  repeat (refine TL_nil ?_)
  refine T_retA1 TE (vs := [.int .i64 P.q.cl, .int .u64 (P.q.tk : Int), .string (ofL P.q.nm), .slice A4 (0 + an) c4, .int .i64 P.how, .slice A7 (0 + bn) c7, .slice A10 (0 + cn) c10]) (o := 0) rfl rfl rfl rfl k12 rfl (Nat.succ_pos _) ⟨⟨P, (A4, 0 + an, c4), (A7, 0 + bn, c7), (A10, 0 + cn, c10)⟩, rfl, rfl, e011.step m12 (fun u hu => .inr (by rw [List.mem_singleton.1 hu]; omega)), ⟨Own.weaken (oa.modL m12 (fun u hu => d12 u (oa.bl u hu).1)) (by omega), Own.weaken (ob.modL m12 (fun u hu => d12 u (by have := (ob.bl u hu).1; omega))) (by omega), Own.weaken (oc.modL m12 (fun u hu => d12 u (by have := (oc.bl u hu).1; omega))) (by omega)⟩⟩
/-- Plans that lie in a row of their own. -/
theorem plans_c (A : Option Addr) (n c : Nat) (xs : List PM) (w : World) (hp : Rd w A n 7 (rowV pmV xs)) (hx : ∀ x ∈ xs, PLies w x ∧ PFit x.p) (hn : n ≤ 1048576) :
    Ret Tryz.prog 24 [.slice A n c] w (fun v w' => ∃ y ys, v = sL y ∧ y.2.1 = n ∧ ys.map (·.p) = xs.map (·.p) ∧ Ext w w' ∧ Own w' w.heap.size 45 7 y.1 y.2.1 y.2.2 (rowV pmV ys) ∧ ∀ x ∈ ys, POwn w' w.heap.size x ∧ PFit x.p) := by
  have hxl : xs.length = n := by have := hp.1; rw [rowV_len pmV_len] at this; omega
  refine ret_T (n := 20) Tryz.func24 rfl rfl ?_
  repeat (first | refine T_seq ?_ | refine T_region ?_ | refine T_block ?_ | refine TL_nil ?_ | refine TL_assign (hk := ?_))
  refine T_loop (ι := Nat × SL × List PM) (fun i => [(4, .int .i64 (i.1 : Int)), (3, .slice i.2.1.1 i.2.1.2.1 i.2.1.2.2), (0, .slice A n c)])
    (fun i w' => Ext w w' ∧ i.1 ≤ n ∧ i.2.1.2.1 = i.1 ∧ i.2.2.map (·.p) = (xs.take i.1).map (·.p) ∧ Own w' w.heap.size 45 7 i.2.1.1 i.2.1.2.1 i.2.1.2.2 (rowV pmV i.2.2) ∧ ∀ x ∈ i.2.2, POwn w' w.heap.size x ∧ PFit x.p ∧ ∀ b ∈ pmB x, b ∉ blkL i.2.1.1) (fun i => n - i.1) (0, (none, 0, 0), []) (.c rfl (.c rfl (.c rfl (.n))))
    ⟨Mod.refl _ _, Nat.zero_le _, rfl, by simp, Own.nil _ _ _ _, fun x hx => by cases hx⟩ ?_
  rintro ⟨i, ⟨Y, yn, yc⟩, ys⟩ w1 ⟨e1, hi, hyn, hys, oy, hyo⟩ ih
  simp only at hi hyn hys oy hyo ih ⊢
  subst hyn
  have hp1 := hp.be e1
  have z1 := e1.size
  by_cases hlt : yn < n
  · have hA : A ≠ none := by obtain ⟨_, _, hq, _⟩ := hp1.2 (by omega); rw [hq]; simp
    have ta := rowV_elem pmV_len xs yn pm0 (by omega)
    have hin := in_at (xs := xs) (i := yn) (by omega)
    obtain ⟨x, hxd⟩ : ∃ x, xs.getD yn pm0 = x := ⟨_, rfl⟩
    rw [hxd] at ta hin
    obtain ⟨X, F⟩ := hx x hin
    unfold pmV at ta
    repeat (first | refine T_seq ?_ | refine T_region ?_ | refine T_cond_true rfl ?_ | refine T_block ?_ | refine T_skip ?_ | refine TL_lt_t (hk := ?_) | refine TL_nil ?_ | refine TL_move (hk := ?_) | refine TL_indexAddrn TE (hk := ?_) | refine TL_len TE (hk := ?_))
    refine TL_loada TE (cs := [.int .i64 x.p.q.cl, .int .u64 (x.p.q.tk : Int), .string (ofL x.p.q.nm), sL x.a, .int .i64 x.p.how, sL x.b, sL x.c]) (hx := rfl) (ht := rfl) (hi := rfl) (hr := hp1) (hc := ta) (h0 := Nat.succ_pos _) (hk := ?_)
    --
    refine TL_call TE (hc := rplan_c x w1 (X.be e1) F) (hk := ?_)
    rintro _ w2 ⟨x', rfl, hxp, e2, ox⟩
    have z2 := e2.size
    have oy2 := oy.be e2
    --
    refine TL_buildSliceA TE (hk := ?_); intro b3 w3 e3 h3 h3' k3
    replace k3 : Blk w3 b3 45 (rowV pmV [x']) := k3
    have r3 : Rd w3 (some ⟨b3, 0, none⟩) 1 7 (rowV pmV [x']) := Rd.blk k3 rfl
    have oy3 := oy2.be e3
    have hone := rowV_one pmV_one [x']
    --
    refine TL_append TE (hk := ?_); intro A4 c4 w4 o4 m4 n4
    rw [← rowV_append] at o4
    have z3 := e3.size
    have z4 := m4.size
    have e14 : Eng.Mod (blkL Y) w1 w4 := Eng.Mod.step (S := blkL Y) ((Ext.mod e2).ext e3) m4 (fun u hu => .inl hu)
    have e04 : Ext w w4 := e1.own e14 oy.hi
    have nb : ∀ u, u < w3.heap.size → u ∉ blkL Y → u ∉ blkL A4 := fun u hu hn hq => (Near.mem n4 u hq).elim hn (fun q => by omega)
    repeat (first | refine T_region ?_ | refine T_inBlock ?_ | refine TL_add (hk := ?_) | refine TL_nil ?_ | refine TL_move (hk := ?_) | refine TL_assign (hk := ?_))
    refine ih (yn + 1, (A4, yn + 1, c4), ys ++ [x']) _ _ (by simp only; omega) ⟨e04, by simp only; omega, rfl, ?_, o4, fun z hz => ?_⟩ (.c rfl (.c rfl (.c rfl (.n))))
    · simp only
      rw [List.map_append, hys, List.take_succ_eq_append_getElem (by omega), List.map_append]
      congr 1
      rw [List.getD_eq_getElem?_getD, List.getElem?_eq_getElem (by omega)] at hxd
      simp only [List.map_cons, List.map_nil, hxp]
      rw [← hxd]; rfl
    · simp only
      rcases List.mem_append.1 hz with q | q
      · obtain ⟨q1, q2, q3⟩ := hyo z q
        exact ⟨q1.modL e14 (fun u hu hq => q3 u hu hq), q2, fun u hu => nb u (by have := (q1.bl u hu).2; omega) (q3 u hu)⟩
      · rw [List.mem_singleton.1 q]
        have hu1 : ∀ u ∈ pmB x', u ∉ blkL Y := fun u hu hq => by have h1 := (ox.bl u hu).1; have h2 := (oy.bl u hq).2; omega
        exact ⟨(((ox.be e3).weaken (by omega)).modL m4 hu1), by rw [hxp]; exact F, fun u hu => nb u (by have := (ox.bl u hu).2; omega) (hu1 u hu)⟩
  · have : yn = n := by omega
    subst this
    clear ih
    rw [List.take_of_length_le (by omega)] at hys
    repeat (first | refine T_seq ?_ | refine T_region ?_ | refine T_cond_false rfl ?_ | refine T_exit rfl ?_ | refine TL_lt_f (hk := ?_) | refine TL_nil ?_ | refine TL_move (hk := ?_) | refine TL_assign (hk := ?_) | refine TL_len TE (hk := ?_))
    exact T_ret1 rfl rfl ⟨(Y, yn, yc), ys, rfl, rfl, hys, e1, oy, fun x hx => ⟨(hyo x hx).1, (hyo x hx).2.1⟩⟩
end Go.Proofs.YtjlaomcankmdjaaGreat

namespace Go.Proofs.YtjlaomcankmdjaaGreat
open Go.RowKit Go.Proofs.Eng Go.Proofs.Codec Go.Proofs.Foot Go.Proofs.Journal
set_option linter.unusedSimpArgs false
set_option linter.unusedVariables false set_option maxRecDepth 10000
attribute [local irreducible] T TL LV TH TA
set_option maxHeartbeats 3200000
/-! Epochs as an argument. -/
abbrev tyVal : Ty := .struct (.cons (.int .i64) (.cons (.int .i64) (.cons .str .unit)))
abbrev tyRqJ : Ty := .struct (.cons (.int .i64) (.cons (.int .u64) (.cons .str (.cons (.slice tyVal) .unit))))
abbrev tyFtJ : Ty := .struct (.cons (.slice .str) (.cons (.slice .str) .unit))
abbrev tyPlanJ : Ty := .struct (.cons tyRqJ (.cons (.int .i64) (.cons tyFtJ .unit)))
abbrev tyBatJ : Ty := .struct (.cons (.int .i64) (.cons (.slice tyPlanJ) (.cons .bool .unit)))
theorem short_memJ {l : List Tx} (h : ∀ t ∈ l, t.length ≤ 140737488351232) : Short l := fun i hi => by
  have hm : l.getD i [] ∈ l := by rw [List.getD_eq_getElem?_getD, List.getElem?_eq_getElem hi]; exact List.getElem_mem _
  have := h _ hm; omega
theorem rowV_svJ (l : List Tx) : rowV (fun t : Tx => [Value.string (ofL t)]) l = sv l := by simp [rowV, sv, List.flatten_eq_flatMap, List.flatMap_map, ← List.map_eq_flatMap]
theorem strs_ofJ {w : World} {M k : Nat} {x : List Value} (hk : k ≤ M) (h : FitB w (.slice .str) x k) : ∃ A n c l, x = [.slice A n c] ∧ Rd w A n 1 (sv l) ∧ l.length = n ∧ n ≤ c ∧ c ≤ 9223372036854775807 ∧ n + 1 ≤ k ∧ ∀ y ∈ l, y.length ≤ M := by
  obtain ⟨_, A', n', c', l, hv, g1, g2, g3, g4, g5, g6⟩ := FitB.row (g := fun t : Tx => [Value.string (ofL t)]) (Q := fun t => t.length ≤ M) (M := M) (fun x k hk hx => by
    obtain ⟨S, rfl, h1, h2⟩ := hx
    have : S.data.toList.length = S.size := Array.length_toList
    exact ⟨by omega, S.data.toList, rfl, by omega⟩) h hk
  unfold maxLen at g2
  rw [rowV_svJ] at g5
  exact ⟨A', n', c', l, hv, g5, g4, g1, g2, by omega, g6⟩
theorem val_of {w : World} (x : List Value) (k : Nat) (hk : k ≤ 1048576) (h : FitB w tyVal x k) : 1 ≤ k ∧ ∃ v : VE, x = veV v ∧ VFit v := by
  obtain ⟨x1, y1, p, q, rfl, h1, h2, ⟨h3, kd, rfl, f1⟩, x2, y2, p2, q2, rfl, h4, h5, ⟨h6, i, rfl, f2⟩, x3, y3, p3, q3, rfl, h8, h9, ⟨S, rfl, h10, h11⟩, hz⟩ := h
  have hz : y3 = [] := hz
  subst hz
  have : S.data.toList.length = S.size := Array.length_toList
  exact ⟨by omega, ⟨kd, i, S.data.toList⟩, rfl, ⟨f1, f2, by simp only; omega⟩⟩
/-- A plan that lies in the argument. -/
def PIn (w : World) (x : PM) : Prop := PLies w x ∧ PFit x.p
theorem planJ_of {w : World} (x : List Value) (k : Nat) (hk : k ≤ 1048576) (h : FitB w tyPlanJ x k) : 1 ≤ k ∧ ∃ a : PM, x = pmV a ∧ PIn w a := by
  obtain ⟨x1, y1, p, q, rfl, h1, h2, hR, x2, y2, p2, q2, rfl, h4, h5, ⟨h6, how, rfl, f2⟩, x3, y3, p3, q3, rfl, h8, h9, hF, hz⟩ := h
  have hz : y3 = [] := hz
  subst hz
  obtain ⟨a1, b1, r1, s1, rfl, g1, g2, ⟨g3, cl, rfl, j1⟩, a2, b2, r2, s2, rfl, g4, g5, ⟨g6, tk, rfl, j2⟩, a3, b3, r3, s3, rfl, g7, g8, ⟨S, rfl, g9, g10⟩, a4, b4, r4, s4, rfl, g11, g12, hV, hz⟩ := hR
  have hz : b4 = [] := hz
  subst hz
  obtain ⟨u1, v1, t1, t2, rfl, m1, m2, hA, u2, v2, t3, t4, rfl, m3, m4, hB, hz2⟩ := hF
  have hz2 : v2 = [] := hz2
  subst hz2
  obtain ⟨_, V, vn, vc, vs, rfl, q1, q2, q3, q4, q5, q6⟩ := FitB.row (g := veV) (Q := VFit) (M := 1048576) val_of hV (by omega)
  obtain ⟨A, n, c, r, rfl, e1, e2, e3, e4, e5, e6⟩ := strs_ofJ (M := 1048576) (by omega) hA
  obtain ⟨B, m, d, k', rfl, d1, d2, d3, d4, d5, d6⟩ := strs_ofJ (M := 1048576) (by omega) hB
  have hS : S.data.toList.length = S.size := Array.length_toList
  obtain ⟨tn, rfl⟩ : ∃ tn : Nat, tk = (tn : Int) := ⟨tk.toNat, by have h : (0 : Int) ≤ tk := j2.1; omega⟩
  have htn : tn < 18446744073709551616 := by have h : (tn : Int) ≤ 18446744073709551615 := j2.2; omega
  exact ⟨by omega, ⟨⟨⟨cl, tn, S.data.toList, vs⟩, how, r, k'⟩, (V, vn, vc), (A, n, c), (B, m, d)⟩, rfl, ⟨q5, e1, d1⟩, ⟨j1, htn, by simp only; omega, q6⟩, f2, by simp only; omega, by simp only; omega, by simp only; omega, short_memJ (fun t ht => by have := e6 t ht; omega), short_memJ (fun t ht => by have := d6 t ht; omega)⟩
/-- An epoch in a row. -/
structure BM where
  ep : Int
  y : SL
  xs : List PM
  fl : Bool
def bm0 : BM := ⟨0, (none, 0, 0), [], false⟩
def bmV (x : BM) : List Value := [.int .i64 x.ep, sL x.y, .bool x.fl]
theorem bmV_len (x : BM) : (bmV x).length = 3 := rfl
structure BIn (w : World) (x : BM) : Prop where
  rd : Rd w x.y.1 x.y.2.1 7 (rowV pmV x.xs)
  pl : ∀ p ∈ x.xs, PIn w p
  ep : -9223372036854775808 ≤ x.ep ∧ x.ep ≤ 9223372036854775807
  n : x.y.2.1 ≤ 1048576
  len : x.xs.length = x.y.2.1
theorem PIn.be {w w' : World} {x : PM} (h : PIn w x) (e : Ext w w') : PIn w' x := ⟨h.1.be e, h.2⟩
theorem BIn.be {w w' : World} {x : BM} (h : BIn w x) (e : Ext w w') : BIn w' x := ⟨h.rd.be e, fun p hp => (h.pl p hp).be e, h.ep, h.n, h.len⟩
theorem batJ_of {w : World} (x : List Value) (k : Nat) (hk : k ≤ 1048576) (h : FitB w tyBatJ x k) : 1 ≤ k ∧ ∃ a : BM, x = bmV a ∧ BIn w a := by
  obtain ⟨x1, y1, p, q, rfl, h1, h2, ⟨h3, ep, rfl, f1⟩, x2, y2, p2, q2, rfl, h4, h5, hP, x3, y3, p3, q3, rfl, h8, h9, ⟨h10, b, rfl⟩, hz⟩ := h
  have hz : y3 = [] := hz
  subst hz
  obtain ⟨_, A, n, c, xs, rfl, q1, q2, q3, q4, q5, q6⟩ := FitB.row (g := pmV) (Q := PIn w) (M := 1048576) planJ_of hP (by omega)
  exact ⟨by omega, ⟨ep, (A, n, c), xs, b⟩, rfl, ⟨q5, q6, f1, by simp only; omega, q4⟩⟩
theorem bats_in {w : World} {base : Nat} {v : Value} (h : ReadsB Tryz.prog w base 63 v 1048576) :
    ∃ A n c l, v = .slice A n c ∧ Rd w A n 3 (rowV bmV l) ∧ (∀ x ∈ l, BIn w x) ∧ l.length = n ∧ n ≤ 1048576 := by
  obtain ⟨A, n, c, rfl⟩ := h.slice TE rfl
  obtain ⟨_, A', n', c', l, hv, h1, h2, h3, h4, h5, h6⟩ := FitB.row (g := bmV) (Q := BIn w) (M := 1048576) batJ_of (h.fit TE (.slice tyBatJ) (by decide +kernel)) (Nat.le_refl _)
  cases hv
  exact ⟨A, n, c, l, rfl, h5, h6, h4, by omega⟩
def iV (z : Int) : List Value := [.int .i64 z]
theorem iV_len (z : Int) : (iV z).length = 1 := rfl
def iOk (z : Int) : Prop := -9223372036854775808 ≤ z ∧ z ≤ 9223372036854775807
theorem ints_inJ {w : World} {base : Nat} {v : Value} (h : ReadsB Tryz.prog w base 64 v 1048576) :
    ∃ A n c l, v = .slice A n c ∧ Rd w A n 1 (rowV iV l) ∧ (∀ x ∈ l, iOk x) ∧ l.length = n ∧ n ≤ 1048576 := by
  obtain ⟨A, n, c, rfl⟩ := h.slice TE rfl
  obtain ⟨_, A', n', c', l, hv, h1, h2, h3, h4, h5, h6⟩ := FitB.row (g := iV) (Q := iOk) (M := 1048576) (fun x k hk hx => by
    obtain ⟨h1, z, rfl, f⟩ := hx
    exact ⟨h1, z, rfl, f⟩) (h.fit TE (.slice (.int .i64)) (by decide +kernel)) (Nat.le_refl _)
  cases hv
  exact ⟨A, n, c, l, rfl, h5, h6, h4, by omega⟩
end Go.Proofs.YtjlaomcankmdjaaGreat

/- What the loop of JournalSafe keeps: the journal, and the two lists that the law fills. -/
namespace Go.Proofs.YtjlaomcankmdjaaGreat
open Go.RowKit Go.Proofs.Eng Go.Proofs.Codec Go.Proofs.Foot Go.Proofs.Journal
set_option linter.unusedSimpArgs false
set_option linter.unusedVariables false set_option maxRecDepth 10000
attribute [local irreducible] T TL LV TH TA
set_option maxHeartbeats 3200000
theorem JrM.mod {w w' : World} {base jb d lg : Nat} {sd : SL} {gd : Nat → Nat} {k : DK} {sl : SL} {es : List EM} {g : Nat → Nat} {L : LE} {fl : Int} (J : JrM w base jb d lg sd gd k sl es g L fl) {S : List Nat} (m : Eng.Mod S w w') (h : ∀ b ∈ S, oJ jb gd b = 0 ∧ g b = 0) : JrM w' base jb d lg sd gd k sl es g L fl :=
  { J with
    blk := J.blk.mod m (fun q => by have := (h jb q).1; rw [oJ_at] at this; cases this)
    dk := J.dk.mod m (fun b hb => by
      have := (h b hb).1
      by_cases q : b = jb
      · rw [q]; exact J.dj
      · rwa [oJ_ne q] at this)
    log := J.log.mod m (fun b hb => (h b hb).2) }
/-- How many entries there are behind each epoch. -/
def endsL (lp : List EP) : List Int := (List.range (lp.length + 1)).map fun c => ((logF L0 (lp.take c)).l.length : Int)
theorem endsL_len (lp : List EP) : (endsL lp).length = lp.length + 1 := by simp [endsL]
theorem endsL_at (lp : List EP) (c : Nat) (h : c ≤ lp.length) : (endsL lp).getD c 0 = ((logF L0 (lp.take c)).l.length : Int) := by
  rw [List.getD_eq_getElem?_getD, List.getElem?_eq_getElem (by rw [endsL_len]; omega)]
  unfold endsL
  rw [List.getElem_map, List.getElem_range]
  rfl
theorem endsL_snoc (lp : List EP) (e : EP) : endsL (lp ++ [e]) = endsL lp ++ [((logF L0 (lp ++ [e])).l.length : Int)] := by
  unfold endsL
  rw [List.length_append, List.length_singleton, List.range_succ (n := lp.length + 1), List.map_append]
  congr 1
  · apply List.map_congr_left
    intro c hc
    rw [List.mem_range] at hc
    rw [List.take_append_of_le_length (by omega)]
  · rw [List.map_singleton, List.take_of_length_le (by simp)]
theorem logF_len {lp : List EP} {ps : List PM} (h : ps.map (·.p) = (lp.map (·.2)).flatten) : (logF L0 lp).l.length = ps.length := by
  have h1 := congrArg List.length (logF_p L0 lp)
  rw [← h, List.length_map, List.length_append, List.length_map] at h1
  rw [h1]
  show 0 + (ps.map (·.p)).length = _
  rw [List.length_map, Nat.zero_add]
theorem back_at {le : List EP} {ps : List PM} (hpp : ps.map (·.p) = (le.map (·.2)).flatten) (cc a : Nat) (h : a < (logF L0 (le.take cc)).l.length) : a < ps.length ∧ ((logF L0 (le.take cc)).l[a]).p = (ps.getD a pm0).p := by
  obtain ⟨t, ht⟩ := logF_part le cc
  have h1 : (logF L0 le).l.map (·.p) = ps.map (·.p) := by rw [logF_p, hpp]; rfl
  have h2 : (((logF L0 (le.take cc)).l ++ t).map (·.p))[a]? = (ps.map (·.p))[a]? := by rw [← ht, h1]
  rw [List.getElem?_map, List.getElem?_append_left h, List.getElem?_eq_getElem h] at h2
  have h3 : a < ps.length := by
    have := logF_len hpp
    rw [ht, List.length_append] at this
    omega
  refine ⟨h3, ?_⟩
  rw [List.getElem?_map, List.getElem?_eq_getElem h3] at h2
  rw [List.getD_eq_getElem?_getD, List.getElem?_eq_getElem h3]
  exact Option.some.inj h2
theorem em_plan (ys : List EM) (a : Nat) (h : a < ys.length) : ((rowV emV ys).drop (a * 9 + 2)).take 7 = pmV (ys.getD a em0).m := by
  have h1 := rowV_elem emV_len ys a em0 h
  have h2 := congrArg (List.drop 2) h1
  rw [List.drop_take, List.drop_drop] at h2
  exact h2
structure SG where
  k : DK
  L : LE
  fl : Int
  le : List EP
  lp : List EP
  lq : List EP
  mf : Nat
  lg : Nat
  sd : SL
  gd : Nat → Nat
  sl : SL
  es : List EM
  g : Nat → Nat
  Y : SL
  ps : List PM
  Z : SL
structure SI (w0 w : World) (base jb d : Nat) (s : SG) : Prop where
  e : Ext w0 w
  hb : w0.heap.size ≤ base
  J : JrM w base jb d s.lg s.sd s.gd s.k s.sl s.es s.g s.L s.fl
  I : JI s.L s.k s.fl s.le s.mf
  oy : Own w base 45 7 s.Y.1 s.Y.2.1 s.Y.2.2 (rowV pmV s.ps)
  pp : s.ps.map (·.p) = (s.lp.map (·.2)).flatten
  pin : ∀ x ∈ s.ps, PIn w0 x
  oz : Own w base 2 1 s.Z.1 s.Z.2.1 s.Z.2.2 (rowV iV (endsL s.lq))
  gy : ∀ b ∈ blkL s.Y.1, oJ jb s.gd b = 0 ∧ s.g b = 0
  gz : ∀ b ∈ blkL s.Z.1, oJ jb s.gd b = 0 ∧ s.g b = 0
  yz : ∀ b ∈ blkL s.Y.1, b ∉ blkL s.Z.1
section
variable {w0 w w' : World} {base jb d : Nat} {s : SG}
theorem SI.new (H : SI w0 w base jb d s) {b : Nat} (hb : w.heap.size ≤ b) : oJ jb s.gd b = 0 ∧ s.g b = 0 := by
  constructor
  · by_cases q : oJ jb s.gd b = 0
    · exact q
    · have := (H.J.old b q).2; omega
  · by_cases q : s.g b = 0
    · exact q
    · have := (H.J.log.old b q).2; omega
theorem SI.tn (H : SI w0 w base jb d s) {gd' : Nat → Nat} {lg' : Nat} {sd' : SL} {k' : DK} {sl' : SL} {es' : List EM} {g' : Nat → Nat} {L' : LE} {fl' : Int} {le' : List EP} {mf' : Nat} (J' : JrM w' base jb d lg' sd' gd' k' sl' es' g' L' fl') (t : Tn (oJ jb s.gd) (oJ jb gd') w w')
    (hg : ∀ b, g' b ≠ 0 → s.g b ≠ 0 ∨ w.heap.size ≤ b) (I' : JI L' k' fl' le' mf') : SI w0 w' base jb d { s with k := k', L := L', fl := fl', le := le', mf := mf', lg := lg', sd := sd', gd := gd', sl := sl', es := es', g := g' } := by
  have h0 : ∀ b, b < w.heap.size → s.g b = 0 → g' b = 0 := fun b hl hz => by
    by_cases q : g' b = 0
    · exact q
    · rcases hg b q with q2 | q2
      · exact absurd hz q2
      · omega
  exact ⟨t.ext0 H.e (fun b hb => Nat.le_trans H.hb (H.J.old b hb).1), H.hb, J', I', (H.oy.tn t (fun b hb => (H.gy b hb).1)).1, H.pp, H.pin, (H.oz.tn t (fun b hb => (H.gz b hb).1)).1,
    fun b hb => ⟨t.old (H.gy b hb).1 (H.oy.bl b hb).2, h0 b (H.oy.bl b hb).2 (H.gy b hb).2⟩, fun b hb => ⟨t.old (H.gz b hb).1 (H.oz.bl b hb).2, h0 b (H.oz.bl b hb).2 (H.gz b hb).2⟩, H.yz⟩
theorem SI.size (H : SI w0 w base jb d s) : base ≤ w.heap.size := by have := H.J.hj; have := H.J.blk.lt; omega
theorem SI.ext (H : SI w0 w base jb d s) (e : Ext w w') : SI w0 w' base jb d s := H.tn (H.J.ext e) (Tn.ext e) (fun b hb => .inl hb) H.I
theorem SI.all (H : SI w0 w base jb d s) {A : Option Addr} {n c : Nat} {ps : List PM} {lp : List EP} (m : Eng.Mod (blkL s.Y.1) w w') (nr : Near s.Y.1 A w) (o : Own w' base 45 7 A n c (rowV pmV ps)) (hp : ps.map (·.p) = (lp.map (·.2)).flatten) (hi : ∀ x ∈ ps, PIn w0 x) :
    SI w0 w' base jb d { s with Y := (A, n, c), ps := ps, lp := lp } :=
  ⟨H.e.step m (fun u hu => .inr (Nat.le_trans H.hb (H.oy.bl u hu).1)), H.hb, H.J.mod m H.gy, H.I, o, hp, hi, H.oz.modL m (fun b hb q => H.yz b q hb), fun b hb => (Near.mem nr b hb).elim (H.gy b) H.new, H.gz, fun b hb q => (Near.mem nr b hb).elim (fun h => H.yz b h q) (fun h => by have := (H.oz.bl b q).2; omega)⟩
theorem SI.ends (H : SI w0 w base jb d s) {A : Option Addr} {n c : Nat} {lq : List EP} (m : Eng.Mod (blkL s.Z.1) w w') (nr : Near s.Z.1 A w) (o : Own w' base 2 1 A n c (rowV iV (endsL lq))) :
    SI w0 w' base jb d { s with Z := (A, n, c), lq := lq } :=
  ⟨H.e.step m (fun u hu => .inr (Nat.le_trans H.hb (H.oz.bl u hu).1)), H.hb, H.J.mod m H.gz, H.I, H.oy.modL m H.yz, H.pp, H.pin, o, H.gy, fun b hb => (Near.mem nr b hb).elim (H.gz b) H.new, fun b hb q => (Near.mem nr b q).elim (fun h => H.yz b hb h) (fun h => by have := (H.oy.bl b hb).2; omega)⟩
end
def totP (l : List BM) (i : Nat) : Nat := ((l.take i).map fun x => x.y.2.1).sum
theorem totP_succ (l : List BM) (i : Nat) (hi : i < l.length) : totP l (i + 1) = totP l i + (l.getD i bm0).y.2.1 := by
  unfold totP
  rw [List.take_succ_eq_append_getElem hi, List.map_append, List.sum_append]
  simp only [List.map_cons, List.map_nil, List.sum_cons, List.sum_nil, Nat.add_zero]
  rw [List.getD_eq_getElem?_getD, List.getElem?_eq_getElem hi]
  rfl
theorem iV_one (z : Int) : ∀ u ∈ iV z, u.oneCell' = true := by
  intro u hu
  simp only [iV, List.mem_singleton] at hu
  rw [hu]; rfl
theorem totP_le (l : List BM) : ∀ {i j : Nat}, i ≤ j → j ≤ l.length → totP l i ≤ totP l j
  | i, j, hij, hj => by
    induction j with
    | zero => rw [Nat.le_zero.1 hij]; exact Nat.le_refl _
    | succ j ih =>
      by_cases q : i = j + 1
      · rw [q]; exact Nat.le_refl _
      · have h1 := ih (by omega) (by omega)
        have h2 := totP_succ l j (by omega)
        omega
theorem bm_at {l : List BM} {i : Nat} (hi : i < l.length) : l.getD i bm0 ∈ l := by rw [List.getD_eq_getElem?_getD, List.getElem?_eq_getElem hi]; exact List.getElem_mem _
theorem int_at {l : List Int} {i : Nat} (hi : i < l.length) : l.getD i 0 ∈ l := by rw [List.getD_eq_getElem?_getD, List.getElem?_eq_getElem hi]; exact List.getElem_mem _
end Go.Proofs.YtjlaomcankmdjaaGreat

namespace Go.Proofs.YtjlaomcankmdjaaGreat
open Go.RowKit Go.Proofs.Eng Go.Proofs.Codec Go.Proofs.Foot Go.Proofs.Journal
set_option linter.unusedSimpArgs false
set_option linter.unusedVariables false set_option maxRecDepth 10000
attribute [local irreducible] T TL LV TH TA
set_option maxHeartbeats 6400000
theorem JournalSafe_c (A B : Option Addr) (m c q d : Nat) (arm keep : Int) (l : List BM) (ag : List Int) (w : World) (hr : Rd w A m 3 (rowV bmV l)) (hl : ∀ x ∈ l, BIn w x) (hlm : l.length = m) (hm : m ≤ 1048576) (ha : Rd w B q 1 (rowV iV ag)) (hal : ∀ z ∈ ag, iOk z) (hag : ag.length = q) (hq : q ≤ 1048576) (harm : iOk arm) (hkeep : iOk keep) :
    Ret Tryz.prog 6 [.slice A m c, .int .i64 arm, .int .i64 keep, .slice B q d] w (fun v w' => v = .bool true ∧ Ext w w') := by
  refine ret_T (n := 294) Tryz.func6 rfl rfl ?_
  repeat (first | refine T_seq ?_ | refine T_region ?_ | refine T_block ?_ | refine TL_nil ?_ | refine TL_assign (hk := ?_))
  refine T_loop (ι := Nat × Nat) (fun i => [(11, .int .i64 (i.1 : Int)), (10, .int .i64 (i.2 : Int)), (9, .int .i64 ((totP l i.1 : Nat) : Int)), (3, .slice B q d), (2, .int .i64 keep), (1, .int .i64 arm), (0, .slice A m c)]) (fun i w' => Ext w w' ∧ i.1 ≤ m ∧ i.1 ≤ 100 ∧ i.2 ≤ i.1 * 946864128 ∧ totP l i.1 ≤ i.1 * 1048576) (fun i => m - i.1) (0, 0) (.c rfl (.c rfl (.c rfl (.c rfl (.c rfl (.c rfl (.c rfl (.n)))))))) ⟨Mod.refl _ _, Nat.zero_le _, Nat.zero_le _, Nat.zero_le _, by simp [totP]⟩ ?_
  rintro ⟨i, n⟩ w1 ⟨e1, hi, hi2, hn, ht⟩ ih
  simp only at hi hi2 hn ht ih ⊢
  by_cases hlt : i < m
  · by_cases h100 : i < 100
    · have hr1 := hr.be e1
      have hA : A ≠ none := by obtain ⟨_, _, hq, _⟩ := hr1.2 (by omega); rw [hq]; simp
      have hx := hl _ (bm_at (l := l) (i := i) (by omega))
      have hts := totP_succ l i (by omega)
      have t1 := rowV_at bmV_len l i 1 bm0 (by omega) (by decide)
      obtain ⟨x, hxd⟩ : ∃ x, l.getD i bm0 = x := ⟨_, rfl⟩
      rw [hxd] at hx hts t1
      have hxn := hx.n
      have hxl := hx.len
      replace t1 : (rowV bmV l)[i * 3 + 1]? = some (.slice x.y.1 x.y.2.1 x.y.2.2) := t1
      have hsum : ((totP l i : Nat) : Int) + (x.y.2.1 : Int) = ((totP l (i + 1) : Nat) : Int) := by omega
      repeat (first | refine T_seq ?_ | refine T_region ?_ | refine T_cond_true rfl ?_ | refine T_block ?_ | refine T_skip ?_ | refine TL_add (hk := ?_) | refine TL_lt_t (hk := ?_) | refine TL_nil ?_ | refine TL_move (hk := ?_) | refine TL_assign (hk := ?_) | refine TL_load_rd TE (hk := ?_) | refine TL_fieldAddr_e TE (hk := ?_) | refine TL_indexAddrn TE (hk := ?_) | refine TL_len TE (hk := ?_) | refine TL_yes (hk := ?_) | refine TL_pick_t (hk := ?_))
      rw [hsum]
      refine T_loop (ι := Nat × Nat) (fun k => [(12, .int .i64 (k.1 : Int)), (11, .int .i64 (i : Int)), (10, .int .i64 (k.2 : Int)), (9, .int .i64 ((totP l (i + 1) : Nat) : Int)), (3, .slice B q d), (2, .int .i64 keep), (1, .int .i64 arm), (0, .slice A m c)]) (fun k w' => Ext w w' ∧ k.1 ≤ x.y.2.1 ∧ k.1 ≤ 301 ∧ k.2 ≤ i * 946864128 + k.1 * 3145728) (fun k => x.y.2.1 - k.1) (0, n) (.c rfl (.c rfl (.c rfl (.c rfl (.c rfl (.c rfl (.c rfl (.c rfl (.n))))))))) ⟨e1, Nat.zero_le _, Nat.zero_le _, Nat.le_trans hn (Nat.le_add_right _ _)⟩ ?_
      rintro ⟨k, n2⟩ w2 ⟨e2, hk, hk2, hn2⟩ ih2
      simp only at hk hk2 hn2 ih2 ⊢
      have hr2 := hr.be e2
      by_cases hkl : k < x.y.2.1
      · by_cases h300 : k ≤ 300
        · have hp2 := hx.rd.be e2
          have hP : x.y.1 ≠ none := by obtain ⟨_, _, hq, _⟩ := hp2.2 (by omega); rw [hq]; simp
          have tp := rowV_elem pmV_len x.xs k pm0 (by omega)
          have hin := in_at (xs := x.xs) (i := k) (by omega)
          obtain ⟨p, hpd⟩ : ∃ p, x.xs.getD k pm0 = p := ⟨_, rfl⟩
          rw [hpd] at tp hin
          obtain ⟨X, F⟩ := hx.pl p hin
          obtain ⟨l1, l2, l3⟩ := X.len
          have na := F.na
          have nb := F.nb
          have nc := F.nc
          unfold pmV at tp
          have hsum2 : (n2 : Int) + (p.a.2.1 : Int) + (p.b.2.1 : Int) + (p.c.2.1 : Int) = ((n2 + p.a.2.1 + p.b.2.1 + p.c.2.1 : Nat) : Int) := by omega
          repeat (first | refine T_seq ?_ | refine T_region ?_ | refine T_cond_true rfl ?_ | refine T_block ?_ | refine T_skip ?_ | refine TL_lt_t (hk := ?_) | refine TL_le_t (hk := ?_) | refine TL_nil ?_ | refine TL_move (hk := ?_) | refine TL_load_rd TE (hk := ?_) | refine TL_fieldAddr_e TE (hk := ?_) | refine TL_indexAddrn TE (hk := ?_) | refine TL_len TE (hk := ?_) | refine TL_yes (hk := ?_) | refine TL_pick_t (hk := ?_))
          refine TL_loada TE (cs := [.int .i64 p.p.q.cl, .int .u64 (p.p.q.tk : Int), .string (ofL p.p.q.nm), sL p.a, .int .i64 p.p.how, sL p.b, sL p.c]) (hx := rfl) (ht := rfl) (hi := rfl) (hr := hp2) (hc := tp) (h0 := Nat.succ_pos _) (hk := ?_)
          --
          refine TL_alloc TE (hk := ?_); intro b3 w3 e3 h3 h3' k3
          --
          refine TL_storea TE (hk := ?_); intro w4 m4 z4 k4
          replace k4 : Blk w4 b3 45 [.int .i64 p.p.q.cl, .int .u64 (p.p.q.tk : Int), .string (ofL p.p.q.nm), sL p.a, .int .i64 p.p.how, sL p.b, sL p.c] := k4
          have e24 : Ext w2 w4 := e3.step m4 (fun u hu => .inr (by rw [List.mem_singleton.1 hu]; omega))
          repeat (first | refine T_region ?_ | refine T_inBlock ?_ | refine TL_add (hk := ?_) | refine TL_nil ?_ | refine TL_move (hk := ?_) | refine TL_assign (hk := ?_) | refine TL_load TE (hk := ?_) | refine TL_fieldAddr TE (hk := ?_) | refine TL_len TE (hk := ?_))
          rw [hsum2]
          exact ih2 (k + 1, n2 + p.a.2.1 + p.b.2.1 + p.c.2.1) w4 _ (by simp only; omega) ⟨e2.ext e24, by simp only; omega, by simp only; omega, by simp only; omega⟩ (.c rfl (.c rfl (.c rfl (.c rfl (.c rfl (.c rfl (.c rfl (.c rfl (.n)))))))))
        · clear ih2
          repeat (first | refine T_seq ?_ | refine T_region ?_ | refine T_cond_false rfl ?_ | refine T_inBlock ?_ | refine T_exit rfl ?_ | refine TL_add (hk := ?_) | refine TL_lt_t (hk := ?_) | refine TL_le_f (hk := ?_) | refine TL_nil ?_ | refine TL_move (hk := ?_) | refine TL_assign (hk := ?_) | refine TL_load_rd TE (hk := ?_) | refine TL_fieldAddr_e TE (hk := ?_) | refine TL_indexAddrn TE (hk := ?_) | refine TL_len TE (hk := ?_) | refine TL_yes (hk := ?_) | refine TL_pick_t (hk := ?_))
          exact ih (i + 1, n2) w2 _ (by simp only; omega) ⟨e2, by simp only; omega, by simp only; omega, by simp only; omega, by simp only; omega⟩ (.c rfl (.c rfl (.c rfl (.c rfl (.c rfl (.c rfl (.c rfl (.n))))))))
      · clear ih2
        repeat (first | refine T_seq ?_ | refine T_region ?_ | refine T_cond_false rfl ?_ | refine T_inBlock ?_ | refine T_exit rfl ?_ | refine TL_add (hk := ?_) | refine TL_lt_f (hk := ?_) | refine TL_nil ?_ | refine TL_move (hk := ?_) | refine TL_assign (hk := ?_) | refine TL_load_rd TE (hk := ?_) | refine TL_fieldAddr_e TE (hk := ?_) | refine TL_indexAddrn TE (hk := ?_) | refine TL_len TE (hk := ?_) | refine TL_no (hk := ?_) | refine TL_pick_f (hk := ?_))
        exact ih (i + 1, n2) w2 _ (by simp only; omega) ⟨e2, by simp only; omega, by simp only; omega, by simp only; omega, by simp only; omega⟩ (.c rfl (.c rfl (.c rfl (.c rfl (.c rfl (.c rfl (.c rfl (.n))))))))
    · clear ih
      by_cases hp : 300 < totP l i
      · repeat (first | refine T_seq ?_ | refine T_region ?_ | refine T_cond_true rfl ?_ | refine T_cond_false rfl ?_ | refine T_exit rfl ?_ | refine TL_lt_t (hk := ?_) | refine TL_lt_f (hk := ?_) | refine TL_gt_t (hk := ?_) | refine TL_nil ?_ | refine TL_move (hk := ?_) | refine TL_len TE (hk := ?_) | refine TL_yes (hk := ?_) | refine TL_no (hk := ?_) | refine TL_pick_t (hk := ?_))
        refine TL_call TE (hc := jlive_c w1) (hk := ?_)
        rintro _ w2 ⟨rfl, e2⟩
        repeat (first | refine TL_nil ?_ | refine TL_assign (hk := ?_))
        exact T_ret1 rfl rfl ⟨rfl, e1.ext e2⟩
      · by_cases hn3 : 200000 < n
        · repeat (first | refine T_seq ?_ | refine T_region ?_ | refine T_cond_true rfl ?_ | refine T_cond_false rfl ?_ | refine T_exit rfl ?_ | refine TL_lt_t (hk := ?_) | refine TL_lt_f (hk := ?_) | refine TL_gt_t (hk := ?_) | refine TL_gt_f (hk := ?_) | refine TL_nil ?_ | refine TL_move (hk := ?_) | refine TL_len TE (hk := ?_) | refine TL_yes (hk := ?_) | refine TL_no (hk := ?_) | refine TL_pick_t (hk := ?_) | refine TL_pick_f (hk := ?_))
          refine TL_call TE (hc := jlive_c w1) (hk := ?_)
          rintro _ w2 ⟨rfl, e2⟩
          repeat (first | refine TL_nil ?_ | refine TL_assign (hk := ?_))
          exact T_ret1 rfl rfl ⟨rfl, e1.ext e2⟩
        · have h60 : 60 < m := by omega
          repeat (first | refine T_seq ?_ | refine T_region ?_ | refine T_cond_true rfl ?_ | refine T_cond_false rfl ?_ | refine T_exit rfl ?_ | refine TL_lt_t (hk := ?_) | refine TL_lt_f (hk := ?_) | refine TL_gt_t (hk := ?_) | refine TL_gt_f (hk := ?_) | refine TL_nil ?_ | refine TL_move (hk := ?_) | refine TL_len TE (hk := ?_) | refine TL_yes (hk := ?_) | refine TL_no (hk := ?_) | refine TL_pick_t (hk := ?_) | refine TL_pick_f (hk := ?_))
          refine TL_call TE (hc := jlive_c w1) (hk := ?_)
          rintro _ w2 ⟨rfl, e2⟩
          repeat (first | refine TL_nil ?_ | refine TL_assign (hk := ?_))
          exact T_ret1 rfl rfl ⟨rfl, e1.ext e2⟩
  · clear ih
    obtain rfl : m = i := by omega
    by_cases hp : 300 < totP l m
    · repeat (first | refine T_seq ?_ | refine T_region ?_ | refine T_cond_true rfl ?_ | refine T_cond_false rfl ?_ | refine T_exit rfl ?_ | refine TL_lt_f (hk := ?_) | refine TL_gt_t (hk := ?_) | refine TL_nil ?_ | refine TL_move (hk := ?_) | refine TL_len TE (hk := ?_) | refine TL_no (hk := ?_) | refine TL_pick_t (hk := ?_) | refine TL_pick_f (hk := ?_))
      refine TL_call TE (hc := jlive_c w1) (hk := ?_)
      rintro _ w2 ⟨rfl, e2⟩
      repeat (first | refine TL_nil ?_ | refine TL_assign (hk := ?_))
      exact T_ret1 rfl rfl ⟨rfl, e1.ext e2⟩
    by_cases hn3 : 200000 < n
    · repeat (first | refine T_seq ?_ | refine T_region ?_ | refine T_cond_true rfl ?_ | refine T_cond_false rfl ?_ | refine T_exit rfl ?_ | refine TL_lt_f (hk := ?_) | refine TL_gt_t (hk := ?_) | refine TL_gt_f (hk := ?_) | refine TL_nil ?_ | refine TL_move (hk := ?_) | refine TL_len TE (hk := ?_) | refine TL_yes (hk := ?_) | refine TL_no (hk := ?_) | refine TL_pick_t (hk := ?_) | refine TL_pick_f (hk := ?_))
      refine TL_call TE (hc := jlive_c w1) (hk := ?_)
      rintro _ w2 ⟨rfl, e2⟩
      repeat (first | refine TL_nil ?_ | refine TL_assign (hk := ?_))
      exact T_ret1 rfl rfl ⟨rfl, e1.ext e2⟩
    by_cases h60 : 60 < m
    · repeat (first | refine T_seq ?_ | refine T_region ?_ | refine T_cond_true rfl ?_ | refine T_cond_false rfl ?_ | refine T_exit rfl ?_ | refine TL_lt_f (hk := ?_) | refine TL_gt_t (hk := ?_) | refine TL_gt_f (hk := ?_) | refine TL_nil ?_ | refine TL_move (hk := ?_) | refine TL_len TE (hk := ?_) | refine TL_yes (hk := ?_) | refine TL_no (hk := ?_) | refine TL_pick_t (hk := ?_) | refine TL_pick_f (hk := ?_))
      refine TL_call TE (hc := jlive_c w1) (hk := ?_)
      rintro _ w2 ⟨rfl, e2⟩
      repeat (first | refine TL_nil ?_ | refine TL_assign (hk := ?_))
      exact T_ret1 rfl rfl ⟨rfl, e1.ext e2⟩
    by_cases h20 : 20 < q
    · repeat (first | refine T_seq ?_ | refine T_region ?_ | refine T_cond_true rfl ?_ | refine T_cond_false rfl ?_ | refine T_exit rfl ?_ | refine TL_lt_f (hk := ?_) | refine TL_gt_t (hk := ?_) | refine TL_gt_f (hk := ?_) | refine TL_nil ?_ | refine TL_move (hk := ?_) | refine TL_len TE (hk := ?_) | refine TL_yes (hk := ?_) | refine TL_no (hk := ?_) | refine TL_pick_f (hk := ?_))
      refine TL_call TE (hc := jlive_c w1) (hk := ?_)
      rintro _ w2 ⟨rfl, e2⟩
      repeat (first | refine TL_nil ?_ | refine TL_assign (hk := ?_))
      exact T_ret1 rfl rfl ⟨rfl, e1.ext e2⟩
    have zw1 := e1.size
    repeat (first | refine T_seq ?_ | refine T_region ?_ | refine T_cond_false rfl ?_ | refine T_skip ?_ | refine T_exit rfl ?_ | refine TL_lt_f (hk := ?_) | refine TL_gt_f (hk := ?_) | refine TL_nil ?_ | refine TL_move (hk := ?_) | refine TL_len TE (hk := ?_) | refine TL_yes (hk := ?_) | refine TL_no (hk := ?_) | refine TL_pick_f (hk := ?_))
    refine TL_call TE (hc := NewDisk_c none 0 0 [] w1 (Own.nil w1 0 5 1).rd (by omega) (by omega)) (hk := ?_)
    rintro _ w2 ⟨dd, sd2, gd2, rfl, e2, D2⟩
    have z2 := e2.size
    repeat (first | refine T_seq ?_ | refine T_region ?_ | refine TL_nil ?_ | refine TL_move (hk := ?_) | refine TL_assign (hk := ?_))
    refine TL_call TE (hc := Open_j w2 D2 getEn_fit) (hk := ?_)
    rintro _ w3 ⟨jp, rfl, O3⟩
    obtain ⟨sd3, gd3, jb, lg3, sl3, es3, g3, rfl, J3, T3, hjb⟩ := O3.jrm (L := ⟨[], 0⟩) (by rw [lv1]) z2
    rw [lv1] at J3 ⊢
    simp only at J3 ⊢
    have e03 : Ext w w3 := T3.ext0 (e1.ext e2) (fun b hb => by have := (D2.old b hb).1; omega)
    repeat (first | refine T_seq ?_ | refine T_region ?_ | refine TL_pnil_f TE (hk := ?_) | refine TL_nil ?_ | refine TL_move (hk := ?_) | refine TL_assign (hk := ?_) | refine TL_yes (hk := ?_) | refine TL_extract (hk := ?_))
    refine TL_call TE (hc := jnum_c _ w3) (hk := ?_)
    rintro _ w4 ⟨rfl, hw⟩
    rw [hw]
    clear hw w4
    repeat (first | refine T_seq ?_ | refine T_region ?_ | refine T_cond_false rfl ?_ | refine T_skip ?_ | refine TL_ne_f (hk := ?_) | refine TL_pnil_f TE (hk := ?_) | refine TL_nil ?_ | refine TL_move (hk := ?_) | refine TL_yes (hk := ?_) | refine TL_pick_f (hk := ?_))
    refine TL_call TE (hc := Arm_c arm w3 J3.dk harm.2) (hk := ?_)
    rintro _ w4 ⟨D4, T4⟩
    have J4 := J3.disk D4 T4
    have e04 : Ext w w4 := T4.ext0 e03 (fun b hb => by have := (J3.dk.old b hb).1; omega)
    repeat (first | refine T_seq ?_ | refine T_region ?_ | refine TL_nil ?_)
    refine TL_buildSlice TE (hk := ?_); intro b5 w5 e5 h5 h5' k5
    have z3 := T3.size
    have z4 := T4.size
    have hnew : ∀ b, w4.heap.size ≤ b → oJ jb gd3 b = 0 ∧ g3 b = 0 := fun b hb => by
      constructor
      · by_cases q : oJ jb gd3 b = 0
        · exact q
        · have := (J4.old b q).2; omega
      · by_cases q : g3 b = 0
        · exact q
        · have := (J4.log.old b q).2; omega
    have oz5 : Own w5 w1.heap.size 2 1 (some ⟨b5, 0, none⟩) 1 1 (rowV iV (endsL [])) := Own.of_blk k5 (by omega) rfl (by decide)
    have gz5 : ∀ b ∈ blkL (some (⟨b5, 0, none⟩ : Addr)), oJ jb gd3 b = 0 ∧ g3 b = 0 := fun b hb => by
      have : b = b5 := by simpa [blkL] using hb
      exact hnew b (by omega)
    have H5 : SI w w5 w1.heap.size jb dd ⟨armD arm (newD []), ⟨[], 0⟩, 0, [], [], [], 0, lg3, sd3, gd3, sl3, es3, g3, (none, 0, 0), [], (some ⟨b5, 0, none⟩, 1, 1)⟩ :=
      ⟨e04.ext e5, zw1, J4.ext e5, JI.start.arm arm, Own.nil _ _ _ _, rfl, (fun x hx => by cases hx), oz5, (fun b hb => by cases hb), gz5, (fun b hb => by cases hb)⟩
    clear J3 J4 D2 D4 T3 T4 O3 hnew k5
    repeat (first | refine T_seq ?_ | refine T_region ?_ | refine T_block ?_ | refine TL_nil ?_ | refine TL_assign (hk := ?_))
    refine T_loop (ι := Nat × SG) (fun j => [(19, .int .i64 (j.1 : Int)), (18, .slice j.2.Y.1 j.2.Y.2.1 j.2.Y.2.2), (17, .slice j.2.Z.1 j.2.Z.2.1 j.2.Z.2.2), (15, pB jb), (14, pB dd), (3, .slice B q d), (2, .int .i64 keep), (0, .slice A m c)])
      (fun j w' => SI w w' w1.heap.size jb dd j.2 ∧ j.1 ≤ m ∧ j.2.lp = j.2.le ∧ j.2.lq = j.2.le ∧ j.2.ps.length ≤ totP l j.1 ∧ j.2.le.length ≤ j.1) (fun j => m - j.1) (0, _) (.c rfl (.c rfl (.c rfl (.c rfl (.c rfl (.c rfl (.c rfl (.c rfl (.n))))))))) ⟨H5, Nat.zero_le _, rfl, rfl, Nat.zero_le _, Nat.zero_le _⟩ ?_
    clear H5
    rintro ⟨j, s⟩ w6 ⟨H, hj, hlp, hlq, hps, hle⟩ ih
    simp only at H hj hlp hlq hps hle ih ⊢
    have hyl := H.oy.len
    rw [rowV_len pmV_len] at hyl
    have hzl := H.oz.len
    rw [rowV_len iV_len, endsL_len, hlq] at hzl
    by_cases hlt : j < m
    · have hr6 := hr.be H.e
      have hA : A ≠ none := by obtain ⟨_, _, hq, _⟩ := hr.2 (by omega); rw [hq]; simp
      have hAl := hr.lo (by omega)
      have hDA : Off A (ownB w6 (oJ jb s.gd)) := off_ofL fun b hb q => by
        have h1 := (H.J.old b (ownB_mem q)).1
        have h2 := Lo.mem hAl b hb
        omega
      have hx0 := hl _ (bm_at (l := l) (i := j) (by omega))
      have hts := totP_succ l j (by omega)
      have htm := totP_le l (i := j + 1) (j := m) (by omega) (by omega)
      have t0 := rowV_at bmV_len l j 0 bm0 (by omega) (by decide)
      have t1 := rowV_at bmV_len l j 1 bm0 (by omega) (by decide)
      have t2 := rowV_at bmV_len l j 2 bm0 (by omega) (by decide)
      obtain ⟨x, hxd⟩ : ∃ x, l.getD j bm0 = x := ⟨_, rfl⟩
      rw [hxd] at hx0 hts t0 t1 t2
      replace t0 : (rowV bmV l)[j * 3 + 0]? = some (.int .i64 x.ep) := t0
      replace t1 : (rowV bmV l)[j * 3 + 1]? = some (.slice x.y.1 x.y.2.1 x.y.2.2) := t1
      replace t2 : (rowV bmV l)[j * 3 + 2]? = some (.bool x.fl) := t2
      have hxl := hx0.len
      have hyb : s.Y.2.1 ≤ 300 := by omega
      have hzb : s.Z.2.1 ≤ 61 := by omega
      have hxb : x.y.2.1 ≤ 300 := by omega
      repeat (first | refine T_seq ?_ | refine T_region ?_ | refine T_cond_true rfl ?_ | refine T_block ?_ | refine T_skip ?_ | refine TL_lt_t (hk := ?_) | refine TL_nil ?_ | refine TL_move (hk := ?_) | refine TL_len TE (hk := ?_))
      refine T_region_any TE.mixed (ownB w6 (oJ jb s.gd)) ?_; intro w7 e7 z7
      have H7 := H.ext e7
      have hr7 := hr6.be e7
      have hx7 := hx0.be H7.e
      have hin := ownB_in (o := oJ jb s.gd) z7
      (refine TA_take 0 rfl (by kernel_rfl) (by kernel_rfl) (by kernel_rfl) ?_; (repeat (first | refine TL_move (hk := ?_) | refine TLP_load_rd TE (hk := ?_) | refine TL_fieldAddr_e TE (hk := ?_) | refine TL_indexAddrn TE (hk := ?_))); refine TL_nil_p ?_); (refine TA_take 1 rfl (by kernel_rfl) (by kernel_rfl) (by kernel_rfl) ?_; (repeat (first | refine TL_move (hk := ?_) | refine TLP_load_rd TE (hk := ?_) | refine TL_fieldAddr_e TE (hk := ?_) | refine TL_indexAddrn TE (hk := ?_))); refine TL_nil_p ?_); (refine TA_take 2 rfl (by kernel_rfl) (by kernel_rfl) (by kernel_rfl) ?_; (repeat (first | refine TL_move (hk := ?_) | refine TLP_load_rd TE (hk := ?_) | refine TL_fieldAddr_e TE (hk := ?_) | refine TL_indexAddrn TE (hk := ?_))); refine TL_nil_p ?_); (refine TA_take 3 rfl (by kernel_rfl) (by kernel_rfl) (by kernel_rfl) ?_; (repeat (first | refine TL_move (hk := ?_) | refine TLP_load_rd TE (hk := ?_) | refine TL_fieldAddr_e TE (hk := ?_) | refine TL_indexAddrn TE (hk := ?_))); refine TL_nil_p ?_); (refine TA_take 4 rfl (by kernel_rfl) (by kernel_rfl) (by kernel_rfl) ?_; (repeat (first | refine TL_move (hk := ?_) | refine TLP_load_rd TE (hk := ?_) | refine TL_fieldAddr_e TE (hk := ?_) | refine TL_indexAddrn TE (hk := ?_))); refine TL_nil_p ?_); (refine TA_take 5 rfl (by kernel_rfl) (by kernel_rfl) (by kernel_rfl) ?_; (repeat (first | refine TL_move (hk := ?_) | refine TLP_load_rd TE (hk := ?_) | refine TL_fieldAddr_e TE (hk := ?_) | refine TL_indexAddrn TE (hk := ?_))); refine TL_nil_p ?_); (refine TA_take 6 rfl (by kernel_rfl) (by kernel_rfl) (by kernel_rfl) ?_; (repeat (first | refine TL_move (hk := ?_) | refine TLP_load_rd TE (hk := ?_) | refine TL_fieldAddr_e TE (hk := ?_) | refine TL_indexAddrn TE (hk := ?_))); refine TL_nil_p ?_); (refine TA_take 7 rfl (by kernel_rfl) (by kernel_rfl) (by kernel_rfl) ?_; (repeat (first | refine TL_move (hk := ?_) | refine TLP_load_rd TE (hk := ?_) | refine TL_fieldAddr_e TE (hk := ?_) | refine TL_indexAddrn TE (hk := ?_))); refine TL_nil_p ?_); (refine TA_take 8 rfl (by kernel_rfl) (by kernel_rfl) (by kernel_rfl) ?_; (repeat (first | refine TL_move (hk := ?_) | refine TLP_load_rd TE (hk := ?_) | refine TL_fieldAddr_e TE (hk := ?_) | refine TL_indexAddrn TE (hk := ?_))); refine TL_nil_p ?_); (refine TA_take 9 rfl (by kernel_rfl) (by kernel_rfl) (by kernel_rfl) ?_; (repeat (first | refine TL_move (hk := ?_) | refine TLP_load_rd TE (hk := ?_) | refine TL_fieldAddr_e TE (hk := ?_) | refine TL_indexAddrn TE (hk := ?_))); refine TL_nil_p ?_); (refine TA_take 10 rfl (by kernel_rfl) (by kernel_rfl) (by kernel_rfl) ?_; (repeat (first | refine TL_move (hk := ?_) | refine TLP_load_rd TE (hk := ?_) | refine TL_fieldAddr_e TE (hk := ?_) | refine TL_indexAddrn TE (hk := ?_))); refine TL_nil_p ?_)
      refine TA_one 11 rfl (by kernel_rfl) (by kernel_rfl) ?_; (try refine TL_yes (hk := ?_)); refine TL_call TE (hc := (plans_c x.y.1 x.y.2.1 x.y.2.2 x.xs w7 hx7.rd hx7.pl hx7.n)) (hq := (by rintro _ w8 ⟨y, ys, rfl, _, _, e, _⟩; exact Ext.un e)) (hk := ?_)
      rintro _ w8 ⟨y, ys, rfl, hyn, hyp, e8, oy, hyo⟩
      have H8 := H7.ext e8
      have wr := Write_c x.ep y.1 y.2.1 y.2.2 ys w8 H8.J oy.rd (fun z hz => ⟨(hyo z hz).1.lies, (hyo z hz).2⟩) (fun b hb => (oy.bl b hb).2) (fun z hz b hb => ((hyo z hz).1.bl b hb).2) (by omega) hx7.ep
      rw [hyp] at wr
      have iw := H8.I.write (ep := x.ep) (ps := x.xs.map (·.p)) hx7.ep.2 (fun z hz => by obtain ⟨u, hu, rfl⟩ := List.mem_map.1 hz; exact (hx0.pl u hu).2)
      obtain ⟨r, hrd⟩ : ∃ r, writeJ s.L s.k x.ep (x.xs.map (·.p)) = r := ⟨_, rfl⟩
      rw [hrd] at wr iw
      refine TL_nil_p ?_
      refine TA_one 12 rfl (by kernel_rfl) (by kernel_rfl) ?_; (try refine TL_yes (hk := ?_)); refine TL_call TE (hc := wr) (hq := (by rintro _ w9 ⟨rfl, lg', sd', gd', sl', es', g', _, t', _⟩; exact t'.inD (Ext.un e8) hin)) (hk := ?_)
      rintro _ w9 ⟨rfl, lg9, sd9, gd9, sl9, es9, g9, J9, T9, hg9⟩
      refine TL_nil_p ?_
      (refine TA_take 13 rfl (by kernel_rfl) (by kernel_rfl) (by kernel_rfl) ?_; (repeat (first | refine TL_move (hk := ?_) | refine TL_assign (hk := ?_) | refine TL_extract (hk := ?_))); refine TL_nil_p ?_); (refine TA_take 14 rfl (by kernel_rfl) (by kernel_rfl) (by kernel_rfl) ?_; (repeat (first | refine TL_move (hk := ?_) | refine TL_assign (hk := ?_) | refine TL_extract (hk := ?_))); refine TL_nil_p ?_); (refine TA_take 15 rfl (by kernel_rfl) (by kernel_rfl) (by kernel_rfl) ?_; (repeat (first | refine TL_move (hk := ?_) | refine TL_assign (hk := ?_) | refine TL_extract (hk := ?_))); refine TL_nil_p ?_); (refine TA_take 16 rfl (by kernel_rfl) (by kernel_rfl) (by kernel_rfl) ?_; (repeat (first | refine TL_move (hk := ?_) | refine TL_assign (hk := ?_) | refine TL_extract (hk := ?_))); refine TL_nil_p ?_); (refine TA_take 17 rfl (by kernel_rfl) (by kernel_rfl) (by kernel_rfl) ?_; (repeat (first | refine TL_move (hk := ?_) | refine TL_assign (hk := ?_) | refine TL_extract (hk := ?_))); refine TL_nil_p ?_)
      refine TA_done (by kernel_rfl) ?_
      repeat (first | refine T_seq ?_ | refine T_region ?_ | refine TL_move (hk := ?_))
      refine TL_call TE (hc := jnum_c _ w9) (hk := ?_)
      rintro _ w10 ⟨rfl, hw⟩
      rw [hw]
      clear hw w10
      by_cases hz : r.1.2.2 = 0
      · have hz' : ((r.1.2.2 : Nat) : Int) = 0 := by omega
        have H9 := H8.tn J9 T9 hg9 (iw.1 hz)
        have oy9 : Own w9 w1.heap.size 45 7 s.Y.1 s.Y.2.1 s.Y.2.2 (rowV pmV s.ps) := H9.oy
        have hr9 := hr.be H9.e
        have hx9 := hx0.be H9.e
        have zb9 := H9.size
        clear oy hyo wr J9 T9 hg9 H8 H7 hr7 hx7 hin iw
        repeat (first | refine T_seq ?_ | refine T_region ?_ | refine T_cond_true rfl ?_ | refine TL_eq_t (hk := ?_) | refine TL_nil ?_ | refine TL_move (hk := ?_) | refine TL_load_rd TE (hk := ?_) | refine TL_fieldAddr_e TE (hk := ?_) | refine TL_indexAddrn TE (hk := ?_))
        refine TL_append TE (ho := oy9) (hr := hx9.rd) (h1 := rowV_one pmV_one _) (hk := ?_); intro A10 c10 w10 o10 m10 n10
        rw [← rowV_append] at o10
        have hfl2 : (s.ps ++ x.xs).map (·.p) = ((s.le ++ [(x.ep, x.xs.map (·.p))]).map (·.2)).flatten := by
          rw [List.map_append, H9.pp]
          simp only
          rw [hlp, List.map_append, List.flatten_append]
          simp
        have H10 := H9.all (lp := s.le ++ [(x.ep, x.xs.map (·.p))]) m10 n10 o10 hfl2 (fun z hz => (List.mem_append.1 hz).elim (H9.pin z) (hx0.pl z))
        have hlen := logF_len hfl2
        clear H9 oy9 hr9 hx9 o10 m10 n10
        repeat (first | refine T_region ?_ | refine TL_nil ?_ | refine TL_move (hk := ?_) | refine TL_assign (hk := ?_) | refine TL_len TE (hk := ?_))
        refine TL_buildSlice TE (hk := ?_); intro b11 w11 e11 h11 h11' k11
        have H11 := H10.ext e11
        have zb11 := H11.size
        have oz11 : Own w11 w1.heap.size 2 1 s.Z.1 s.Z.2.1 s.Z.2.2 (rowV iV (endsL s.lq)) := H11.oz
        replace k11 : Blk w11 b11 2 (rowV iV [((s.Y.2.1 + x.y.2.1 : Nat) : Int)]) := k11
        have r11 : Rd w11 (some ⟨b11, 0, none⟩) 1 1 (rowV iV [((s.Y.2.1 + x.y.2.1 : Nat) : Int)]) := Rd.blk k11 rfl
        --
        refine TL_append TE (ho := oz11) (hr := r11) (h1 := rowV_one iV_one _) (hk := ?_); intro A12 c12 w12 o12 m12 n12
        rw [← rowV_append] at o12
        have hend : endsL s.lq ++ [((s.Y.2.1 + x.y.2.1 : Nat) : Int)] = endsL (s.le ++ [(x.ep, x.xs.map (·.p))]) := by
          rw [endsL_snoc, hlq, hlen, List.length_append, show s.ps.length = s.Y.2.1 by omega, hxl]
        rw [hend] at o12
        have H12 := H11.ends m12 n12 o12
        have hr12 := hr.be H12.e
        have hlen2 : (s.ps ++ x.xs).length ≤ totP l (j + 1) := by rw [List.length_append]; omega
        have hlen3 : (s.le ++ [(x.ep, x.xs.map (·.p))]).length ≤ j + 1 := by rw [List.length_append, List.length_singleton]; omega
        clear H11 oz11 r11 k11 o12 m12 n12 H10
        repeat (first | refine T_seq ?_ | refine T_region ?_ | refine TL_nil ?_ | refine TL_move (hk := ?_) | refine TL_assign (hk := ?_) | refine TL_load_rd TE (hk := ?_) | refine TL_fieldAddr_e TE (hk := ?_) | refine TL_indexAddrn TE (hk := ?_))
        cases hfl : x.fl with
        | true =>
          rw [hfl] at t2
          repeat (first | refine T_region ?_ | refine T_cond_true rfl ?_ | refine TL_move (hk := ?_))
          refine TL_call TE (hc := Flush_c w12 H12.J) (hk := ?_)
          rintro _ w13 ⟨rfl, sd13, gd13, J13, T13⟩
          have H13 := H12.tn J13 T13 (fun b hb => .inl hb) H12.I.flush
          repeat (first | refine T_region ?_ | refine T_inBlock ?_ | refine TL_add (hk := ?_) | refine TL_nil ?_ | refine TL_move (hk := ?_) | refine TL_assign (hk := ?_))
          exact ih (j + 1, _) w13 _ (by simp only; omega) ⟨H13, by simp only; omega, rfl, rfl, hlen2, hlen3⟩ (.c rfl (.c rfl (.c rfl (.c rfl (.c rfl (.c rfl (.c rfl (.c rfl (.n)))))))))
        | false =>
          rw [hfl] at t2
          repeat (first | refine T_region ?_ | refine T_cond_false rfl ?_ | refine T_inBlock ?_ | refine T_skip ?_ | refine TL_add (hk := ?_) | refine TL_nil ?_ | refine TL_move (hk := ?_) | refine TL_assign (hk := ?_))
          exact ih (j + 1, _) w12 _ (by simp only; omega) ⟨H12, by simp only; omega, rfl, rfl, hlen2, hlen3⟩ (.c rfl (.c rfl (.c rfl (.c rfl (.c rfl (.c rfl (.c rfl (.c rfl (.n)))))))))
      · have hz' : ¬ ((r.1.2.2 : Nat) : Int) = 0 := by omega
        have H9 := H8.tn J9 T9 hg9 (iw.2 hz)
        have hr9 := hr.be H9.e
        clear oy hyo wr J9 T9 hg9 H8 H7 hr7 hx7 hin iw
        repeat (first | refine T_seq ?_ | refine T_region ?_ | refine T_cond_false rfl ?_ | refine T_skip ?_ | refine TL_eq_f (hk := ?_) | refine TL_nil ?_ | refine TL_move (hk := ?_) | refine TL_load_rd TE (hk := ?_) | refine TL_fieldAddr_e TE (hk := ?_) | refine TL_indexAddrn TE (hk := ?_))
        cases hfl : x.fl with
        | true =>
          rw [hfl] at t2
          repeat (first | refine T_region ?_ | refine T_cond_true rfl ?_ | refine TL_move (hk := ?_))
          refine TL_call TE (hc := Flush_c w9 H9.J) (hk := ?_)
          rintro _ w13 ⟨rfl, sd13, gd13, J13, T13⟩
          have H13 := H9.tn J13 T13 (fun b hb => .inl hb) H9.I.flush
          repeat (first | refine T_region ?_ | refine T_inBlock ?_ | refine TL_add (hk := ?_) | refine TL_nil ?_ | refine TL_move (hk := ?_) | refine TL_assign (hk := ?_))
          exact ih (j + 1, _) w13 _ (by simp only; omega) ⟨H13, by simp only; omega, hlp, hlq, (by show s.ps.length ≤ totP l (j + 1); omega), (by show s.le.length ≤ j + 1; omega)⟩ (.c rfl (.c rfl (.c rfl (.c rfl (.c rfl (.c rfl (.c rfl (.c rfl (.n)))))))))
        | false =>
          rw [hfl] at t2
          repeat (first | refine T_region ?_ | refine T_cond_false rfl ?_ | refine T_inBlock ?_ | refine T_skip ?_ | refine TL_add (hk := ?_) | refine TL_nil ?_ | refine TL_move (hk := ?_) | refine TL_assign (hk := ?_))
          exact ih (j + 1, _) w9 _ (by simp only; omega) ⟨H9, by simp only; omega, hlp, hlq, (by show s.ps.length ≤ totP l (j + 1); omega), (by show s.le.length ≤ j + 1; omega)⟩ (.c rfl (.c rfl (.c rfl (.c rfl (.c rfl (.c rfl (.c rfl (.c rfl (.n)))))))))
    · obtain rfl : m = j := by omega
      clear ih
      have hD := H.J.dk
      have hG := H.I.g
      have hM := H.I.hm
      have hF := H.I.fl
      have hP := H.I.part keep
      have hsz := H.size
      repeat (first | refine T_seq ?_ | refine T_region ?_ | refine T_cond_false rfl ?_ | refine T_exit rfl ?_ | refine TL_lt_f (hk := ?_) | refine TL_nil ?_ | refine TL_move (hk := ?_) | refine TL_len TE (hk := ?_))
      refine TL_call TE (hc := Flushed_c w6 H.J) (hk := ?_)
      rintro _ w7 ⟨rfl, hw⟩
      rw [hw]
      clear hw w7
      repeat (first | refine T_seq ?_ | refine T_region ?_ | refine TL_nil ?_ | refine TL_move (hk := ?_) | refine TL_assign (hk := ?_))
      refine TL_call TE (hc := Left_c keep w6 hD) (hk := ?_)
      rintro _ w7 ⟨y, rfl, D7, T7, o7⟩
      have H7 := H.tn (H.J.disk D7 T7) (oJ_tn T7) (fun b hb => .inl hb) H.I
      have hlb : (leftD s.k keep).length ≤ 4194304 := by
        have := hD.ok.ln
        unfold leftD
        rw [List.length_take]; omega
      have oY : Own w7 w1.heap.size 45 7 s.Y.1 s.Y.2.1 s.Y.2.2 (rowV pmV s.ps) := H7.oy
      have oZ : Own w7 w1.heap.size 2 1 s.Z.1 s.Z.2.1 s.Z.2.2 (rowV iV (endsL s.le)) := by rw [← hlq]; exact H7.oz
      have hpp : s.ps.map (·.p) = (s.le.map (·.2)).flatten := by rw [← hlp]; exact H7.pp
      have hpin := H7.pin
      have e07 := H7.e
      obtain ⟨fl, hfl⟩ : ∃ fl, s.fl = fl := ⟨_, rfl⟩
      obtain ⟨le, hle2⟩ : ∃ le, s.le = le := ⟨_, rfl⟩
      obtain ⟨mf, hmf⟩ : ∃ mf, s.mf = mf := ⟨_, rfl⟩
      obtain ⟨Y, hY⟩ : ∃ Y, s.Y = Y := ⟨_, rfl⟩
      obtain ⟨Z, hZ⟩ : ∃ Z, s.Z = Z := ⟨_, rfl⟩
      obtain ⟨ps, hps2⟩ : ∃ ps, s.ps = ps := ⟨_, rfl⟩
      obtain ⟨b0, hb0⟩ : ∃ b0, leftD s.k keep = b0 := ⟨_, rfl⟩
      have r7 := o7.rd
      have c7 := o7.cap.1
      rw [hb0] at hlb hP r7
      clear o7 hb0 hD T7 D7 H7 H
      rw [hfl, hle2, hmf] at hF
      rw [hle2] at hG hM hP oZ hpp hzl hle hlq hlp
      rw [hmf] at hM hP
      rw [hfl, hY, hZ]
      rw [hY, hps2] at oY
      rw [hZ] at oZ hzl
      rw [hps2] at hpp hpin hps hyl
      rw [hY] at hyl
      clear hfl hle2 hmf hY hZ hps2 hlq hlp s
      have zb7 := e07.size
      repeat (first | refine T_seq ?_ | refine T_region ?_ | refine T_block ?_ | refine TL_nil ?_ | refine TL_assign (hk := ?_))
      refine T_loop (ι := Nat × SL × List UInt8) (fun a => [(24, .int .i64 (a.1 : Int)), (23, .slice a.2.1.1 a.2.1.2.1 a.2.1.2.2), (22, .int .i64 fl), (18, .slice Y.1 Y.2.1 Y.2.2), (17, .slice Z.1 Z.2.1 Z.2.2), (3, .slice B q d)])
        (fun a w' => Ext w7 w' ∧ a.1 ≤ q ∧ Rd w' a.2.1.1 a.2.1.2.1 1 (bv a.2.2) ∧ a.2.1.2.1 ≤ a.2.1.2.2 ∧ Part le mf a.2.2 ∧ a.2.2.length ≤ 4194304) (fun a => q - a.1) (0, y, b0) (.c rfl (.c rfl (.c rfl (.c rfl (.c rfl (.c rfl (.n))))))) ⟨Mod.refl _ _, Nat.zero_le _, r7, c7, hP, hlb⟩ ?_
      clear hP hlb r7 c7 y b0
      rintro ⟨a, y, b⟩ w8 ⟨e8, haq, r8, c8, hP, hlb⟩ ih
      simp only at haq r8 c8 hP hlb ih ⊢
      have hbl := r8.1
      rw [bv_length, Nat.mul_one] at hbl
      have zb8 := e8.size
      by_cases hlt : a < q
      · have e08 := e07.ext e8
        have ha8 := ha.be e08
        have hB : B ≠ none := by obtain ⟨_, _, hq, _⟩ := ha.2 (by omega); rw [hq]; simp
        have hz := hal _ (int_at (l := ag) (i := a) (by omega))
        have t0 := rowV_at iV_len ag a 0 0 (by omega) (by decide)
        obtain ⟨z, hzd⟩ : ∃ z, ag.getD a 0 = z := ⟨_, rfl⟩
        rw [hzd] at hz t0
        have hz1 : -9223372036854775808 ≤ z := hz.1
        have hz2 : z ≤ 9223372036854775807 := hz.2
        replace t0 : (rowV iV ag)[a * 1 + 0]? = some (.int .i64 z) := t0
        rw [Nat.mul_one, Nat.add_zero] at t0
        repeat (first | refine T_seq ?_ | refine T_region ?_ | refine T_cond_true rfl ?_ | refine T_block ?_ | refine T_skip ?_ | refine TL_lt_t (hk := ?_) | refine TL_nil ?_ | refine TL_move (hk := ?_) | refine TL_len TE (hk := ?_))
        refine TL_call TE (hc := NewDisk_c y.1 y.2.1 y.2.2 b w8 r8 c8 (by omega)) (hk := ?_)
        rintro _ w9 ⟨d9, sd9, gd9, rfl, e9, D9⟩
        have z9 := e9.size
        have ha9 := ha8.be e9
        repeat (first | refine T_seq ?_ | refine T_region ?_ | refine T_cond_false rfl ?_ | refine T_skip ?_ | refine TL_pnil_f TE (hk := ?_) | refine TL_nil ?_ | refine TL_move (hk := ?_) | refine TL_assign (hk := ?_) | refine TL_load_rd TE (hk := ?_) | refine TL_indexAddr1n TE (hk := ?_))
        refine TL_call TE (hc := Arm_c z w9 D9 hz.2) (hk := ?_)
        rintro _ w10 ⟨D10, T10⟩
        have e810 : Ext w8 w10 := T10.ext0 e9 (fun b hb => (D9.old b hb).1)
        have z10 := e810.size
        repeat (first | refine T_seq ?_ | refine T_region ?_ | refine TL_nil ?_ | refine TL_move (hk := ?_))
        refine TL_call TE (hc := Open_j w10 D10 getEn_fit) (hk := ?_)
        rintro _ w11 ⟨jp, rfl, O11⟩
        obtain ⟨sd11, gd11, D11, T11, -⟩ := O11
        have e811 : Ext w8 w11 := T11.ext0 e810 (fun b hb => (D10.old b hb).1)
        have ha11 := ha8.be e811
        clear D9 D10 T10 ha9
        have hP12 : ∀ n : Int, Part le mf (leftD (openJ (armD z (newD b))).2.2 n) := fun n => (again_part hG hM hP hlb z n).1
        have hl12 : ∀ n : Int, (leftD (openJ (armD z (newD b))).2.2 n).length ≤ 4194304 := fun n => by
          have := D11.ok.ln
          unfold leftD
          rw [List.length_take]; omega
        by_cases hs : -9223372036854775808 ≤ z - 3
        · repeat (first | refine T_region ?_ | refine TL_sub (hk := ?_) | refine TL_nil ?_ | refine TL_move (hk := ?_) | refine TL_load_rd TE (hk := ?_) | refine TL_indexAddr1n TE (hk := ?_))
          refine TL_call TE (hc := Left_c (z - 3) w11 D11) (hk := ?_)
          rintro _ w12 ⟨y12, rfl, D12, T12, o12⟩
          have e812 : Ext w8 w12 := T12.ext0 e811 (fun b hb => (D11.old b hb).1)
          repeat (first | refine T_region ?_ | refine T_inBlock ?_ | refine TL_add (hk := ?_) | refine TL_nil ?_ | refine TL_move (hk := ?_) | refine TL_assign (hk := ?_))
          exact ih (a + 1, y12, _) w12 _ (by simp only; omega) ⟨e8.ext e812, by simp only; omega, o12.rd, o12.cap.1, hP12 _, hl12 _⟩ (.c rfl (.c rfl (.c rfl (.c rfl (.c rfl (.c rfl (.n)))))))
        · repeat (first | refine T_region ?_ | refine TL_nil ?_ | refine TL_move (hk := ?_) | refine TL_load_rd TE (hk := ?_) | refine TL_indexAddr1n TE (hk := ?_))
          refine TL_sub_wrap (hk := ?_)
          --
          refine TL_call TE (hc := Left_c (IntKind.wrap .i64 (z - 3)) w11 D11) (hk := ?_)
          rintro _ w12 ⟨y12, rfl, D12, T12, o12⟩
          have e812 : Ext w8 w12 := T12.ext0 e811 (fun b hb => (D11.old b hb).1)
          repeat (first | refine T_region ?_ | refine T_inBlock ?_ | refine TL_add (hk := ?_) | refine TL_nil ?_ | refine TL_move (hk := ?_) | refine TL_assign (hk := ?_))
          exact ih (a + 1, y12, _) w12 _ (by simp only; omega) ⟨e8.ext e812, by simp only; omega, o12.rd, o12.cap.1, hP12 _, hl12 _⟩ (.c rfl (.c rfl (.c rfl (.c rfl (.c rfl (.c rfl (.n)))))))
      · obtain rfl : q = a := by omega
        clear ih
        have e08 := e07.ext e8
        repeat (first | refine T_seq ?_ | refine T_region ?_ | refine T_cond_false rfl ?_ | refine T_exit rfl ?_ | refine TL_lt_f (hk := ?_) | refine TL_nil ?_ | refine TL_move (hk := ?_) | refine TL_len TE (hk := ?_))
        refine TL_call TE (hc := NewDisk_c y.1 y.2.1 y.2.2 b w8 r8 c8 (by omega)) (hk := ?_)
        rintro _ w9 ⟨d9, sd9, gd9, rfl, e9, D9⟩
        have z9 := e9.size
        obtain ⟨cc, c1, c2, c3, c4⟩ := last_part hG hM hP hlb
        repeat (first | refine T_seq ?_ | refine T_region ?_ | refine TL_nil ?_ | refine TL_move (hk := ?_) | refine TL_assign (hk := ?_))
        refine TL_call TE (hc := Open_j w9 D9 getEn_fit) (hk := ?_)
        rintro _ w10 ⟨jp, rfl, O10⟩
        obtain ⟨sd10, gd10, jb10, lg10, sl10, es10, g10, rfl, J10, T10, hjb10⟩ := O10.jrm c3 z9
        rw [c4]
        have e710 : Ext w7 w10 := e8.ext (T10.ext0 e9 (fun b hb => (D9.old b hb).1))
        have z10 := e710.size
        obtain ⟨W, hW⟩ : ∃ W, (logF L0 (le.take cc)).l.length = W := ⟨_, rfl⟩
        have hmono : (logF L0 (le.take mf)).l.length ≤ W := by
          obtain ⟨t, ht⟩ := logF_part (le.take cc) mf
          rw [List.take_take, Nat.min_eq_left c1] at ht
          rw [← hW, ht, List.length_append]
          omega
        have hflW : ¬ (W : Int) < fl := by omega
        repeat (first | refine T_seq ?_ | refine T_region ?_ | refine TL_pnil_f TE (hk := ?_) | refine TL_nil ?_ | refine TL_move (hk := ?_) | refine TL_assign (hk := ?_) | refine TL_yes (hk := ?_) | refine TL_extract (hk := ?_))
        refine TL_call TE (hc := jnum_c _ w10) (hk := ?_)
        rintro _ w11 ⟨rfl, hw⟩
        rw [hw]
        clear hw w11
        repeat (first | refine TL_ne_f (hk := ?_) | refine TL_pnil_f TE (hk := ?_) | refine TL_move (hk := ?_) | refine TL_yes (hk := ?_) | refine TL_pick_f (hk := ?_))
        refine TL_call TE (hc := Written_c w10 J10) (hk := ?_)
        rintro _ w11 ⟨rfl, hw⟩
        rw [hw, hW]
        clear hw w11
        repeat (first | refine T_seq ?_ | refine T_region ?_ | refine T_cond_false rfl ?_ | refine T_block ?_ | refine T_skip ?_ | refine TL_lt_f (hk := ?_) | refine TL_nil ?_ | refine TL_move (hk := ?_) | refine TL_assign (hk := ?_) | refine TL_yes (hk := ?_) | refine TL_pick_f (hk := ?_))
        have oY10 := oY.be e710
        have oZ10 := oZ.be e710
        have hWp : W ≤ ps.length := by
          obtain ⟨t, ht⟩ := logF_part le cc
          rw [← logF_len hpp, ht, List.length_append, hW]
          omega
        refine T_loop (ι := Nat × Bool) (fun a => [(30, .int .i64 (a.1 : Int)), (29, .bool a.2), (27, pB jb10), (18, .slice Y.1 Y.2.1 Y.2.2), (17, .slice Z.1 Z.2.1 Z.2.2)]) (fun a w' => Ext w10 w' ∧ a.1 ≤ Z.2.1 ∧ (cc < a.1 → a.2 = true)) (fun a => Z.2.1 - a.1) (0, false) (.c rfl (.c rfl (.c rfl (.c rfl (.c rfl (.n)))))) ⟨Mod.refl _ _, Nat.zero_le _, fun h => absurd h (Nat.not_lt_zero _)⟩ ?_
        rintro ⟨a, bb⟩ w11 ⟨e11, haz, hbb⟩ ih
        simp only at haz hbb ih ⊢
        have J11 := J10.ext e11
        rw [hW] at J11
        have hWd : ∀ w', Ext w11 w' → Ret Tryz.prog 28 [pB jb10] w' (fun v w'' => v = .int .i64 (W : Int) ∧ w'' = w') := fun w' e' => by
          have h := Written_c w' (J11.ext e')
          rw [hW] at h
          exact h
        by_cases hlt : a < Z.2.1
        · have rZ := oZ10.rd.be e11
          have hZn : Z.1 ≠ none := by obtain ⟨_, _, hq, _⟩ := rZ.2 (by omega); rw [hq]; simp
          have hla : a < (endsL le).length := by rw [endsL_len]; omega
          have t0 := rowV_at iV_len (endsL le) a 0 0 hla (by decide)
          have hend := endsL_at le a
          obtain ⟨z, hzd⟩ : ∃ z, (endsL le).getD a 0 = z := ⟨_, rfl⟩
          rw [hzd] at t0 hend
          replace t0 : (rowV iV (endsL le))[a * 1 + 0]? = some (.int .i64 z) := t0
          rw [Nat.mul_one, Nat.add_zero] at t0
          cases bb with
          | true =>
            repeat (first | refine T_seq ?_ | refine T_region ?_ | refine T_region_q TE.mixed (by kernel_rfl) ?_ | refine T_cond_true rfl ?_ | refine T_block ?_ | refine T_skip ?_ | refine TL_lt_t (hk := ?_) | refine TL_nil ?_ | refine TL_move (hk := ?_) | refine TL_assign (hk := ?_) | refine TL_len TE (hk := ?_) | refine TL_no (hk := ?_) | refine TL_pick_t (hk := ?_))
            refine TL_nil_q ?_; intro w12 e12
            repeat (first | refine T_region ?_ | refine T_inBlock ?_ | refine TL_add (hk := ?_) | refine TL_nil ?_ | refine TL_move (hk := ?_) | refine TL_assign (hk := ?_))
            exact ih (a + 1, true) w12 _ (by simp only; omega) ⟨e11.ext e12, by simp only; omega, fun _ => rfl⟩ (.c rfl (.c rfl (.c rfl (.c rfl (.c rfl (.n))))))
          | false =>
            have hnc : ¬ cc < a := fun h => by have := hbb h; cases this
            by_cases hzW : z = (W : Int)
            · repeat (first | refine T_seq ?_ | refine T_region ?_ | refine T_region_q TE.mixed (by kernel_rfl) ?_ | refine T_cond_true rfl ?_ | refine T_block ?_ | refine T_skip ?_ | refine TL_lt_t (hk := ?_) | refine TL_nil ?_ | refine TL_move (hk := ?_) | refine TL_load_rd TE (hk := ?_) | refine TL_indexAddr1n TE (hk := ?_) | refine TL_len TE (hk := ?_) | refine TL_yes (hk := ?_))
              refine TL_call_q TE rfl rfl rfl ((fun w' e' => ret_q (hWd w' e'))) ?_
              repeat (first | refine TL_eq_t (hk := ?_) | refine TL_assign (hk := ?_) | refine TL_yes (hk := ?_) | refine TL_pick_f (hk := ?_))
              refine TL_nil_q ?_; intro w12 e12
              repeat (first | refine T_region ?_ | refine T_inBlock ?_ | refine TL_add (hk := ?_) | refine TL_nil ?_ | refine TL_move (hk := ?_) | refine TL_assign (hk := ?_))
              exact ih (a + 1, true) w12 _ (by simp only; omega) ⟨e11.ext e12, by simp only; omega, fun _ => rfl⟩ (.c rfl (.c rfl (.c rfl (.c rfl (.c rfl (.n))))))
            · have hca : cc ≠ a := fun h => by
                rw [← h, hW] at hend
                exact hzW (hend c2)
              repeat (first | refine T_seq ?_ | refine T_region ?_ | refine T_region_q TE.mixed (by kernel_rfl) ?_ | refine T_cond_true rfl ?_ | refine T_block ?_ | refine T_skip ?_ | refine TL_lt_t (hk := ?_) | refine TL_nil ?_ | refine TL_move (hk := ?_) | refine TL_load_rd TE (hk := ?_) | refine TL_indexAddr1n TE (hk := ?_) | refine TL_len TE (hk := ?_) | refine TL_yes (hk := ?_))
              refine TL_call_q TE rfl rfl rfl ((fun w' e' => ret_q (hWd w' e'))) ?_
              repeat (first | refine TL_eq_f (hk := ?_) | refine TL_assign (hk := ?_) | refine TL_yes (hk := ?_) | refine TL_pick_f (hk := ?_))
              refine TL_nil_q ?_; intro w12 e12
              repeat (first | refine T_region ?_ | refine T_inBlock ?_ | refine TL_add (hk := ?_) | refine TL_nil ?_ | refine TL_move (hk := ?_) | refine TL_assign (hk := ?_))
              exact ih (a + 1, false) w12 _ (by simp only; omega) ⟨e11.ext e12, by simp only; omega, fun h => absurd h (by simp only; omega)⟩ (.c rfl (.c rfl (.c rfl (.c rfl (.c rfl (.n))))))
        · clear ih
          obtain rfl : bb = true := hbb (by omega)
          have hWn : ¬ (W : Int) > (Y.2.1 : Int) := by omega
          repeat (first | refine T_seq ?_ | refine T_region ?_ | refine T_cond_false rfl ?_ | refine T_exit rfl ?_ | refine TL_lt_f (hk := ?_) | refine TL_nil ?_ | refine TL_move (hk := ?_) | refine TL_len TE (hk := ?_) | refine TL_yes (hk := ?_) | refine TL_not (hk := ?_))
          refine TL_call TE (hc := hWd w11 (Mod.refl _ _)) (hk := ?_)
          rintro _ w12 ⟨rfl, hw⟩
          rw [hw]
          clear hw w12
          repeat (first | refine T_seq ?_ | refine T_region ?_ | refine T_cond_false rfl ?_ | refine T_skip ?_ | refine TL_gt_f (hk := ?_) | refine TL_nil ?_ | refine TL_move (hk := ?_) | refine TL_len TE (hk := ?_) | refine TL_yes (hk := ?_) | refine TL_pick_f (hk := ?_))
          refine TL_call TE (hc := Log_c w11 J11) (hk := ?_)
          rintro _ w12 ⟨lg12, sl12, es12, g12, rfl, e12, L12⟩
          have hok := J11.ok
          have hLn := hok.n
          repeat (first | refine T_seq ?_ | refine T_region ?_ | refine T_cond_false rfl ?_ | refine T_skip ?_ | refine TL_add (hk := ?_) | refine TL_pnil_f TE (hk := ?_) | refine TL_nil ?_ | refine TL_move (hk := ?_) | refine TL_assign (hk := ?_) | refine TL_len TE (hk := ?_))
          refine TL_call TE (hc := LFrom_c 0 ((Y.2.1 : Int) + 1) w12 L12 hLn (by decide)) (hk := ?_)
          rintro _ w13 ⟨y13, ys, rfl, e13, O13⟩
          have hO : fromL (logF L0 (le.take cc)) (0 : Int).toNat ((Y.2.1 : Int) + 1).toNat = (logF L0 (le.take cc)).l := by
            unfold fromL
            rw [List.take_of_length_le]
            · rfl
            · rw [List.length_drop, hW]; omega
          rw [hO] at O13
          have hy13 := O13.len
          rw [hW] at hy13
          have hysl : ys.length = W := by have := congrArg List.length O13.ee; rw [List.length_map, hW] at this; exact this
          have hW13 := fun w' (e' : Ext w13 w') => hWd w' ((e12.ext e13).ext e')
          have e013 := ((((e07.ext e710).ext e11).ext e12).ext e13)
          have hWi : ((y13.2.1 : Nat) : Int) = (W : Int) := by omega
          clear hWd hbb J10 D9 T10 O10 L12 hmono hflW
          repeat (first | refine T_seq ?_ | refine T_region ?_ | refine T_block ?_ | refine TL_nil ?_ | refine TL_assign (hk := ?_))
          refine T_loop (ι := Nat) (fun a => [(33, .int .i64 (a : Int)), (32, .slice y13.1 y13.2.1 y13.2.2), (27, pB jb10), (18, .slice Y.1 Y.2.1 Y.2.2)]) (fun a w' => Ext w13 w' ∧ a ≤ W) (fun a => W - a) 0 (.c rfl (.c rfl (.c rfl (.c rfl (.n))))) ⟨Mod.refl _ _, Nat.zero_le _⟩ ?_
          rintro a w14 ⟨e14, ha2⟩ ih
          by_cases hlt2 : a < W
          · have rY := oY10.rd.be (((e11.ext e12).ext e13).ext e14)
            have rO := O13.ow.rd.be e14
            have hYn : Y.1 ≠ none := by obtain ⟨_, _, hq, _⟩ := rY.2 (by omega); rw [hq]; simp
            have hOn : y13.1 ≠ none := by obtain ⟨_, _, hq, _⟩ := rO.2 (by omega); rw [hq]; simp
            obtain ⟨g1, g2⟩ := back_at hpp cc a (by omega)
            have tY := rowV_elem pmV_len ps a pm0 g1
            have tO := em_plan ys a (by omega)
            have tS := rowV_at emV_len ys a 0 em0 (by omega) (by decide)
            have hsq := Run.at hok.run a (by omega)
            have hym : ys.getD a em0 ∈ ys := by rw [List.getD_eq_getElem?_getD, List.getElem?_eq_getElem (by omega)]; exact List.getElem_mem _
            have hyE : emE (ys.getD a em0) = (logF L0 (le.take cc)).l[a] := by
              have h1 : (ys.map emE)[a]? = (logF L0 (le.take cc)).l[a]? := by rw [O13.ee]
              rw [List.getElem?_map, List.getElem?_eq_getElem (by omega), List.getElem?_eq_getElem (by omega)] at h1
              rw [List.getD_eq_getElem?_getD, List.getElem?_eq_getElem (by omega)]
              exact Option.some.inj h1
            obtain ⟨X1, X2, -⟩ := O13.ek _ hym
            have hPi := (hpin _ (in_at (xs := ps) (i := a) g1)).be (e013.ext e14)
            rw [← hyE] at g2 hsq
            obtain ⟨x, hxd⟩ : ∃ x, ys.getD a em0 = x := ⟨_, rfl⟩
            obtain ⟨p, hpd⟩ : ∃ p, ps.getD a pm0 = p := ⟨_, rfl⟩
            rw [hxd] at tO tS hsq g2 X1 X2
            rw [hpd] at tY g2 hPi
            have hsq2 : x.sq = (a : Int) := by rw [show x.sq = (emE x).sq from rfl, hsq]; omega
            have hmp : x.m.p = p.p := g2
            replace tS : (rowV emV ys)[a * 9 + 0]? = some (.int .i64 x.sq) := tS
            rw [hsq2] at tS
            unfold pmV at tY tO
            have X14 := (X1.be e14).lies
            repeat (first | refine T_seq ?_ | refine T_region ?_ | refine T_region_q TE.mixed (by kernel_rfl) ?_ | refine T_cond_true rfl ?_ | refine T_block ?_ | refine T_skip ?_ | refine TL_lt_t (hk := ?_) | refine TL_ne_f (hk := ?_) | refine TL_nil ?_ | refine TL_move (hk := ?_) | refine TL_load_rd TE (hk := ?_) | refine TL_fieldAddr_e TE (hk := ?_) | refine TL_indexAddrn TE (hk := ?_) | refine TL_len TE (hk := ?_) | refine TL_yes (hk := ?_))
            refine TL_loada TE (cs := [.int .i64 x.m.p.q.cl, .int .u64 (x.m.p.q.tk : Int), .string (ofL x.m.p.q.nm), sL x.m.a, .int .i64 x.m.p.how, sL x.m.b, sL x.m.c]) (hx := rfl) (ht := rfl) (hi := rfl) (hr := rO) (hc := tO) (h0 := Nat.succ_pos _) (hk := ?_)
            repeat (first | refine TL_move (hk := ?_) | refine TL_indexAddrn TE (hk := ?_) | refine TL_yes (hk := ?_))
            refine TL_loada TE (cs := [.int .i64 p.p.q.cl, .int .u64 (p.p.q.tk : Int), .string (ofL p.p.q.nm), sL p.a, .int .i64 p.p.how, sL p.b, sL p.c]) (hx := rfl) (ht := rfl) (hi := rfl) (hr := rY) (hc := tY) (h0 := Nat.succ_pos _) (hk := ?_)
            repeat (refine TL_yes (hk := ?_))
            refine TL_call_q TE rfl rfl rfl ((fun w' e' => PSame_c x.m p w' (X14.be e') (hPi.1.be e') X2 hmp)) ?_
            repeat (first | refine TL_yes (hk := ?_) | refine TL_pick_f (hk := ?_) | refine TL_not (hk := ?_))
            refine TL_nil_q ?_; intro w15 e15
            repeat (first | refine T_region ?_ | refine T_cond_false rfl ?_ | refine T_inBlock ?_ | refine T_skip ?_ | refine TL_add (hk := ?_) | refine TL_nil ?_ | refine TL_move (hk := ?_) | refine TL_assign (hk := ?_))
            exact ih (a + 1) w15 _ (by omega) ⟨e14.ext e15, by omega⟩ (.c rfl (.c rfl (.c rfl (.c rfl (.n)))))
          · clear ih
            repeat (first | refine T_seq ?_ | refine T_region ?_ | refine T_cond_false rfl ?_ | refine T_exit rfl ?_ | refine TL_lt_f (hk := ?_) | refine TL_nil ?_ | refine TL_move (hk := ?_) | refine TL_len TE (hk := ?_))
            refine TL_call TE (hc := hW13 w14 e14) (hk := ?_)
            rintro _ w15 ⟨rfl, hw⟩
            rw [hw]
            clear hw w15
            repeat (first | refine TL_eq_t (hk := ?_) | refine TL_move (hk := ?_) | refine TL_yes (hk := ?_))
            refine TL_call TE (hc := jlive_c w14) (hk := ?_)
            rintro _ w15 ⟨rfl, e15⟩
            repeat (first | refine TL_nil ?_ | refine TL_assign (hk := ?_) | refine TL_pick_t (hk := ?_))
            exact T_ret1 rfl rfl ⟨rfl, (e013.ext e14).ext e15⟩
end Go.Proofs.YtjlaomcankmdjaaGreat

namespace Go.Proofs.YtjlaomcankmdjaaGreat
open Go.RowKit Go.Proofs.Eng Go.Proofs.Codec Go.Proofs.Foot Go.Proofs.Journal
set_option linter.unusedSimpArgs false
set_option linter.unusedVariables false set_option maxRecDepth 10000
attribute [local irreducible] T TL LV TH TA
theorem JournalSafe_u (v0 : Value) (arm keep : Int) (v3 : Value) (w : World) {base0 base3 : Nat} (hM0 : 1048576 ≤ 1048576) (hv0 : ReadsB Tryz.prog w base0 63 v0 1048576) (harm : -9223372036854775808 ≤ arm ∧ arm ≤ 9223372036854775807) (hkeep : -9223372036854775808 ≤ keep ∧ keep ≤ 9223372036854775807) (hM3 : 1048576 ≤ 1048576) (hv3 : ReadsB Tryz.prog w base3 64 v3 1048576) :
    Ret Tryz.prog 6 [v0, .int .i64 arm, .int .i64 keep, v3] w (fun v w' => v = .bool true ∧ Ext w w') := by
  obtain ⟨A, n, c, l, rfl, h1, h2, h3, h4⟩ := bats_in hv0
  obtain ⟨B, m, d, ag, rfl, g1, g2, g3, g4⟩ := ints_inJ hv3
  exact JournalSafe_c A B n c m d arm keep l ag w h1 h2 h3 h4 g1 g2 g3 g4 harm hkeep
end Go.Proofs.YtjlaomcankmdjaaGreat
