import Derived.Test.YtjlaomcankmdjaaGreatJb4
import Derived.KernelRfl
/- Parts: PW10 PW11 CW3 CW5 CW11 CW12 CW15 CW16 CW17 CW19 CW20 WSpec JLaw3 WW1 WW2 WW3 WW4 WW5 WW6 JLaw4 WLv WW7 WW8 RB1 RB2. -/
set_option linter.unusedSimpArgs false
set_option linter.unusedVariables false
set_option linter.unusedSectionVars false
namespace Go.Proofs.YtjlaomcankmdjaaGreat
open Go.RowKit Go.Proofs.Eng Go.Proofs.Codec Go.Proofs.Foot Go.Proofs.Journal
set_option linter.unusedVariables false set_option maxRecDepth 10000
attribute [local irreducible] T TL LV TH TA
set_option maxHeartbeats 1600000
def logK (L : LE) (i : Nat) : List UInt8 := (encU L.ep.toNat ++ encU L.l.length) ++ ((L.l.take i).map enT).flatten
theorem logK_succ (L : LE) (i : Nat) (h : i < L.l.length) : logK L (i + 1) = logK L i ++ enT (L.l.getD i (emE em0)) := by
  unfold logK
  rw [List.take_succ_eq_append_getElem h, List.map_append, List.flatten_append, List.getD_eq_getElem?_getD, List.getElem?_eq_getElem h]
  simp
theorem enT_len {e : EE} (h : EOk e) : (enT e).length ≤ 5110 := by
  have h1 := entB_len h
  have h2 := encU_len64 (show (entB [] e).length < 2 ^ 64 by omega)
  unfold enT
  rw [putEn_ok h, List.length_append]
  simp only
  omega
theorem logK_len {L : LE} (hok : ∀ e ∈ L.l, EOk e) (hl : L.l.length ≤ 65536) (hep : 0 ≤ L.ep ∧ L.ep ≤ 9223372036854775807) : ∀ i, i ≤ L.l.length → (logK L i).length ≤ 20 + 6000 * i
  | 0, _ => by
    have h1 := encU_len64 (show L.ep.toNat < 2 ^ 64 by omega)
    have h2 := encU_len64 (show L.l.length < 2 ^ 64 by omega)
    unfold logK
    simp only [List.length_append, List.take_zero, List.map_nil, List.flatten_nil, List.length_nil]
    omega
  | i + 1, h => by
    have h1 := logK_len hok hl hep i (by omega)
    have hie : L.l.getD i (emE em0) ∈ L.l := by rw [List.getD_eq_getElem?_getD, List.getElem?_eq_getElem (by omega)]; exact List.getElem_mem _
    have h2 := enT_len (hok _ hie)
    rw [logK_succ L i (by omega), List.length_append]
    omega
theorem logK_all (L : LE) : logK L L.l.length = logB L := by unfold logK logB; rw [List.take_length]
theorem blk_not_obj {w : World} {b : Nat} {t : TypeId} {cs : List Value} {l : Nat} {o : Obj} (h : Blk w b t cs) (ho : w.heap[l]? = some o) (hc : isCel o = false) : b ≠ l := fun e => by
  subst e
  rw [h] at ho
  cases ho
  cases hc
section
variable {base lg : Nat} {sl : SL} {es : List EM} {g : Nat → Nat} {L : LE}
theorem LBytes_c (w : World) (D : LogM w base lg sl es g L) (hl' : L.l.length ≤ 65536) (hep : 0 ≤ L.ep ∧ L.ep ≤ 9223372036854775807) (hok : ∀ e ∈ L.l, EOk e) :
    Ret Tryz.prog 109 [pB lg] w (fun v w' => ∃ A n c, v = .slice A n c ∧ Ext w w' ∧ Own w' w.heap.size 5 1 A n c (bv (logB L))) := by
  have hlb := D.blk
  have hlen := D.len.1
  refine ret_T (n := 36) Tryz.func109 rfl rfl ?_
  have hz : L.ep = ((L.ep.toNat : Nat) : Int) := by omega
  have u1 := encU_len64 (show L.ep.toNat < 2 ^ 64 by omega)
  have hz2 : ((sl.2.1 : Nat) : Int) = ((L.l.length : Nat) : Int) := by omega
  repeat (first | refine T_seq ?_ | refine T_region ?_ | refine T_cond_false rfl ?_ | refine T_skip ?_ | refine TL_pnil_f TE (hk := ?_) | refine TL_nil ?_ | refine TL_move (hk := ?_) | refine TL_assign (hk := ?_))
  refine T_join (ι := Nat × SL) (fun i => [(3, pB i.1), (0, pB lg)]) (fun i w' => Ext w w' ∧ Blk w' i.1 25 [sL i.2] ∧ Own w' w.heap.size 5 1 i.2.1 i.2.2.1 i.2.2.2 (bv (([] ++ encU L.ep.toNat) ++ encU L.l.length)) ∧ i.1 ∉ blkL i.2.1 ∧ w.heap.size ≤ i.1) (fun kk join => ?_) ?_
  · refine T_region_any TE.mixed ([] : List Nat) ?_; intro w1 e1 z1
    have hlb1 := hlb.be e1
    have hlD : lg ∉ ([] : List Nat) := by simp
    (refine TA_take 0 rfl (by kernel_rfl) (by kernel_rfl) (by kernel_rfl) ?_; (repeat (first | refine TL_move (hk := ?_) | refine TL_fieldAddr TE (hk := ?_) | refine TL_nilCheck (hk := ?_))); refine TL_nil_p ?_); (refine TA_take 1 rfl (by kernel_rfl) (by kernel_rfl) (by kernel_rfl) ?_; (repeat (first | refine TL_move (hk := ?_) | refine TL_fieldAddr TE (hk := ?_) | refine TL_nilCheck (hk := ?_))); refine TL_nil_p ?_); (refine TA_take 2 rfl (by kernel_rfl) (by kernel_rfl) (by kernel_rfl) ?_; (repeat (first | refine TL_move (hk := ?_) | refine TL_fieldAddr TE (hk := ?_) | refine TL_nilCheck (hk := ?_))); refine TL_nil_p ?_)
    (refine TA_take 3 rfl (by kernel_rfl) (by kernel_rfl) (by kernel_rfl) ?_; (repeat (refine TLP_load TE (hk := ?_))); refine TL_nil_p ?_)
    (refine TA_take 4 rfl (by kernel_rfl) (by kernel_rfl) (by kernel_rfl) ?_; (repeat (refine TL_conv TE (hk := ?_))); refine TL_nil_p ?_)
    (refine TA_take 6 rfl (by kernel_rfl) (by kernel_rfl) (by kernel_rfl) ?_; (repeat (first | refine TL_move (hk := ?_) | refine TL_fieldAddr TE (hk := ?_) | refine TL_nilCheck (hk := ?_))); refine TL_nil_p ?_); (refine TA_take 7 rfl (by kernel_rfl) (by kernel_rfl) (by kernel_rfl) ?_; (repeat (first | refine TL_move (hk := ?_) | refine TL_fieldAddr TE (hk := ?_) | refine TL_nilCheck (hk := ?_))); refine TL_nil_p ?_); (refine TA_take 8 rfl (by kernel_rfl) (by kernel_rfl) (by kernel_rfl) ?_; (repeat (first | refine TL_move (hk := ?_) | refine TL_fieldAddr TE (hk := ?_) | refine TL_nilCheck (hk := ?_))); refine TL_nil_p ?_)
    (refine TA_take 9 rfl (by kernel_rfl) (by kernel_rfl) (by kernel_rfl) ?_; (repeat (refine TLP_load TE (hk := ?_))); refine TL_nil_p ?_)
    (refine TA_take 10 rfl (by kernel_rfl) (by kernel_rfl) (by kernel_rfl) ?_; (repeat (refine TL_len TE (hk := ?_))); refine TL_nil_p ?_)
    (refine TA_take 11 rfl (by kernel_rfl) (by kernel_rfl) (by kernel_rfl) ?_; (repeat (refine TL_conv TE (hk := ?_))); refine TL_nil_p ?_)
    refine TA_two 5 13 rfl rfl (by kernel_rfl) (by kernel_rfl) ?_ ?_
    · refine TL_call TE (hc := PutUint_c none 0 0 [] L.ep.toNat w1 hz (Own.nil w1 w1.heap.size 5 1).rd (by omega) (by omega)) (hf := rfl) (hq := by rintro _ w' ⟨_, _, _, _, e, _⟩; exact e) (hk := ?_)
      rintro _ w10 ⟨A5, n5, c5, rfl, f5, o5⟩
      have l5 := o5.len
      simp only [bv_length, List.length_append, List.length_nil, Nat.mul_one] at l5
      refine TL_nil_p ?_
      refine TA_two 12 13 rfl rfl (by kernel_rfl) (by kernel_rfl) ?_ ?_
      · refine TL_call TE (hc := PutUint_c A5 n5 c5 _ L.l.length w10 hz2 o5.rd (by omega) (by omega)) (hf := rfl) (hq := by rintro _ w' ⟨_, _, _, _, e, _⟩; exact (f5).ext e) (hk := ?_)
        rintro _ w11 ⟨A6, n6, c6, rfl, f6, o6⟩
        refine TL_nil_p ?_
        refine TA_one 13 rfl (by kernel_rfl) (by kernel_rfl) ?_
        refine TL_alloc TE (hf := rfl) (hq := fun _ e => ((f5).ext f6).ext e) (hk := ?_); intro b3 w12 f3 h3 h3' kb3
        have o6x := o6.be f3
        refine TL_nil_p ?_
        have eE := e1.ext (((f5).ext f6).ext f3)
        have hnb : b3 ∉ blkL A6 := fun q => by have h9 := (o6.bl b3 q).2; omega
        have zE := eE.size
        have z1 := e1.size
        have zb : w.heap.size ≤ b3 := by have := (e1.ext (((f5).ext f6).ext f3)).size; have := f5.size; have := f6.size; omega
        refine TA_one 14 rfl (by kernel_rfl) (by kernel_rfl) ?_
        refine TL_store TE (hb := kb3) (hf := rfl) (hq := fun _ m _ => (((f5).ext f6).ext f3).step m (fun u hu => .inr (by rw [List.mem_singleton.1 hu]; have := f5.size; have := f6.size; omega))) (hk := ?_); intro w20 m20 z20 k20
        refine TL_nil_p ?_
        refine TA_done (by kernel_rfl) ?_
        exact T.sub (join (b3, (A6, n6, c6)) _ ⟨eE.step m20 (fun u hu => .inr (by rw [List.mem_singleton.1 hu]; exact zb)), k20, Own.weaken (o6x.modL m20 (fun u hu q => by rw [List.mem_singleton] at q; rw [q] at hu; exact hnb hu)) (by have := f5.size; omega), hnb, zb⟩) (.c rfl (.c rfl (.n)))
      · refine TL_alloc TE (hf := rfl) (hq := fun _ e => (f5).ext e) (hk := ?_); intro b3 w11 f3 h3 h3' kb3
        have o5x := o5.be f3
        refine TL_nil_p ?_
        refine TA_one 12 rfl (by kernel_rfl) (by kernel_rfl) ?_
        refine TL_call TE (hc := PutUint_c A5 n5 c5 _ L.l.length w11 hz2 o5x.rd (by omega) (by omega)) (hf := rfl) (hq := by rintro _ w' ⟨_, _, _, _, e, _⟩; exact ((f5).ext f3).ext e) (hk := ?_)
        rintro _ w12 ⟨A6, n6, c6, rfl, f6, o6⟩
        have kbw12 := kb3.be f6
        refine TL_nil_p ?_
        have eE := e1.ext (((f5).ext f3).ext f6)
        have hnb : b3 ∉ blkL A6 := fun q => by have h9 := (o6.bl b3 q).1; have := f3.size; omega
        have zE := eE.size
        have z1 := e1.size
        have zb : w.heap.size ≤ b3 := by have := (e1.ext (((f5).ext f3).ext f6)).size; have := f5.size; omega
        refine TA_one 14 rfl (by kernel_rfl) (by kernel_rfl) ?_
        refine TL_store TE (hb := kbw12) (hf := rfl) (hq := fun _ m _ => (((f5).ext f3).ext f6).step m (fun u hu => .inr (by rw [List.mem_singleton.1 hu]; have := f5.size; omega))) (hk := ?_); intro w20 m20 z20 k20
        refine TL_nil_p ?_
        refine TA_done (by kernel_rfl) ?_
        exact T.sub (join (b3, (A6, n6, c6)) _ ⟨eE.step m20 (fun u hu => .inr (by rw [List.mem_singleton.1 hu]; exact zb)), k20, Own.weaken (o6.modL m20 (fun u hu q => by rw [List.mem_singleton] at q; rw [q] at hu; exact hnb hu)) (by have := f5.size; omega), hnb, zb⟩) (.c rfl (.c rfl (.n)))
    · refine TL_alloc TE (hf := rfl) (hq := fun _ e => e) (hk := ?_); intro b3 w10 f3 h3 h3' kb3
      refine TL_nil_p ?_
      refine TA_one 5 rfl (by kernel_rfl) (by kernel_rfl) ?_
      refine TL_call TE (hc := PutUint_c none 0 0 [] L.ep.toNat w10 hz (Own.nil w10 w10.heap.size 5 1).rd (by omega) (by omega)) (hf := rfl) (hq := by rintro _ w' ⟨_, _, _, _, e, _⟩; exact (f3).ext e) (hk := ?_)
      rintro _ w11 ⟨A5, n5, c5, rfl, f5, o5⟩
      have l5 := o5.len
      simp only [bv_length, List.length_append, List.length_nil, Nat.mul_one] at l5
      have kbw11 := kb3.be f5
      refine TL_nil_p ?_
      refine TA_one 12 rfl (by kernel_rfl) (by kernel_rfl) ?_
      refine TL_call TE (hc := PutUint_c A5 n5 c5 _ L.l.length w11 hz2 o5.rd (by omega) (by omega)) (hf := rfl) (hq := by rintro _ w' ⟨_, _, _, _, e, _⟩; exact ((f3).ext f5).ext e) (hk := ?_)
      rintro _ w12 ⟨A6, n6, c6, rfl, f6, o6⟩
      have kbw12 := kbw11.be f6
      refine TL_nil_p ?_
      have eE := e1.ext (((f3).ext f5).ext f6)
      have hnb : b3 ∉ blkL A6 := fun q => by have h9 := (o6.bl b3 q).1; have := f3.size; have := f5.size; omega
      have zE := eE.size
      have z1 := e1.size
      have zb : w.heap.size ≤ b3 := by have := (e1.ext (((f3).ext f5).ext f6)).size; omega
      refine TA_one 14 rfl (by kernel_rfl) (by kernel_rfl) ?_
      refine TL_store TE (hb := kbw12) (hf := rfl) (hq := fun _ m _ => (((f3).ext f5).ext f6).step m (fun u hu => .inr (by rw [List.mem_singleton.1 hu]; omega))) (hk := ?_); intro w20 m20 z20 k20
      refine TL_nil_p ?_
      refine TA_done (by kernel_rfl) ?_
      exact T.sub (join (b3, (A6, n6, c6)) _ ⟨eE.step m20 (fun u hu => .inr (by rw [List.mem_singleton.1 hu]; exact zb)), k20, Own.weaken (o6.modL m20 (fun u hu q => by rw [List.mem_singleton] at q; rw [q] at hu; exact hnb hu)) (by have := f3.size; have := f5.size; omega), hnb, zb⟩) (.c rfl (.c rfl (.n)))
  rintro ⟨b3, Y⟩ w2 ⟨e2, k2, o2, hn2, hb2⟩
  simp only at k2 o2 hn2 hb2 ⊢
  repeat (first | refine T_seq ?_ | refine T_region ?_ | refine TL_move (hk := ?_))
  refine TL_call TE (hc := Each_c w2) (hk := ?_)
  rintro _ w3 ⟨bb, rfl, e3, hb3, tb, kb⟩
  have e03 := e2.ext e3
  have k3 := k2.be e3
  have o3 := o2.be e3
  have hbl3 := k2.lt
  have z02 := e2.size
  have hbz : bb ∉ blkL Y.1 := fun q => by have := (o2.bl bb q).2; omega
  repeat (first | refine T_block ?_ | refine TL_nil ?_)
  refine T_rangeFunc TE (N := L.l.length) (cap := [pB bb]) rfl rfl rfl (fun i W => Ext w W ∧ Blk W bb tb [pB lg] ∧ ∃ Z : SL, Blk W b3 25 [sL Z] ∧ Own W w.heap.size 5 1 Z.1 Z.2.1 Z.2.2 (bv (logK L i)) ∧ b3 ∉ blkL Z.1 ∧ bb ∉ blkL Z.1) ?_ ?_ ?_ ?_ ?_
  · intro w4 e4
    refine ⟨e03.ext e4, kb.be e4, Y, k3.be e4, ?_, hn2, hbz⟩
    have : logK L 0 = ([] ++ encU L.ep.toNat) ++ encU L.l.length := by unfold logK; simp
    rw [this]
    exact o3.be e4
  · rintro i W W' ⟨a1, a2, Z, a3, a4, a5, a6⟩ e
    exact ⟨a1.ext e, a2.be e, Z, a3.be e, a4.be e, a5, a6⟩
  · rintro i W l o o' hl ⟨a1, a2, Z, a3, a4, a5, a6⟩ ho hc
    have m := Mod.putObj W l o'
    have n1 := blk_not_obj a2 ho hc
    have n2 := blk_not_obj a3 ho hc
    have n3 := a4.not_obj ho hc
    have := e03.size
    exact ⟨a1.step m (fun u hu => .inr (by rw [List.mem_singleton.1 hu]; omega)), a2.mod m (fun q => n1 (List.mem_singleton.1 q)), Z, a3.mod m (fun q => n2 (List.mem_singleton.1 q)), a4.modL m (fun u hu q => by rw [List.mem_singleton] at q; rw [q] at hu; exact n3 hu), a5, a6⟩
  · intro l D0 w4 hl hD0 hne e4 J hJI hJe hyield hJ0
    refine Each1_c l bb J w4 hl' (fun i W hj => ⟨D.ext (hJI i W hj).1, (hJI i W hj).2.1⟩) hJe ?_ hJ0
    intro i W0 W x hi hj0 e0 o0 hF hx
    have hj := hJe i W0 W hj0 e0
    refine hyield i W (eA x) hj ?_
    intro r hr hrd hD
    obtain ⟨a1, a2, Z, a3, a4, a5, a6⟩ := hJI i W hj
    have hie : L.l.getD i (emE em0) ∈ L.l := by rw [List.getD_eq_getElem?_getD, List.getElem?_eq_getElem hi]; exact List.getElem_mem _
    have hE := hok _ hie
    have hKs := logK_succ L i hi
    rw [← hx] at hE hKs
    have hEl := entB_len hE
    have hpe := putEn_ok hE
    have hlt := (Array.getElem?_eq_some_iff.1 hr).1
    have hDlt := (Array.getElem?_eq_some_iff.1 hD).1
    have nlb3 := blk_not_obj a3 hr rfl
    have nDb3 := blk_not_obj a3 hD rfl
    have nlbb := blk_not_obj a2 hr rfl
    have nlZ := a4.not_obj hr rfl
    have nDZ := a4.not_obj hD rfl
    have nlx : ∀ u ∈ pmB x.m, u ∉ [l] := fun u hu q => by
      rw [List.mem_singleton] at q
      rw [q] at hu
      rcases List.mem_append.1 hu with y | y
      · exact o0.ra.not_obj hr rfl y
      · rcases List.mem_append.1 y with y | y
        · exact o0.rb.not_obj hr rfl y
        · exact o0.rc.not_obj hr rfl y
    have hxb := o0.bl
    have hb3W := a3.lt
    have hbbW := a2.lt
    repeat (refine T_region ?_)
    refine TL_alloc TE (hk := ?_); intro b5 w5 e5 h5 h5' k5
    have z5 := e5.size
    --
    refine TL_storea TE (hk := ?_); intro w6 m6 z6 k6
    replace k6 : Blk w6 b5 47 (emV x) := k6
    have m06 : Ext W w6 := e5.step m6 (fun u hu => .inr (by rw [List.mem_singleton.1 hu]; omega))
    have hr6 : w6.heap[l]? = some (.loop r) := by rw [m06.block l hlt (by simp)]; exact hr
    repeat (refine TL_nil ?_)
    refine T_begin hr6 hrd ?_
    intro w7 m7 z7 hr7
    have k7 : Blk w7 b5 47 (emV x) := k6.mod m7 (fun q => by rw [List.mem_singleton] at q; omega)
    have o7 : POwn w7 W0.heap.size x.m := (o0.be m06).modL m7 nlx
    unfold emV pmV at k7
    clear k6 k5
    repeat (first | refine T_seq ?_ | refine T_region ?_ | refine T_block ?_)
    refine TL_loadb TE (cs := emV x) (o := 0) rfl rfl k7 rfl rfl (Nat.succ_pos _) (hk := ?_)
    --
    refine TL_call TE (hc := EPut_c x none 0 0 [] w7 o7.lies hF hE.sq.2 hE.ep.2 (Own.nil w7 w7.heap.size 5 1).rd (by omega)) (hk := ?_)
    rintro _ w8 ⟨A8, n8, c8, rfl, e8, o8⟩
    rw [hpe] at o8 ⊢
    obtain ⟨B, hB⟩ : ∃ B, entB [] (emE x) = B := ⟨_, rfl⟩
    simp only [hB] at o8 hEl ⊢
    have l8 := o8.len
    simp only [bv_length, Nat.mul_one] at l8
    have a38 : Blk w8 b3 25 [sL Z] := ((a3.be m06).mod m7 (fun q => by rw [List.mem_singleton] at q; exact nlb3 q)).be e8
    have a48 : Own w8 w.heap.size 5 1 Z.1 Z.2.1 Z.2.2 (bv (logK L i)) := ((a4.be m06).modL m7 (fun u hu q => by rw [List.mem_singleton] at q; rw [q] at hu; exact nlZ hu)).be e8
    have a28 : Blk w8 bb tb [pB lg] := ((a2.be m06).mod m7 (fun q => by rw [List.mem_singleton] at q; exact nlbb q)).be e8
    have z8 := e8.size
    have z06 := m06.size
    repeat (first | refine TL_nil ?_ | refine TL_move (hk := ?_) | refine TL_assign (hk := ?_) | refine TL_extract (hk := ?_))
    refine T_region_anyz TE.mixed (blkL Z.1) (some 5) ?_; intro w9 e9 z9
    have a39 := a38.be e9
    have a49 := a48.be e9
    have o9 := o8.be e9
    have hoff : Off A8 (blkL Z.1) := fun ad e hm => by have h1 := (o8.bl ad.block (by rw [e]; simp [blkL])).1; have h2 := (a4.bl _ hm).2; omega
    (refine TA_take 0 rfl (by kernel_rfl) (by kernel_rfl) (by kernel_rfl) ?_; (repeat (refine TLP_load TE (hk := ?_))); refine TL_nil_p ?_)
    (refine TA_take 1 rfl (by kernel_rfl) (by kernel_rfl) (by kernel_rfl) ?_; (repeat (refine TL_move (hk := ?_))); refine TL_nil_p ?_)
    (refine TA_take 2 rfl (by kernel_rfl) (by kernel_rfl) (by kernel_rfl) ?_; (repeat (refine TLP_conv_bs TE (hk := ?_))); refine TL_nil_p ?_)
    have hs7 : (ofL B).size = B.length := ofL_size _
    refine TA_one 3 rfl (by kernel_rfl) (by kernel_rfl) ?_; (try refine TL_yes (hk := ?_)); refine TL_call TE (hc := (PutText_c none 0 0 [] (ofL B) w9 (Own.nil w9 w9.heap.size 5 1).rd (by omega) (by rw [hs7]; omega))) (hq := (by rintro _ w' ⟨A', n', c', rfl, e, o⟩; exact Ext.mod e)) (hk := ?_)
    rintro _ w10 ⟨A10, n10, c10, rfl, e10, o10⟩
    have u10 := encU_len64 (show B.length < 2 ^ 64 by omega)
    rw [hs7, show (ofL B).data.toList = B by simp [ofL]] at o10
    have hen : ([] ++ (encU B.length ++ B)) = enT (emE x) := by unfold enT; rw [hpe, hB]; rfl
    have l10 := o10.len
    simp only [bv_length, List.length_append, List.length_nil, Nat.mul_one] at l10
    rw [hen] at o10
    have a310 := a39.be e10
    have a410 := a49.be e10
    have lK := a410.len
    have zz1 := e9.size
    have zz2 := e10.size
    have zz3 := a1.size
    have hKl : (logK L i).length ≤ 20 + 6000 * i := logK_len hok hl' hep i (by omega)
    simp only [bv_length, Nat.mul_one] at lK
    refine TL_nil_p ?_
    refine TA_one 4 rfl (by kernel_rfl) (by kernel_rfl) ?_
    refine TL_append TE (ho := a410) (hr := o10.rd) (h1 := bv_one _) (hf := rfl) (hq := fun w' m => (Ext.mod e10).trans m) (hk := ?_); intro A11 c11 w11 o11 m11 n11
    rw [← bv_append, ← hKs] at o11
    have hnb11 : b3 ∉ blkL A11 := fun q => (Near.mem n11 b3 q).elim a5 (fun y => by omega)
    have hnbb11 : bb ∉ blkL A11 := fun q => (Near.mem n11 bb q).elim a6 (fun y => by omega)
    have a311 := a310.mod m11 a5
    have a211 := ((a28.be e9).be e10).mod m11 a6
    have zz4 := m11.size
    refine TL_nil_p ?_
    refine TA_one 5 rfl (by kernel_rfl) (by kernel_rfl) ?_
    refine TL_store TE (hb := a311) (hf := rfl) (hq := fun _ _ _ => trivial) (hk := ?_); intro w12 m12 z12 k12
    refine TL_nil_z (by kernel_rfl) ?_
    repeat (refine T_inBlock ?_)
    have hbne : b3 ≠ bb := by omega
    have c1 : Eng.Mod (b3 :: blkL Z.1) w7 w12 := (((((e8.ext e9).ext e10).mono (S' := b3 :: blkL Z.1) (fun u hu => by cases hu))).step m11 (fun u hu => .inl (List.mem_cons_of_mem _ hu))).step m12 (fun u hu => .inl (by rw [List.mem_singleton.1 hu]; exact List.mem_cons_self))
    have ln : l ∉ b3 :: blkL Z.1 := fun q => (List.mem_cons.1 q).elim (fun y => nlb3 y.symm) nlZ
    have Dn : D0 ∉ b3 :: blkL Z.1 := fun q => (List.mem_cons.1 q).elim (fun y => nDb3 y.symm) nDZ
    refine T_endr (fun a ha => ⟨⟨?_, a211.mod m12 (fun q => hbne (List.mem_singleton.1 q).symm), (A11, Z.2.1 + n10, c11), k12, o11.modL m12 (fun u hu q => by rw [List.mem_singleton] at q; rw [q] at hu; exact hnb11 hu), hnb11, hnbb11⟩, ?_, ?_⟩)
    · have c0 : Eng.Mod (l :: b3 :: blkL Z.1) W w12 := ((m06.mono (S' := l :: b3 :: blkL Z.1) (fun u hu => by cases hu)).step m7 (fun u hu => .inl (by rw [List.mem_singleton.1 hu]; exact List.mem_cons_self))).step c1 (fun u hu => .inl (List.mem_cons_of_mem _ hu))
      refine a1.step c0 (fun u hu => .inr ?_)
      rcases List.mem_cons.1 hu with rfl | hu
      · have := e03.size; omega
      · rcases List.mem_cons.1 hu with rfl | hu
        · exact hb2
        · exact (a4.bl u hu).1
    · rw [c1.block l (by have := m7.size; omega) ln]; exact hr7
    · rw [c1.block D0 (by have := m7.size; omega) Dn, m7.block D0 (by omega) (fun q => hne (List.mem_singleton.1 q).symm), m06.block D0 hDlt (by simp)]; exact hD
  · rintro D0 w4 hD0 ⟨a1, a2, Z, a3, a4, a5, a6⟩ hD
    rw [logK_all] at a4
    repeat (first | refine T_seq ?_ | refine T_region ?_ | refine T_inBlock ?_ | refine TL_nil ?_ | refine TL_assign (hk := ?_) | refine TL_load TE (hk := ?_))
    refine T_retM hD (fun w5 m5 => res1 rfl rfl) (fun w5 m5 z5 => ⟨Z.1, Z.2.1, Z.2.2, rfl, a1.step m5 (fun u hu => .inr (by rw [List.mem_singleton.1 hu]; have := e03.size; omega)), a4.modL m5 (fun u hu q => by rw [List.mem_singleton] at q; rw [q] at hu; exact a4.not_obj hD rfl hu)⟩)
end
end Go.Proofs.YtjlaomcankmdjaaGreat

namespace Go.Proofs.YtjlaomcankmdjaaGreat
open Go.RowKit Go.Proofs.Eng Go.Proofs.Codec Go.Proofs.Foot Go.Proofs.Journal
set_option linter.unusedVariables false set_option maxRecDepth 10000
attribute [local irreducible] T TL LV TH TA
set_option maxHeartbeats 1600000
theorem logB_len {L : LE} (hL : LOk L) : (logB L).length ≤ 400000000 := by
  have h := logK_len (fun e he => (hL.run.le e he).2) hL.n hL.ep L.l.length (Nat.le_refl _)
  rw [logK_all] at h
  have := hL.n
  omega
theorem LLoad_c (L : LE) (hL : LOk L) (A : Option Addr) (n c : Nat) (w : World) (h : Rd w A n 1 (bv (logB L))) :
    Ret Tryz.prog 108 [.slice A n c] w (fun v w' => ∃ lg sl es g, v = .tuple #[pB lg, .int .i64 0, .int .i64 0] ∧ Ext w w' ∧ LogM w' w.heap.size lg sl es g L) := by
  have hn := hL.n
  have hep := hL.ep
  have hBl := logB_len hL
  have hbl : (logB L).length = n := by simpa using h.1
  have hb : logB L = encU L.ep.toNat ++ (encU L.l.length ++ (L.l.map enT).flatten) := by unfold logB; simp
  obtain ⟨B, hB⟩ : ∃ B, logB L = B := ⟨_, rfl⟩
  rw [hB] at h hBl hbl hb
  have hepi : L.ep = ((L.ep.toNat : Nat) : Int) := by omega
  refine ret_T (n := 105) Tryz.func108 rfl rfl ?_
  repeat (first | refine T_seq ?_ | refine T_region ?_ | refine TL_nil ?_ | refine TL_move (hk := ?_) | refine TL_assign (hk := ?_))
  refine TL_call TE (hc := NewReader_c A n c B w h (by omega)) (hk := ?_)
  rintro _ w3 ⟨bR, A3, n3, c3, rfl, e3, hbR, hi3, lo3, rr⟩
  have z3 := e3.size
  have lR := rr.blk.lt
  have hn3 : B.length = n3 := rr.len
  have l0 : Lf ⟨B, 0, 0, 0, 0⟩ B (encU L.ep.toNat ++ (encU L.l.length ++ (L.l.map enT).flatten)) := by rw [← hb]; exact Lf.start B
  obtain ⟨s1, q1, l1⟩ := l0.num (by omega)
  obtain ⟨s2, q2, l2⟩ := l1.lim (most := 65536) (e := 6) (by omega) (by omega)
  repeat (first | refine T_seq ?_ | refine T_region ?_ | refine TL_nil ?_ | refine TL_move (hk := ?_) | refine TL_assign (hk := ?_))
  refine TL_call TE (hc := Uint_c bR _ A3 n3 c3 w3 rr) (hk := ?_)
  rintro _ w4 ⟨rfl, m4, rr4⟩
  rw [q1] at rr4 ⊢
  repeat (refine TL_move (hk := ?_))
  refine TL_call TE (hc := Count_c bR _ A3 n3 c3 65536 (by decide) w4 rr4) (hk := ?_)
  rintro _ w5 ⟨rfl, m5, rr5⟩
  simp only at rr5 ⊢
  rw [q2] at rr5 ⊢
  simp only at rr5 ⊢
  have m35 := m4.trans m5
  have e05 := e3.step m35 (fun u hu => .inr (by rw [List.mem_singleton.1 hu]; omega))
  have z5 := m35.size
  clear rr rr4
  repeat (first | refine T_seq ?_ | refine T_region ?_ | refine TL_nil ?_ | refine TL_move (hk := ?_) | refine TL_assign (hk := ?_) | refine TL_conv TE (hk := ?_) | refine TL_build TE (hk := ?_))
  refine TL_box (hk := ?_); intro lg w6 e6 h6 h6' k6
  have rr6 := rr5.ext e6
  have e06 := e05.ext e6
  have z6 := e6.size
  replace k6 : Blk w6 lg 139 [sL (none, 0, 0), .int .i64 ((L.ep.toNat : Nat) : Int)] := k6
  rw [← hepi] at k6
  obtain ⟨g0, hg0⟩ : ∃ g0 : Nat → Nat, g0 = fun b => if b = lg then 4 else 0 := ⟨_, rfl⟩
  have hg0z : ∀ u, u ≠ lg → g0 u = 0 := fun u hu => by rw [hg0]; exact if_neg hu
  have D6 : LogM w6 w.heap.size lg (none, 0, 0) [] g0 ⟨L.l.take 0, L.ep⟩ := ⟨k6, Own.nil _ _ _ _, by simp, fun z hz => (by cases hz), by rw [hg0]; exact if_pos rfl, fun b hb => (by cases hb), fun b hb => by
    by_cases q : b = lg
    · rw [q]; exact ⟨by omega, k6.lt⟩
    · exact absurd (hg0z b q) hb⟩
  have gA : ∀ u ∈ blkL A3, g0 u = 0 := fun u hu => hg0z u (fun q => by
    have := lo3.mem u hu
    omega)
  clear rr5 k6
  repeat (first | refine T_seq ?_ | refine T_region ?_ | refine TL_nil ?_ | refine TL_move (hk := ?_) | refine TL_assign (hk := ?_))
  refine TL_call TE (hc := Why_c bR s2 A3 n3 c3 w6 rr6) (hk := ?_)
  rintro _ w7 ⟨rfl, e7⟩
  have rr7 := rr6.ext e7
  have D7 := D6.ext e7
  have e07 := e06.ext e7
  have z7 := e7.size
  have he2 := l2.1
  clear rr6 D6
  repeat (first | refine T_seq ?_ | refine T_region ?_ | refine T_cond_false rfl ?_ | refine T_block ?_ | refine T_skip ?_ | refine TL_gt_f (hk := ?_) | refine TL_ne_f (hk := ?_) | refine TL_nil ?_ | refine TL_move (hk := ?_) | refine TL_assign (hk := ?_) | refine TL_yes (hk := ?_) | refine TL_pick_f (hk := ?_) | refine TL_extract (hk := ?_))
  have hN : bR ≠ lg := by omega
  refine T_loop (ι := (Nat × RS × Int) × SL × List EM × (Nat → Nat)) (fun i => [(40, .int .i64 (i.1.1 : Int)), (39, .int .i64 (L.l.length : Int)), (11, .int .i64 i.1.2.2), (8, pB lg), (7, .int .i64 (L.l.length : Int)), (5, ptr bR), (0, .slice A n c)])
    (fun i w' => i.1.1 ≤ L.l.length ∧ Ext w w' ∧ w7.heap.size ≤ w'.heap.size ∧ Rdr w' 218 bR i.1.2.1 A3 n3 c3 ∧ LogM w' w.heap.size lg i.2.1 i.2.2.1 i.2.2.2 ⟨L.l.take i.1.1, L.ep⟩ ∧ i.2.2.2 bR = 0 ∧ (∀ u ∈ blkL A3, i.2.2.2 u = 0) ∧ Lf i.1.2.1 B ((L.l.drop i.1.1).map enT).flatten ∧ Run L.ep i.1.2.2 i.1.1 (L.l.drop i.1.1)) (fun i => L.l.length - i.1.1) ((0, s2, 0), (none, 0, 0), [], g0) (.c rfl (.c rfl (.c rfl (.c rfl (.c rfl (.c rfl (.c rfl (.n))))))))
    ⟨Nat.zero_le _, e07, Nat.le_refl _, rr7, D7, hg0z _ hN, gA, l2, hL.run⟩ ?_
  rintro ⟨⟨i, s, last⟩, sl, es, g⟩ w8 ⟨hi, e8, z8, rr8, D8, gR, gA8, l8, run8⟩ ih
  simp only at hi e8 z8 rr8 D8 gR gA8 l8 run8 ih ⊢
  by_cases hlt : i < L.l.length
  · rw [List.drop_eq_getElem_cons hlt] at l8 run8
    obtain ⟨e, he⟩ : ∃ e, L.l[i] = e := ⟨_, rfl⟩
    rw [he] at l8 run8
    obtain ⟨r1, r2, r3, hE, r5⟩ := run8
    have hEl := entB_len hE
    have hse := hE.sq
    have hee := hE.ep
    rw [List.map_cons, List.flatten_cons] at l8
    unfold enT at l8
    rw [putEn_ok hE] at l8
    simp only [List.append_assoc] at l8
    have hBe : (entB [] e).length ≤ B.length := by
      have := congrArg List.length l8.2.2
      rw [List.length_drop, l8.2.1] at this
      simp only [List.length_append] at this
      omega
    obtain ⟨s9, q9, l9⟩ := l8.text (most := (n : Int)) (by omega) (by omega)
    repeat (first | refine T_seq ?_ | refine T_region ?_ | refine T_cond_true rfl ?_ | refine T_block ?_ | refine T_skip ?_ | refine TL_lt_t (hk := ?_) | refine TL_nil ?_ | refine TL_move (hk := ?_) | refine TL_assign (hk := ?_) | refine TL_len TE (hk := ?_))
    refine TL_call TE (hc := Text_c bR s A3 n3 c3 (n : Int) (by omega) w8 rr8) (hk := ?_)
    rintro _ w9 ⟨rfl, m9, rr9⟩
    rw [q9] at rr9 ⊢
    have D9 := D8.mod m9 (fun u hu => by rw [List.mem_singleton.1 hu]; exact gR)
    have e09 := e8.step m9 (fun u hu => .inr (by rw [List.mem_singleton.1 hu]; omega))
    have z9 := m9.size
    have he9 := l9.1
    clear rr8 D8
    repeat (first | refine T_seq ?_ | refine T_region ?_ | refine TL_nil ?_ | refine TL_move (hk := ?_) | refine TL_assign (hk := ?_))
    refine TL_call TE (hc := Why_c bR s9 A3 n3 c3 w9 rr9) (hk := ?_)
    rintro _ w10 ⟨rfl, e10⟩
    simp only
    repeat (first | refine T_seq ?_ | refine T_region ?_ | refine T_cond_false rfl ?_ | refine T_skip ?_ | refine TL_ne_f (hk := ?_) | refine TL_nil ?_ | refine TL_move (hk := ?_) | refine TL_assign (hk := ?_) | refine TL_extract (hk := ?_))
    refine TL_conv_sb (l := entB [] e) TE (hk := ?_); intro b11 c11 w11 e11 h11 h11' hc11 r11
    --
    refine TL_call TE (hc := EGet_c (some ⟨b11, 0, none⟩) (entB [] e).length c11 (entB [] e) w11 r11 (by omega) hc11) (hk := ?_)
    rintro _ w12 ⟨_, qe, rfl, e12, ⟨x, rfl, ox, hx⟩⟩
    rw [getEn_put hE] at hx
    obtain ⟨rfl, hxe⟩ := hx
    repeat (first | refine TL_move (hk := ?_) | refine TL_extract (hk := ?_))
    refine TL_alloc TE (hk := ?_); intro b13 w13 e13 h13 h13' k13
    --
    refine TL_storea TE (hk := ?_); intro w14 m14 z14 k14
    have hxs : x.sq = (i : Int) := by have h1 := congrArg EE.sq hxe; have h2 : x.sq = e.sq := h1; omega
    have hxp : x.ep = e.ep := congrArg EE.ep hxe
    have hF : PFit x.m.p := by have h1 := congrArg EE.p hxe; have h2 : x.m.p = e.p := h1; rw [h2]; exact hE.ft
    have z10 := e10.size
    have z11 := e11.size
    have z12 := e12.size
    have z13 := e13.size
    have D11 := D9.ext (e10.ext e11)
    have e1114 : Ext w11 w14 := (e12.ext e13).step m14 (fun u hu => .inr (by rw [List.mem_singleton.1 hu]; omega))
    have e914 : Ext w9 w14 := (e10.ext e11).ext e1114
    have D14 := D9.ext e914
    have ox14 : POwn w14 w11.heap.size x.m := (ox.be e13).modL m14 (fun u hu q => by have := (ox.bl u hu).2; rw [List.mem_singleton] at q; omega)
    have rr14 := rr9.ext e914
    have kb := D14.blk
    have hlen := D14.len.1
    simp only at kb hlen
    rw [List.length_take, Nat.min_eq_left (by omega)] at hlen
    replace k14 : Blk w14 b13 47 (emV x) := k14
    unfold emV pmV at k14
    clear rr9 k13 D9 r11
    repeat (first | refine T_seq ?_ | refine T_region ?_ | refine T_region_q TE.mixed (by kernel_rfl) ?_ | refine T_cond_false rfl ?_ | refine T_block ?_ | refine TL_lt_f (hk := ?_) | refine TL_gt_f (hk := ?_) | refine TL_ne_f (hk := ?_) | refine TL_nil ?_ | refine TL_move (hk := ?_) | refine TL_assign (hk := ?_) | refine TL_load TE (hk := ?_) | refine TL_fieldAddr TE (hk := ?_) | refine TL_yes (hk := ?_) | refine TL_pick_f (hk := ?_) | refine TL_nilCheck (hk := ?_))
    refine TL_nil_q ?_; intro w15 e15
    have k15 := k14.be e15
    have D15 := D14.ext e15
    have ox15 := ox14.be e15
    have rr15 := rr14.ext e15
    have e1115 := e1114.ext e15
    clear k14 kb D14 rr14
    repeat (first | refine T_seq ?_ | refine T_region ?_ | refine T_cond_false rfl ?_ | refine T_inBlock ?_ | refine T_skip ?_ | refine TL_nil ?_ | refine TL_assign (hk := ?_) | refine TL_load TE (hk := ?_) | refine TL_fieldAddr TE (hk := ?_))
    have kb := D15.blk
    simp only at kb
    have n13 : b13 ∉ blkL sl.1 := fun q => by have h1 := D11.g2 b13 q; have h2 := (D11.old b13 (by omega)).2; omega
    have nlg : lg ∉ blkL sl.1 := fun q => by have h1 := D11.g2 lg q; have h2 := D11.g1; omega
    refine T_region_anyz TE.mixed (blkL sl.1) (some 10) ?_; intro w16 e16 z16
    have kb16 := kb.be e16
    have k16 := k15.be e16
    have o16 := D15.ow.be e16
    (refine TA_take 0 rfl (by kernel_rfl) (by kernel_rfl) (by kernel_rfl) ?_; (repeat (first | refine TL_move (hk := ?_) | refine TLP_load TE (hk := ?_) | refine TL_fieldAddr TE (hk := ?_) | refine TL_nilCheck (hk := ?_))); refine TL_nil_p ?_); (refine TA_take 1 rfl (by kernel_rfl) (by kernel_rfl) (by kernel_rfl) ?_; (repeat (first | refine TL_move (hk := ?_) | refine TLP_load TE (hk := ?_) | refine TL_fieldAddr TE (hk := ?_) | refine TL_nilCheck (hk := ?_))); refine TL_nil_p ?_); (refine TA_take 2 rfl (by kernel_rfl) (by kernel_rfl) (by kernel_rfl) ?_; (repeat (first | refine TL_move (hk := ?_) | refine TLP_load TE (hk := ?_) | refine TL_fieldAddr TE (hk := ?_) | refine TL_nilCheck (hk := ?_))); refine TL_nil_p ?_); (refine TA_take 3 rfl (by kernel_rfl) (by kernel_rfl) (by kernel_rfl) ?_; (repeat (first | refine TL_move (hk := ?_) | refine TLP_load TE (hk := ?_) | refine TL_fieldAddr TE (hk := ?_) | refine TL_nilCheck (hk := ?_))); refine TL_nil_p ?_); (refine TA_take 4 rfl (by kernel_rfl) (by kernel_rfl) (by kernel_rfl) ?_; (repeat (first | refine TL_move (hk := ?_) | refine TLP_load TE (hk := ?_) | refine TL_fieldAddr TE (hk := ?_) | refine TL_nilCheck (hk := ?_))); refine TL_nil_p ?_)
    refine TA_take 5 rfl (by kernel_rfl) (by kernel_rfl) (by kernel_rfl) ?_
    refine TLP_loadb TE (cs := [.int .i64 x.sq, .int .i64 x.ep, .int .i64 x.m.p.q.cl, .int .u64 (x.m.p.q.tk : Int), .string (ofL x.m.p.q.nm), sL x.m.a, .int .i64 x.m.p.how, sL x.m.b, sL x.m.c]) (o := 0) (hb := k16) (hD := n13) (hk := ?_)
    refine TL_nil_p ?_
    refine TA_one 6 rfl (by kernel_rfl) (by kernel_rfl) ?_
    refine TL_buildSliceA TE (hf := rfl) (hq := fun w' e => Ext.mod e) (hk := ?_); intro b17 w17 e17 h17 h17' k17
    replace k17 : Blk w17 b17 47 (rowV emV [x]) := k17
    have r17 : Rd w17 (some ⟨b17, 0, none⟩) 1 9 (rowV emV [x]) := Rd.blk k17 rfl
    have o17 := o16.be e17
    have kb17 := kb16.be e17
    have zz1 := e16.size
    have zz2 := e17.size
    have zz3 := e1115.size
    have zz0 := e8.size
    refine TL_nil_p ?_
    refine TA_one 7 rfl (by kernel_rfl) (by kernel_rfl) ?_
    refine TL_append TE (ho := o17) (hr := r17) (h1 := rowV_one emV_one _) (hf := rfl) (hq := fun w' m => (Ext.mod e17).trans m) (hk := ?_); intro A18 c18 w18 o18 m18 n18
    rw [← rowV_append] at o18
    have kb18 := kb17.mod m18 nlg
    refine TL_nil_p ?_
    (refine TA_take 8 rfl (by kernel_rfl) (by kernel_rfl) (by kernel_rfl) ?_; (repeat (first | refine TL_fieldAddr TE (hk := ?_) | refine TL_nilCheck (hk := ?_))); refine TL_nil_p ?_); (refine TA_take 9 rfl (by kernel_rfl) (by kernel_rfl) (by kernel_rfl) ?_; (repeat (first | refine TL_fieldAddr TE (hk := ?_) | refine TL_nilCheck (hk := ?_))); refine TL_nil_p ?_)
    refine TA_one 10 rfl (by kernel_rfl) (by kernel_rfl) ?_
    refine TL_store TE (hb := kb18) (hf := rfl) (hq := fun _ _ _ => trivial) (hk := ?_); intro w19 m19 z19 k19
    refine TL_nil_z (by kernel_rfl) ?_
    repeat (first | refine T_region ?_ | refine T_inBlock ?_ | refine TL_add (hk := ?_) | refine TL_nil ?_ | refine TL_move (hk := ?_))
    obtain ⟨g', D19, T19⟩ := D11.push (z := x) (sl' := (A18, sl.2.1 + 1, c18)) ((e1115.ext e16).ext e17) ((ox15.be e16).be e17) hF m18 o18 n18 m19 k19
    have hL2 : ({ (⟨L.l.take i, L.ep⟩ : LE) with l := L.l.take i ++ [emE x] } : LE) = ⟨L.l.take (i + 1), L.ep⟩ := by
      rw [hxe, ← he, List.take_succ_eq_append_getElem hlt]
    rw [hL2] at D19
    have hnR : bR ∉ blkL sl.1 := fun q => by have h1 := D11.g2 bR q; omega
    have hoA : Off A3 (blkL sl.1) := fun ad ea hm => by
      have h1 := D11.g2 _ hm
      have h2 := gA8 ad.block (by rw [ea]; simp [blkL])
      omega
    have rr19 := (((rr15.ext e16).ext e17).mod m18 hnR hoA).mod m19 (fun q => hN (List.mem_singleton.1 q)) (fun ad ea hm => by
      have h2 := gA8 ad.block (by rw [ea]; simp [blkL])
      have h1 := D11.g1
      rw [List.mem_singleton.1 hm] at h2
      omega)
    have hnew : ∀ u, g u = 0 → u < w11.heap.size → g' u = 0 := fun u hu hlt' => by
      by_cases q : g' u = 0
      · exact q
      · rcases T19.2.1 u q with y | y
        · exact absurd hu y
        · omega
    have e019 : Ext w w19 := by
      have e011 := e09.ext (e10.ext e11)
      obtain ⟨⟨S, mS, sS⟩, -, -⟩ := T19
      exact e011.step mS (fun u hu => .inr (D11.old u (sS u hu)).1)
    refine ih ((i + 1, s9, x.ep), (A18, sl.2.1 + 1, c18), es ++ [x], g') _ _ (by simp only; omega) ⟨by show i + 1 ≤ _; omega, e019, by have := m18.size; omega, rr19, D19, hnew bR gR (by omega), fun u hu => hnew u (gA8 u hu) (by have := lo3.mem u hu; omega), l9, by rw [hxp]; exact r5⟩ (.c rfl (.c rfl (.c rfl (.c rfl (.c rfl (.c rfl (.c rfl (.n))))))))
  · clear ih
    obtain rfl : i = L.l.length := by omega
    rw [List.drop_length] at l8
    simp only [List.map_nil, List.flatten_nil] at l8
    have hfin := l8.fin
    have he8 := l8.1
    rw [List.take_length] at D8
    repeat (first | refine T_seq ?_ | refine T_region ?_ | refine T_cond_false rfl ?_ | refine T_exit rfl ?_ | refine TL_lt_f (hk := ?_) | refine TL_nil ?_ | refine TL_move (hk := ?_))
    refine TL_call TE (hc := End_c bR s A3 n3 c3 w8 rr8) (hk := ?_)
    rintro _ w9 ⟨rfl, m9, rr9⟩
    rw [hfin]
    have D9 := D8.mod m9 (fun u hu => by rw [List.mem_singleton.1 hu]; exact gR)
    repeat (first | refine T_seq ?_ | refine T_region ?_ | refine T_cond_false rfl ?_ | refine T_skip ?_ | refine TL_ne_f (hk := ?_) | refine TL_nil ?_ | refine TL_move (hk := ?_) | refine TL_assign (hk := ?_))
    exact T_ret3 rfl rfl rfl rfl ⟨lg, sl, es, g, rfl, e8.step m9 (fun u hu => .inr (by rw [List.mem_singleton.1 hu]; omega)), D9⟩
end Go.Proofs.YtjlaomcankmdjaaGreat

namespace Go.Proofs.YtjlaomcankmdjaaGreat
open Go.RowKit Go.Proofs.Eng Go.Proofs.Codec
set_option linter.unusedVariables false set_option maxRecDepth 10000
attribute [local irreducible] T TL LV TH TA
set_option maxHeartbeats 1000000
theorem Sum_c (A : Option Addr) (n c : Nat) (l : List UInt8) (w : World) (h : Rd w A n 1 (bv l)) (hn : n ≤ 70368744177664) :
    Ret Tryz.prog 130 [.slice A n c] w (fun v w' => v = .int .u32 (crc l : Nat) ∧ w' = w) := by
  have hlen : l.length = n := by simpa using h.1
  refine ret_T (n := 30) Tryz.func130 rfl rfl ?_
  repeat (first | refine T_seq ?_ | refine T_region ?_ | refine T_block ?_ | refine TL_nil ?_ | refine TL_move (hk := ?_) | refine TL_assign (hk := ?_) | refine TL_len TE (hk := ?_))
  refine T_loop (ι := Nat × Nat) (fun i => [(6, .slice A n c), (7, .int .i64 (n : Int)), (8, .int .i64 (i.1 : Int)), (3, .int .u32 (i.2 : Int))])
    (fun i w' => w' = w ∧ i.1 ≤ n ∧ i.2 < 2 ^ 32 ∧ crcAll (l.drop i.1) i.2 = crcAll l 4294967295) (fun i => n - i.1) (0, 4294967295) (.c rfl (.c rfl (.c rfl (.c rfl (.n))))) ⟨rfl, by simp, by simp, rfl⟩ ?_
  rintro ⟨k, z⟩ w1 ⟨rfl, hk, hz, hinv⟩ ih
  simp only at hk hz hinv ih ⊢
  by_cases hkn : k < n
  · repeat (first | refine T_seq ?_ | refine T_region ?_ | refine T_cond_true rfl ?_ | refine T_block ?_ | refine T_skip ?_ | refine TL_lt_t (hk := ?_) | (refine TL_xor (hk := ?_); intro _) | refine TL_nil ?_ | refine TL_move (hk := ?_) | refine TL_assign (hk := ?_) | (refine TL_load_b TE (hk := ?_); intro _) | refine TL_indexAddr1n TE (hk := ?_) | refine TL_conv TE (hk := ?_))
    refine T_loop (ι := Nat × Nat) (fun i => [(16, .int .i64 (i.1 : Int)), (3, .int .u32 (i.2 : Int)), (6, .slice A n c), (7, .int .i64 (n : Int)), (8, .int .i64 (k : Int))])
      (fun i w' => w' = w1 ∧ i.1 ≤ 8 ∧ i.2 < 2 ^ 32 ∧ crc8 (8 - i.1) i.2 = crc8 8 (z ^^^ gb l k)) (fun i => 8 - i.1) (0, z ^^^ gb l k) (.c rfl (.c rfl (.c rfl (.c rfl (.c rfl (.n)))))) ⟨rfl, by simp, by assumption, rfl⟩ ?_
    rintro ⟨j, y⟩ w2 ⟨rfl, hj, hy, hinv2⟩ ih2
    simp only at hj hy hinv2 ih2 ⊢
    by_cases hj8 : j < 8
    · have ey : y &&& 1 = y % 2 := Nat.and_one_is_mod y
      have e8 : 8 - j = (8 - (j + 1)) + 1 := by omega
      rw [e8, crc8_succ] at hinv2
      have hlt := crcStep_lt hy
      by_cases hy2 : y % 2 = 1
      · rw [crcStep_odd hy2] at hinv2 hlt
        repeat (first | refine T_seq ?_ | refine T_region ?_ | refine T_cond_true rfl ?_ | refine T_block ?_ | refine T_inBlock ?_ | refine T_skip ?_ | refine TL_add (hk := ?_) | refine TL_lt_t (hk := ?_) | refine TL_eq_t (hk := ?_) | (refine TL_and (hk := ?_); intro _) | (refine TL_xor (hk := ?_); intro _) | refine TL_shr (hk := ?_) | refine TL_nil ?_ | refine TL_move (hk := ?_) | refine TL_assign (hk := ?_))
        exact ih2 (j + 1, y / 2 ^ 1 ^^^ 3988292384) _ _ (by simp only; omega) ⟨rfl, by simp only; omega, hlt, hinv2⟩ (.c rfl (.c rfl (.c rfl (.c rfl (.c rfl (.n))))))
      · rw [crcStep_even hy2] at hinv2 hlt
        repeat (first | refine T_seq ?_ | refine T_region ?_ | refine T_cond_true rfl ?_ | refine T_cond_false rfl ?_ | refine T_block ?_ | refine T_inBlock ?_ | refine T_skip ?_ | refine TL_add (hk := ?_) | refine TL_lt_t (hk := ?_) | refine TL_eq_f (hk := ?_) | (refine TL_and (hk := ?_); intro _) | refine TL_shr (hk := ?_) | refine TL_nil ?_ | refine TL_move (hk := ?_) | refine TL_assign (hk := ?_))
        exact ih2 (j + 1, y / 2 ^ 1) _ _ (by simp only; omega) ⟨rfl, by simp only; omega, hlt, hinv2⟩ (.c rfl (.c rfl (.c rfl (.c rfl (.c rfl (.n))))))
    · have : j = 8 := by omega
      subst this
      repeat (first | refine T_seq ?_ | refine T_region ?_ | refine T_cond_false rfl ?_ | refine T_inBlock ?_ | refine T_exit rfl ?_ | refine TL_add (hk := ?_) | refine TL_lt_f (hk := ?_) | refine TL_nil ?_ | refine TL_move (hk := ?_))
      refine ih (k + 1, y) _ _ (by simp only; omega) ⟨rfl, by simp only; omega, hy, ?_⟩ (.c rfl (.c rfl (.c rfl (.c rfl (.n)))))
      rw [← hinv, crcAll_take l z k (by omega), ← hinv2]
      rfl
  · have : k = n := by omega
    subst this
    repeat (first | refine T_seq ?_ | refine T_region ?_ | refine T_cond_false rfl ?_ | refine T_exit rfl ?_ | refine TL_lt_f (hk := ?_) | refine TL_nil ?_ | refine TL_move (hk := ?_) | refine TL_assign (hk := ?_) | (refine TL_compl (hk := ?_); intro _))
    refine T_ret1 rfl rfl ⟨?_, rfl⟩
    have e : z = crcAll l 4294967295 := by rw [← hinv, List.drop_of_length_le (by omega)]; rfl
    unfold crc
    rw [← e]
theorem RSum_c (A : Option Addr) (n c : Nat) (l : List UInt8) (w : World) (h : Rd w A n 1 (bv l)) (hn : n ≤ 70368744177664) :
    Ret Tryz.prog 100 [.slice A n c] w (fun v w' => v = .int .u32 (crc l : Nat) ∧ w' = w) := by
  have hlen : l.length = n := by simpa using h.1
  refine ret_T (n := 33) Tryz.func100 rfl rfl ?_
  repeat (first | refine T_seq ?_ | refine T_region ?_ | refine T_block ?_ | refine TL_nil ?_ | refine TL_assign (hk := ?_))
  refine T_loop (ι := Nat × Nat) (fun i => [(0, .slice A n c), (4, .int .i64 (i.1 : Int)), (3, .int .u32 (i.2 : Int))])
    (fun i w' => w' = w ∧ i.1 ≤ n ∧ i.2 < 2 ^ 32 ∧ crcAll (l.drop i.1) i.2 = crcAll l 4294967295) (fun i => n - i.1) (0, 4294967295) (.c rfl (.c rfl (.c rfl (.n)))) ⟨rfl, by simp, by simp, rfl⟩ ?_
  rintro ⟨k, z⟩ w1 ⟨rfl, hk, hz, hinv⟩ ih
  simp only at hk hz hinv ih ⊢
  by_cases hkn : k < n
  · repeat (first | refine T_seq ?_ | refine T_region ?_ | refine T_cond_true rfl ?_ | refine T_block ?_ | refine T_skip ?_ | refine TL_lt_t (hk := ?_) | (refine TL_xor (hk := ?_); intro _) | refine TL_nil ?_ | refine TL_move (hk := ?_) | refine TL_assign (hk := ?_) | (refine TL_load_b TE (hk := ?_); intro _) | refine TL_indexAddr1n TE (hk := ?_) | refine TL_len TE (hk := ?_) | refine TL_conv TE (hk := ?_))
    refine T_loop (ι := Nat × Nat) (fun i => [(5, .int .i64 (i.1 : Int)), (3, .int .u32 (i.2 : Int)), (0, .slice A n c), (4, .int .i64 (k : Int))])
      (fun i w' => w' = w1 ∧ i.1 ≤ 8 ∧ i.2 < 2 ^ 32 ∧ crc8 (8 - i.1) i.2 = crc8 8 (z ^^^ gb l k)) (fun i => 8 - i.1) (0, z ^^^ gb l k) (.c rfl (.c rfl (.c rfl (.c rfl (.n))))) ⟨rfl, by simp, by assumption, rfl⟩ ?_
    rintro ⟨j, y⟩ w2 ⟨rfl, hj, hy, hinv2⟩ ih2
    simp only at hj hy hinv2 ih2 ⊢
    by_cases hj8 : j < 8
    · have ey : y &&& 1 = y % 2 := Nat.and_one_is_mod y
      have e8 : 8 - j = (8 - (j + 1)) + 1 := by omega
      rw [e8, crc8_succ] at hinv2
      have hlt := crcStep_lt hy
      by_cases hy2 : y % 2 = 1
      · rw [crcStep_odd hy2] at hinv2 hlt
        repeat (first | refine T_seq ?_ | refine T_region ?_ | refine T_cond_true rfl ?_ | refine T_block ?_ | refine T_inBlock ?_ | refine T_skip ?_ | refine TL_add (hk := ?_) | refine TL_rem (hk := ?_) | refine TL_lt_t (hk := ?_) | refine TL_eq_t (hk := ?_) | (refine TL_xor (hk := ?_); intro _) | refine TL_shr (hk := ?_) | refine TL_nil ?_ | refine TL_move (hk := ?_) | refine TL_assign (hk := ?_))
        exact ih2 (j + 1, y / 2 ^ 1 ^^^ 3988292384) _ _ (by simp only; omega) ⟨rfl, by simp only; omega, hlt, hinv2⟩ (.c rfl (.c rfl (.c rfl (.c rfl (.n)))))
      · rw [crcStep_even hy2] at hinv2 hlt
        repeat (first | refine T_seq ?_ | refine T_region ?_ | refine T_cond_true rfl ?_ | refine T_cond_false rfl ?_ | refine T_block ?_ | refine T_inBlock ?_ | refine T_skip ?_ | refine TL_add (hk := ?_) | refine TL_rem (hk := ?_) | refine TL_lt_t (hk := ?_) | refine TL_eq_f (hk := ?_) | refine TL_shr (hk := ?_) | refine TL_nil ?_ | refine TL_move (hk := ?_) | refine TL_assign (hk := ?_))
        exact ih2 (j + 1, y / 2 ^ 1) _ _ (by simp only; omega) ⟨rfl, by simp only; omega, hlt, hinv2⟩ (.c rfl (.c rfl (.c rfl (.c rfl (.n)))))
    · have : j = 8 := by omega
      subst this
      repeat (first | refine T_seq ?_ | refine T_region ?_ | refine T_cond_false rfl ?_ | refine T_inBlock ?_ | refine T_exit rfl ?_ | refine TL_add (hk := ?_) | refine TL_lt_f (hk := ?_) | refine TL_nil ?_ | refine TL_move (hk := ?_) | refine TL_assign (hk := ?_))
      refine ih (k + 1, y) _ _ (by simp only; omega) ⟨rfl, by simp only; omega, hy, ?_⟩ (.c rfl (.c rfl (.c rfl (.n))))
      rw [← hinv, crcAll_take l z k (by omega), ← hinv2]
      rfl
  · have : k = n := by omega
    subst this
    repeat (first | refine T_seq ?_ | refine T_region ?_ | refine T_cond_false rfl ?_ | refine T_exit rfl ?_ | refine TL_lt_f (hk := ?_) | refine TL_nil ?_ | refine TL_move (hk := ?_) | refine TL_assign (hk := ?_) | refine TL_len TE (hk := ?_) | (refine TL_compl (hk := ?_); intro _))
    refine T_ret1 rfl rfl ⟨?_, rfl⟩
    have e : z = crcAll l 4294967295 := by rw [← hinv, List.drop_of_length_le (by omega)]; rfl
    unfold crc
    rw [← e]
end Go.Proofs.YtjlaomcankmdjaaGreat

namespace Go.Proofs.YtjlaomcankmdjaaGreat
open Go.RowKit Go.Proofs.Eng Go.Proofs.Codec
set_option linter.unusedVariables false set_option maxRecDepth 10000
attribute [local irreducible] T TL LV TH TA
set_option maxHeartbeats 1000000
def frame (l : List UInt8) : List UInt8 := (four l.length ++ l) ++ four (crc (four l.length ++ l))
theorem Seal_c (A : Option Addr) (n c : Nat) (l : List UInt8) (w : World) (h : Rd w A n 1 (bv l)) (hn : n ≤ 65536) :
    Ret Tryz.prog 114 [.slice A n c] w (fun v w' => ∃ A' c', v = .tuple #[.slice A' (n + 8) c', .int .i64 0] ∧ Ext w w' ∧ Own w' w.heap.size 5 1 A' (n + 8) c' (bv (frame l))) := by
  have hlen : l.length = n := by simpa using h.1
  refine ret_T (n := 18) Tryz.func114 rfl rfl ?_
  repeat (first | refine T_seq ?_ | refine T_region ?_ | refine T_cond_false rfl ?_ | refine T_skip ?_ | refine TL_gt_f (hk := ?_) | refine TL_nil ?_ | refine TL_move (hk := ?_) | refine TL_assign (hk := ?_) | refine TL_len TE (hk := ?_) | refine TL_conv TE (hk := ?_))
  refine TL_call TE (hc := put4_c none 0 0 n w.heap.size [] w (Own.nil _ _ _ _) (Nat.le_refl _) (by omega) (by omega)) (hk := ?_)
  rintro _ w1 ⟨A1, c1, rfl, m1, n1, o1⟩
  have e1 : Ext w w1 := m1
  have s1 := m1.size
  repeat (refine TL_move (hk := ?_))
  refine TL_append TE (hk := ?_); intro A2 c2 w2 o2 m2 n2
  have e2 : Ext w w2 := e1.own m2 o1.hi
  have s2 := m2.size
  have o2' : Own w2 w.heap.size 5 1 A2 (0 + 4 + n) c2 (bv (four n ++ l)) := by rw [bv_append]; exact o2
  repeat (first | refine T_seq ?_ | refine T_region ?_ | refine TL_nil ?_ | refine TL_move (hk := ?_) | refine TL_assign (hk := ?_))
  refine TL_call TE (hc := Sum_c A2 (0 + 4 + n) c2 (four n ++ l) w2 o2'.rd (by omega)) (hk := ?_)
  rintro _ w3 ⟨rfl, rfl⟩
  refine TL_call TE (hc := put4_c A2 (0 + 4 + n) c2 (crc (four n ++ l)) w.heap.size (four n ++ l) _ o2' (by omega) (by omega) (crc_lt _)) (hk := ?_)
  rintro _ w4 ⟨A4, c4, rfl, m4, n4, o4⟩
  repeat (first | refine TL_nil ?_ | refine TL_assign (hk := ?_))
  refine T_ret2 rfl rfl rfl ⟨A4, c4, ?_, e2.own m4 o2'.hi, ?_⟩
  · rw [show 0 + 4 + n + 4 = n + 8 from by omega]
  · rw [show n + 8 = 0 + 4 + n + 4 from by omega]
    unfold frame
    rw [hlen]
    exact o4
def openF (l : List UInt8) : List UInt8 × Nat × Int :=
  if l.length < 4 then ([], 0, 3) else if 65536 < le4 l then ([], 0, 1) else if l.length < le4 l + 8 then ([], 0, 3) else
  if crc (l.take (le4 l + 4)) = le4 (l.drop (le4 l + 4)) then ((l.drop 4).take (le4 l), le4 l + 8, 0) else ([], 0, 12)
theorem Open_c (A : Option Addr) (n c : Nat) (l : List UInt8) (w : World) (h : Rd w A n 1 (bv l)) (hn : n ≤ 7036874417) (hc : n ≤ c) :
    Ret Tryz.prog 94 [.slice A n c] w (fun v w' => ∃ A' n' c', v = .tuple #[.slice A' n' c', .int .i64 ((openF l).2.1 : Nat), .int .i64 (openF l).2.2] ∧ Ext w w' ∧ Own w' w.heap.size 5 1 A' n' c' (bv (openF l).1)) := by
  have hlen : l.length = n := by simpa using h.1
  have h4 := le4_lt l
  by_cases g0 : n < 4
  · have eo : openF l = ([], 0, 3) := by unfold openF; rw [if_pos (by omega)]
    rw [eo]
    refine ret_T (n := 39) Tryz.func94 rfl rfl ?_
    repeat (first | refine T_seq ?_ | refine T_region ?_ | refine T_cond_true rfl ?_ | refine TL_lt_t (hk := ?_) | refine TL_nil ?_ | refine TL_move (hk := ?_) | refine TL_assign (hk := ?_) | refine TL_len TE (hk := ?_))
    exact T_ret3 rfl rfl rfl rfl ⟨none, 0, 0, rfl, Mod.refl _ _, Own.nil _ _ _ _⟩
  by_cases g1 : 65536 < le4 l
  · have eo : openF l = ([], 0, 1) := by unfold openF; rw [if_neg (by omega), if_pos g1]
    rw [eo]
    refine ret_T (n := 39) Tryz.func94 rfl rfl ?_
    repeat (first | refine T_seq ?_ | refine T_region ?_ | refine T_cond_false rfl ?_ | refine T_skip ?_ | refine TL_lt_f (hk := ?_) | refine TL_nil ?_ | refine TL_move (hk := ?_) | refine TL_assign (hk := ?_) | refine TL_len TE (hk := ?_))
    refine TL_call TE (hc := get4_c A n c l w h (by omega)) (hk := ?_)
    rintro _ w1 ⟨rfl, e1⟩
    repeat (first | refine T_seq ?_ | refine T_region ?_ | refine T_cond_true rfl ?_ | refine TL_gt_t (hk := ?_) | refine TL_nil ?_ | refine TL_move (hk := ?_) | refine TL_assign (hk := ?_))
    exact T_ret3 rfl rfl rfl rfl ⟨none, 0, 0, rfl, e1, Own.nil _ _ _ _⟩
  by_cases g2 : n < le4 l + 8
  · have eo : openF l = ([], 0, 3) := by unfold openF; rw [if_neg (by omega), if_neg g1, if_pos (by omega)]
    rw [eo]
    refine ret_T (n := 39) Tryz.func94 rfl rfl ?_
    repeat (first | refine T_seq ?_ | refine T_region ?_ | refine T_cond_false rfl ?_ | refine T_skip ?_ | refine TL_lt_f (hk := ?_) | refine TL_nil ?_ | refine TL_move (hk := ?_) | refine TL_assign (hk := ?_) | refine TL_len TE (hk := ?_))
    refine TL_call TE (hc := get4_c A n c l w h (by omega)) (hk := ?_)
    rintro _ w1 ⟨rfl, e1⟩
    repeat (first | refine T_seq ?_ | refine T_region ?_ | refine T_cond_true rfl ?_ | refine T_cond_false rfl ?_ | refine T_block ?_ | refine T_skip ?_ | refine TL_add (hk := ?_) | refine TL_lt_t (hk := ?_) | refine TL_gt_f (hk := ?_) | refine TL_nil ?_ | refine TL_move (hk := ?_) | refine TL_assign (hk := ?_) | refine TL_len TE (hk := ?_) | refine TL_conv TE (hk := ?_))
    exact T_ret3 rfl rfl rfl rfl ⟨none, 0, 0, rfl, e1, Own.nil _ _ _ _⟩
  have hcl := crc_lt (l.take (le4 l + 4))
  have hdl := le4_lt (l.drop (le4 l + 4))
  have eo : openF l = if crc (l.take (le4 l + 4)) = le4 (l.drop (le4 l + 4)) then ((l.drop 4).take (le4 l), le4 l + 8, 0) else ([], 0, 12) := by
    unfold openF; rw [if_neg (by omega), if_neg g1, if_neg (by omega)]
  generalize hk : le4 l = k at h4 g1 g2 hcl hdl eo
  have ek : (4 + (k : Int)).toNat = k + 4 := by omega
  have ra : ∀ w', Ext w w' → Rd w' A (k + 4) 1 (bv (l.take (k + 4))) := fun w' e => by
    have := (h.ext e).take (h := k + 4) (by omega)
    simpa [bv] using this
  have rb : ∀ w', Ext w w' → Rd w' (cutA A c (k + 4) 1) (n - (k + 4)) 1 (bv (l.drop (k + 4))) := fun w' e => by
    have := (h.ext e).cut (c := c) (l := k + 4) (h := n) (by omega) (by omega) (by omega)
    have e9 : ((bv l).drop ((k + 4) * 1)).take ((n - (k + 4)) * 1) = bv (l.drop (k + 4)) := by
      rw [List.take_of_length_le (by simp; omega)]; simp [bv]
    rwa [e9] at this
  have rc : ∀ w', Ext w w' → Rd w' (cutA A c 4 1) (k + 4 - 4) 1 (bv ((l.drop 4).take k)) := fun w' e => by
    have := (h.ext e).cut (c := c) (l := 4) (h := k + 4) (by omega) (by omega) (by omega)
    have e9 : ((bv l).drop (4 * 1)).take ((k + 4 - 4) * 1) = bv ((l.drop 4).take k) := by
      rw [show (k + 4 - 4) * 1 = k from by omega]; simp [bv]
    rwa [e9] at this
  by_cases hs : crc (l.take (k + 4)) = le4 (l.drop (k + 4))
  all_goals
    first | rw [if_pos hs] at eo | rw [if_neg hs] at eo
    rw [eo]
    refine ret_T (n := 39) Tryz.func94 rfl rfl ?_
    repeat (first | refine T_seq ?_ | refine T_region ?_ | refine T_cond_false rfl ?_ | refine T_skip ?_ | refine TL_lt_f (hk := ?_) | refine TL_nil ?_ | refine TL_move (hk := ?_) | refine TL_assign (hk := ?_) | refine TL_len TE (hk := ?_))
    refine TL_call TE (hc := get4_c A n c l w h (by omega)) (hk := ?_)
    rintro _ w1 ⟨rfl, e1⟩
    rw [hk]
    repeat (first | refine T_seq ?_ | refine T_region ?_ | refine T_region_q TE.mixed (by kernel_rfl) ?_ | refine T_cond_false rfl ?_ | refine T_block ?_ | refine T_skip ?_ | refine TL_add (hk := ?_) | refine TL_lt_f (hk := ?_) | refine TL_gt_f (hk := ?_) | refine TL_nil ?_ | refine TL_move (hk := ?_) | refine TL_assign (hk := ?_) | refine TL_len TE (hk := ?_) | refine TL_slice_hi TE (hk := ?_) | refine TL_conv TE (hk := ?_))
    rw [ek]
    refine TL_call_q TE rfl rfl rfl ((fun w' e' => (Sum_c A (k + 4) c _ w' (ra w' (e1.ext e')) (by omega)).mono fun v w'' ⟨a, b⟩ => ⟨a, b ▸ Mod.refl _ _⟩)) ?_
    repeat (first | refine TL_move (hk := ?_) | refine TL_slice_lo TE (hk := ?_))
    rw [ek]
    refine TL_call_q TE rfl rfl rfl ((fun w' e' => get4_c (cutA A c (k + 4) 1) (n - (k + 4)) (c - (k + 4)) _ w' (rb w' (e1.ext e')) (by omega))) ?_
    repeat (first | refine TL_ne_t (hk := ?_) | refine TL_ne_f (hk := ?_) | refine TL_assign (hk := ?_))
    refine TL_nil_q ?_; intro w2 e2
    repeat (first | refine T_seq ?_ | refine T_region ?_ | refine T_cond_true rfl ?_ | refine T_cond_false rfl ?_ | refine T_inBlock ?_ | refine T_skip ?_ | refine TL_nil ?_ | refine TL_move (hk := ?_) | refine TL_assign (hk := ?_) | refine TL_slice_lh TE (hk := ?_))
  · rw [ek]
    refine TL_call TE (hc := Clone_c (cutA A c 4 1) (k + 4 - 4) (c - 4) _ w2 (rc w2 (e1.ext e2)) (by omega)) (hk := ?_)
    rintro _ w3 ⟨A3, c3, rfl, e3, o3⟩
    repeat (first | refine TL_add (hk := ?_) | refine TL_nil ?_ | refine TL_move (hk := ?_) | refine TL_assign (hk := ?_))
    have s2 := (e1.ext e2).size
    refine T_ret3 rfl rfl rfl rfl ⟨A3, _, c3, ?_, (e1.ext e2).ext e3, o3.weaken s2⟩
    rw [show ((k + 8 : Nat) : Int) = 4 + (k : Int) + 4 from by omega]
  · exact T_ret3 rfl rfl rfl rfl ⟨none, 0, 0, rfl, e1.ext e2, Own.nil _ _ _ _⟩
end Go.Proofs.YtjlaomcankmdjaaGreat

namespace Go.Proofs.YtjlaomcankmdjaaGreat
open Go.RowKit Go.Proofs.Eng Go.Proofs.Codec
set_option linter.unusedVariables false set_option maxRecDepth 10000
attribute [local irreducible] T TL LV TH TA
set_option maxHeartbeats 1000000
def liveB : List UInt8 := [172, 2, 9, 2, 97, 98]
end Go.Proofs.YtjlaomcankmdjaaGreat

namespace Go.Proofs.YtjlaomcankmdjaaGreat
open Go.RowKit Go.Proofs.Eng Go.Proofs.Codec
set_option linter.unusedVariables false set_option maxRecDepth 10000
attribute [local irreducible] T TL LV TH TA
set_option maxHeartbeats 1000000
end Go.Proofs.YtjlaomcankmdjaaGreat

namespace Go.Proofs.YtjlaomcankmdjaaGreat
open Go.RowKit Go.Proofs.Eng Go.Proofs.Codec
set_option linter.unusedVariables false set_option maxRecDepth 10000
attribute [local irreducible] T TL LV TH TA
set_option maxHeartbeats 1000000
theorem tText_ok {most : Int} {l : List UInt8} {x k : Nat} (hx : num0 l = .ok (x, k)) (h1 : 0 ≤ most) (h2 : (x : Int) ≤ most) (h3 : k + x ≤ l.length) : tText most l = .ok ((l.drop k).take x, k + x) := by
  unfold tText; rw [tLim_ok hx h1 h2]; simp only; rw [if_neg (by omega)]
theorem tText_short {most : Int} {l : List UInt8} {x k : Nat} (hx : num0 l = .ok (x, k)) (h1 : 0 ≤ most) (h2 : (x : Int) ≤ most) (h3 : l.length < k + x) : tText most l = .error 3 := by
  unfold tText; rw [tLim_ok hx h1 h2]; simp only; rw [if_pos h3]
theorem tText_no {most : Int} {l : List UInt8} {x k : Nat} (hx : num0 l = .ok (x, k)) (h : most < 0 ∨ most < (x : Int)) : tText most l = .error 1 := by
  unfold tText; rw [tLim_no hx h]
theorem tText_err {most : Int} {l : List UInt8} {e : Int} (hx : num0 l = .error e) : tText most l = .error e := by
  unfold tText; rw [tLim_err hx]
theorem Rd.mid1 {w : World} {A : Option Addr} {n c p q : Nat} {l : List UInt8} (h : Rd w A n 1 (bv l)) (hp : p ≤ q) (hq : q ≤ n) (hc : n ≤ c) : Rd w (cutA A c p 1) (q - p) 1 (bv ((l.drop p).take (q - p))) := by
  have h2 := h.cut (c := c) (l := p) (h := q) hp hq hc
  have e : ((bv l).drop (p * 1)).take ((q - p) * 1) = bv ((l.drop p).take (q - p)) := by
    unfold bv
    rw [Nat.mul_one, Nat.mul_one, ← List.map_drop, ← List.map_take]
  rw [e] at h2
  exact h2
theorem RText_c (b : Nat) (s : RS) (A : Option Addr) (n c : Nat) (most : Int) (hmo : -9223372036854775808 ≤ most ∧ most ≤ 9223372036854775807) (w : World) (h : Rdr w 117 b s A n c) :
    Ret Tryz.prog 56 [ptr b, .int .i64 most] w (fun v w' => v = .string ⟨(s.take ([] : List UInt8) (tText most)).1.toArray⟩ ∧ Mod [b] w w' ∧ Rdr w' 117 b (s.take ([] : List UInt8) (tText most)).2 A n c) := by
  have h0 := h
  obtain ⟨hb, hr, ho, hl, hp, hla, hbig, hcap⟩ := h
  refine ret_T (n := 92) Tryz.func56 rfl rfl ?_
  by_cases he : s.err = 0
  · cases hx : num0 (s.b.drop s.pos) with
    | ok x =>
      obtain ⟨x, k⟩ := x
      have hlt := num0_ok hx
      rw [List.length_drop] at hlt
      by_cases hm : most < 0
      · rw [take_err he (tText_no hx (.inl hm))]
        repeat (first | refine T_seq ?_ | refine T_region ?_ | refine T_region_q TE.mixed (by kernel_rfl) ?_ | refine T_cond_false rfl ?_ | refine T_skip ?_ | refine TL_ne_f (hk := ?_) | refine TL_nil ?_ | refine TL_move (hk := ?_) | refine TL_assign (hk := ?_) | refine TL_load TE (hk := ?_) | refine TL_fieldAddr TE (hk := ?_) | refine TL_nilCheck (hk := ?_) | refine TL_slice_lo TE (hk := ?_))
        refine TL_call_q TE rfl rfl rfl (numq hr hp hcap hbig hx) ?_
        repeat (first | refine TL_move (hk := ?_) | refine TL_assign (hk := ?_) | refine TL_extract (hk := ?_))
        refine TL_nil_q ?_; intro w1 e1
        repeat (first | refine T_seq ?_ | refine T_region ?_ | refine T_region_q TE.mixed (by kernel_rfl) ?_ | refine T_cond_true rfl ?_ | refine TL_lt_t (hk := ?_) | refine TL_eq_t (hk := ?_) | refine TL_eq_f (hk := ?_) | refine TL_nil ?_ | refine TL_move (hk := ?_) | refine TL_assign (hk := ?_) | refine TL_yes (hk := ?_) | refine TL_no (hk := ?_) | refine TL_pick_t (hk := ?_) | refine TL_pick_f (hk := ?_))
        refine TL_nil_q ?_; intro w2 e2
        repeat (first | refine T_seq ?_ | refine T_region ?_ | refine T_cond_true rfl ?_ | refine T_cond_false rfl ?_ | refine T_skip ?_ | refine TL_ne_t (hk := ?_) | refine TL_nil ?_ | refine TL_move (hk := ?_))
        refine TL_call TE (hc := fails_c b s A n c 1 w2 (h0.ext (e1.ext e2))) (hk := ?_)
        rintro _ w3 ⟨rfl, m3, h3⟩
        repeat (first | refine T_seq ?_ | refine T_region ?_ | refine TL_nil ?_ | refine TL_assign (hk := ?_))
        exact T_ret1 rfl rfl ⟨rfl, (Ext.mod (e1.ext e2)).trans m3, h3⟩
      by_cases hg : most < (x : Int)
      · rw [take_err he (tText_no hx (.inr hg))]
        repeat (first | refine T_seq ?_ | refine T_region ?_ | refine T_region_q TE.mixed (by kernel_rfl) ?_ | refine T_cond_false rfl ?_ | refine T_skip ?_ | refine TL_ne_f (hk := ?_) | refine TL_nil ?_ | refine TL_move (hk := ?_) | refine TL_assign (hk := ?_) | refine TL_load TE (hk := ?_) | refine TL_fieldAddr TE (hk := ?_) | refine TL_nilCheck (hk := ?_) | refine TL_slice_lo TE (hk := ?_))
        refine TL_call_q TE rfl rfl rfl (numq hr hp hcap hbig hx) ?_
        repeat (first | refine TL_move (hk := ?_) | refine TL_assign (hk := ?_) | refine TL_extract (hk := ?_))
        refine TL_nil_q ?_; intro w1 e1
        repeat (first | refine T_seq ?_ | refine T_region ?_ | refine T_region_q TE.mixed (by kernel_rfl) ?_ | refine T_cond_true rfl ?_ | refine TL_lt_f (hk := ?_) | refine TL_gt_t (hk := ?_) | refine TL_eq_t (hk := ?_) | refine TL_eq_f (hk := ?_) | refine TL_nil ?_ | refine TL_move (hk := ?_) | refine TL_assign (hk := ?_) | refine TL_yes (hk := ?_) | refine TL_no (hk := ?_) | refine TL_pick_t (hk := ?_) | refine TL_pick_f (hk := ?_) | refine TL_conv TE (hk := ?_))
        refine TL_nil_q ?_; intro w2 e2
        repeat (first | refine T_seq ?_ | refine T_region ?_ | refine T_cond_true rfl ?_ | refine T_cond_false rfl ?_ | refine T_skip ?_ | refine TL_ne_t (hk := ?_) | refine TL_nil ?_ | refine TL_move (hk := ?_))
        refine TL_call TE (hc := fails_c b s A n c 1 w2 (h0.ext (e1.ext e2))) (hk := ?_)
        rintro _ w3 ⟨rfl, m3, h3⟩
        repeat (first | refine T_seq ?_ | refine T_region ?_ | refine TL_nil ?_ | refine TL_assign (hk := ?_))
        exact T_ret1 rfl rfl ⟨rfl, (Ext.mod (e1.ext e2)).trans m3, h3⟩
      by_cases hs : n - s.pos < k + x
      · rw [take_err he (tText_short hx (by omega) (by omega) (by rw [List.length_drop]; omega))]
        repeat (first | refine T_seq ?_ | refine T_region ?_ | refine T_region_q TE.mixed (by kernel_rfl) ?_ | refine T_cond_false rfl ?_ | refine T_skip ?_ | refine TL_ne_f (hk := ?_) | refine TL_nil ?_ | refine TL_move (hk := ?_) | refine TL_assign (hk := ?_) | refine TL_load TE (hk := ?_) | refine TL_fieldAddr TE (hk := ?_) | refine TL_nilCheck (hk := ?_) | refine TL_slice_lo TE (hk := ?_))
        refine TL_call_q TE rfl rfl rfl (numq hr hp hcap hbig hx) ?_
        repeat (first | refine TL_move (hk := ?_) | refine TL_assign (hk := ?_) | refine TL_extract (hk := ?_))
        refine TL_nil_q ?_; intro w1 e1
        repeat (first | refine T_seq ?_ | refine T_region ?_ | refine T_region_q TE.mixed (by kernel_rfl) ?_ | refine T_cond_false rfl ?_ | refine T_skip ?_ | refine TL_sub (hk := ?_) | refine TL_lt_t (hk := ?_) | refine TL_lt_f (hk := ?_) | refine TL_gt_f (hk := ?_) | refine TL_eq_t (hk := ?_) | refine TL_nil ?_ | refine TL_move (hk := ?_) | refine TL_load TE (hk := ?_) | refine TL_fieldAddr TE (hk := ?_) | refine TL_len TE (hk := ?_) | refine TL_yes (hk := ?_) | refine TL_pick_t (hk := ?_) | refine TL_pick_f (hk := ?_) | refine TL_nilCheck (hk := ?_) | refine TL_conv TE (hk := ?_))
        refine TL_nil_q ?_; intro w2 e2
        repeat (first | refine T_seq ?_ | refine T_region ?_ | refine T_cond_true rfl ?_ | refine TL_ne_t (hk := ?_) | refine TL_nil ?_ | refine TL_move (hk := ?_) | refine TL_assign (hk := ?_))
        refine TL_call TE (hc := fails_c b s A n c 3 w2 (h0.ext (e1.ext e2))) (hk := ?_)
        rintro _ w3 ⟨rfl, m3, h3⟩
        repeat (first | refine T_seq ?_ | refine T_region ?_ | refine TL_nil ?_ | refine TL_assign (hk := ?_))
        exact T_ret1 rfl rfl ⟨rfl, (Ext.mod (e1.ext e2)).trans m3, h3⟩
      · rw [take_ok he (tText_ok hx (by omega) (by omega) (by rw [List.length_drop]; omega))]
        have hmid : ∀ w', Ext w w' → Rd w' (cutA A c (s.pos + k) 1) (s.pos + k + x - (s.pos + k)) 1 (bv ((s.b.drop (s.pos + k)).take (s.pos + k + x - (s.pos + k)))) := fun w' e => Rd.mid1 (hr.ext e) (by omega) (by omega) hcap
        repeat (first | refine T_seq ?_ | refine T_region ?_ | refine T_region_q TE.mixed (by kernel_rfl) ?_ | refine T_cond_false rfl ?_ | refine T_skip ?_ | refine TL_ne_f (hk := ?_) | refine TL_nil ?_ | refine TL_move (hk := ?_) | refine TL_assign (hk := ?_) | refine TL_load TE (hk := ?_) | refine TL_fieldAddr TE (hk := ?_) | refine TL_nilCheck (hk := ?_) | refine TL_slice_lo TE (hk := ?_))
        refine TL_call_q TE rfl rfl rfl (numq hr hp hcap hbig hx) ?_
        repeat (first | refine TL_move (hk := ?_) | refine TL_assign (hk := ?_) | refine TL_extract (hk := ?_))
        refine TL_nil_q ?_; intro w1 e1
        repeat (first | refine T_seq ?_ | refine T_region ?_ | refine T_region_q TE.mixed (by kernel_rfl) ?_ | refine T_cond_false rfl ?_ | refine T_skip ?_ | refine TL_sub (hk := ?_) | refine TL_lt_f (hk := ?_) | refine TL_gt_f (hk := ?_) | refine TL_eq_t (hk := ?_) | refine TL_nil ?_ | refine TL_move (hk := ?_) | refine TL_load TE (hk := ?_) | refine TL_fieldAddr TE (hk := ?_) | refine TL_len TE (hk := ?_) | refine TL_yes (hk := ?_) | refine TL_pick_t (hk := ?_) | refine TL_pick_f (hk := ?_) | refine TL_nilCheck (hk := ?_) | refine TL_conv TE (hk := ?_))
        refine TL_nil_q ?_; intro w2 e2
        have hm2 := hmid w2 (e1.ext e2)
        repeat (first | refine T_seq ?_ | refine T_region ?_ | refine T_region_q TE.mixed (by kernel_rfl) ?_ | refine T_cond_false rfl ?_ | refine T_skip ?_ | refine TL_add (hk := ?_) | refine TL_ne_f (hk := ?_) | refine TL_nil ?_ | refine TL_move (hk := ?_) | refine TL_assign (hk := ?_) | refine TL_load TE (hk := ?_) | refine TL_fieldAddr TE (hk := ?_) | refine TL_nilCheck (hk := ?_) | refine TL_slice_lh TE (hk := ?_) | refine TL_conv TE (hk := ?_) | refine TL_conv_bs TE (hk := ?_))
        refine TL_nil_q ?_; intro w4 e4
        repeat (first | refine T_seq ?_ | refine T_region ?_ | refine TL_add (hk := ?_) | refine TL_move (hk := ?_) | refine TL_conv TE (hk := ?_))
        refine TL_call TE (hc := took_c b s A n c (k + x) rfl w4 (h0.ext ((e1.ext e2).ext e4)) (by omega)) (hk := ?_)
        rintro _ w3 ⟨rfl, m3, h3⟩
        repeat (first | refine T_seq ?_ | refine T_region ?_ | refine TL_nil ?_ | refine TL_move (hk := ?_) | refine TL_assign (hk := ?_))
        refine T_ret1 rfl rfl ⟨?_, (Ext.mod ((e1.ext e2).ext e4)).trans m3, h3⟩
        simp only [ofL, List.drop_drop]
        rw [show s.pos + k + x - (s.pos + k) = x by omega]
    | error e =>
      have hne : ¬ e = 0 := num0_err hx
      rw [take_err he (tText_err hx)]
      repeat (first | refine T_seq ?_ | refine T_region ?_ | refine T_region_q TE.mixed (by kernel_rfl) ?_ | refine T_cond_false rfl ?_ | refine T_skip ?_ | refine TL_ne_f (hk := ?_) | refine TL_nil ?_ | refine TL_move (hk := ?_) | refine TL_assign (hk := ?_) | refine TL_load TE (hk := ?_) | refine TL_fieldAddr TE (hk := ?_) | refine TL_nilCheck (hk := ?_) | refine TL_slice_lo TE (hk := ?_))
      refine TL_call_q TE rfl rfl rfl (numq hr hp hcap hbig hx) ?_
      repeat (first | refine TL_move (hk := ?_) | refine TL_assign (hk := ?_) | refine TL_extract (hk := ?_))
      refine TL_nil_q ?_; intro w1 e1
      repeat (first | refine T_seq ?_ | refine T_region ?_ | refine T_region_q TE.mixed (by kernel_rfl) ?_ | refine T_cond_false rfl ?_ | refine T_skip ?_ | refine TL_eq_f (hk := ?_) | refine TL_nil ?_ | refine TL_move (hk := ?_) | refine TL_no (hk := ?_) | refine TL_pick_f (hk := ?_))
      refine TL_nil_q ?_; intro w2 e2
      repeat (first | refine T_seq ?_ | refine T_region ?_ | refine T_cond_true rfl ?_ | refine T_cond_false rfl ?_ | refine T_skip ?_ | refine TL_ne_t (hk := ?_) | refine TL_nil ?_ | refine TL_move (hk := ?_))
      refine TL_call TE (hc := fails_c b s A n c e w2 (h0.ext (e1.ext e2))) (hk := ?_)
      rintro _ w3 ⟨rfl, m3, h3⟩
      repeat (first | refine T_seq ?_ | refine T_region ?_ | refine TL_nil ?_ | refine TL_assign (hk := ?_))
      exact T_ret1 rfl rfl ⟨rfl, (Ext.mod (e1.ext e2)).trans m3, h3⟩
  · rw [take_no he]
    repeat (first | refine T_seq ?_ | refine T_region ?_ | refine T_cond_true rfl ?_ | refine TL_ne_t (hk := ?_) | refine TL_nil ?_ | refine TL_move (hk := ?_) | refine TL_assign (hk := ?_) | refine TL_load TE (hk := ?_) | refine TL_fieldAddr TE (hk := ?_) | refine TL_nilCheck (hk := ?_))
    exact T_ret1 rfl rfl ⟨rfl, Mod.refl _ _, h0⟩
theorem REnd_c (b : Nat) (s : RS) (A : Option Addr) (n c : Nat) (w : World) (h : Rdr w 117 b s A n c) :
    Ret Tryz.prog 104 [ptr b] w (fun v w' => v = .int .i64 s.fin.err ∧ Mod [b] w w' ∧ Rdr w' 117 b s.fin A n c) := by
  have h0 := h
  obtain ⟨hb, hr, ho, hl, hp, hla, hbig, hcap⟩ := h
  refine ret_T (n := 26) Tryz.func104 rfl rfl ?_
  by_cases he : s.err = 0
  · by_cases he2 : s.pos < n
    · have hs : s.fin = { s with err := 4, spot := s.pos } := by unfold RS.fin; rw [if_pos ⟨he, by omega⟩]
      rw [hs]
      repeat (first | refine T_seq ?_ | refine T_region ?_ | refine T_region_q TE.mixed (by kernel_rfl) ?_ | refine TL_lt_t (hk := ?_) | refine TL_eq_t (hk := ?_) | refine TL_nil ?_ | refine TL_move (hk := ?_) | refine TL_assign (hk := ?_) | refine TL_load TE (hk := ?_) | refine TL_fieldAddr TE (hk := ?_) | refine TL_len TE (hk := ?_) | refine TL_yes (hk := ?_) | refine TL_pick_t (hk := ?_) | refine TL_nilCheck (hk := ?_))
      refine TL_nil_q ?_; intro w1 e1
      repeat (first | refine T_region ?_ | refine T_cond_true rfl ?_ | refine TL_move (hk := ?_))
      refine TL_call TE (hc := fails_c b s A n c 4 w1 (h0.ext e1)) (hk := ?_)
      rintro _ w3 ⟨rfl, m3, h3⟩
      obtain ⟨hb3, _⟩ := id h3
      repeat (first | refine T_seq ?_ | refine T_region ?_ | refine TL_nil ?_ | refine TL_move (hk := ?_) | refine TL_assign (hk := ?_) | refine TL_load TE (hk := ?_) | refine TL_fieldAddr TE (hk := ?_) | refine TL_nilCheck (hk := ?_))
      exact T_ret1 rfl rfl ⟨rfl, (Ext.mod e1).trans m3, h3⟩
    · have hs : s.fin = s := by unfold RS.fin; rw [if_neg (by omega)]
      rw [hs]
      repeat (first | refine T_seq ?_ | refine T_region ?_ | refine T_region_q TE.mixed (by kernel_rfl) ?_ | refine TL_lt_f (hk := ?_) | refine TL_eq_t (hk := ?_) | refine TL_nil ?_ | refine TL_move (hk := ?_) | refine TL_assign (hk := ?_) | refine TL_load TE (hk := ?_) | refine TL_fieldAddr TE (hk := ?_) | refine TL_len TE (hk := ?_) | refine TL_yes (hk := ?_) | refine TL_pick_t (hk := ?_) | refine TL_nilCheck (hk := ?_))
      refine TL_nil_q ?_; intro w1 e1
      repeat (first | refine T_seq ?_ | refine T_region ?_ | refine T_cond_false rfl ?_ | refine T_skip ?_ | refine TL_nil ?_ | refine TL_move (hk := ?_) | refine TL_assign (hk := ?_) | refine TL_load TE (hk := ?_) | refine TL_fieldAddr TE (hk := ?_) | refine TL_nilCheck (hk := ?_))
      exact T_ret1 rfl rfl ⟨rfl, Ext.mod e1, h0.ext e1⟩
  · have hs : s.fin = s := by unfold RS.fin; rw [if_neg (by omega)]
    rw [hs]
    repeat (first | refine T_seq ?_ | refine T_region ?_ | refine T_region_q TE.mixed (by kernel_rfl) ?_ | refine TL_eq_f (hk := ?_) | refine TL_nil ?_ | refine TL_move (hk := ?_) | refine TL_assign (hk := ?_) | refine TL_load TE (hk := ?_) | refine TL_fieldAddr TE (hk := ?_) | refine TL_no (hk := ?_) | refine TL_pick_f (hk := ?_) | refine TL_nilCheck (hk := ?_))
    refine TL_nil_q ?_; intro w1 e1
    repeat (first | refine T_seq ?_ | refine T_region ?_ | refine T_cond_false rfl ?_ | refine T_skip ?_ | refine TL_nil ?_ | refine TL_move (hk := ?_) | refine TL_assign (hk := ?_) | refine TL_load TE (hk := ?_) | refine TL_fieldAddr TE (hk := ?_) | refine TL_nilCheck (hk := ?_))
    exact T_ret1 rfl rfl ⟨rfl, Ext.mod e1, h0.ext e1⟩
theorem RRest_c (b : Nat) (s : RS) (A : Option Addr) (n c : Nat) (w : World) (h : Rdr w 117 b s A n c) :
    Ret Tryz.prog 60 [ptr b] w (fun v w' => v = .int .i64 (s.rest : Int) ∧ Ext w w') := by
  have h0 := h
  obtain ⟨hb, hr, ho, hl, hp, hla, hbig, hcap⟩ := h
  refine ret_T (n := 18) Tryz.func60 rfl rfl ?_
  by_cases he : s.err = 0
  · have hs : s.rest = n - s.pos := by unfold RS.rest; rw [if_pos he, hl]
    rw [hs]
    repeat (first | refine T_seq ?_ | refine T_region ?_ | refine T_region_q TE.mixed (by kernel_rfl) ?_ | refine T_cond_false rfl ?_ | refine T_skip ?_ | refine TL_sub (hk := ?_) | refine TL_ne_f (hk := ?_) | refine TL_nil ?_ | refine TL_move (hk := ?_) | refine TL_assign (hk := ?_) | refine TL_load TE (hk := ?_) | refine TL_fieldAddr TE (hk := ?_) | refine TL_len TE (hk := ?_) | refine TL_nilCheck (hk := ?_))
    refine TL_nil_q ?_; intro w1 e1
    refine T_ret1 rfl rfl ⟨?_, e1⟩
    show Value.int .i64 ((n : Int) - (s.pos : Int)) = _
    rw [show ((n - s.pos : Nat) : Int) = (n : Int) - (s.pos : Int) by omega]
  · have hs : s.rest = 0 := by unfold RS.rest; rw [if_neg he]
    rw [hs]
    repeat (first | refine T_seq ?_ | refine T_region ?_ | refine T_cond_true rfl ?_ | refine TL_ne_t (hk := ?_) | refine TL_nil ?_ | refine TL_move (hk := ?_) | refine TL_assign (hk := ?_) | refine TL_load TE (hk := ?_) | refine TL_fieldAddr TE (hk := ?_) | refine TL_nilCheck (hk := ?_))
    exact T_ret1 rfl rfl ⟨rfl, Mod.refl _ _⟩
end Go.Proofs.YtjlaomcankmdjaaGreat

namespace Go.Proofs.YtjlaomcankmdjaaGreat
open Go.RowKit Go.Proofs.Eng Go.Proofs.Codec
set_option linter.unusedVariables false set_option maxRecDepth 10000
attribute [local irreducible] T TL LV TH TA
set_option maxHeartbeats 1000000
def readS (K m e : Int) (s : RS) : RS :=
  if K = 1 then (s.take (0 : Nat) tByte).2 else if K = 2 then (s.take (0 : Nat) num0).2 else if K = 3 then (s.take (0 : Int) tInt).2 else if K = 4 then (s.take (0 : Nat) (tLim m 6)).2
  else if K = 5 then (s.take ([] : List UInt8) (tText m)).2 else if K = 6 then s.fail e else if K = 7 then s.fin else s
end Go.Proofs.YtjlaomcankmdjaaGreat

namespace Go.Proofs.YtjlaomcankmdjaaGreat
open Go.RowKit Go.Proofs.Eng Go.Proofs.Codec
set_option linter.unusedVariables false set_option maxRecDepth 10000
attribute [local irreducible] T TL LV TH TA
set_option maxHeartbeats 3000000
theorem Off.nb {A C : Option Addr} {x y : Nat} (hA : Lo A x) (hC : Hi C x) : Off C (blkL A) := fun ad e hm => by
  cases A with
  | none => simp [Eng.blkL] at hm
  | some a => simp [Eng.blkL] at hm; have := hA a rfl; have := hC ad e; omega
def tyRead : Ty := .struct (.cons (.int .i64) (.cons (.int .i64) (.cons (.int .i64) .unit)))
end Go.Proofs.YtjlaomcankmdjaaGreat

namespace Go.Proofs.YtjlaomcankmdjaaGreat
open Go.RowKit Go.Proofs.Eng Go.Proofs.Codec
set_option linter.unusedVariables false set_option maxRecDepth 10000
attribute [local irreducible] T TL LV TH TA
set_option maxHeartbeats 2000000
end Go.Proofs.YtjlaomcankmdjaaGreat

namespace Go.Proofs.YtjlaomcankmdjaaGreat
open Go.RowKit Go.Proofs.Eng Go.Proofs.Codec
set_option linter.unusedVariables false set_option maxRecDepth 10000
attribute [local irreducible] T TL LV TH TA
set_option maxHeartbeats 2000000
theorem ROpen_c (A : Option Addr) (n c : Nat) (l : List UInt8) (w : World) (h : Rd w A n 1 (bv l)) (hn : n ≤ 7036874417) (hc : n ≤ c) :
    Ret Tryz.prog 55 [.slice A n c] w (fun v w' => ∃ A' n' c', v = .tuple #[.slice A' n' c', .int .i64 ((openF l).2.1 : Nat), .int .i64 (openF l).2.2] ∧ Ext w w' ∧ Own w' w.heap.size 5 1 A' n' c' (bv (openF l).1)) := by
  have hlen : l.length = n := by simpa using h.1
  have h4 := le4_lt l
  by_cases g0 : n < 4
  · have eo : openF l = ([], 0, 3) := by unfold openF; rw [if_pos (by omega)]
    rw [eo]
    refine ret_T (n := 38) Tryz.func55 rfl rfl ?_
    repeat (first | refine T_seq ?_ | refine T_region ?_ | refine T_cond_true rfl ?_ | refine TL_lt_t (hk := ?_) | refine TL_nil ?_ | refine TL_move (hk := ?_) | refine TL_assign (hk := ?_) | refine TL_len TE (hk := ?_))
    exact T_ret3 rfl rfl rfl rfl ⟨none, 0, 0, rfl, Mod.refl _ _, Own.nil _ _ _ _⟩
  by_cases g1 : 65536 < le4 l
  · have eo : openF l = ([], 0, 1) := by unfold openF; rw [if_neg (by omega), if_pos g1]
    rw [eo]
    refine ret_T (n := 38) Tryz.func55 rfl rfl ?_
    repeat (first | refine T_seq ?_ | refine T_region ?_ | refine T_cond_false rfl ?_ | refine T_skip ?_ | refine TL_lt_f (hk := ?_) | refine TL_nil ?_ | refine TL_move (hk := ?_) | refine TL_assign (hk := ?_) | refine TL_len TE (hk := ?_))
    refine TL_call TE (hc := rof_c A n c l w h (by omega)) (hk := ?_)
    rintro _ w1 ⟨rfl, e1⟩
    repeat (first | refine T_seq ?_ | refine T_region ?_ | refine T_cond_true rfl ?_ | refine TL_gt_t (hk := ?_) | refine TL_nil ?_ | refine TL_move (hk := ?_) | refine TL_assign (hk := ?_))
    exact T_ret3 rfl rfl rfl rfl ⟨none, 0, 0, rfl, e1, Own.nil _ _ _ _⟩
  by_cases g2 : n < le4 l + 8
  · have eo : openF l = ([], 0, 3) := by unfold openF; rw [if_neg (by omega), if_neg g1, if_pos (by omega)]
    rw [eo]
    refine ret_T (n := 38) Tryz.func55 rfl rfl ?_
    repeat (first | refine T_seq ?_ | refine T_region ?_ | refine T_cond_false rfl ?_ | refine T_skip ?_ | refine TL_lt_f (hk := ?_) | refine TL_nil ?_ | refine TL_move (hk := ?_) | refine TL_assign (hk := ?_) | refine TL_len TE (hk := ?_))
    refine TL_call TE (hc := rof_c A n c l w h (by omega)) (hk := ?_)
    rintro _ w1 ⟨rfl, e1⟩
    repeat (first | refine T_seq ?_ | refine T_region ?_ | refine T_cond_true rfl ?_ | refine T_cond_false rfl ?_ | refine T_skip ?_ | refine TL_add (hk := ?_) | refine TL_lt_t (hk := ?_) | refine TL_gt_f (hk := ?_) | refine TL_nil ?_ | refine TL_move (hk := ?_) | refine TL_assign (hk := ?_) | refine TL_len TE (hk := ?_) | refine TL_conv TE (hk := ?_))
    exact T_ret3 rfl rfl rfl rfl ⟨none, 0, 0, rfl, e1, Own.nil _ _ _ _⟩
  have hcl := crc_lt (l.take (le4 l + 4))
  have hdl := le4_lt (l.drop (le4 l + 4))
  have eo : openF l = if crc (l.take (le4 l + 4)) = le4 (l.drop (le4 l + 4)) then ((l.drop 4).take (le4 l), le4 l + 8, 0) else ([], 0, 12) := by
    unfold openF; rw [if_neg (by omega), if_neg g1, if_neg (by omega)]
  generalize hk : le4 l = k at h4 g1 g2 hcl hdl eo
  have ek : (4 + (k : Int)).toNat = k + 4 := by omega
  have ra : ∀ w', Ext w w' → Rd w' A (k + 4) 1 (bv (l.take (k + 4))) := fun w' e => by
    have := (h.ext e).take (h := k + 4) (by omega)
    simpa [bv] using this
  have rb : ∀ w', Ext w w' → Rd w' (cutA A c (k + 4) 1) (n - (k + 4)) 1 (bv (l.drop (k + 4))) := fun w' e => by
    have := (h.ext e).cut (c := c) (l := k + 4) (h := n) (by omega) (by omega) (by omega)
    have e9 : ((bv l).drop ((k + 4) * 1)).take ((n - (k + 4)) * 1) = bv (l.drop (k + 4)) := by
      rw [List.take_of_length_le (by simp; omega)]; simp [bv]
    rwa [e9] at this
  have rc : ∀ w', Ext w w' → Rd w' (cutA A c 4 1) (k + 4 - 4) 1 (bv ((l.drop 4).take k)) := fun w' e => by
    have := (h.ext e).cut (c := c) (l := 4) (h := k + 4) (by omega) (by omega) (by omega)
    have e9 : ((bv l).drop (4 * 1)).take ((k + 4 - 4) * 1) = bv ((l.drop 4).take k) := by
      rw [show (k + 4 - 4) * 1 = k from by omega]; simp [bv]
    rwa [e9] at this
  by_cases hs : crc (l.take (k + 4)) = le4 (l.drop (k + 4))
  all_goals
    first | rw [if_pos hs] at eo | rw [if_neg hs] at eo
    rw [eo]
    refine ret_T (n := 38) Tryz.func55 rfl rfl ?_
    repeat (first | refine T_seq ?_ | refine T_region ?_ | refine T_cond_false rfl ?_ | refine T_skip ?_ | refine TL_lt_f (hk := ?_) | refine TL_nil ?_ | refine TL_move (hk := ?_) | refine TL_assign (hk := ?_) | refine TL_len TE (hk := ?_))
    refine TL_call TE (hc := rof_c A n c l w h (by omega)) (hk := ?_)
    rintro _ w1 ⟨rfl, e1⟩
    rw [hk]
    repeat (first | refine T_seq ?_ | refine T_region ?_ | refine T_region_q TE.mixed (by kernel_rfl) ?_ | refine T_cond_false rfl ?_ | refine T_skip ?_ | refine TL_add (hk := ?_) | refine TL_lt_f (hk := ?_) | refine TL_gt_f (hk := ?_) | refine TL_nil ?_ | refine TL_move (hk := ?_) | refine TL_assign (hk := ?_) | refine TL_len TE (hk := ?_) | refine TL_slice_hi TE (hk := ?_) | refine TL_conv TE (hk := ?_))
    rw [ek]
    refine TL_call_q TE rfl rfl rfl ((fun w' e' => (RSum_c A (k + 4) c _ w' (ra w' (e1.ext e')) (by omega)).mono fun v w'' ⟨a, b⟩ => ⟨a, b ▸ Mod.refl _ _⟩)) ?_
    repeat (first | refine TL_move (hk := ?_) | refine TL_slice_lo TE (hk := ?_))
    rw [ek]
    refine TL_call_q TE rfl rfl rfl ((fun w' e' => rof_c (cutA A c (k + 4) 1) (n - (k + 4)) (c - (k + 4)) _ w' (rb w' (e1.ext e')) (by omega))) ?_
    repeat (first | refine TL_ne_t (hk := ?_) | refine TL_ne_f (hk := ?_))
    refine TL_nil_q ?_; intro w2 e2
    repeat (first | refine T_seq ?_ | refine T_region ?_ | refine T_cond_true rfl ?_ | refine T_cond_false rfl ?_ | refine T_skip ?_ | refine TL_nil ?_ | refine TL_assign (hk := ?_))
  · refine TL_buildSlice TE (hk := ?_); intro b3 w3 e3 h3 h3' k3
    have o3 : Own w3 w2.heap.size 5 1 (some ⟨b3, 0, none⟩) 0 0 [] := Own.of_blk k3 h3 rfl (by decide)
    have rc3 := rc w3 ((e1.ext e2).ext e3)
    have z3 := e3.size
    repeat (first | refine TL_move (hk := ?_) | refine TL_slice_lh TE (hk := ?_))
    rw [ek]
    refine TL_append TE (hk := ?_); intro A4 c4 w4 o4 m4 n4
    have e4 : Ext w2 w4 := e3.own m4 o3.hi
    repeat (first | refine TL_add (hk := ?_) | refine TL_nil ?_ | refine TL_move (hk := ?_) | refine TL_assign (hk := ?_))
    refine T_ret3 rfl rfl rfl rfl ⟨A4, 0 + (k + 4 - 4), c4, ?_, (e1.ext e2).ext e4, ?_⟩
    · simp only
      rw [show ((k + 8 : Nat) : Int) = 4 + (k : Int) + 4 by omega]
      rfl
    · have z1 := e1.size
      have z2 := e2.size
      exact Own.weaken (by simpa using o4) (by omega)
  · exact T_ret3 rfl rfl rfl rfl ⟨none, 0, 0, rfl, e1.ext e2, Own.nil _ _ _ _⟩
def framesF : Nat → List UInt8 → List (List UInt8) × Nat × Int
  | 0, _ => ([], 0, 0)
  | f + 1, l => if l.length = 0 then ([], 0, 0) else if (openF l).2.2 = 0 then ((openF l).1 :: (framesF f (l.drop (openF l).2.1)).1, (openF l).2.1 + (framesF f (l.drop (openF l).2.1)).2.1, (framesF f (l.drop (openF l).2.1)).2.2) else ([], 0, (openF l).2.2)
def frames (l : List UInt8) : List (List UInt8) × Nat × Int := framesF l.length l
theorem openF_ok {l : List UInt8} (h : (openF l).2.2 = 0) : 8 ≤ (openF l).2.1 ∧ (openF l).2.1 ≤ l.length := by
  unfold openF at h ⊢
  split
  · rename_i g; rw [if_pos g] at h; simp at h
  · rename_i g
    rw [if_neg g] at h
    split
    · rename_i g; rw [if_pos g] at h; simp at h
    · rename_i g
      rw [if_neg g] at h
      split
      · rename_i g; rw [if_pos g] at h; simp at h
      · rename_i g
        rw [if_neg g] at h
        split
        · simp only; omega
        · rename_i g; rw [if_neg g] at h; simp at h
def Loads (w : World) : Nat → Nat → List Value → List (List UInt8) → Prop
  | b, e, [], [] => b ≤ e
  | b, e, x :: t, p :: ps => ∃ A n c b', x = .slice A n c ∧ Own w b 5 1 A n c (bv p) ∧ Lo A b' ∧ b ≤ b' ∧ Loads w b' e t ps
  | _, _, _, _ => False
theorem Loads.mod {w w' : World} {S : List Nat} (hm : Mod S w w') : ∀ {xs : List Value} {ps : List (List UInt8)} {b e : Nat}, Loads w b e xs ps → (∀ x ∈ S, x < b ∨ e ≤ x) → Loads w' b e xs ps
  | [], [], _, _, h, _ => h
  | [], _ :: _, _, _, h, _ => h.elim
  | _ :: _, [], _, _, h, _ => h.elim
  | x :: t, p :: ps, b, e, h, hS => by
    obtain ⟨A, n, c, b', hx, ho, hlo, hb, ht⟩ := h
    have he : b' ≤ e := by
      clear ho hlo hS hx
      induction t generalizing b' ps with
      | nil => cases ps with
        | nil => exact ht
        | cons => exact ht.elim
      | cons y t ih => cases ps with
        | nil => exact ht.elim
        | cons q ps =>
          obtain ⟨_, _, _, b2, _, _, _, h2, h3⟩ := ht
          have := ih ps b2 (by omega) h3
          omega
    refine ⟨A, n, c, b', hx, ho.mod hm ?_, hlo, hb, Loads.mod hm ht (fun x hx => by have := hS x hx; omega)⟩
    intro ad ea hx
    have h1 := ho.hi ad ea
    have h2 := hlo ad ea
    have := hS _ hx
    omega
theorem Loads.modP {w w' : World} {S : List Nat} (hm : Mod S w w') : ∀ {xs : List Value} {ps : List (List UInt8)} {b e : Nat}, Loads w b e xs ps → (∀ {b : Nat} {A : Option Addr} {n c : Nat} {p : List UInt8}, Own w b 5 1 A n c (bv p) → Off A S) → Loads w' b e xs ps
  | [], [], _, _, h, _ => h
  | [], _ :: _, _, _, h, _ => h.elim
  | _ :: _, [], _, _, h, _ => h.elim
  | x :: t, p :: ps, b, e, h, hS => by
    obtain ⟨A, n, c, b', hx, ho, hlo, hb, ht⟩ := h
    exact ⟨A, n, c, b', hx, ho.mod hm (hS ho), hlo, hb, Loads.modP hm ht hS⟩
theorem Loads.up {w : World} : ∀ {xs : List Value} {ps : List (List UInt8)} {b e e' : Nat}, Loads w b e xs ps → e ≤ e' → Loads w b e' xs ps
  | [], [], _, _, _, h, he => Nat.le_trans h he
  | [], _ :: _, _, _, _, h, _ => h.elim
  | _ :: _, [], _, _, _, h, _ => h.elim
  | x :: t, p :: ps, b, e, e', h, he => by
    obtain ⟨A, n, c, b', hx, ho, hlo, hb, ht⟩ := h
    exact ⟨A, n, c, b', hx, ho, hlo, hb, Loads.up ht he⟩
theorem Loads.ext {w w' : World} (hm : Ext w w') {xs : List Value} {ps : List (List UInt8)} {b e : Nat} (h : Loads w b e xs ps) : Loads w' b e xs ps := h.mod hm (fun _ hx => by cases hx)
theorem Loads.snoc {w : World} {A : Option Addr} {n c : Nat} {p : List UInt8} {e' : Nat} : ∀ {xs : List Value} {ps : List (List UInt8)} {b e : Nat}, Loads w b e xs ps → Own w e 5 1 A n c (bv p) → Lo A e' → e ≤ e' → Loads w b e' (xs ++ [.slice A n c]) (ps ++ [p])
  | [], [], b, e, h, ho, hlo, he => ⟨A, n, c, e', rfl, ho.weaken h, hlo, Nat.le_trans h he, Nat.le_refl _⟩
  | [], _ :: _, _, _, h, _, _, _ => h.elim
  | _ :: _, [], _, _, h, _, _, _ => h.elim
  | x :: t, q :: ps, b, e, h, ho, hlo, he => by
    obtain ⟨B, m, d, b', hx, h1, h2, h3, ht⟩ := h
    exact ⟨B, m, d, b', hx, h1, h2, h3, Loads.snoc ht ho hlo he⟩
theorem Loads.len {w : World} : ∀ {xs : List Value} {ps : List (List UInt8)} {b e : Nat}, Loads w b e xs ps → xs.length = ps.length
  | [], [], _, _, _ => rfl
  | [], _ :: _, _, _, h => h.elim
  | _ :: _, [], _, _, h => h.elim
  | x :: t, q :: ps, b, e, h => by
    obtain ⟨B, m, d, b', hx, h1, h2, h3, ht⟩ := h
    simp [Loads.len ht]
theorem Own.ne_type {w : World} {base base' : Nat} {e e' : TypeId} {s s' : Nat} {A C : Option Addr} {n c m d : Nat} {xs ys : List Value} (h : Own w base e s A n c xs) (g : Own w base' e' s' C m d ys) (hne : e ≠ e') : Off A (blkL C) := fun ad ea hx => by
  rcases h.2 with ⟨hv, _⟩ | ⟨b, _, cur, hv, _, hh, _⟩
  · cases hv; cases ea
  · cases hv; cases ea
    rcases g.2 with ⟨gv, _⟩ | ⟨b', _, cur', gv, _, gh, _⟩
    · cases gv; simp [blkL] at hx
    · cases gv
      simp [blkL] at hx
      subst hx
      rw [hh] at gh
      simp at gh
      exact hne gh.2
theorem Frames_c (A : Option Addr) (n c : Nat) (l : List UInt8) (w : World) (h : Rd w A n 1 (bv l)) (hn : n ≤ 7036874417) (hc : n ≤ c) :
    Ret Tryz.prog 49 [.slice A n c] w (fun v w' => ∃ A' m' c' xs, v = .tuple #[.slice A' m' c', .int .i64 ((frames l).2.1 : Nat), .int .i64 (frames l).2.2] ∧ Ext w w' ∧ Own w' w.heap.size 25 1 A' m' c' xs ∧ Loads w' w.heap.size w'.heap.size xs (frames l).1) := by
  have hlen : l.length = n := by simpa using h.1
  generalize hR : frames l = R
  refine ret_T (n := 36) Tryz.func49 rfl rfl ?_
  repeat (first | refine T_seq ?_ | refine T_region ?_ | refine T_block ?_ | refine TL_nil ?_ | refine TL_assign (hk := ?_))
  refine T_loop (ι := (Option Addr × Nat × Nat) × List Value × List (List UInt8) × Nat × Nat) (fun i => [(6, .int .i64 (i.2.2.2.1 : Int)), (5, .slice i.1.1 i.1.2.1 i.1.2.2), (0, .slice A n c)])
    (fun i w' => i.2.2.2.1 ≤ n ∧ n - i.2.2.2.1 ≤ i.2.2.2.2 ∧ i.1.2.1 ≤ i.2.2.2.1 ∧ Ext w w' ∧ Own w' w.heap.size 25 1 i.1.1 i.1.2.1 i.1.2.2 i.2.1 ∧ Loads w' w.heap.size w'.heap.size i.2.1 i.2.2.1 ∧
      i.2.2.1 ++ (framesF i.2.2.2.2 (l.drop i.2.2.2.1)).1 = R.1 ∧ i.2.2.2.1 + (framesF i.2.2.2.2 (l.drop i.2.2.2.1)).2.1 = R.2.1 ∧ (framesF i.2.2.2.2 (l.drop i.2.2.2.1)).2.2 = R.2.2) (fun i => n - i.2.2.2.1) ((none, 0, 0), [], [], 0, n) (.c rfl (.c rfl (.c rfl (.n))))
    ⟨by simp, by simp, by simp, Mod.refl _ _, Own.nil _ _ _ _, Nat.le_refl _, by rw [← hR]; simp [frames, hlen], by rw [← hR]; simp [frames, hlen], by rw [← hR]; simp [frames, hlen]⟩ ?_
  rintro ⟨⟨A1, m1, c1⟩, xs, ps, at_, f⟩ w1 ⟨hat, hf, hm1, e1, o1, L1, r1, r2, r3⟩ ih
  simp only at hat hf hm1 e1 o1 L1 r1 r2 r3 ih ⊢
  have z1 := e1.size
  by_cases hlt : at_ < n
  · obtain ⟨g, rfl⟩ : ∃ g, f = g + 1 := ⟨f - 1, by omega⟩
    have hdl : (l.drop at_).length = n - at_ := by rw [List.length_drop, hlen]
    rw [framesF, if_neg (by omega)] at r1 r2 r3
    repeat (first | refine T_seq ?_ | refine T_region ?_ | refine T_cond_true rfl ?_ | refine T_block ?_ | refine T_skip ?_ | refine TL_lt_t (hk := ?_) | refine TL_nil ?_ | refine TL_move (hk := ?_) | refine TL_len TE (hk := ?_) | refine TL_slice_lo TE (hk := ?_))
    refine TL_call TE (hc := Open_c (cutA A c at_ 1) (n - at_) (c - at_) (l.drop at_) w1 (Rd.tail1 (h.ext e1) hat hc) (by omega) (by omega)) (hk := ?_)
    rintro _ w2 ⟨A2, n2, c2, rfl, e2, o2⟩
    have z2 := e2.size
    by_cases he : (openF (l.drop at_)).2.2 = 0
    · have ho := openF_ok he
      rw [if_pos he] at r1 r2 r3
      simp only at r1 r2 r3
      repeat (first | refine T_seq ?_ | refine T_region ?_ | refine T_cond_false rfl ?_ | refine T_skip ?_ | refine TL_ne_f (hk := ?_) | refine TL_nil ?_ | refine TL_move (hk := ?_) | refine TL_assign (hk := ?_) | refine TL_extract (hk := ?_))
      refine TL_buildSlice TE (hk := ?_); intro b3 w3 e3 h3 h3' k3
      have z3 := e3.size
      refine TL_append TE (hk := ?_); intro A4 c4 w4 o4 m4 n4
      have e04 : Ext w w4 := ((e1.ext e2).ext e3).own m4 o1.hi
      have z4 := m4.size
      have o23 := o2.ext e3
      have o24 : Own w4 w1.heap.size 5 1 A2 n2 c2 (bv (openF (l.drop at_)).1) := o23.mod m4 (Own.ne_type o23 (o1.ext (e2.ext e3)) (by decide))
      have L4 : Loads w4 w.heap.size w1.heap.size xs ps := by
        have L3 := L1.ext (e2.ext e3)
        exact L3.modP m4 (fun ho => Own.ne_type ho (o1.ext (e2.ext e3)) (by decide))
      repeat (first | refine T_region ?_ | refine T_inBlock ?_ | refine TL_add (hk := ?_) | refine TL_nil ?_ | refine TL_move (hk := ?_) | refine TL_assign (hk := ?_))
      refine ih ((A4, m1 + 1, c4), _, ps ++ [(openF (l.drop at_)).1], at_ + (openF (l.drop at_)).2.1, g) w4 _ (by simp only; omega) ⟨by simp only; omega, by simp only; omega, by simp only; omega, e04, o4, L4.snoc o24 (o2.lo.mono (by omega)) (by omega), ?_, ?_, ?_⟩ (.c rfl (.c rfl (.c rfl (.n))))
      · simp only [← List.drop_drop, List.append_assoc, List.singleton_append]
        exact r1
      · simp only [← List.drop_drop]
        omega
      · simp only [← List.drop_drop]
        exact r3
    · rw [if_neg he] at r1 r2 r3
      simp only [List.append_nil, Nat.add_zero] at r1 r2 r3
      repeat (first | refine T_seq ?_ | refine T_region ?_ | refine T_cond_true rfl ?_ | refine TL_ne_t (hk := ?_) | refine TL_nil ?_ | refine TL_move (hk := ?_) | refine TL_assign (hk := ?_) | refine TL_extract (hk := ?_))
      refine T_ret3 rfl rfl rfl rfl ⟨A1, m1, c1, xs, ?_, e1.ext e2, o1.ext e2, ?_⟩
      · rw [← r2, ← r3]
      · rw [← r1]
        exact (L1.ext e2).up (by omega)
  · have r0 : framesF f (l.drop at_) = ([], 0, 0) := by
      cases f with
      | zero => rfl
      | succ g => rw [framesF, if_pos (by simp; omega)]
    rw [r0] at r1 r2 r3
    simp only [List.append_nil, Nat.add_zero] at r1 r2 r3
    repeat (first | refine T_seq ?_ | refine T_region ?_ | refine T_cond_false rfl ?_ | refine T_exit rfl ?_ | refine TL_lt_f (hk := ?_) | refine TL_nil ?_ | refine TL_move (hk := ?_) | refine TL_assign (hk := ?_) | refine TL_len TE (hk := ?_))
    refine T_ret3 rfl rfl rfl rfl ⟨A1, m1, c1, xs, ?_, e1, o1, ?_⟩
    · rw [← r2, ← r3]
    · rw [← r1]; exact L1
theorem RFrames_c (A : Option Addr) (n c : Nat) (l : List UInt8) (w : World) (h : Rd w A n 1 (bv l)) (hn : n ≤ 7036874417) (hc : n ≤ c) :
    Ret Tryz.prog 15 [.slice A n c] w (fun v w' => ∃ A' m' c' xs, v = .tuple #[.slice A' m' c', .int .i64 ((frames l).2.1 : Nat), .int .i64 (frames l).2.2] ∧ Ext w w' ∧ Own w' w.heap.size 25 1 A' m' c' xs ∧ Loads w' w.heap.size w'.heap.size xs (frames l).1) := by
  have hlen : l.length = n := by simpa using h.1
  generalize hR : frames l = R
  refine ret_T (n := 36) Tryz.func15 rfl rfl ?_
  repeat (first | refine T_seq ?_ | refine T_region ?_ | refine T_block ?_ | refine TL_nil ?_ | refine TL_assign (hk := ?_))
  refine T_loop (ι := (Option Addr × Nat × Nat) × List Value × List (List UInt8) × Nat × Nat) (fun i => [(6, .int .i64 (i.2.2.2.1 : Int)), (5, .slice i.1.1 i.1.2.1 i.1.2.2), (0, .slice A n c)])
    (fun i w' => i.2.2.2.1 ≤ n ∧ n - i.2.2.2.1 ≤ i.2.2.2.2 ∧ i.1.2.1 ≤ i.2.2.2.1 ∧ Ext w w' ∧ Own w' w.heap.size 25 1 i.1.1 i.1.2.1 i.1.2.2 i.2.1 ∧ Loads w' w.heap.size w'.heap.size i.2.1 i.2.2.1 ∧
      i.2.2.1 ++ (framesF i.2.2.2.2 (l.drop i.2.2.2.1)).1 = R.1 ∧ i.2.2.2.1 + (framesF i.2.2.2.2 (l.drop i.2.2.2.1)).2.1 = R.2.1 ∧ (framesF i.2.2.2.2 (l.drop i.2.2.2.1)).2.2 = R.2.2) (fun i => n - i.2.2.2.1) ((none, 0, 0), [], [], 0, n) (.c rfl (.c rfl (.c rfl (.n))))
    ⟨by simp, by simp, by simp, Mod.refl _ _, Own.nil _ _ _ _, Nat.le_refl _, by rw [← hR]; simp [frames, hlen], by rw [← hR]; simp [frames, hlen], by rw [← hR]; simp [frames, hlen]⟩ ?_
  rintro ⟨⟨A1, m1, c1⟩, xs, ps, at_, f⟩ w1 ⟨hat, hf, hm1, e1, o1, L1, r1, r2, r3⟩ ih
  simp only at hat hf hm1 e1 o1 L1 r1 r2 r3 ih ⊢
  have z1 := e1.size
  by_cases hlt : at_ < n
  · obtain ⟨g, rfl⟩ : ∃ g, f = g + 1 := ⟨f - 1, by omega⟩
    have hdl : (l.drop at_).length = n - at_ := by rw [List.length_drop, hlen]
    rw [framesF, if_neg (by omega)] at r1 r2 r3
    repeat (first | refine T_seq ?_ | refine T_region ?_ | refine T_cond_true rfl ?_ | refine T_block ?_ | refine T_skip ?_ | refine TL_lt_t (hk := ?_) | refine TL_nil ?_ | refine TL_move (hk := ?_) | refine TL_len TE (hk := ?_) | refine TL_slice_lo TE (hk := ?_))
    refine TL_call TE (hc := ROpen_c (cutA A c at_ 1) (n - at_) (c - at_) (l.drop at_) w1 (Rd.tail1 (h.ext e1) hat hc) (by omega) (by omega)) (hk := ?_)
    rintro _ w2 ⟨A2, n2, c2, rfl, e2, o2⟩
    have z2 := e2.size
    by_cases he : (openF (l.drop at_)).2.2 = 0
    · have ho := openF_ok he
      rw [if_pos he] at r1 r2 r3
      simp only at r1 r2 r3
      repeat (first | refine T_seq ?_ | refine T_region ?_ | refine T_cond_false rfl ?_ | refine T_skip ?_ | refine TL_ne_f (hk := ?_) | refine TL_nil ?_ | refine TL_move (hk := ?_) | refine TL_assign (hk := ?_) | refine TL_extract (hk := ?_))
      refine TL_buildSlice TE (hk := ?_); intro b3 w3 e3 h3 h3' k3
      have z3 := e3.size
      refine TL_append TE (hk := ?_); intro A4 c4 w4 o4 m4 n4
      have e04 : Ext w w4 := ((e1.ext e2).ext e3).own m4 o1.hi
      have z4 := m4.size
      have o23 := o2.ext e3
      have o24 : Own w4 w1.heap.size 5 1 A2 n2 c2 (bv (openF (l.drop at_)).1) := o23.mod m4 (Own.ne_type o23 (o1.ext (e2.ext e3)) (by decide))
      have L4 : Loads w4 w.heap.size w1.heap.size xs ps := by
        have L3 := L1.ext (e2.ext e3)
        exact L3.modP m4 (fun ho => Own.ne_type ho (o1.ext (e2.ext e3)) (by decide))
      repeat (first | refine T_region ?_ | refine T_inBlock ?_ | refine TL_add (hk := ?_) | refine TL_nil ?_ | refine TL_move (hk := ?_) | refine TL_assign (hk := ?_))
      refine ih ((A4, m1 + 1, c4), _, ps ++ [(openF (l.drop at_)).1], at_ + (openF (l.drop at_)).2.1, g) w4 _ (by simp only; omega) ⟨by simp only; omega, by simp only; omega, by simp only; omega, e04, o4, L4.snoc o24 (o2.lo.mono (by omega)) (by omega), ?_, ?_, ?_⟩ (.c rfl (.c rfl (.c rfl (.n))))
      · simp only [← List.drop_drop, List.append_assoc, List.singleton_append]
        exact r1
      · simp only [← List.drop_drop]
        omega
      · simp only [← List.drop_drop]
        exact r3
    · rw [if_neg he] at r1 r2 r3
      simp only [List.append_nil, Nat.add_zero] at r1 r2 r3
      repeat (first | refine T_seq ?_ | refine T_region ?_ | refine T_cond_true rfl ?_ | refine TL_ne_t (hk := ?_) | refine TL_nil ?_ | refine TL_move (hk := ?_) | refine TL_assign (hk := ?_) | refine TL_extract (hk := ?_))
      refine T_ret3 rfl rfl rfl rfl ⟨A1, m1, c1, xs, ?_, e1.ext e2, o1.ext e2, ?_⟩
      · rw [← r2, ← r3]
      · rw [← r1]
        exact (L1.ext e2).up (by omega)
  · have r0 : framesF f (l.drop at_) = ([], 0, 0) := by
      cases f with
      | zero => rfl
      | succ g => rw [framesF, if_pos (by simp; omega)]
    rw [r0] at r1 r2 r3
    simp only [List.append_nil, Nat.add_zero] at r1 r2 r3
    repeat (first | refine T_seq ?_ | refine T_region ?_ | refine T_cond_false rfl ?_ | refine T_exit rfl ?_ | refine TL_lt_f (hk := ?_) | refine TL_nil ?_ | refine TL_move (hk := ?_) | refine TL_assign (hk := ?_) | refine TL_len TE (hk := ?_))
    refine T_ret3 rfl rfl rfl rfl ⟨A1, m1, c1, xs, ?_, e1, o1, ?_⟩
    · rw [← r2, ← r3]
    · rw [← r1]; exact L1
end Go.Proofs.YtjlaomcankmdjaaGreat

namespace Go.Proofs.YtjlaomcankmdjaaGreat
open Go.RowKit Go.Proofs.Eng Go.Proofs.Codec Go.Proofs.Foot Go.Proofs.Journal
structure SC where
  log : LE
  op : List PE
  ep : Int
  last : Int
def sc0 : SC := ⟨⟨[], 0⟩, [], 0, 0⟩
def scE (s : SC) (b : List UInt8) : Option SC :=
  match getEn b with
  | none => none
  | some e => if e.sq ≠ ((s.log.l.length + s.op.length : Nat) : Int) ∨ 65536 ≤ s.log.l.length + s.op.length ∨ e.ep < s.last ∨ (0 < s.op.length ∧ e.ep ≠ s.ep) then none else some { s with op := s.op ++ [e.p], ep := e.ep }
def scN (s : SC) (b : List UInt8) : Option SC :=
  if (ge1 b).2.fin.err ≠ 0 ∨ 9223372036854775808 ≤ (ge1 b).1 ∨ ((ge1 b).1 : Int) < s.last ∨ (0 < s.op.length ∧ ((ge1 b).1 : Int) ≠ s.ep) then none
  else if (appL s.log ((ge1 b).1 : Int) s.op).2.2.1 ≠ 0 then none else some ⟨(appL s.log ((ge1 b).1 : Int) s.op).1, [], s.ep, ((ge1 b).1 : Int)⟩
def scR (s : SC) : List UInt8 → Option SC
  | [] => none
  | c :: t => if c.toNat = 1 then scE s t else if c.toNat = 2 then scN s t else none
def scanF : List (List UInt8) → SC → Nat → Nat → Option (SC × Nat)
  | [], s, _, wh => some (s, wh)
  | p :: ps, s, at_, wh => match scR s p with
    | none => none
    | some s' => scanF ps s' (at_ + (p.length + 8)) (if gb p 0 = 2 then at_ + (p.length + 8) else wh)
def open3 (k : DK) (s : SC) (wh : Nat) : Option LE × Nat × DK :=
  if (if safeD k < wh then opD k synD else (k, 0)).2 ≠ 0 then (none, (if safeD k < wh then opD k synD else (k, 0)).2, (if safeD k < wh then opD k synD else (k, 0)).1) else (some s.log, 0, (if safeD k < wh then opD k synD else (k, 0)).1)
def open2 (k : DK) (s : SC) (wh : Nat) : Option LE × Nat × DK :=
  if (if wh < k.b.length then opD k (cutD (wh : Int)) else (k, 0)).2 ≠ 0 then (none, (if wh < k.b.length then opD k (cutD (wh : Int)) else (k, 0)).2, (if wh < k.b.length then opD k (cutD (wh : Int)) else (k, 0)).1)
  else open3 (if wh < k.b.length then opD k (cutD (wh : Int)) else (k, 0)).1 s wh
def openJ (k : DK) : Option LE × Nat × DK :=
  if k.off = true then (none, 230, k) else if (frames k.b).2.2 ≠ 0 ∧ (frames k.b).2.2 ≠ 3 then (none, 231, k) else
  match scanF (frames k.b).1 sc0 0 0 with
  | none => (none, 231, k)
  | some r => open2 k r.1 r.2
def kindF (c : Nat) (b : List UInt8) : List UInt8 := frame (UInt8.ofNat c :: b)
def epF (ep : Int) (l : List EE) : List UInt8 := (l.map fun e => kindF 1 (putEn [] e).1).flatten ++ kindF 2 (encU ep.toNat)
def writeJ (L : LE) (k : DK) (ep : Int) (ps : List PE) : (LE × Int × Nat) × DK :=
  if (appL L ep ps).2.2.1 ≠ 0 then ((L, 0, (appL L ep ps).2.2.1), k) else
  if (opD k (appD (epF ep (fromL (appL L ep ps).1 L.l.length ps.length)))).2 ≠ 0 then ((L, 0, (opD k (appD (epF ep (fromL (appL L ep ps).1 L.l.length ps.length)))).2), (opD k (appD (epF ep (fromL (appL L ep ps).1 L.l.length ps.length)))).1)
  else (((appL L ep ps).1, (L.l.length : Int), 0), (opD k (appD (epF ep (fromL (appL L ep ps).1 L.l.length ps.length)))).1)
end Go.Proofs.YtjlaomcankmdjaaGreat

namespace Go.Proofs.YtjlaomcankmdjaaGreat
open Go.Proofs.Eng Go.Proofs.Codec Go.Proofs.Foot Go.Proofs.Journal
theorem first_none : ∀ {ps : List PE} {k : Nat}, firstP ps k = none → ∀ p ∈ ps, rightP p = 0
  | [], _, _, p, hp => by cases hp
  | q :: ps, k, h, p, hp => by
    unfold firstP at h
    by_cases c : rightP q = 0
    · rw [if_neg (fun x => x c)] at h
      rcases List.mem_cons.1 hp with rfl | hp
      · exact c
      · exact first_none h p hp
    · rw [if_pos c] at h; cases h
theorem first_some : ∀ {ps : List PE} {k e i : Nat}, firstP ps k = some (e, i) → e ≠ 0
  | [], _, _, _, h => by cases h
  | q :: ps, k, e, i, h => by
    unfold firstP at h
    by_cases c : rightP q = 0
    · rw [if_neg (fun x => x c)] at h
      exact first_some h
    · rw [if_pos c] at h; cases h; exact c
theorem app_ok {L : LE} {ep : Int} {ps : List PE} (h : (appL L ep ps).2.2.1 = 0) : L.ep ≤ ep ∧ 0 ≤ ep ∧ L.l.length + ps.length ≤ 65536 ∧ (∀ p ∈ ps, rightP p = 0) ∧ appL L ep ps = (addL L ep ps, (L.l.length : Int), 0, 0) := by
  unfold appL at h ⊢
  split at h
  · cases h
  · rename_i h1
    rw [if_neg h1]
    split at h
    · cases h
    · rename_i h2
      rw [if_neg h2]
      cases hf : firstP ps 0 with
      | some r =>
        rw [hf] at h
        exact absurd h (first_some hf)
      | none =>
        exact ⟨by omega, by omega, by omega, first_none hf, rfl⟩
theorem app_no {L : LE} {ep : Int} {ps : List PE} (h : (appL L ep ps).2.2.1 ≠ 0) : (appL L ep ps).1 = L ∧ (appL L ep ps).2.1 = 0 := by
  unfold appL at h ⊢
  split
  · exact ⟨rfl, rfl⟩
  · rename_i h1
    rw [if_neg h1] at h
    split
    · exact ⟨rfl, rfl⟩
    · rename_i h2
      rw [if_neg h2] at h
      cases hf : firstP ps 0 with
      | some r => exact ⟨rfl, rfl⟩
      | none => rw [hf] at h; exact absurd rfl h
theorem app_yes {L : LE} {ep : Int} {ps : List PE} (h1 : L.ep ≤ ep) (h2 : 0 ≤ ep) (h3 : L.l.length + ps.length ≤ 65536) (h4 : ∀ p ∈ ps, rightP p = 0) : appL L ep ps = (addL L ep ps, (L.l.length : Int), 0, 0) := by
  have hf : firstP ps 0 = none := first_no ps 0 (fun j hj => h4 _ (by rw [List.getD_eq_getElem?_getD, List.getElem?_eq_getElem hj]; exact List.getElem_mem _))
  unfold appL
  rw [if_neg (by omega), if_neg (by omega), hf]
theorem addK_run {L : LE} (hL : LOk L) {ep : Int} {ps : List PE} (h1 : L.ep ≤ ep) (h3 : ep ≤ 9223372036854775807) (h4 : ∀ p ∈ ps, rightP p = 0) (hf : ∀ p ∈ ps, PFit p) (hn : L.l.length + ps.length ≤ 65536) : ∀ i, i ≤ ps.length → Run ep 0 0 (addK L ep ps i).l
  | 0, _ => by
    have := hL.run.mono h1
    unfold addK
    simpa using this
  | i + 1, h => by
    have hi := addK_run hL h1 h3 h4 hf hn i (by omega)
    have hm : ps.getD i pe0 ∈ ps := by rw [List.getD_eq_getElem?_getD, List.getElem?_eq_getElem (by omega)]; exact List.getElem_mem _
    have hep := hL.ep
    rw [addK_succ]
    refine Run.snoc hi ?_ (fun x hx => (hi.le x hx).1) (by show 0 ≤ ep; omega) (Int.le_refl _) ⟨?_, ?_, h4 _ hm, hf _ hm⟩
    · rw [addK_len]; simp
    · constructor
      · show (0 : Int) ≤ ((L.l.length + i : Nat) : Int); omega
      · show ((L.l.length + i : Nat) : Int) ≤ _; omega
    · exact ⟨by show 0 ≤ ep; omega, h3⟩
theorem addL_ok {L : LE} (hL : LOk L) {ep : Int} {ps : List PE} (h1 : L.ep ≤ ep) (h3 : ep ≤ 9223372036854775807) (h4 : ∀ p ∈ ps, rightP p = 0) (hf : ∀ p ∈ ps, PFit p) (hn : L.l.length + ps.length ≤ 65536) : LOk (addL L ep ps) := by
  have hep := hL.ep
  refine ⟨?_, ⟨?_, h3⟩, addK_run hL h1 h3 h4 hf hn ps.length (Nat.le_refl _)⟩
  · show (addK L ep ps ps.length).l.length ≤ _
    rw [addK_len]; exact hn
  · show 0 ≤ ep; omega
theorem appL_ok {L : LE} (hL : LOk L) {ep : Int} {ps : List PE} (h3 : ep ≤ 9223372036854775807) (hf : ∀ p ∈ ps, PFit p) : LOk (appL L ep ps).1 := by
  by_cases h : (appL L ep ps).2.2.1 = 0
  · obtain ⟨a1, a2, a3, a4, a5⟩ := app_ok h
    rw [a5]
    exact addL_ok hL a1 h3 a4 hf a3
  · rw [(app_no h).1]; exact hL
end Go.Proofs.YtjlaomcankmdjaaGreat

namespace Go.Proofs.YtjlaomcankmdjaaGreat
open Go.RowKit Go.Proofs.Eng Go.Proofs.Codec Go.Proofs.Foot Go.Proofs.Journal
set_option linter.unusedVariables false set_option maxRecDepth 10000
attribute [local irreducible] T TL LV TH TA
set_option maxHeartbeats 1600000
theorem jframe_c (k : Nat) (A : Option Addr) (n c : Nat) (l : List UInt8) (w : World) (h : Rd w A n 1 (bv l)) (hk : k < 256) (hn : n ≤ 65535) :
    Ret Tryz.prog 65 [.int .u8 (k : Int), .slice A n c] w (fun v w' => ∃ A' n' c', v = .slice A' n' c' ∧ Ext w w' ∧ Own w' w.heap.size 5 1 A' n' c' (bv (kindF k l))) := by
  have hlen : l.length = n := by simpa using h.1
  have hbv : bv [UInt8.ofNat k] = [.int .u8 (k : Int)] := by
    simp only [bv, List.map_cons, List.map_nil]
    rw [ofNat_u8 hk]
  refine ret_T (n := 16) Tryz.func65 rfl rfl ?_
  repeat (first | refine T_seq ?_ | refine T_region ?_ | refine TL_nil ?_ | refine TL_move (hk := ?_) | refine TL_assign (hk := ?_))
  refine TL_buildSlice TE (hk := ?_); intro b1 w1 e1 h1 h1' k1
  have o1 : Own w1 w.heap.size 5 1 (some ⟨b1, 0, none⟩) 1 1 (bv [UInt8.ofNat k]) := by rw [hbv]; exact Own.of_blk k1 h1 rfl (by decide)
  have z1 := e1.size
  have hr1 := h.be e1
  repeat (refine TL_move (hk := ?_))
  refine TL_append TE (ho := o1) (hr := hr1) (h1 := bv_one _) (hk := ?_); intro A2 c2 w2 o2 m2 n2
  rw [← bv_append] at o2
  have e02 : Ext w w2 := e1.step m2 (fun u hu => .inr (o1.bl u hu).1)
  --
  refine TL_call TE (hc := Seal_c A2 (1 + n) c2 ([UInt8.ofNat k] ++ l) w2 o2.rd (by omega)) (hk := ?_)
  rintro _ w3 ⟨A3, c3, rfl, e3, o3⟩
  repeat (first | refine T_seq ?_ | refine T_region ?_ | refine TL_nil ?_ | refine TL_move (hk := ?_) | refine TL_assign (hk := ?_) | refine TL_extract (hk := ?_))
  exact T_ret1 rfl rfl ⟨A3, _, c3, rfl, e02.ext e3, Own.weaken o3 e02.size⟩
theorem copied_c {base lg : Nat} {sl : SL} {es : List EM} {g : Nat → Nat} {L : LE} (w : World) (D : LogM w base lg sl es g L) (hL : LOk L) :
    Ret Tryz.prog 62 [pB lg] w (fun v w' => ∃ lg' sl' es' g', v = pB lg' ∧ Ext w w' ∧ LogM w' w.heap.size lg' sl' es' g' L) := by
  refine ret_T (n := 14) Tryz.func62 rfl rfl ?_
  repeat (first | refine T_seq ?_ | refine T_region ?_ | refine TL_nil ?_ | refine TL_move (hk := ?_) | refine TL_assign (hk := ?_))
  refine TL_call TE (hc := LBytes_c w D hL.n hL.ep (fun e he => (hL.run.le e he).2)) (hk := ?_)
  rintro _ w1 ⟨A1, n1, c1, rfl, e1, o1⟩
  --
  refine TL_call TE (hc := LLoad_c L hL A1 n1 c1 w1 o1.rd) (hk := ?_)
  rintro _ w2 ⟨lg', sl', es', g', rfl, e2, D2⟩
  have z1 := e1.size
  repeat (first | refine T_seq ?_ | refine T_region ?_ | refine TL_nil ?_ | refine TL_move (hk := ?_) | refine TL_assign (hk := ?_) | refine TL_extract (hk := ?_))
  exact T_ret1 rfl rfl ⟨lg', sl', es', g', rfl, e1.ext e2, { D2 with ow := Own.weaken D2.ow z1, old := fun b hb => by have := D2.old b hb; omega }⟩
end Go.Proofs.YtjlaomcankmdjaaGreat

namespace Go.Proofs.YtjlaomcankmdjaaGreat
open Go.RowKit Go.Proofs.Eng Go.Proofs.Codec Go.Proofs.Foot Go.Proofs.Journal
set_option linter.unusedVariables false set_option maxRecDepth 10000
attribute [local irreducible] T TL LV TH TA
set_option maxHeartbeats 1600000
def Up (base : Nat) (w w' : World) : Prop := ∃ S, Eng.Mod S w w' ∧ ∀ u ∈ S, base ≤ u
theorem Up.ext {base : Nat} {w w' : World} (e : Ext w w') : Up base w w' := ⟨[], e, fun u hu => by cases hu⟩
theorem Up.trans {base : Nat} {a b c : World} (h : Up base a b) (k : Up base b c) : Up base a c := by
  obtain ⟨S, m, hS⟩ := h
  obtain ⟨S', m', hS'⟩ := k
  exact ⟨S ++ S', (m.mono (fun u hu => .inl (List.mem_append_left _ hu))).step m' (fun u hu => .inl (List.mem_append_right _ hu)), fun u hu => (List.mem_append.1 hu).elim (hS u) (hS' u)⟩
theorem Up.to {base : Nat} {w0 w w' : World} (h : Up base w w') (e : Ext w0 w) (hb : w0.heap.size ≤ base) : Ext w0 w' := by
  obtain ⟨S, m, hS⟩ := h
  exact e.step m (fun u hu => .inr (by have := hS u hu; omega))
theorem Up.size {base : Nat} {w w' : World} (h : Up base w w') : w.heap.size ≤ w'.heap.size := by obtain ⟨S, m, _⟩ := h; exact m.size
theorem pmV_one (x : PM) : ∀ u ∈ pmV x, u.oneCell' = true := by
  intro u hu
  simp only [pmV, List.mem_cons, List.not_mem_nil, or_false] at hu
  rcases hu with rfl | rfl | rfl | rfl | rfl | rfl | rfl <;> rfl
structure ScM (w : World) (base sb lg : Nat) (sl : SL) (es : List EM) (g : Nat → Nat) (y : SL) (ys : List PM) (s : SC) : Prop where
  blk : Blk w sb 109 [pB lg, sL y, .int .i64 s.ep, .int .i64 s.last]
  log : LogM w base lg sl es g s.log
  ok : LOk s.log
  ow : Own w base 45 7 y.1 y.2.1 y.2.2 (rowV pmV ys)
  ee : ys.map (·.p) = s.op
  ek : ∀ z ∈ ys, POwn w base z ∧ PFit z.p ∧ ∀ b ∈ pmB z, b ∉ blkL y.1 ∧ b ≠ sb ∧ g b = 0
  gs : g sb = 0
  sy : sb ∉ blkL y.1
  gy : ∀ b ∈ blkL y.1, g b = 0
  hs : base ≤ sb
  mx : s.op.length ≤ 65536
section
variable {w w' : World} {base sb lg : Nat} {sl : SL} {es : List EM} {g : Nat → Nat} {y : SL} {ys : List PM} {s : SC}
theorem ScM.ext (S : ScM w base sb lg sl es g y ys s) (e : Ext w w') : ScM w' base sb lg sl es g y ys s :=
  { S with blk := S.blk.be e, log := S.log.ext e, ow := S.ow.be e, ek := fun z hz => ⟨(S.ek z hz).1.be e, (S.ek z hz).2⟩ }
theorem ScM.len (S : ScM w base sb lg sl es g y ys s) : ys.length = y.2.1 ∧ s.op.length = y.2.1 := by
  have h1 := S.ow.len
  rw [rowV_len pmV_len] at h1
  have h2 := congrArg List.length S.ee
  rw [List.length_map] at h2
  omega
end
theorem scanE_c {base sb lg : Nat} {sl : SL} {es : List EM} {g : Nat → Nat} {y : SL} {ys : List PM} {s : SC} (A : Option Addr) (n c : Nat) (b : List UInt8) (w : World) (S : ScM w base sb lg sl es g y ys s) (h : Rd w A n 1 (bv b)) (hn : n ≤ 65536) (hcap : n ≤ c) (hbs : base ≤ w.heap.size)
    (hfit : ∀ e, getEn b = some e → PFit e.p) :
    Ret Tryz.prog 95 [pB sb, .slice A n c] w (fun v w' => v = .bool (scE s b).isSome ∧ Up base w w' ∧ ∀ s', scE s b = some s' → ∃ sl es g y ys, ScM w' base sb lg sl es g y ys s') := by
  obtain ⟨hy1, hy2⟩ := S.len
  have hln := S.ok.n
  have hmx := S.mx
  refine ret_T (n := 78) Tryz.func95 rfl rfl ?_
  repeat (first | refine T_seq ?_ | refine T_region ?_ | refine TL_nil ?_ | refine TL_move (hk := ?_) | refine TL_assign (hk := ?_))
  refine TL_call TE (hc := EGet_c A n c b w h (by omega) hcap) (hk := ?_)
  rintro _ w1 ⟨_, qe, rfl, e1, ⟨x, rfl, ox, hx⟩⟩
  repeat (first | refine TL_move (hk := ?_) | refine TL_extract (hk := ?_))
  refine TL_alloc TE (hk := ?_); intro b2 w2 e2 h2 h2' k2
  --
  refine TL_storea TE (hk := ?_); intro w3 m3 z3 k3
  replace k3 : Blk w3 b2 47 (emV x) := k3
  unfold emV pmV at k3
  have z1 := e1.size
  have z2 := e2.size
  have e03 : Ext w w3 := (e1.ext e2).step m3 (fun u hu => .inr (by rw [List.mem_singleton.1 hu]; omega))
  have S3 := S.ext e03
  have ox3 : POwn w3 w.heap.size x.m := (ox.be e2).modL m3 (fun u hu q => by have := (ox.bl u hu).2; rw [List.mem_singleton] at q; omega)
  have kb3 := S3.blk
  clear k2
  repeat (first | refine T_seq ?_ | refine TL_nil ?_ | refine TL_assign (hk := ?_))
  refine T_region_any TE.mixed ([] : List Nat) ?_; intro w4 e4 z4
  have kb4 := kb3.be e4
  have hsD : sb ∉ ([] : List Nat) := by simp
  (refine TA_take 0 rfl (by kernel_rfl) (by kernel_rfl) (by kernel_rfl) ?_; (repeat (first | refine TL_move (hk := ?_) | refine TLP_load TE (hk := ?_) | refine TL_fieldAddr TE (hk := ?_) | refine TL_len TE (hk := ?_) | refine TL_nilCheck (hk := ?_))); refine TL_nil_p ?_); (refine TA_take 1 rfl (by kernel_rfl) (by kernel_rfl) (by kernel_rfl) ?_; (repeat (first | refine TL_move (hk := ?_) | refine TLP_load TE (hk := ?_) | refine TL_fieldAddr TE (hk := ?_) | refine TL_len TE (hk := ?_) | refine TL_nilCheck (hk := ?_))); refine TL_nil_p ?_); (refine TA_take 2 rfl (by kernel_rfl) (by kernel_rfl) (by kernel_rfl) ?_; (repeat (first | refine TL_move (hk := ?_) | refine TLP_load TE (hk := ?_) | refine TL_fieldAddr TE (hk := ?_) | refine TL_len TE (hk := ?_) | refine TL_nilCheck (hk := ?_))); refine TL_nil_p ?_); (refine TA_take 3 rfl (by kernel_rfl) (by kernel_rfl) (by kernel_rfl) ?_; (repeat (first | refine TL_move (hk := ?_) | refine TLP_load TE (hk := ?_) | refine TL_fieldAddr TE (hk := ?_) | refine TL_len TE (hk := ?_) | refine TL_nilCheck (hk := ?_))); refine TL_nil_p ?_); (refine TA_take 5 rfl (by kernel_rfl) (by kernel_rfl) (by kernel_rfl) ?_; (repeat (first | refine TL_move (hk := ?_) | refine TLP_load TE (hk := ?_) | refine TL_fieldAddr TE (hk := ?_) | refine TL_len TE (hk := ?_) | refine TL_nilCheck (hk := ?_))); refine TL_nil_p ?_); (refine TA_take 6 rfl (by kernel_rfl) (by kernel_rfl) (by kernel_rfl) ?_; (repeat (first | refine TL_move (hk := ?_) | refine TLP_load TE (hk := ?_) | refine TL_fieldAddr TE (hk := ?_) | refine TL_len TE (hk := ?_) | refine TL_nilCheck (hk := ?_))); refine TL_nil_p ?_); (refine TA_take 7 rfl (by kernel_rfl) (by kernel_rfl) (by kernel_rfl) ?_; (repeat (first | refine TL_move (hk := ?_) | refine TLP_load TE (hk := ?_) | refine TL_fieldAddr TE (hk := ?_) | refine TL_len TE (hk := ?_) | refine TL_nilCheck (hk := ?_))); refine TL_nil_p ?_); (refine TA_take 8 rfl (by kernel_rfl) (by kernel_rfl) (by kernel_rfl) ?_; (repeat (first | refine TL_move (hk := ?_) | refine TLP_load TE (hk := ?_) | refine TL_fieldAddr TE (hk := ?_) | refine TL_len TE (hk := ?_) | refine TL_nilCheck (hk := ?_))); refine TL_nil_p ?_); (refine TA_take 9 rfl (by kernel_rfl) (by kernel_rfl) (by kernel_rfl) ?_; (repeat (first | refine TL_move (hk := ?_) | refine TLP_load TE (hk := ?_) | refine TL_fieldAddr TE (hk := ?_) | refine TL_len TE (hk := ?_) | refine TL_nilCheck (hk := ?_))); refine TL_nil_p ?_)
  refine TA_one 4 rfl (by kernel_rfl) (by kernel_rfl) ?_; (try refine TL_yes (hk := ?_)); refine TL_call TE (hc := (LLen_c w4 (S3.log.ext e4))) (hq := (by rintro _ _ ⟨_, h⟩; rw [h]; exact Mod.refl _ _)) (hk := ?_)
  rintro _ w5 ⟨rfl, hw5⟩
  rw [hw5]
  clear hw5 w5
  refine TL_nil_p ?_
  (refine TA_one 10 rfl (by kernel_rfl) (by kernel_rfl) ?_; (repeat (first | refine TL_add (hk := ?_) | refine TL_assign (hk := ?_))); refine TL_nil_p ?_); (refine TA_one 11 rfl (by kernel_rfl) (by kernel_rfl) ?_; (repeat (first | refine TL_add (hk := ?_) | refine TL_assign (hk := ?_))); refine TL_nil_p ?_)
  refine TA_done (by kernel_rfl) ?_
  have S4 := S3.ext e4
  have ox4 := ox3.be e4
  have k4 := k3.be e4
  have hnx : ((s.log.l.length : Nat) : Int) + ((y.2.1 : Nat) : Int) = ((s.log.l.length + s.op.length : Nat) : Int) := by omega
  rw [hnx]
  obtain ⟨nx, hnxd⟩ : ∃ nx, s.log.l.length + s.op.length = nx := ⟨_, rfl⟩
  have hnx2 : nx ≤ 131072 := by omega
  rw [hnxd]
  clear S3 ox3 k3 kb3
  --
  refine T_seq ?_
  refine T_seq ?_
  refine T_join (ι := Bool) (fun t => [(61, .bool t), (5, .pointer (some ⟨b2, 0, none⟩)), (1, .slice A n c), (0, pB sb)]) (fun t w' => Ext w4 w' ∧ (t = true ↔ scE s b = none)) (fun kk join => ?_) ?_
  · have kb := S4.blk
    cases hg : getEn b with
    | none =>
      rw [hg] at hx
      have hno : scE s b = none := by unfold scE; rw [hg]
      repeat (first | refine T_region_q TE.mixed (by kernel_rfl) ?_ | refine TL_ne_t (hk := ?_) | refine TL_move (hk := ?_) | refine TL_no (hk := ?_) | refine TL_pick_t (hk := ?_))
      refine TL_nil_q ?_; intro w6 e6
      exact T.sub (join true _ ⟨e6, fun _ => hno, fun _ => rfl⟩) (.c rfl (.c rfl (.c rfl (.c rfl (.n)))))
    | some e =>
      rw [hg] at hx
      obtain ⟨rfl, hxe⟩ := hx
      have hxs : x.sq = e.sq := congrArg EE.sq hxe
      have hxp : x.ep = e.ep := congrArg EE.ep hxe
      have huf : scE s b = if e.sq ≠ (nx : Int) ∨ 65536 ≤ nx ∨ e.ep < s.last ∨ (0 < s.op.length ∧ e.ep ≠ s.ep) then none else some { s with op := s.op ++ [e.p], ep := e.ep } := by unfold scE; rw [hg]; simp only; rw [hnxd]
      by_cases d1 : x.sq = (nx : Int)
      · by_cases d2 : (65536 : Int) ≤ (nx : Int)
        · have hno : scE s b = none := by rw [huf, if_pos (.inr (.inl (by omega)))]
          repeat (first | refine T_region_q TE.mixed (by kernel_rfl) ?_ | refine TL_ge_t (hk := ?_) | refine TL_ne_f (hk := ?_) | refine TL_move (hk := ?_) | refine TL_load TE (hk := ?_) | refine TL_fieldAddr TE (hk := ?_) | refine TL_yes (hk := ?_) | refine TL_no (hk := ?_) | refine TL_pick_t (hk := ?_) | refine TL_pick_f (hk := ?_))
          refine TL_nil_q ?_; intro w6 e6
          exact T.sub (join true _ ⟨e6, fun _ => hno, fun _ => rfl⟩) (.c rfl (.c rfl (.c rfl (.c rfl (.n)))))
        · by_cases d3 : x.ep < s.last
          · have hno : scE s b = none := by rw [huf, if_pos (.inr (.inr (.inl (by omega))))]
            repeat (first | refine T_region_q TE.mixed (by kernel_rfl) ?_ | refine TL_lt_t (hk := ?_) | refine TL_ge_f (hk := ?_) | refine TL_ne_f (hk := ?_) | refine TL_move (hk := ?_) | refine TL_load TE (hk := ?_) | refine TL_fieldAddr TE (hk := ?_) | refine TL_yes (hk := ?_) | refine TL_no (hk := ?_) | refine TL_pick_t (hk := ?_) | refine TL_pick_f (hk := ?_) | refine TL_nilCheck (hk := ?_))
            refine TL_nil_q ?_; intro w6 e6
            exact T.sub (join true _ ⟨e6, fun _ => hno, fun _ => rfl⟩) (.c rfl (.c rfl (.c rfl (.c rfl (.n)))))
          · by_cases d4 : (0 : Int) < (y.2.1 : Int)
            · by_cases d5 : x.ep = s.ep
              · have hno : ¬ scE s b = none := by rw [huf, if_neg (by omega)]; simp
                repeat (first | refine T_region_q TE.mixed (by kernel_rfl) ?_ | refine TL_lt_f (hk := ?_) | refine TL_gt_t (hk := ?_) | refine TL_ge_f (hk := ?_) | refine TL_ne_f (hk := ?_) | refine TL_move (hk := ?_) | refine TL_load TE (hk := ?_) | refine TL_fieldAddr TE (hk := ?_) | refine TL_len TE (hk := ?_) | refine TL_yes (hk := ?_) | refine TL_pick_t (hk := ?_) | refine TL_pick_f (hk := ?_) | refine TL_nilCheck (hk := ?_))
                refine TL_nil_q ?_; intro w6 e6
                exact T.sub (join false _ ⟨e6, fun q => (by cases q), fun q => absurd q hno⟩) (.c rfl (.c rfl (.c rfl (.c rfl (.n)))))
              · have hno : scE s b = none := by rw [huf, if_pos (.inr (.inr (.inr ⟨by omega, by omega⟩)))]
                repeat (first | refine T_region_q TE.mixed (by kernel_rfl) ?_ | refine TL_lt_f (hk := ?_) | refine TL_gt_t (hk := ?_) | refine TL_ge_f (hk := ?_) | refine TL_ne_t (hk := ?_) | refine TL_ne_f (hk := ?_) | refine TL_move (hk := ?_) | refine TL_load TE (hk := ?_) | refine TL_fieldAddr TE (hk := ?_) | refine TL_len TE (hk := ?_) | refine TL_yes (hk := ?_) | refine TL_pick_t (hk := ?_) | refine TL_pick_f (hk := ?_) | refine TL_nilCheck (hk := ?_))
                refine TL_nil_q ?_; intro w6 e6
                exact T.sub (join true _ ⟨e6, fun _ => hno, fun _ => rfl⟩) (.c rfl (.c rfl (.c rfl (.c rfl (.n)))))
            · have hno : ¬ scE s b = none := by rw [huf, if_neg (by omega)]; simp
              repeat (first | refine T_region_q TE.mixed (by kernel_rfl) ?_ | refine TL_lt_f (hk := ?_) | refine TL_gt_f (hk := ?_) | refine TL_ge_f (hk := ?_) | refine TL_ne_f (hk := ?_) | refine TL_move (hk := ?_) | refine TL_load TE (hk := ?_) | refine TL_fieldAddr TE (hk := ?_) | refine TL_len TE (hk := ?_) | refine TL_yes (hk := ?_) | refine TL_no (hk := ?_) | refine TL_pick_f (hk := ?_) | refine TL_nilCheck (hk := ?_))
              refine TL_nil_q ?_; intro w6 e6
              exact T.sub (join false _ ⟨e6, fun q => (by cases q), fun q => absurd q hno⟩) (.c rfl (.c rfl (.c rfl (.c rfl (.n)))))
      · have hno : scE s b = none := by rw [huf, if_pos (.inl (by omega))]
        repeat (first | refine T_region_q TE.mixed (by kernel_rfl) ?_ | refine TL_ne_t (hk := ?_) | refine TL_ne_f (hk := ?_) | refine TL_move (hk := ?_) | refine TL_load TE (hk := ?_) | refine TL_fieldAddr TE (hk := ?_) | refine TL_yes (hk := ?_) | refine TL_no (hk := ?_) | refine TL_pick_t (hk := ?_) | refine TL_pick_f (hk := ?_))
        refine TL_nil_q ?_; intro w6 e6
        exact T.sub (join true _ ⟨e6, fun _ => hno, fun _ => rfl⟩) (.c rfl (.c rfl (.c rfl (.c rfl (.n)))))
  rintro t w6 ⟨e6, ht⟩
  have e04 := e03.ext e4
  cases t with
  | true =>
    rw [ht.1 rfl]
    repeat (first | refine T_seq ?_ | refine T_region ?_ | refine T_cond_true rfl ?_ | refine TL_nil ?_ | refine TL_assign (hk := ?_))
    exact T_ret1 rfl rfl ⟨rfl, Up.ext (e04.ext e6), fun s' h => by cases h⟩
  | false => ?_
  have hsome : scE s b ≠ none := fun q => by have := ht.2 q; cases this
  repeat (first | refine T_seq ?_ | refine T_cond_false rfl ?_ | refine T_skip ?_)
  cases hg : getEn b with
  | none => exact absurd (by unfold scE; rw [hg]) hsome
  | some e => ?_
  rw [hg] at hx
  obtain ⟨rfl, hxe⟩ := hx
  have hF := hfit e hg
  have hxp : x.ep = e.ep := congrArg EE.ep hxe
  have hxm : x.m.p = e.p := congrArg EE.p hxe
  have huf : scE s b = if e.sq ≠ (nx : Int) ∨ 65536 ≤ nx ∨ e.ep < s.last ∨ (0 < s.op.length ∧ e.ep ≠ s.ep) then none else some { s with op := s.op ++ [e.p], ep := e.ep } := by unfold scE; rw [hg]; simp only; rw [hnxd]
  have hcond : ¬ (e.sq ≠ (nx : Int) ∨ 65536 ≤ nx ∨ e.ep < s.last ∨ (0 < s.op.length ∧ e.ep ≠ s.ep)) := fun q => hsome (by rw [huf, if_pos q])
  rw [if_neg hcond] at huf
  rw [huf]
  have S6 := S4.ext e6
  have ox6 := ox4.be e6
  have k6 := k4.be e6
  have e046 := e04.ext e6
  have z046 := e046.size
  clear hg S4 ox4 k4
  have hsy := S6.sy
  have hyl : ∀ u ∈ blkL y.1, u < w.heap.size := fun u hu => (S.ow.bl u hu).2
  have hsl : sb < w.heap.size := S.blk.lt
  have hgo : ∀ u, w.heap.size ≤ u → g u = 0 := fun u hu => by
    by_cases q : g u = 0
    · exact q
    · have := (S.log.old u q).2; omega
  have n2D : b2 ∉ sb :: blkL y.1 := fun q => (List.mem_cons.1 q).elim (fun q => by omega) (fun q => by have := hyl _ q; omega)
  have hDb : ∀ u ∈ sb :: blkL y.1, base ≤ u := fun u hu => (List.mem_cons.1 hu).elim (fun q => by rw [q]; exact S.hs) (fun q => (S.ow.bl u q).1)
  have hxb := ox6.bl
  have zz6 : w.heap.size ≤ w6.heap.size := z046
  refine T_region_any TE.mixed (sb :: blkL y.1) ?_; intro w7 e7 z7
  have kb7 := S6.blk.be e7
  have k7 := k6.be e7
  have o7 := S6.ow.be e7
  have fin : ∀ (wE : World) (y' : SL), Eng.Mod (sb :: blkL y.1) w7 wE → Blk wE sb 109 [pB lg, sL y', .int .i64 x.ep, .int .i64 s.last] → Own wE base 45 7 y'.1 y'.2.1 y'.2.2 (rowV pmV (ys ++ [x.m])) → ∀ {w8 : World}, Near y.1 y'.1 w8 → w7.heap.size ≤ w8.heap.size → ScM wE base sb lg sl es g y' (ys ++ [x.m]) { s with op := s.op ++ [e.p], ep := e.ep } := by
    intro wE y' M k o w8 nr z8
    have hny : ∀ u, u < w7.heap.size → u ∉ blkL y.1 → u ∉ blkL y'.1 := fun u hu hn hq => (Near.mem nr u hq).elim hn (fun q => by omega)
    have S7 := S6.ext e7
    refine ⟨by rw [← hxp]; exact k, S7.log.mod M (fun u hu => (List.mem_cons.1 hu).elim (fun q => by rw [q]; exact S.gs) (S.gy u)), S.ok, o, by rw [List.map_append, S.ee]; simp [hxm], fun z hz => ?_, S.gs, hny sb (by have := S7.blk.lt; exact this) S.sy, fun u hu => ?_, S.hs, by rw [List.length_append]; simp only [List.length_cons, List.length_nil]; omega⟩
    · rcases List.mem_append.1 hz with q | q
      · obtain ⟨q1, q2, q3⟩ := S7.ek z q
        refine ⟨q1.modL M (fun u hu hq => (List.mem_cons.1 hq).elim (q3 u hu).2.1 (q3 u hu).1), q2, fun u hu => ⟨hny u (q1.bl u hu).2 (q3 u hu).1, (q3 u hu).2.1, (q3 u hu).2.2⟩⟩
      · rw [List.mem_singleton.1 q]
        have q1 := ox6.be e7
        have hu1 : ∀ u ∈ pmB x.m, u ∉ blkL y.1 := fun u hu hq => by have h1 := (q1.bl u hu).1; have h2 := hyl u hq; omega
        have hu2 : ∀ u ∈ pmB x.m, u ≠ sb := fun u hu hq => by have h1 := (q1.bl u hu).1; omega
        exact ⟨(q1.weaken hbs).modL M (fun u hu hq => (List.mem_cons.1 hq).elim (hu2 u hu) (hu1 u hu)), by rw [hxm]; exact hF, fun u hu => ⟨hny u (q1.bl u hu).2 (hu1 u hu), hu2 u hu, hgo u (q1.bl u hu).1⟩⟩
    · exact (Near.mem nr u hu).elim (S.gy u) (fun q => hgo u (by omega))
  (refine TA_take 0 rfl (by kernel_rfl) (by kernel_rfl) (by kernel_rfl) ?_; (repeat (first | refine TL_move (hk := ?_) | refine TL_fieldAddr TE (hk := ?_) | refine TL_nilCheck (hk := ?_))); refine TL_nil_p ?_); (refine TA_take 1 rfl (by kernel_rfl) (by kernel_rfl) (by kernel_rfl) ?_; (repeat (first | refine TL_move (hk := ?_) | refine TL_fieldAddr TE (hk := ?_) | refine TL_nilCheck (hk := ?_))); refine TL_nil_p ?_); (refine TA_take 2 rfl (by kernel_rfl) (by kernel_rfl) (by kernel_rfl) ?_; (repeat (first | refine TL_move (hk := ?_) | refine TL_fieldAddr TE (hk := ?_) | refine TL_nilCheck (hk := ?_))); refine TL_nil_p ?_); (refine TA_take 3 rfl (by kernel_rfl) (by kernel_rfl) (by kernel_rfl) ?_; (repeat (first | refine TL_move (hk := ?_) | refine TL_fieldAddr TE (hk := ?_) | refine TL_nilCheck (hk := ?_))); refine TL_nil_p ?_); (refine TA_take 4 rfl (by kernel_rfl) (by kernel_rfl) (by kernel_rfl) ?_; (repeat (first | refine TL_move (hk := ?_) | refine TL_fieldAddr TE (hk := ?_) | refine TL_nilCheck (hk := ?_))); refine TL_nil_p ?_); (refine TA_take 6 rfl (by kernel_rfl) (by kernel_rfl) (by kernel_rfl) ?_; (repeat (first | refine TL_move (hk := ?_) | refine TL_fieldAddr TE (hk := ?_) | refine TL_nilCheck (hk := ?_))); refine TL_nil_p ?_)
  refine TA_take 7 rfl (by kernel_rfl) (by kernel_rfl) (by kernel_rfl) ?_
  refine TLP_loadb TE (cs := [.int .i64 x.m.p.q.cl, .int .u64 (x.m.p.q.tk : Int), .string (ofL x.m.p.q.nm), sL x.m.a, .int .i64 x.m.p.how, sL x.m.b, sL x.m.c]) (o := 2) (hb := k7) (hD := n2D) (hk := ?_)
  refine TL_nil_p ?_
  (refine TA_take 10 rfl (by kernel_rfl) (by kernel_rfl) (by kernel_rfl) ?_; (repeat (first | refine TLP_load TE (hk := ?_) | refine TL_fieldAddr TE (hk := ?_))); refine TL_nil_p ?_); (refine TA_take 11 rfl (by kernel_rfl) (by kernel_rfl) (by kernel_rfl) ?_; (repeat (first | refine TLP_load TE (hk := ?_) | refine TL_fieldAddr TE (hk := ?_))); refine TL_nil_p ?_)
  refine TA_two 5 8 rfl rfl (by kernel_rfl) (by kernel_rfl) ?_ ?_
  · refine TLN_load TE (hb := kb7) (hq := Mod.refl _ _) (hk := ?_)
    refine TL_nil_p ?_
    refine TA_one 8 rfl (by kernel_rfl) (by kernel_rfl) ?_
    refine TL_buildSliceA TE (hf := rfl) (hq := fun w' e => Ext.mod e) (hk := ?_); intro b17 w8 e17 h17 h17' k17
    refine TL_nil_p ?_
    replace k17 : Blk w8 b17 45 (rowV pmV [x.m]) := k17
    have r17 : Rd w8 (some ⟨b17, 0, none⟩) 1 7 (rowV pmV [x.m]) := Rd.blk k17 rfl
    have o8 := o7.be e17
    have kb8 := kb7.be e17
    have zz8 := e17.size
    refine TA_one 9 rfl (by kernel_rfl) (by kernel_rfl) ?_
    refine TL_append TE (ho := o8) (hr := r17) (h1 := rowV_one pmV_one _) (hf := rfl) (hq := fun w' m => (Ext.mod e17).step m (fun u hu => .inl (List.mem_cons_of_mem _ hu))) (hk := ?_); intro A9 c9 w9 o9 m9 n9
    rw [← rowV_append] at o9
    have kb9 := kb8.mod m9 S6.sy
    have zz9 := m9.size
    have M9 : Eng.Mod (sb :: blkL y.1) w7 w9 := (Ext.mod e17).step m9 (fun u hu => .inl (List.mem_cons_of_mem _ hu))
    refine TL_nil_p ?_
    (refine TA_take 12 rfl (by kernel_rfl) (by kernel_rfl) (by kernel_rfl) ?_; (repeat (first | refine TL_fieldAddr TE (hk := ?_) | refine TL_nilCheck (hk := ?_))); refine TL_nil_p ?_); (refine TA_take 13 rfl (by kernel_rfl) (by kernel_rfl) (by kernel_rfl) ?_; (repeat (first | refine TL_fieldAddr TE (hk := ?_) | refine TL_nilCheck (hk := ?_))); refine TL_nil_p ?_)
    refine TA_one 14 rfl (by kernel_rfl) (by kernel_rfl) ?_
    refine TL_store TE (hb := kb9) (hf := rfl) (hq := fun _ m _ => M9.step m (fun u hu => .inl (by rw [List.mem_singleton.1 hu]; exact List.mem_cons_self))) (hk := ?_); intro w10 m10 z10 k10
    have M10 : Eng.Mod (sb :: blkL y.1) w7 w10 := M9.step m10 (fun u hu => .inl (by rw [List.mem_singleton.1 hu]; exact List.mem_cons_self))
    refine TL_nil_p ?_
    (refine TA_take 15 rfl (by kernel_rfl) (by kernel_rfl) (by kernel_rfl) ?_; (repeat (first | refine TL_fieldAddr TE (hk := ?_) | refine TL_nilCheck (hk := ?_))); refine TL_nil_p ?_); (refine TA_take 16 rfl (by kernel_rfl) (by kernel_rfl) (by kernel_rfl) ?_; (repeat (first | refine TL_fieldAddr TE (hk := ?_) | refine TL_nilCheck (hk := ?_))); refine TL_nil_p ?_)
    refine TA_one 17 rfl (by kernel_rfl) (by kernel_rfl) ?_
    refine TL_store TE (hb := k10) (hf := rfl) (hq := fun _ m _ => M10.step m (fun u hu => .inl (by rw [List.mem_singleton.1 hu]; exact List.mem_cons_self))) (hk := ?_); intro w11 m11 z11 k11
    have M11 : Eng.Mod (sb :: blkL y.1) w7 w11 := M10.step m11 (fun u hu => .inl (by rw [List.mem_singleton.1 hu]; exact List.mem_cons_self))
    refine TL_nil_p ?_
    refine TA_done (by kernel_rfl) ?_
    repeat (first | refine T_seq ?_ | refine T_region ?_ | refine TL_nil ?_ | refine TL_assign (hk := ?_))
    have hnE : sb ∉ blkL A9 := fun q => (Near.mem n9 sb q).elim S6.sy (fun y => by have := S6.blk.lt; omega)
    have o11 := (o9.modL m10 (fun u hu q => by rw [List.mem_singleton] at q; rw [q] at hu; exact hnE hu)).modL m11 (fun u hu q => by rw [List.mem_singleton] at q; rw [q] at hu; exact hnE hu)
    refine T_ret1 rfl rfl ⟨rfl, (Up.ext (e046.ext e7)).trans ⟨_, M11, hDb⟩, fun s' h => ?_⟩
    cases h
    exact ⟨sl, es, g, (A9, y.2.1 + 1, c9), ys ++ [x.m], fin w11 (A9, y.2.1 + 1, c9) M11 k11 o11 n9 zz8⟩
  · refine TL_buildSliceA TE (hf := rfl) (hq := fun w' e => Ext.mod e) (hk := ?_); intro b17 w8 e17 h17 h17' k17
    refine TL_nil_p ?_
    refine TA_one 5 rfl (by kernel_rfl) (by kernel_rfl) ?_
    refine TLN_load TE (hb := kb7.be e17) (hq := Ext.mod e17) (hk := ?_)
    refine TL_nil_p ?_
    replace k17 : Blk w8 b17 45 (rowV pmV [x.m]) := k17
    have r17 : Rd w8 (some ⟨b17, 0, none⟩) 1 7 (rowV pmV [x.m]) := Rd.blk k17 rfl
    have o8 := o7.be e17
    have kb8 := kb7.be e17
    have zz8 := e17.size
    refine TA_one 9 rfl (by kernel_rfl) (by kernel_rfl) ?_
    refine TL_append TE (ho := o8) (hr := r17) (h1 := rowV_one pmV_one _) (hf := rfl) (hq := fun w' m => (Ext.mod e17).step m (fun u hu => .inl (List.mem_cons_of_mem _ hu))) (hk := ?_); intro A9 c9 w9 o9 m9 n9
    rw [← rowV_append] at o9
    have kb9 := kb8.mod m9 S6.sy
    have zz9 := m9.size
    have M9 : Eng.Mod (sb :: blkL y.1) w7 w9 := (Ext.mod e17).step m9 (fun u hu => .inl (List.mem_cons_of_mem _ hu))
    refine TL_nil_p ?_
    (refine TA_take 12 rfl (by kernel_rfl) (by kernel_rfl) (by kernel_rfl) ?_; (repeat (first | refine TL_fieldAddr TE (hk := ?_) | refine TL_nilCheck (hk := ?_))); refine TL_nil_p ?_); (refine TA_take 13 rfl (by kernel_rfl) (by kernel_rfl) (by kernel_rfl) ?_; (repeat (first | refine TL_fieldAddr TE (hk := ?_) | refine TL_nilCheck (hk := ?_))); refine TL_nil_p ?_)
    refine TA_one 14 rfl (by kernel_rfl) (by kernel_rfl) ?_
    refine TL_store TE (hb := kb9) (hf := rfl) (hq := fun _ m _ => M9.step m (fun u hu => .inl (by rw [List.mem_singleton.1 hu]; exact List.mem_cons_self))) (hk := ?_); intro w10 m10 z10 k10
    have M10 : Eng.Mod (sb :: blkL y.1) w7 w10 := M9.step m10 (fun u hu => .inl (by rw [List.mem_singleton.1 hu]; exact List.mem_cons_self))
    refine TL_nil_p ?_
    (refine TA_take 15 rfl (by kernel_rfl) (by kernel_rfl) (by kernel_rfl) ?_; (repeat (first | refine TL_fieldAddr TE (hk := ?_) | refine TL_nilCheck (hk := ?_))); refine TL_nil_p ?_); (refine TA_take 16 rfl (by kernel_rfl) (by kernel_rfl) (by kernel_rfl) ?_; (repeat (first | refine TL_fieldAddr TE (hk := ?_) | refine TL_nilCheck (hk := ?_))); refine TL_nil_p ?_)
    refine TA_one 17 rfl (by kernel_rfl) (by kernel_rfl) ?_
    refine TL_store TE (hb := k10) (hf := rfl) (hq := fun _ m _ => M10.step m (fun u hu => .inl (by rw [List.mem_singleton.1 hu]; exact List.mem_cons_self))) (hk := ?_); intro w11 m11 z11 k11
    have M11 : Eng.Mod (sb :: blkL y.1) w7 w11 := M10.step m11 (fun u hu => .inl (by rw [List.mem_singleton.1 hu]; exact List.mem_cons_self))
    refine TL_nil_p ?_
    refine TA_done (by kernel_rfl) ?_
    repeat (first | refine T_seq ?_ | refine T_region ?_ | refine TL_nil ?_ | refine TL_assign (hk := ?_))
    have hnE : sb ∉ blkL A9 := fun q => (Near.mem n9 sb q).elim S6.sy (fun y => by have := S6.blk.lt; omega)
    have o11 := (o9.modL m10 (fun u hu q => by rw [List.mem_singleton] at q; rw [q] at hu; exact hnE hu)).modL m11 (fun u hu q => by rw [List.mem_singleton] at q; rw [q] at hu; exact hnE hu)
    refine T_ret1 rfl rfl ⟨rfl, (Up.ext (e046.ext e7)).trans ⟨_, M11, hDb⟩, fun s' h => ?_⟩
    cases h
    exact ⟨sl, es, g, (A9, y.2.1 + 1, c9), ys ++ [x.m], fin w11 (A9, y.2.1 + 1, c9) M11 k11 o11 n9 zz8⟩
end Go.Proofs.YtjlaomcankmdjaaGreat

namespace Go.Proofs.YtjlaomcankmdjaaGreat
open Go.RowKit Go.Proofs.Eng Go.Proofs.Codec Go.Proofs.Foot Go.Proofs.Journal
set_option linter.unusedVariables false set_option maxRecDepth 10000
attribute [local irreducible] T TL LV TH TA
set_option maxHeartbeats 1600000
theorem scanN_c {base sb lg : Nat} {sl : SL} {es : List EM} {g : Nat → Nat} {y : SL} {ys : List PM} {s : SC} (A : Option Addr) (n c : Nat) (b : List UInt8) (w : World) (S : ScM w base sb lg sl es g y ys s) (h : Rd w A n 1 (bv b)) (hn : n ≤ 65536) (hbs : base ≤ w.heap.size) :
    Ret Tryz.prog 96 [pB sb, .slice A n c] w (fun v w' => v = .bool (scN s b).isSome ∧ Up base w w' ∧ ∀ s', scN s b = some s' → ∃ sl es g y ys, ScM w' base sb lg sl es g y ys s') := by
  obtain ⟨hy1, hy2⟩ := S.len
  have hln := S.ok.n
  have hmx := S.mx
  refine ret_T (n := 69) Tryz.func96 rfl rfl ?_
  repeat (first | refine T_seq ?_ | refine T_region ?_ | refine TL_nil ?_ | refine TL_move (hk := ?_) | refine TL_assign (hk := ?_))
  refine TL_call TE (hc := NewReader_c A n c b w h (by omega)) (hk := ?_)
  rintro _ w1 ⟨bR, A3, n3, c3, rfl, e1, hbR, hi3, lo3, rr⟩
  have z1 := e1.size
  repeat (first | refine T_seq ?_ | refine T_region ?_ | refine TL_nil ?_ | refine TL_move (hk := ?_) | refine TL_assign (hk := ?_))
  refine TL_call TE (hc := Uint_c bR _ A3 n3 c3 w1 rr) (hk := ?_)
  rintro _ w2 ⟨rfl, m2, rr2⟩
  obtain ⟨p, hp⟩ : ∃ p, ge1 b = p := ⟨_, rfl⟩
  have q1 : (RS.mk b 0 0 0 0).take (0 : Nat) num0 = p := hp
  have l1 := take_lt (s := RS.mk b 0 0 0 0)
  rw [q1] at rr2 l1 ⊢
  repeat (first | refine T_seq ?_ | refine T_region ?_ | refine TL_nil ?_ | refine TL_move (hk := ?_) | refine TL_assign (hk := ?_))
  refine TL_call TE (hc := End_c bR _ A3 n3 c3 w2 rr2) (hk := ?_)
  rintro _ w3 ⟨rfl, m3, rr3⟩
  have z2 := m2.size
  have z3 := m3.size
  have e03 : Ext w w3 := (e1.step m2 (fun u hu => .inr (by rw [List.mem_singleton.1 hu]; omega))).step m3 (fun u hu => .inr (by rw [List.mem_singleton.1 hu]; omega))
  have S3 := S.ext e03
  clear rr rr2 rr3
  obtain ⟨x1, hx1⟩ : ∃ x, p.1 = x := ⟨_, rfl⟩
  have huf : scN s b = if p.2.fin.err ≠ 0 ∨ 9223372036854775808 ≤ x1 ∨ (x1 : Int) < s.last ∨ (0 < s.op.length ∧ (x1 : Int) ≠ s.ep) then none
      else if (appL s.log (x1 : Int) s.op).2.2.1 ≠ 0 then none else some ⟨(appL s.log (x1 : Int) s.op).1, [], s.ep, (x1 : Int)⟩ := by unfold scN; rw [hp, hx1]
  rw [hx1] at l1 ⊢
  have out : ∀ w', Ext w w' → scN s b = none → (Value.bool false = .bool (scN s b).isSome ∧ Up base w w' ∧ ∀ s', scN s b = some s' → ∃ sl es g y ys, ScM w' base sb lg sl es g y ys s') := fun w' e q => by rw [q]; exact ⟨rfl, Up.ext e, fun s' h => by cases h⟩
  by_cases d1 : p.2.fin.err = 0
  · by_cases d2 : (9223372036854775808 : Int) ≤ (x1 : Int)
    · repeat (first | refine T_seq ?_ | refine T_region ?_ | refine T_cond_true rfl ?_ | refine TL_ge_t (hk := ?_) | refine TL_ne_f (hk := ?_) | refine TL_nil ?_ | refine TL_move (hk := ?_) | refine TL_assign (hk := ?_) | refine TL_yes (hk := ?_) | refine TL_pick_f (hk := ?_))
      exact T_ret1 rfl rfl (out _ e03 (by rw [huf, if_pos (.inr (.inl (by omega)))]))
    · have kb := S3.blk
      repeat (first | refine T_cond_false rfl ?_ | refine T_skip ?_ | refine TL_ge_f (hk := ?_) | refine TL_ne_f (hk := ?_) | refine TL_nil ?_ | refine TL_move (hk := ?_) | refine TL_yes (hk := ?_) | refine TL_pick_f (hk := ?_))
      refine T_seq ?_
      refine T_region ?_
      repeat (first | refine TL_nil ?_ | refine TL_move (hk := ?_) | refine TL_assign (hk := ?_) | refine TL_conv TE (hk := ?_))
      refine T_seq ?_
      refine T_seq ?_
      refine T_join (ι := Bool) (fun t => [(45, .bool t), (7, .int .i64 (x1 : Int)), (0, pB sb)]) (fun t w' => w' = w3 ∧ (t = true ↔ ((x1 : Int) < s.last ∨ (0 < s.op.length ∧ (x1 : Int) ≠ s.ep)))) (fun kk join => ?_) ?_
      · by_cases d3 : (x1 : Int) < s.last
        · repeat (first | refine T_region ?_ | refine TL_lt_t (hk := ?_) | refine TL_nil ?_ | refine TL_move (hk := ?_) | refine TL_load TE (hk := ?_) | refine TL_fieldAddr TE (hk := ?_) | refine TL_no (hk := ?_) | refine TL_pick_t (hk := ?_) | refine TL_nilCheck (hk := ?_))
          exact T.sub (join true _ ⟨rfl, fun _ => .inl d3, fun _ => rfl⟩) (.c rfl (.c rfl (.c rfl (.n))))
        · by_cases d4 : (0 : Int) < (y.2.1 : Int)
          · by_cases d5 : (x1 : Int) = s.ep
            · repeat (first | refine T_region ?_ | refine TL_lt_f (hk := ?_) | refine TL_gt_t (hk := ?_) | refine TL_ne_f (hk := ?_) | refine TL_nil ?_ | refine TL_move (hk := ?_) | refine TL_load TE (hk := ?_) | refine TL_fieldAddr TE (hk := ?_) | refine TL_len TE (hk := ?_) | refine TL_yes (hk := ?_) | refine TL_pick_t (hk := ?_) | refine TL_pick_f (hk := ?_) | refine TL_nilCheck (hk := ?_))
              exact T.sub (join false _ ⟨rfl, fun q => (by cases q), fun q => absurd q (by omega)⟩) (.c rfl (.c rfl (.c rfl (.n))))
            · repeat (first | refine T_region ?_ | refine TL_lt_f (hk := ?_) | refine TL_gt_t (hk := ?_) | refine TL_ne_t (hk := ?_) | refine TL_nil ?_ | refine TL_move (hk := ?_) | refine TL_load TE (hk := ?_) | refine TL_fieldAddr TE (hk := ?_) | refine TL_len TE (hk := ?_) | refine TL_yes (hk := ?_) | refine TL_pick_t (hk := ?_) | refine TL_pick_f (hk := ?_) | refine TL_nilCheck (hk := ?_))
              exact T.sub (join true _ ⟨rfl, fun _ => .inr ⟨by omega, d5⟩, fun _ => rfl⟩) (.c rfl (.c rfl (.c rfl (.n))))
          · repeat (first | refine T_region ?_ | refine TL_lt_f (hk := ?_) | refine TL_gt_f (hk := ?_) | refine TL_nil ?_ | refine TL_move (hk := ?_) | refine TL_load TE (hk := ?_) | refine TL_fieldAddr TE (hk := ?_) | refine TL_len TE (hk := ?_) | refine TL_yes (hk := ?_) | refine TL_no (hk := ?_) | refine TL_pick_f (hk := ?_) | refine TL_nilCheck (hk := ?_))
            exact T.sub (join false _ ⟨rfl, fun q => (by cases q), fun q => absurd q (by omega)⟩) (.c rfl (.c rfl (.c rfl (.n))))
      rintro t w4 ⟨rfl, ht⟩
      cases t with
      | true =>
        have ht := ht.1 rfl
        repeat (first | refine T_seq ?_ | refine T_region ?_ | refine T_cond_true rfl ?_ | refine TL_nil ?_ | refine TL_assign (hk := ?_))
        exact T_ret1 rfl rfl (out _ e03 (by rw [huf, if_pos (.inr (.inr ht))]))
      | false => ?_
      have ht : ¬ ((x1 : Int) < s.last ∨ (0 < s.op.length ∧ (x1 : Int) ≠ s.ep)) := fun q => by have := ht.2 q; cases this
      rw [if_neg (by omega)] at huf
      repeat (first | refine T_seq ?_ | refine T_cond_false rfl ?_ | refine T_skip ?_)
      refine T_region_any TE.mixed (ownB w4 g) ?_; intro w5 e5 z5
      have S5 := S3.ext e5
      have kb5 := S5.blk
      have hsD : sb ∉ ownB w4 g := fun q => ownB_mem q S.gs
      (refine TA_take 0 rfl (by kernel_rfl) (by kernel_rfl) (by kernel_rfl) ?_; (repeat (first | refine TL_move (hk := ?_) | refine TLP_load TE (hk := ?_) | refine TL_fieldAddr TE (hk := ?_) | refine TL_nilCheck (hk := ?_))); refine TL_nil_p ?_); (refine TA_take 1 rfl (by kernel_rfl) (by kernel_rfl) (by kernel_rfl) ?_; (repeat (first | refine TL_move (hk := ?_) | refine TLP_load TE (hk := ?_) | refine TL_fieldAddr TE (hk := ?_) | refine TL_nilCheck (hk := ?_))); refine TL_nil_p ?_); (refine TA_take 2 rfl (by kernel_rfl) (by kernel_rfl) (by kernel_rfl) ?_; (repeat (first | refine TL_move (hk := ?_) | refine TLP_load TE (hk := ?_) | refine TL_fieldAddr TE (hk := ?_) | refine TL_nilCheck (hk := ?_))); refine TL_nil_p ?_); (refine TA_take 3 rfl (by kernel_rfl) (by kernel_rfl) (by kernel_rfl) ?_; (repeat (first | refine TL_move (hk := ?_) | refine TLP_load TE (hk := ?_) | refine TL_fieldAddr TE (hk := ?_) | refine TL_nilCheck (hk := ?_))); refine TL_nil_p ?_); (refine TA_take 4 rfl (by kernel_rfl) (by kernel_rfl) (by kernel_rfl) ?_; (repeat (first | refine TL_move (hk := ?_) | refine TLP_load TE (hk := ?_) | refine TL_fieldAddr TE (hk := ?_) | refine TL_nilCheck (hk := ?_))); refine TL_nil_p ?_); (refine TA_take 5 rfl (by kernel_rfl) (by kernel_rfl) (by kernel_rfl) ?_; (repeat (first | refine TL_move (hk := ?_) | refine TLP_load TE (hk := ?_) | refine TL_fieldAddr TE (hk := ?_) | refine TL_nilCheck (hk := ?_))); refine TL_nil_p ?_); (refine TA_take 6 rfl (by kernel_rfl) (by kernel_rfl) (by kernel_rfl) ?_; (repeat (first | refine TL_move (hk := ?_) | refine TLP_load TE (hk := ?_) | refine TL_fieldAddr TE (hk := ?_) | refine TL_nilCheck (hk := ?_))); refine TL_nil_p ?_); (refine TA_take 7 rfl (by kernel_rfl) (by kernel_rfl) (by kernel_rfl) ?_; (repeat (first | refine TL_move (hk := ?_) | refine TLP_load TE (hk := ?_) | refine TL_fieldAddr TE (hk := ?_) | refine TL_nilCheck (hk := ?_))); refine TL_nil_p ?_); (refine TA_take 8 rfl (by kernel_rfl) (by kernel_rfl) (by kernel_rfl) ?_; (repeat (first | refine TL_move (hk := ?_) | refine TLP_load TE (hk := ?_) | refine TL_fieldAddr TE (hk := ?_) | refine TL_nilCheck (hk := ?_))); refine TL_nil_p ?_)
      refine TA_one 9 rfl (by kernel_rfl) (by kernel_rfl) ?_; (try refine TL_yes (hk := ?_)); refine TL_call TE (hc := (LAppend_c (x1 : Int) y.1 y.2.1 y.2.2 ys w5 S5.log S5.ow.rd (fun x hx => ⟨(S5.ek x hx).1.lies, (S5.ek x hx).2.1⟩) S.gy (fun x hx u hu => ((S.ek x hx).2.2 u hu).2.2) (by omega) (by omega))) (hq := (by rintro _ w' ⟨_, _, _, g', _, t⟩; exact t.inD (Mod.refl _ _) (ownB_in z5))) (hk := ?_)
      rintro _ w6 ⟨rfl, sl', es', g', L6, T6⟩
      rw [S.ee] at L6 ⊢
      have e05 := e03.ext e5
      have hU6 : Up base w5 w6 := by
        obtain ⟨⟨Z, m6, s6⟩, -, -⟩ := T6
        exact ⟨Z, m6, fun u hu => (S.log.old u (s6 u hu)).1⟩
      have k6 : Blk w6 sb 109 [pB lg, sL y, .int .i64 s.ep, .int .i64 s.last] := by
        obtain ⟨⟨Z, m6, s6⟩, -, -⟩ := T6
        exact kb5.mod m6 (fun q => s6 sb q S.gs)
      have gs6 : g' sb = 0 := T6.old S.gs kb5.lt
      refine TL_nil_p ?_
      (refine TA_take 10 rfl (by kernel_rfl) (by kernel_rfl) (by kernel_rfl) ?_; (repeat (first | refine TL_move (hk := ?_) | refine TL_assign (hk := ?_) | refine TL_extract (hk := ?_))); refine TL_nil_p ?_); (refine TA_take 11 rfl (by kernel_rfl) (by kernel_rfl) (by kernel_rfl) ?_; (repeat (first | refine TL_move (hk := ?_) | refine TL_assign (hk := ?_) | refine TL_extract (hk := ?_))); refine TL_nil_p ?_); (refine TA_take 12 rfl (by kernel_rfl) (by kernel_rfl) (by kernel_rfl) ?_; (repeat (first | refine TL_move (hk := ?_) | refine TL_assign (hk := ?_) | refine TL_extract (hk := ?_))); refine TL_nil_p ?_); (refine TA_take 13 rfl (by kernel_rfl) (by kernel_rfl) (by kernel_rfl) ?_; (repeat (first | refine TL_move (hk := ?_) | refine TL_assign (hk := ?_) | refine TL_extract (hk := ?_))); refine TL_nil_p ?_); (refine TA_take 14 rfl (by kernel_rfl) (by kernel_rfl) (by kernel_rfl) ?_; (repeat (first | refine TL_move (hk := ?_) | refine TL_assign (hk := ?_) | refine TL_extract (hk := ?_))); refine TL_nil_p ?_); (refine TA_take 15 rfl (by kernel_rfl) (by kernel_rfl) (by kernel_rfl) ?_; (repeat (first | refine TL_move (hk := ?_) | refine TL_assign (hk := ?_) | refine TL_extract (hk := ?_))); refine TL_nil_p ?_); (refine TA_take 16 rfl (by kernel_rfl) (by kernel_rfl) (by kernel_rfl) ?_; (repeat (first | refine TL_move (hk := ?_) | refine TL_assign (hk := ?_) | refine TL_extract (hk := ?_))); refine TL_nil_p ?_)
      refine TA_done (by kernel_rfl) ?_
      by_cases d6 : (appL s.log (x1 : Int) s.op).2.2.1 = 0
      · rw [if_neg (fun q => q d6)] at huf
        rw [huf]
        rw [d6]
        repeat (first | refine T_seq ?_ | refine T_region ?_ | refine T_cond_false rfl ?_ | refine T_skip ?_ | refine TL_ne_f (hk := ?_) | refine TL_nil ?_ | refine TL_move (hk := ?_) | refine TL_fieldAddr TE (hk := ?_) | refine TL_nilCheck (hk := ?_))
        refine TL_store TE (hk := ?_); intro w7 m7 z7 k7
        repeat (first | refine TL_fieldAddr TE (hk := ?_) | refine TL_nilCheck (hk := ?_))
        refine TL_store TE (hk := ?_); intro w8 m8 z8 k8
        repeat (first | refine T_seq ?_ | refine T_region ?_ | refine TL_nil ?_ | refine TL_assign (hk := ?_))
        have hm : ∀ u ∈ [sb], g' u = 0 := fun u hu => by rw [List.mem_singleton.1 hu]; exact gs6
        have hsb : ∀ u ∈ [sb], base ≤ u := fun u hu => by rw [List.mem_singleton.1 hu]; exact S.hs
        refine T_ret1 rfl rfl ⟨rfl, (((Up.ext e05).trans hU6).trans ⟨_, m7, hsb⟩).trans ⟨_, m8, hsb⟩, fun s' h => ?_⟩
        cases h
        refine ⟨sl', es', g', (none, 0, 0), [], k8, (L6.mod m7 hm).mod m8 hm, appL_ok S.ok (by omega) (fun p hp => ?_), Own.nil _ _ _ _, rfl, fun z hz => (by cases hz), gs6, fun q => (by cases q), fun u hu => (by cases hu), S.hs, Nat.zero_le _⟩
        rw [← S.ee] at hp
        obtain ⟨z, hz, rfl⟩ := List.mem_map.1 hp
        exact (S.ek z hz).2.1
      · rw [if_pos d6] at huf
        have d6' : ¬ (((appL s.log (x1 : Int) s.op).2.2.1 : Nat) : Int) = 0 := by omega
        repeat (first | refine T_seq ?_ | refine T_region ?_ | refine T_cond_true rfl ?_ | refine TL_ne_t (hk := ?_) | refine TL_nil ?_ | refine TL_move (hk := ?_) | refine TL_assign (hk := ?_))
        refine T_ret1 rfl rfl ⟨by rw [huf]; rfl, (Up.ext e05).trans hU6, fun s' h => (by rw [huf] at h; cases h)⟩
  · repeat (first | refine T_seq ?_ | refine T_region ?_ | refine T_cond_true rfl ?_ | refine TL_ne_t (hk := ?_) | refine TL_nil ?_ | refine TL_move (hk := ?_) | refine TL_assign (hk := ?_) | refine TL_no (hk := ?_) | refine TL_pick_t (hk := ?_))
    exact T_ret1 rfl rfl (out _ e03 (by rw [huf, if_pos (.inl d1)]))
theorem scanR_c {base sb lg : Nat} {sl : SL} {es : List EM} {g : Nat → Nat} {y : SL} {ys : List PM} {s : SC} (A : Option Addr) (n c : Nat) (b : List UInt8) (w : World) (S : ScM w base sb lg sl es g y ys s) (h : Rd w A n 1 (bv b)) (hn : n ≤ 65536) (hcap : n ≤ c) (hbs : base ≤ w.heap.size)
    (hfit : ∀ b e, getEn b = some e → PFit e.p) :
    Ret Tryz.prog 51 [pB sb, .slice A n c] w (fun v w' => v = .bool (scR s b).isSome ∧ Up base w w' ∧ ∀ s', scR s b = some s' → ∃ sl es g y ys, ScM w' base sb lg sl es g y ys s') := by
  have hbl : b.length = n := by simpa using h.1
  refine ret_T (n := 23) Tryz.func51 rfl rfl ?_
  cases b with
  | nil =>
    have h0 : n = 0 := by simpa using hbl.symm
    subst h0
    repeat (first | refine T_seq ?_ | refine T_region ?_ | refine T_cond_true rfl ?_ | refine TL_eq_t (hk := ?_) | refine TL_nil ?_ | refine TL_move (hk := ?_) | refine TL_assign (hk := ?_) | refine TL_len TE (hk := ?_))
    exact T_ret1 rfl rfl ⟨rfl, Up.ext (Mod.refl _ _), fun s' h => by cases h⟩
  | cons x t => ?_
  have hx := x.toNat_lt
  rw [List.length_cons] at hbl
  have h1 := Rd.tail1 (p := 1) h (by omega) hcap
  rw [List.drop_succ_cons, List.drop_zero] at h1
  have hA : A ≠ none := by obtain ⟨_, _, hq, _⟩ := h.2 (by omega); rw [hq]; simp
  have h0 : (bv (x :: t))[0]? = some (.int .u8 ((x.toNat : Nat) : Int)) := rfl
  obtain ⟨k, hk⟩ : ∃ k, gb (x :: t) 0 = k := ⟨_, rfl⟩
  have hkx : x.toNat = k := hk
  have huf : scR s (x :: t) = if k = 1 then scE s t else if k = 2 then scN s t else none := by show (if x.toNat = 1 then scE s t else if x.toNat = 2 then scN s t else none) = _; rw [hkx]
  rw [huf]
  repeat (first | refine T_seq ?_ | refine T_region ?_ | refine T_cond_false rfl ?_ | refine T_block ?_ | refine T_skip ?_ | refine TL_eq_f (hk := ?_) | refine TL_nil ?_ | refine TL_move (hk := ?_) | refine TL_assign (hk := ?_) | (refine TL_load_b TE (hk := ?_); intro _) | refine TL_indexAddr1n TE (hk := ?_) | refine TL_len TE (hk := ?_))
  rw [hk]
  by_cases d1 : k = 1
  · rw [if_pos d1]
    repeat (first | refine T_seq ?_ | refine T_region ?_ | refine T_cond_true rfl ?_ | refine TL_eq_t (hk := ?_) | refine TL_nil ?_ | refine TL_move (hk := ?_) | refine TL_assign (hk := ?_) | refine TL_slice_lo TE (hk := ?_))
    refine TL_call TE (hc := scanE_c _ _ _ t w S h1 (by omega) (by omega) hbs (hfit t)) (hk := ?_)
    rintro _ w1 ⟨rfl, u1, hs⟩
    repeat (first | refine TL_nil ?_ | refine TL_assign (hk := ?_))
    exact T_ret1 rfl rfl ⟨rfl, u1, hs⟩
  rw [if_neg d1]
  by_cases d2 : k = 2
  · rw [if_pos d2]
    repeat (first | refine T_seq ?_ | refine T_region ?_ | refine T_cond_true rfl ?_ | refine T_cond_false rfl ?_ | refine TL_eq_t (hk := ?_) | refine TL_eq_f (hk := ?_) | refine TL_nil ?_ | refine TL_move (hk := ?_) | refine TL_assign (hk := ?_) | refine TL_slice_lo TE (hk := ?_))
    refine TL_call TE (hc := scanN_c _ _ _ t w S h1 (by omega) hbs) (hk := ?_)
    rintro _ w1 ⟨rfl, u1, hs⟩
    repeat (first | refine TL_nil ?_ | refine TL_assign (hk := ?_))
    exact T_ret1 rfl rfl ⟨rfl, u1, hs⟩
  rw [if_neg d2]
  repeat (first | refine T_seq ?_ | refine T_region ?_ | refine T_cond_false rfl ?_ | refine T_inBlock ?_ | refine T_skip ?_ | refine TL_eq_f (hk := ?_) | refine TL_nil ?_ | refine TL_assign (hk := ?_))
  exact T_ret1 rfl rfl ⟨rfl, Up.ext (Mod.refl _ _), fun s' h => by cases h⟩
end Go.Proofs.YtjlaomcankmdjaaGreat

namespace Go.Proofs.YtjlaomcankmdjaaGreat
open Go.RowKit Go.Proofs.Eng Go.Proofs.Codec Go.Proofs.Foot Go.Proofs.Journal
set_option linter.unusedVariables false set_option maxRecDepth 10000
attribute [local irreducible] T TL LV TH TA
set_option maxHeartbeats 1600000
theorem jloads_get {w : World} : ∀ {xs : List Value} {ps : List (List UInt8)} {b e : Nat} {q : Nat}, Loads w b e xs ps → q < ps.length → ∃ A n c, xs[q]? = some (.slice A n c) ∧ Own w b 5 1 A n c (bv (ps.getD q []))
  | [], [], _, _, _, _, hx => by simp at hx
  | [], _ :: _, _, _, _, h, _ => h.elim
  | _ :: _, [], _, _, _, h, _ => h.elim
  | y :: t, p :: ps, b, e, 0, h, hx => by
    obtain ⟨A, n, c, b', h1, h2, h3, h4, h5⟩ := h
    exact ⟨A, n, c, by rw [h1]; rfl, h2⟩
  | y :: t, p :: ps, b, e, q + 1, h, hx => by
    obtain ⟨A, n, c, b', h1, h2, h3, h4, h5⟩ := h
    obtain ⟨A', n', c', g1, g2⟩ := jloads_get (q := q) h5 (by simpa using hx)
    exact ⟨A', n', c', by simpa using g1, Own.weaken (by simpa using g2) h4⟩
theorem openF_load {l : List UInt8} (h : (openF l).2.2 = 0) : (openF l).1.length ≤ 65536 ∧ (openF l).2.1 = (openF l).1.length + 8 := by
  unfold openF at h ⊢
  split
  · rename_i g; rw [if_pos g] at h; cases h
  · rename_i g
    rw [if_neg g] at h
    split
    · rename_i g; rw [if_pos g] at h; cases h
    · rename_i g
      rw [if_neg g] at h
      split
      · rename_i g; rw [if_pos g] at h; cases h
      · rename_i g
        rw [if_neg g] at h
        split
        · simp only [List.length_take, List.length_drop]; omega
        · rename_i g; rw [if_neg g] at h; cases h
theorem framesF_loads : ∀ (f : Nat) (l : List UInt8), (∀ p ∈ (framesF f l).1, p.length ≤ 65536) ∧ (framesF f l).1.length ≤ f
  | 0, l => ⟨fun p hp => (by cases hp), Nat.le_refl _⟩
  | f + 1, l => by
    unfold framesF
    split
    · exact ⟨fun p hp => (by cases hp), by simp⟩
    · split
      · rename_i h
        obtain ⟨h1, h2⟩ := framesF_loads f (l.drop (openF l).2.1)
        refine ⟨fun p hp => ?_, by simpa using h2⟩
        rcases List.mem_cons.1 hp with rfl | hp
        · exact (openF_load h).1
        · exact h1 p hp
      · exact ⟨fun p hp => (by cases hp), by simp⟩
def OpO (w w' : World) (base d : Nat) (gd : Nat → Nat) (o : Option LE × Nat × DK) (jp : Value) : Prop :=
  ∃ sl' gd', DiskM w' base d 0 sl' gd' o.2.2 ∧ Tn gd gd' w w' ∧ (match o.1 with
    | none => jp = .pointer none
    | some L => ∃ jb lg slg es g, jp = pB jb ∧ Blk w' jb 111 [pB d, pB lg, .int .i64 (L.l.length : Int)] ∧ LogM w' w.heap.size lg slg es g L ∧ LOk L ∧ g jb = 0 ∧ w.heap.size ≤ jb ∧ (∀ b, gd' b = 0 ∨ g b = 0) ∧ gd' jb = 0)
theorem Open_j {base d : Nat} {sl : SL} {gd : Nat → Nat} {k : DK} (w : World) (D : DiskM w base d 0 sl gd k) (hfit : ∀ b e, getEn b = some e → PFit e.p) :
    Ret Tryz.prog 12 [pB d] w (fun v w' => ∃ jp, v = .tuple #[jp, .int .i64 ((openJ k).2.1 : Int)] ∧ OpO w w' base d gd (openJ k) jp) := by
  have hln := D.ok.ln
  unfold openJ
  refine ret_T (n := 90) Tryz.func12 rfl rfl ?_
  repeat (first | refine T_seq ?_ | refine T_region ?_ | refine T_cond_false rfl ?_ | refine T_block ?_ | refine TL_pnil_f TE (hk := ?_) | refine TL_nil ?_ | refine TL_move (hk := ?_) | refine TL_assign (hk := ?_))
  refine TL_call TE (hc := Dead_c w D) (hk := ?_)
  rintro _ w1 ⟨rfl, D1, T1⟩
  cases hoff : k.off with
  | true =>
    rw [if_pos rfl]
    repeat (first | refine T_seq ?_ | refine T_region ?_ | refine T_cond_true rfl ?_ | refine TL_nil ?_ | refine TL_assign (hk := ?_))
    exact T_ret2 rfl rfl rfl ⟨_, rfl, sl, gd, D1, T1, rfl⟩
  | false => ?_
  rw [if_neg (by decide)]
  repeat (first | refine T_seq ?_ | refine T_region ?_ | refine T_cond_false rfl ?_ | refine T_inBlock ?_ | refine T_skip ?_ | refine TL_nil ?_ | refine TL_move (hk := ?_) | refine TL_assign (hk := ?_))
  refine TL_call TE (hc := Bytes_c w1 D1) (hk := ?_)
  rintro _ w2 ⟨Y, rfl, D2, T2, oY⟩
  have hbd : bytesD k = k.b := by unfold bytesD; rw [hoff]; rfl
  rw [hbd] at oY
  have hYl := oY.len
  simp only [bv_length, Nat.mul_one] at hYl
  have hYc := oY.cap.1
  have T02 := T1.trans T2
  repeat (first | refine T_seq ?_ | refine T_region ?_ | refine TL_nil ?_ | refine TL_move (hk := ?_) | refine TL_assign (hk := ?_))
  refine TL_call TE (hc := Frames_c Y.1 Y.2.1 Y.2.2 k.b w2 oY.rd (by omega) hYc) (hk := ?_)
  rintro _ w3 ⟨AF, nF, cF, xs, rfl, e3, oF, LF⟩
  obtain ⟨fr, hfr⟩ : ∃ fr, frames k.b = fr := ⟨_, rfl⟩
  have hfl := framesF_loads k.b.length k.b
  have hfr' : framesF k.b.length k.b = fr := hfr
  rw [hfr'] at hfl
  rw [hfr] at LF ⊢
  have D3 := D2.ext e3
  have T03 := T02.trans (Tn.ext (o := gd) e3)
  have z3 := e3.size
  have hxl : xs.length = nF := by have := oF.len; simpa using this
  have hpl : xs.length = fr.1.length := LF.len
  by_cases c1 : fr.2.2 ≠ 0 ∧ fr.2.2 ≠ 3
  · rw [if_pos c1]
    obtain ⟨c11, c12⟩ := c1
    repeat (first | refine T_seq ?_ | refine T_region ?_ | refine T_cond_true rfl ?_ | refine TL_ne_t (hk := ?_) | refine TL_nil ?_ | refine TL_move (hk := ?_) | refine TL_assign (hk := ?_) | refine TL_yes (hk := ?_) | refine TL_pick_t (hk := ?_) | refine TL_extract (hk := ?_))
    exact T_ret2 rfl rfl rfl ⟨_, rfl, sl, gd, D3, T03, rfl⟩
  rw [if_neg c1]
  repeat (first | refine TL_nil ?_ | refine TL_move (hk := ?_) | refine TL_assign (hk := ?_) | refine TL_extract (hk := ?_))
  refine T_seq ?_
  refine T_join (ι := Unit) (fun _ => [(5, .slice AF nF cF), (4, sL Y), (0, pB d)]) (fun _ w' => w' = w3) (fun kk join => ?_) ?_
  · by_cases c2 : fr.2.2 = 0
    · repeat (first | refine T_seq ?_ | refine T_region ?_ | refine T_cond_false rfl ?_ | refine T_skip ?_ | refine TL_ne_f (hk := ?_) | refine TL_nil ?_ | refine TL_move (hk := ?_) | refine TL_no (hk := ?_) | refine TL_pick_f (hk := ?_))
      exact T.sub (join () _ rfl) (.c rfl (.c rfl (.c rfl (.n))))
    · have c3 : fr.2.2 = 3 := by omega
      repeat (first | refine T_seq ?_ | refine T_region ?_ | refine T_cond_false rfl ?_ | refine T_skip ?_ | refine TL_ne_t (hk := ?_) | refine TL_ne_f (hk := ?_) | refine TL_nil ?_ | refine TL_move (hk := ?_) | refine TL_yes (hk := ?_) | refine TL_pick_t (hk := ?_))
      exact T.sub (join () _ rfl) (.c rfl (.c rfl (.c rfl (.n))))
  rintro _ w4 rfl
  repeat (first | refine T_seq ?_ | refine T_region ?_)
  refine TL_call TE (hc := LNew_c w4) (hk := ?_)
  rintro _ w5 ⟨lg, g0, rfl, e5, L5⟩
  repeat (refine TL_build TE (hk := ?_))
  refine TL_box (hk := ?_); intro sb w6 e6 h6 h6' k6
  have z5 := e5.size
  have z6 := e6.size
  have hg0 : ∀ b, g0 b ≠ 0 → b < w5.heap.size := fun b hb => (L5.old b hb).2
  have gsb : g0 sb = 0 := by
    by_cases q : g0 sb = 0
    · exact q
    · have := hg0 sb q; omega
  have S6 : ScM w6 w4.heap.size sb lg (none, 0, 0) [] g0 (none, 0, 0) [] sc0 := ⟨k6, L5.ext e6, ⟨Nat.zero_le _, by decide, trivial⟩, Own.nil _ _ _ _, rfl, fun z hz => (by cases hz), gsb, fun q => (by cases q), fun u hu => (by cases hu), by omega, Nat.zero_le _⟩
  have e46 := e5.ext e6
  repeat (first | refine T_seq ?_ | refine T_region ?_ | refine T_block ?_ | refine TL_nil ?_ | refine TL_move (hk := ?_) | refine TL_assign (hk := ?_) | refine TL_len TE (hk := ?_))
  refine T_loop (ι := (Nat × Nat × Nat) × SC) (fun i => [(40, .int .i64 (i.1.1 : Int)), (39, .int .i64 (nF : Int)), (38, .slice AF nF cF), (10, .int .i64 (i.1.2.2 : Int)), (9, .int .i64 (i.1.2.1 : Int)), (8, pB sb), (4, sL Y), (0, pB d)])
    (fun i w' => i.1.1 ≤ nF ∧ Ext w4 w' ∧ (∃ sl es g y ys, ScM w' w4.heap.size sb lg sl es g y ys i.2) ∧ scanF (fr.1.drop i.1.1) i.2 i.1.2.1 i.1.2.2 = scanF fr.1 sc0 0 0 ∧ i.1.2.1 ≤ 70000 * i.1.1 ∧ i.1.2.2 ≤ i.1.2.1) (fun i => nF - i.1.1) ((0, 0, 0), sc0) (.c rfl (.c rfl (.c rfl (.c rfl (.c rfl (.c rfl (.c rfl (.c rfl (.n)))))))))
    ⟨Nat.zero_le _, e46, ⟨_, _, _, _, _, S6⟩, rfl, Nat.zero_le _, Nat.zero_le _⟩ ?_
  rintro ⟨⟨i, at_, wh⟩, s⟩ w7 ⟨hi, e7, ⟨sl7, es7, g7, y7, ys7, S7⟩, hsc, hat, hwh⟩ ih
  simp only at hi e7 S7 hsc hat hwh ih ⊢
  have z7 := e7.size
  by_cases hlt : i < nF
  · have hip : i < fr.1.length := by omega
    obtain ⟨A, n, c, hxi, ox⟩ := jloads_get (q := i) LF hip
    have hp0 : fr.1.getD i [] = fr.1[i] := by rw [List.getD_eq_getElem?_getD, List.getElem?_eq_getElem hip]; rfl
    have hp1 := hfl.1 _ (List.getElem_mem hip)
    rw [hp0] at ox
    rw [List.drop_eq_getElem_cons hip] at hsc
    obtain ⟨p, hp⟩ : ∃ p, fr.1[i] = p := ⟨_, rfl⟩
    rw [hp] at ox hp1 hsc
    have hpn := ox.len
    simp only [bv_length, Nat.mul_one] at hpn
    have oc := ox.cap.1
    have ox7 := ox.be e7
    have oF7 := oF.be e7
    have hAF : AF ≠ none := by obtain ⟨_, _, hq, _⟩ := oF.rd.2 (by omega); rw [hq]; simp
    have rF7 := oF7.rd
    repeat (first | refine T_seq ?_ | refine T_region ?_ | refine T_cond_true rfl ?_ | refine T_block ?_ | refine T_skip ?_ | refine TL_lt_t (hk := ?_) | refine TL_nil ?_ | refine TL_move (hk := ?_) | refine TL_assign (hk := ?_) | refine TL_load_rd TE (hk := ?_) | refine TL_indexAddr1n TE (hk := ?_))
    refine TL_call TE (hc := scanR_c A n c p w7 S7 ox7.rd (by omega) oc z7 hfit) (hk := ?_)
    rintro _ w8 ⟨rfl, u8, hs8⟩
    have e8 := u8.to e7 (Nat.le_refl _)
    have hsc2 : (match scR s p with
      | none => none
      | some s' => scanF (fr.1.drop (i + 1)) s' (at_ + (p.length + 8)) (if gb p 0 = 2 then at_ + (p.length + 8) else wh)) = scanF fr.1 sc0 0 0 := hsc
    cases hq : scR s p with
    | none =>
      rw [hq] at hsc2
      rw [← hsc2]
      repeat (first | refine T_seq ?_ | refine T_region ?_ | refine T_cond_true rfl ?_ | refine TL_nil ?_ | refine TL_assign (hk := ?_) | refine TL_not (hk := ?_))
      exact T_ret2 rfl rfl rfl ⟨_, rfl, sl, gd, D3.ext e8, T03.trans (Tn.ext (o := gd) e8), rfl⟩
    | some s' => ?_
    rw [hq] at hsc2 hs8
    simp only at hsc2
    have hs9 := hs8 s' rfl
    have hp0' : 0 < n := by
      cases p with
      | nil => cases hq
      | cons x t => simp at hpn; omega
    have ox8 := ox.be e8
    have rx8 := ox8.rd
    have hA : A ≠ none := by obtain ⟨_, _, hq, _⟩ := ox.rd.2 (by omega); rw [hq]; simp
    rw [hpn] at hsc2
    obtain ⟨kk, hkk⟩ : ∃ x, gb p 0 = x := ⟨_, rfl⟩
    rw [hkk] at hsc2
    have hat2 : at_ ≤ 400000000000 := by omega
    obtain ⟨at2, hat3⟩ : ∃ x, at_ + (n + 8) = x := ⟨_, rfl⟩
    have hai : (at_ : Int) + ((n : Int) + 8) = (at2 : Int) := by omega
    rw [hat3] at hsc2
    repeat (first | refine T_seq ?_ | refine T_region ?_ | refine T_cond_false rfl ?_ | refine T_skip ?_ | refine TL_add (hk := ?_) | refine TL_nil ?_ | refine TL_move (hk := ?_) | refine TL_assign (hk := ?_) | (refine TL_load_b TE (hk := ?_); intro _) | refine TL_indexAddr1n TE (hk := ?_) | refine TL_len TE (hk := ?_) | refine TL_not (hk := ?_))
    rw [hkk, hai]
    by_cases d2 : kk = 2
    · rw [if_pos d2] at hsc2
      repeat (first | refine T_region ?_ | refine T_cond_true rfl ?_ | refine T_inBlock ?_ | refine TL_add (hk := ?_) | refine TL_eq_t (hk := ?_) | refine TL_nil ?_ | refine TL_move (hk := ?_) | refine TL_assign (hk := ?_))
      exact ih ((i + 1, at2, at2), s') _ _ (by simp only; omega) ⟨by show i + 1 ≤ nF; omega, e8, hs9, hsc2, by show at2 ≤ 70000 * (i + 1); omega, Nat.le_refl _⟩ (.c rfl (.c rfl (.c rfl (.c rfl (.c rfl (.c rfl (.c rfl (.c rfl (.n)))))))))
    · rw [if_neg d2] at hsc2
      repeat (first | refine T_region ?_ | refine T_cond_false rfl ?_ | refine T_inBlock ?_ | refine T_skip ?_ | refine TL_add (hk := ?_) | refine TL_eq_f (hk := ?_) | refine TL_nil ?_ | refine TL_move (hk := ?_))
      exact ih ((i + 1, at2, wh), s') _ _ (by simp only; omega) ⟨by show i + 1 ≤ nF; omega, e8, hs9, hsc2, by show at2 ≤ 70000 * (i + 1); omega, by show wh ≤ at2; omega⟩ (.c rfl (.c rfl (.c rfl (.c rfl (.c rfl (.c rfl (.c rfl (.c rfl (.n)))))))))
  · clear ih
    obtain rfl : i = nF := by omega
    rw [List.drop_of_length_le (by omega)] at hsc
    have hsc2 : scanF fr.1 sc0 0 0 = some (s, wh) := hsc.symm
    rw [hsc2]
    unfold open2
    have D7 := D3.ext e7
    have T07 := T03.trans (Tn.ext (o := gd) e7)
    have hY : (k.b.length : Int) = (Y.2.1 : Int) := by omega
    obtain ⟨r1, hr1⟩ : ∃ r, (if wh < k.b.length then opD k (cutD (wh : Int)) else (k, 0)) = r := ⟨_, rfl⟩
    simp only
    rw [hr1]
    refine T_seq ?_
    refine T_region ?_
    repeat (first | refine TL_lt_f (hk := ?_) | refine TL_nil ?_)
    refine T_seq ?_
    repeat (first | refine T_cond_false rfl ?_ | refine T_exit rfl ?_)
    have hdis : ∀ b, gd b = 0 ∨ g7 b = 0 := fun b => by
      by_cases q : gd b = 0
      · exact .inl q
      · right
        have h1 := (D3.old b q).2
        by_cases q2 : g7 b = 0
        · exact q2
        · have h2 := (S7.log.old b q2).1; omega
    have gdsb : gd sb = 0 := by
      by_cases q : gd sb = 0
      · exact q
      · have h1 := (D3.old sb q).2; have h2 := S7.hs; omega
    have hbs7 := S7.blk
    refine T_seq ?_
    refine T_join (ι := SL × (Nat → Nat)) (fun _ => [(10, .int .i64 (wh : Int)), (8, pB sb), (0, pB d)]) (fun i w' => r1.2 = 0 ∧ DiskM w' base d 0 i.1 i.2 r1.1 ∧ Tn gd i.2 w w' ∧ LogM w' w4.heap.size lg sl7 es7 g7 s.log ∧ Blk w' sb 109 [pB lg, sL y7, .int .i64 s.ep, .int .i64 s.last] ∧ (∀ b, i.2 b = 0 ∨ g7 b = 0) ∧ i.2 sb = 0) (fun kk join => ?_) ?_
    · by_cases c3 : wh < k.b.length
      · rw [if_pos c3] at hr1
        have c3' : (wh : Int) < (Y.2.1 : Int) := by omega
        repeat (first | refine T_seq ?_ | refine T_region ?_ | refine T_cond_true rfl ?_ | refine TL_lt_t (hk := ?_) | refine TL_nil ?_ | refine TL_move (hk := ?_) | refine TL_len TE (hk := ?_))
        refine TL_call TE (hc := Cut_c (wh : Int) w7 D7) (hk := ?_)
        rintro _ w8 ⟨rfl, sl8, gd8, D8, T8⟩
        rw [hr1] at D8 ⊢
        have T08 := T07.trans T8
        obtain ⟨L8, hd8⟩ := S7.log.tn T8 hdis
        have k8 : Blk w8 sb 109 [pB lg, sL y7, .int .i64 s.ep, .int .i64 s.last] := by
          obtain ⟨⟨Z, m8, s8⟩, -, -⟩ := T8
          exact hbs7.mod m8 (fun q => s8 sb q gdsb)
        have gd8sb : gd8 sb = 0 := T8.old gdsb hbs7.lt
        by_cases c4 : r1.2 = 0
        · have c4' : ((r1.2 : Nat) : Int) = 0 := by omega
          repeat (first | refine T_seq ?_ | refine T_region ?_ | refine T_cond_false rfl ?_ | refine T_skip ?_ | refine TL_ne_f (hk := ?_) | refine TL_nil ?_ | refine TL_move (hk := ?_) | refine TL_assign (hk := ?_))
          exact T.sub (join (sl8, gd8) _ ⟨c4, D8, T08, L8, k8, hd8, gd8sb⟩) (.c rfl (.c rfl (.c rfl (.n))))
        · have c4' : ¬ ((r1.2 : Nat) : Int) = 0 := by omega
          rw [if_pos c4]
          repeat (first | refine T_seq ?_ | refine T_region ?_ | refine T_cond_true rfl ?_ | refine TL_ne_t (hk := ?_) | refine TL_nil ?_ | refine TL_move (hk := ?_) | refine TL_assign (hk := ?_))
          exact T_ret2 rfl rfl rfl ⟨_, rfl, sl8, gd8, D8, T08, rfl⟩
      · rw [if_neg c3] at hr1
        have c3' : ¬ (wh : Int) < (Y.2.1 : Int) := by omega
        repeat (first | refine T_seq ?_ | refine T_region ?_ | refine T_cond_false rfl ?_ | refine T_skip ?_ | refine TL_lt_f (hk := ?_) | refine TL_nil ?_ | refine TL_move (hk := ?_) | refine TL_len TE (hk := ?_))
        exact T.sub (join (sl, gd) _ ⟨by rw [← hr1], by rw [← hr1]; exact D7, T07, S7.log, hbs7, hdis, gdsb⟩) (.c rfl (.c rfl (.c rfl (.n))))
    rintro ⟨sl8, gd8⟩ w8 ⟨hr0, D8, T08, L8, k8, hd8, gs8⟩
    simp only at D8 T08 hd8 gs8
    rw [if_neg (by omega)]
    have hLok := S7.ok
    clear D7 T07 S7 hbs7 hdis gdsb
    obtain ⟨k1, hk1⟩ : ∃ x, r1.1 = x := ⟨_, rfl⟩
    rw [hk1] at D8 ⊢
    unfold open3
    obtain ⟨r2, hr2⟩ : ∃ r, (if safeD k1 < wh then opD k1 synD else (k1, 0)) = r := ⟨_, rfl⟩
    rw [hr2]
    refine T_seq ?_
    refine T_join (ι := SL × (Nat → Nat)) (fun _ => [(8, pB sb), (0, pB d)]) (fun i w' => r2.2 = 0 ∧ DiskM w' base d 0 i.1 i.2 r2.1 ∧ Tn gd i.2 w w' ∧ LogM w' w4.heap.size lg sl7 es7 g7 s.log ∧ Blk w' sb 109 [pB lg, sL y7, .int .i64 s.ep, .int .i64 s.last] ∧ (∀ b, i.2 b = 0 ∨ g7 b = 0) ∧ i.2 sb = 0) (fun kk join => ?_) ?_
    · repeat (first | refine T_seq ?_ | refine T_region ?_ | refine TL_move (hk := ?_))
      refine TL_call TE (hc := Safe_c w8 D8) (hk := ?_)
      rintro _ w9 ⟨rfl, D9, T9⟩
      have T09 := T08.trans T9
      obtain ⟨L9, hd9⟩ := L8.tn T9 hd8
      have k9 : Blk w9 sb 109 [pB lg, sL y7, .int .i64 s.ep, .int .i64 s.last] := by
        obtain ⟨⟨Z, m8, s8⟩, -, -⟩ := T9
        exact k8.mod m8 (fun q => s8 sb q gs8)
      by_cases c3 : safeD k1 < wh
      · rw [if_pos c3] at hr2
        have c3' : ((safeD k1 : Nat) : Int) < (wh : Int) := by omega
        repeat (first | refine T_seq ?_ | refine T_region ?_ | refine T_cond_true rfl ?_ | refine TL_lt_t (hk := ?_) | refine TL_nil ?_ | refine TL_move (hk := ?_))
        refine TL_call TE (hc := Sync_c w9 D9) (hk := ?_)
        rintro _ w10 ⟨rfl, sl10, gd10, D10, T10⟩
        rw [hr2] at D10 ⊢
        have T010 := T09.trans T10
        obtain ⟨L10, hd10⟩ := L9.tn T10 hd9
        have k10 : Blk w10 sb 109 [pB lg, sL y7, .int .i64 s.ep, .int .i64 s.last] := by
          obtain ⟨⟨Z, m8, s8⟩, -, -⟩ := T10
          exact k9.mod m8 (fun q => s8 sb q gs8)
        have gd10sb : gd10 sb = 0 := T10.old gs8 k9.lt
        by_cases c4 : r2.2 = 0
        · have c4' : ((r2.2 : Nat) : Int) = 0 := by omega
          repeat (first | refine T_seq ?_ | refine T_region ?_ | refine T_cond_false rfl ?_ | refine T_skip ?_ | refine TL_ne_f (hk := ?_) | refine TL_nil ?_ | refine TL_move (hk := ?_) | refine TL_assign (hk := ?_))
          exact T.sub (join (sl10, gd10) _ ⟨c4, D10, T010, L10, k10, hd10, gd10sb⟩) (.c rfl (.c rfl (.n)))
        · have c4' : ¬ ((r2.2 : Nat) : Int) = 0 := by omega
          rw [if_pos c4]
          repeat (first | refine T_seq ?_ | refine T_region ?_ | refine T_cond_true rfl ?_ | refine TL_ne_t (hk := ?_) | refine TL_nil ?_ | refine TL_move (hk := ?_) | refine TL_assign (hk := ?_))
          exact T_ret2 rfl rfl rfl ⟨_, rfl, sl10, gd10, D10, T010, rfl⟩
      · rw [if_neg c3] at hr2
        have c3' : ¬ ((safeD k1 : Nat) : Int) < (wh : Int) := by omega
        repeat (first | refine T_cond_false rfl ?_ | refine T_skip ?_ | refine TL_lt_f (hk := ?_) | refine TL_nil ?_ | refine TL_move (hk := ?_))
        exact T.sub (join (sl8, gd8) _ ⟨by rw [← hr2], by rw [← hr2]; exact D9, T09, L9, k9, hd9, gs8⟩) (.c rfl (.c rfl (.n)))
    rintro ⟨sl9, gd9⟩ w9 ⟨hr0', D9, T09, L9, k9, hd9, gs9⟩
    simp only at D9 T09 hd9 gs9
    rw [if_neg (by omega)]
    repeat (refine T_seq ?_)
    refine T_region_any TE.mixed ([] : List Nat) ?_; intro w10 e10 z10
    have k10 := k9.be e10
    have hsD : sb ∉ ([] : List Nat) := by simp
    (refine TA_take 0 rfl (by kernel_rfl) (by kernel_rfl) (by kernel_rfl) ?_; (repeat (first | refine TL_move (hk := ?_) | refine TLP_load TE (hk := ?_) | refine TL_fieldAddr TE (hk := ?_) | refine TL_nilCheck (hk := ?_))); refine TL_nil_p ?_); (refine TA_take 1 rfl (by kernel_rfl) (by kernel_rfl) (by kernel_rfl) ?_; (repeat (first | refine TL_move (hk := ?_) | refine TLP_load TE (hk := ?_) | refine TL_fieldAddr TE (hk := ?_) | refine TL_nilCheck (hk := ?_))); refine TL_nil_p ?_); (refine TA_take 2 rfl (by kernel_rfl) (by kernel_rfl) (by kernel_rfl) ?_; (repeat (first | refine TL_move (hk := ?_) | refine TLP_load TE (hk := ?_) | refine TL_fieldAddr TE (hk := ?_) | refine TL_nilCheck (hk := ?_))); refine TL_nil_p ?_); (refine TA_take 3 rfl (by kernel_rfl) (by kernel_rfl) (by kernel_rfl) ?_; (repeat (first | refine TL_move (hk := ?_) | refine TLP_load TE (hk := ?_) | refine TL_fieldAddr TE (hk := ?_) | refine TL_nilCheck (hk := ?_))); refine TL_nil_p ?_); (refine TA_take 4 rfl (by kernel_rfl) (by kernel_rfl) (by kernel_rfl) ?_; (repeat (first | refine TL_move (hk := ?_) | refine TLP_load TE (hk := ?_) | refine TL_fieldAddr TE (hk := ?_) | refine TL_nilCheck (hk := ?_))); refine TL_nil_p ?_); (refine TA_take 5 rfl (by kernel_rfl) (by kernel_rfl) (by kernel_rfl) ?_; (repeat (first | refine TL_move (hk := ?_) | refine TLP_load TE (hk := ?_) | refine TL_fieldAddr TE (hk := ?_) | refine TL_nilCheck (hk := ?_))); refine TL_nil_p ?_); (refine TA_take 6 rfl (by kernel_rfl) (by kernel_rfl) (by kernel_rfl) ?_; (repeat (first | refine TL_move (hk := ?_) | refine TLP_load TE (hk := ?_) | refine TL_fieldAddr TE (hk := ?_) | refine TL_nilCheck (hk := ?_))); refine TL_nil_p ?_); (refine TA_take 7 rfl (by kernel_rfl) (by kernel_rfl) (by kernel_rfl) ?_; (repeat (first | refine TL_move (hk := ?_) | refine TLP_load TE (hk := ?_) | refine TL_fieldAddr TE (hk := ?_) | refine TL_nilCheck (hk := ?_))); refine TL_nil_p ?_); (refine TA_take 8 rfl (by kernel_rfl) (by kernel_rfl) (by kernel_rfl) ?_; (repeat (first | refine TL_move (hk := ?_) | refine TLP_load TE (hk := ?_) | refine TL_fieldAddr TE (hk := ?_) | refine TL_nilCheck (hk := ?_))); refine TL_nil_p ?_)
    refine TA_one 9 rfl (by kernel_rfl) (by kernel_rfl) ?_; (try refine TL_yes (hk := ?_)); refine TL_call TE (hc := (LLen_c w10 (L9.ext e10))) (hq := (by rintro _ _ ⟨_, h⟩; rw [h]; exact Mod.refl _ _)) (hk := ?_)
    rintro _ w11 ⟨rfl, hw11⟩
    rw [hw11]
    clear hw11 w11
    refine TL_nil_p ?_
    (refine TA_take 10 rfl (by kernel_rfl) (by kernel_rfl) (by kernel_rfl) ?_; (repeat (refine TL_build TE (hk := ?_))); refine TL_nil_p ?_)
    refine TA_one 11 rfl (by kernel_rfl) (by kernel_rfl) ?_
    refine TL_box (hf := rfl) (hq := fun _ e => e) (hk := ?_); intro jb w12 e12 h12 h12' k12
    refine TL_nil_p ?_
    (refine TA_take 12 rfl (by kernel_rfl) (by kernel_rfl) (by kernel_rfl) ?_; (repeat (refine TL_assign (hk := ?_))); refine TL_nil_p ?_); (refine TA_take 13 rfl (by kernel_rfl) (by kernel_rfl) (by kernel_rfl) ?_; (repeat (refine TL_assign (hk := ?_))); refine TL_nil_p ?_)
    refine TA_done (by kernel_rfl) ?_
    --
    have ee := e10.ext e12
    have z10 := e10.size
    have hw4 : w.heap.size ≤ w4.heap.size := T03.size
    have D12 := D9.ext ee
    have L12 := L9.ext ee
    have gj : g7 jb = 0 := by
      by_cases q : g7 jb = 0
      · exact q
      · have := (L9.old jb q).2; omega
    have gdj : gd9 jb = 0 := by
      by_cases q : gd9 jb = 0
      · exact q
      · have := (D9.old jb q).2; omega
    exact T_ret2 rfl rfl rfl ⟨_, rfl, sl9, gd9, D12, T09.trans (Tn.ext (o := gd9) ee), jb, lg, sl7, es7, g7, rfl, k12, { L12 with ow := Own.weaken L12.ow hw4, old := fun b hb => by have := L12.old b hb; omega }, hLok, gj, by have := T09.size; omega, hd9, gdj⟩
end Go.Proofs.YtjlaomcankmdjaaGreat

namespace Go.Proofs.YtjlaomcankmdjaaGreat
open Go.RowKit Go.Proofs.Eng Go.Proofs.Codec Go.Proofs.Foot Go.Proofs.Journal
set_option linter.unusedVariables false set_option maxRecDepth 10000
attribute [local irreducible] T TL LV TH TA
set_option maxHeartbeats 1600000
structure JrM (w : World) (base jb d lg : Nat) (sd : SL) (gd : Nat → Nat) (k : DK) (sl : SL) (es : List EM) (g : Nat → Nat) (L : LE) (fl : Int) : Prop where
  blk : Blk w jb 111 [pB d, pB lg, .int .i64 fl]
  dk : DiskM w base d 0 sd gd k
  log : LogM w base lg sl es g L
  ok : LOk L
  ap : ∀ b, gd b = 0 ∨ g b = 0
  gj : g jb = 0
  dj : gd jb = 0
  hj : base ≤ jb
def oJ (jb : Nat) (gd : Nat → Nat) (b : Nat) : Nat := if b = jb then 1 else gd b
theorem oJ_ne {jb b : Nat} {gd : Nat → Nat} (h : b ≠ jb) : oJ jb gd b = gd b := if_neg h
theorem oJ_at {jb : Nat} {gd : Nat → Nat} : oJ jb gd jb = 1 := if_pos rfl
section
variable {w w' : World} {base jb d lg : Nat} {sd : SL} {gd gd' : Nat → Nat} {k : DK} {sl : SL} {es : List EM} {g : Nat → Nat} {L : LE} {fl : Int}
theorem JrM.ext (J : JrM w base jb d lg sd gd k sl es g L fl) (e : Ext w w') : JrM w' base jb d lg sd gd k sl es g L fl := { J with blk := J.blk.be e, dk := J.dk.ext e, log := J.log.ext e }
theorem JrM.old (J : JrM w base jb d lg sd gd k sl es g L fl) : ∀ b, oJ jb gd b ≠ 0 → base ≤ b ∧ b < w.heap.size := fun b hb => by
  by_cases q : b = jb
  · rw [q]; exact ⟨J.hj, J.blk.lt⟩
  · rw [oJ_ne q] at hb; exact J.dk.old b hb
theorem oJ_tn (t : Tn gd gd' w w') : Tn (oJ jb gd) (oJ jb gd') w w' := by
  obtain ⟨⟨S, m, s⟩, n, z⟩ := t
  refine ⟨⟨S, m, fun b hb => ?_⟩, fun b hb => ?_, z⟩
  · unfold oJ; split
    · decide
    · exact s b hb
  · unfold oJ at hb ⊢
    split at hb
    · rename_i q; left; rw [if_pos q]; decide
    · rename_i q; rw [if_neg q]; exact n b hb
theorem oJ_one (m : Eng.Mod [jb] w w') : Tn (oJ jb gd) (oJ jb gd) w w' := ⟨⟨_, m, fun b hb => by rw [List.mem_singleton.1 hb, oJ_at]; decide⟩, fun b hb => .inl hb, m.size⟩
theorem JrM.disk (J : JrM w base jb d lg sd gd k sl es g L fl) {sd' : SL} {k' : DK} (D : DiskM w' base d 0 sd' gd' k') (t : Tn gd gd' w w') : JrM w' base jb d lg sd' gd' k' sl es g L fl := by
  obtain ⟨L', h'⟩ := J.log.tn t J.ap
  refine ⟨?_, D, L', J.ok, h', J.gj, t.old J.dj J.blk.lt, J.hj⟩
  obtain ⟨⟨S, m, s⟩, -, -⟩ := t
  exact J.blk.mod m (fun q => s jb q J.dj)
end
def frB (l : List EE) (i : Nat) : List UInt8 := ((l.take i).map fun e => kindF 1 (putEn [] e).1).flatten
theorem frB_succ (l : List EE) (i : Nat) (h : i < l.length) (d : EE) : frB l (i + 1) = frB l i ++ kindF 1 (putEn [] (l.getD i d)).1 := by
  unfold frB
  rw [List.take_succ_eq_append_getElem h, List.map_append, List.flatten_append, List.getD_eq_getElem?_getD, List.getElem?_eq_getElem h]
  simp
theorem frB_all (l : List EE) (ep : Int) : frB l l.length ++ kindF 2 (encU ep.toNat) = epF ep l := by unfold frB epF; rw [List.take_length]
theorem jframe_len (b : List UInt8) : (frame b).length = b.length + 8 := by
  unfold frame four
  simp only [List.length_append, List.length_cons, List.length_nil]
  omega
theorem kindF_len (c : Nat) (b : List UInt8) : (kindF c b).length = b.length + 9 := by unfold kindF; rw [jframe_len, List.length_cons]
theorem frB_len {l : List EE} (h : ∀ e ∈ l, EOk e) : ∀ i, i ≤ l.length → (frB l i).length ≤ 6000 * i
  | 0, _ => by simp [frB]
  | i + 1, hi => by
    have h1 := frB_len h i (by omega)
    have hm : l.getD i (emE em0) ∈ l := by rw [List.getD_eq_getElem?_getD, List.getElem?_eq_getElem (by omega)]; exact List.getElem_mem _
    have h2 := entB_len (h _ hm)
    rw [frB_succ l i (by omega) (emE em0), List.length_append, kindF_len, putEn_ok (h _ hm)]
    simp only
    omega
theorem fromL_mem {L : LE} {s m : Nat} : ∀ e ∈ fromL L s m, e ∈ L.l := fun e he => List.mem_of_mem_drop (List.mem_of_mem_take he)
theorem Write_c {base jb d lg : Nat} {sd : SL} {gd : Nat → Nat} {k : DK} {sl : SL} {es : List EM} {g : Nat → Nat} {L : LE} {fl : Int} (ep : Int) (A : Option Addr) (n c : Nat) (xs : List PM) (w : World) (J : JrM w base jb d lg sd gd k sl es g L fl)
    (hp : Rd w A n 7 (rowV pmV xs)) (hx : ∀ x ∈ xs, PLies w x ∧ PFit x.p) (hA : ∀ b ∈ blkL A, b < w.heap.size) (hB : ∀ x ∈ xs, ∀ b ∈ pmB x, b < w.heap.size) (hn : n ≤ 1000000) (hep : -9223372036854775808 ≤ ep ∧ ep ≤ 9223372036854775807) :
    Ret Tryz.prog 18 [pB jb, .int .i64 ep, .slice A n c] w (fun v w' => v = .tuple #[.int .i64 (writeJ L k ep (xs.map (·.p))).1.2.1, .int .i64 ((writeJ L k ep (xs.map (·.p))).1.2.2 : Int)] ∧
      ∃ lg' sd' gd' sl' es' g', JrM w' base jb d lg' sd' gd' (writeJ L k ep (xs.map (·.p))).2 sl' es' g' (writeJ L k ep (xs.map (·.p))).1.1 fl ∧ Tn (oJ jb gd) (oJ jb gd') w w' ∧ ∀ b, g' b ≠ 0 → g b ≠ 0 ∨ w.heap.size ≤ b) := by
  have hbk := J.blk
  have hL := J.ok
  have hLn := hL.n
  have hxl : xs.length = n := by have := hp.1; rw [rowV_len pmV_len] at this; omega
  obtain ⟨ps, hps⟩ : ∃ ps, xs.map (·.p) = ps := ⟨_, rfl⟩
  have hpsl : ps.length = n := by rw [← hps, List.length_map]; exact hxl
  obtain ⟨ap, hap⟩ : ∃ ap, appL L ep ps = ap := ⟨_, rfl⟩
  rw [hps]
  unfold writeJ
  rw [hap]
  refine ret_T (n := 76) Tryz.func18 rfl rfl ?_
  repeat (first | refine T_seq ?_ | refine T_region ?_ | refine T_cond_false rfl ?_ | refine T_skip ?_ | refine TL_pnil_f TE (hk := ?_) | refine TL_nil ?_ | refine TL_move (hk := ?_) | refine TL_assign (hk := ?_) | refine TL_load TE (hk := ?_) | refine TL_fieldAddr TE (hk := ?_) | refine TL_nilCheck (hk := ?_))
  refine TL_call TE (hc := copied_c w J.log hL) (hk := ?_)
  rintro _ w1 ⟨lg2, sl2, es2, g2, rfl, e1, L1⟩
  have J1 := J.ext e1
  have z1 := e1.size
  have hg2 : ∀ b, b < w.heap.size → g2 b = 0 := fun b hb => by
    by_cases q : g2 b = 0
    · exact q
    · have := (L1.old b q).1; omega
  repeat (first | refine T_seq ?_ | refine T_region ?_ | refine TL_nil ?_ | refine TL_move (hk := ?_) | refine TL_assign (hk := ?_))
  refine TL_call TE (hc := LAppend_c ep A n c xs w1 L1 (hp.be e1) (fun x hm => ⟨(hx x hm).1.be e1, (hx x hm).2⟩) (fun b hb => hg2 b (hA b hb)) (fun x hm b hb => hg2 b (hB x hm b hb)) hn hLn) (hk := ?_)
  rintro _ w2 ⟨rfl, sl3, es3, g3, L2, T2⟩
  rw [hps, hap] at L2 ⊢
  have e02 : Ext w w2 := T2.ext0 e1 (fun b hb => (L1.old b hb).1)
  have J2 := J.ext e02
  have z2 := e02.size
  have hLk2 : LOk ap.1 := by
    rw [← hap]
    exact appL_ok hL hep.2 (fun p hp' => by rw [← hps] at hp'; obtain ⟨x, hm, rfl⟩ := List.mem_map.1 hp'; exact (hx x hm).2)
  by_cases c1 : ap.2.2.1 = 0
  · rw [if_neg (fun q => q c1), c1]
    obtain ⟨b1, b2, b3, b4, b5⟩ := app_ok (L := L) (ep := ep) (ps := ps) (by rw [hap]; exact c1)
    rw [hap] at b5
    have hfi : ap.2.1 = (L.l.length : Int) := by rw [b5]
    rw [hfi]
    repeat (first | refine T_seq ?_ | refine T_region ?_ | refine T_cond_false rfl ?_ | refine T_skip ?_ | refine TL_ne_f (hk := ?_) | refine TL_nil ?_ | refine TL_move (hk := ?_) | refine TL_assign (hk := ?_) | refine TL_len TE (hk := ?_) | refine TL_extract (hk := ?_))
    refine TL_call TE (hc := LFrom_c (L.l.length : Int) (n : Int) w2 L2 hLk2.n (by omega)) (hk := ?_)
    rintro _ w3 ⟨y, ys, rfl, e3, O3⟩
    rw [Int.toNat_natCast, Int.toNat_natCast] at O3
    rw [hpsl]
    obtain ⟨l, hl⟩ : ∃ l, fromL ap.1 L.l.length n = l := ⟨_, rfl⟩
    rw [hl] at O3 ⊢
    have hlok : ∀ e ∈ l, EOk e := fun e he => (hLk2.run.le e (fromL_mem e (by rw [hl]; exact he))).2
    have hyl := O3.len
    have hll : l.length ≤ 65536 := by
      rw [← hl]
      unfold fromL
      rw [List.length_take, List.length_drop]
      have := hLk2.n
      omega
    have hysl : ys.length = l.length := by have := congrArg List.length O3.ee; rwa [List.length_map] at this
    have J3 := J2.ext e3
    have z3 := e3.size
    clear J1
    repeat (first | refine T_block ?_ | refine TL_nil ?_ | refine TL_move (hk := ?_) | refine TL_len TE (hk := ?_))
    refine T_loop (ι := Nat × SL) (fun i => [(42, .int .i64 (i.1 : Int)), (41, .int .i64 (y.2.1 : Int)), (40, sL y), (12, sL i.2), (9, .int .i64 (L.l.length : Int)), (8, pB lg2), (1, .int .i64 ep), (0, pB jb)])
      (fun i w' => i.1 ≤ l.length ∧ Ext w3 w' ∧ Own w' w3.heap.size 5 1 i.2.1 i.2.2.1 i.2.2.2 (bv (frB l i.1))) (fun i => l.length - i.1) (0, (none, 0, 0)) (.c rfl (.c rfl (.c rfl (.c rfl (.c rfl (.c rfl (.c rfl (.c rfl (.n))))))))) ⟨Nat.zero_le _, Mod.refl _ _, by unfold frB; exact Own.nil _ _ _ _⟩ ?_
    rintro ⟨i, Z⟩ w4 ⟨hi, e4, oZ⟩ ih
    simp only at hi oZ ih ⊢
    have z4 := e4.size
    have lZ := oZ.len
    have lF := frB_len hlok i hi
    simp only [bv_length, Nat.mul_one] at lZ
    by_cases hlt : i < l.length
    · have hr := O3.ow.rd.be e4
      have hA' : y.1 ≠ none := by obtain ⟨_, _, hq, _⟩ := hr.2 (by omega); rw [hq]; simp
      have t1 := rowV_elem emV_len ys i em0 (by omega)
      have hmem : ys.getD i em0 ∈ ys := by rw [List.getD_eq_getElem?_getD, List.getElem?_eq_getElem (by omega)]; exact List.getElem_mem _
      obtain ⟨hX, hF, -⟩ := O3.ek _ hmem
      have hat : emE (ys.getD i em0) = l.getD i (emE em0) := by
        rw [← O3.ee, List.getD_eq_getElem?_getD, List.getD_eq_getElem?_getD, List.getElem?_map, List.getElem?_eq_getElem (by omega)]
        rfl
      have hie : l.getD i (emE em0) ∈ l := by rw [List.getD_eq_getElem?_getD, List.getElem?_eq_getElem hlt]; exact List.getElem_mem _
      have hE := hlok _ hie
      have hfs := frB_succ l i hlt (emE em0)
      rw [← hat] at hE hfs
      generalize ys.getD i em0 = x at t1 hX hF hE hfs
      have hEl := entB_len hE
      rw [putEn_ok hE] at hfs
      have hX4 := hX.be e4
      have hyi : (i : Int) < (y.2.1 : Int) := by omega
      repeat (first | refine T_seq ?_ | refine T_region ?_ | refine T_cond_true rfl ?_ | refine T_block ?_ | refine T_skip ?_ | refine TL_lt_t (hk := ?_) | refine TL_nil ?_ | refine TL_indexAddrn TE (hk := ?_))
      refine TL_loada TE (cs := emV x) (hx := rfl) (ht := rfl) (hi := rfl) (hr := hr) (hc := t1) (h0 := Nat.succ_pos _) (hk := ?_)
      --
      refine TL_alloc TE (hk := ?_); intro b5 w5 e5 h5 h5' k5
      --
      refine TL_storea TE (hk := ?_); intro w6 m6 z6 k6
      have z5 := e5.size
      have e46 : Ext w4 w6 := e5.step m6 (fun u hu => .inr (by rw [List.mem_singleton.1 hu]; omega))
      replace k6 : Blk w6 b5 47 (emV x) := k6
      unfold emV pmV at k6
      have hX6 := hX4.be e46
      have oZ6 := oZ.be e46
      repeat (first | refine T_seq ?_ | refine T_region ?_ | refine TL_nil ?_)
      refine TL_loadb TE (cs := emV x) (o := 0) rfl rfl k6 rfl rfl (Nat.succ_pos _) (hk := ?_)
      --
      refine TL_call TE (hc := EPut_c x none 0 0 [] w6 hX6.lies hF hE.sq.2 hE.ep.2 (Own.nil w6 w6.heap.size 5 1).rd (by omega)) (hk := ?_)
      rintro _ w7 ⟨A7, n7, c7, rfl, e7, o7⟩
      rw [putEn_ok hE] at o7 ⊢
      simp only at o7
      have l7 := o7.len
      simp only [bv_length, Nat.mul_one] at l7
      repeat (first | refine T_region ?_ | refine TL_nil ?_ | refine TL_move (hk := ?_) | refine TL_assign (hk := ?_) | refine TL_extract (hk := ?_))
      refine TL_call TE (hc := jframe_c 1 A7 n7 c7 _ w7 o7.rd (by decide) (by omega)) (hk := ?_)
      rintro _ w8 ⟨A8, n8, c8, rfl, e8, o8⟩
      have l8 := o8.len
      rw [bv_length, kindF_len] at l8
      have oZ8 := (oZ6.be e7).be e8
      have z7 := e7.size
      have z8 := e8.size
      have r8 := o8.rd
      --
      refine TL_append TE (ho := oZ8) (hr := r8) (h1 := bv_one _) (hk := ?_); intro A9 c9 w9 o9 m9 n9
      rw [← bv_append, ← hfs] at o9
      repeat (first | refine T_region ?_ | refine T_inBlock ?_ | refine TL_add (hk := ?_) | refine TL_nil ?_ | refine TL_move (hk := ?_) | refine TL_assign (hk := ?_))
      exact ih (i + 1, (A9, Z.2.1 + n8, c9)) w9 _ (by simp only; omega) ⟨by show i + 1 ≤ l.length; omega, (((e4.ext e46).ext e7).ext e8).step m9 (fun u hu => .inr (oZ8.bl u hu).1), o9⟩ (.c rfl (.c rfl (.c rfl (.c rfl (.c rfl (.c rfl (.c rfl (.c rfl (.n)))))))))
    · clear ih
      obtain rfl : i = l.length := by omega
      have hepi : ep = ((ep.toNat : Nat) : Int) := by omega
      have u1 := encU_len64 (show ep.toNat < 2 ^ 64 by omega)
      have hyi : ¬ ((l.length : Nat) : Int) < (y.2.1 : Int) := by omega
      repeat (first | refine T_seq ?_ | refine T_region ?_ | refine T_cond_false rfl ?_ | refine T_exit rfl ?_ | refine TL_lt_f (hk := ?_) | refine TL_nil ?_ | refine TL_move (hk := ?_) | refine TL_conv TE (hk := ?_))
      refine TL_call TE (hc := PutUint_c none 0 0 [] ep.toNat w4 hepi (Own.nil w4 w4.heap.size 5 1).rd (by omega) (by omega)) (hk := ?_)
      rintro _ w5 ⟨A5, n5, c5, rfl, e5, o5⟩
      have l5 := o5.len
      simp only [bv_length, List.length_append, List.length_nil, Nat.mul_one] at l5
      --
      refine TL_call TE (hc := jframe_c 2 A5 n5 c5 _ w5 o5.rd (by decide) (by omega)) (hk := ?_)
      rintro _ w6 ⟨A6, n6, c6, rfl, e6, o6⟩
      have l6 := o6.len
      rw [bv_length, kindF_len] at l6
      simp only [List.length_append, List.length_nil] at l6
      have oZ6 := (oZ.be e5).be e6
      have z5 := e5.size
      have z6 := e6.size
      have r6 := o6.rd
      --
      refine TL_append TE (ho := oZ6) (hr := r6) (h1 := bv_one _) (hk := ?_); intro A7 c7 w7 o7 m7 n7
      rw [← bv_append, List.nil_append, frB_all] at o7
      have e37 : Ext w3 w7 := ((e4.ext e5).ext e6).step m7 (fun u hu => .inr (oZ6.bl u hu).1)
      have J7 := J3.ext e37
      have hbk7 := J7.blk
      have z7 := m7.size
      have e07 : Ext w w7 := (e02.ext e3).ext e37
      repeat (first | refine T_seq ?_ | refine T_region ?_ | refine TL_nil ?_ | refine TL_move (hk := ?_) | refine TL_assign (hk := ?_) | refine TL_load TE (hk := ?_) | refine TL_fieldAddr TE (hk := ?_) | refine TL_nilCheck (hk := ?_))
      refine TL_call TE (hc := Append_c A7 (Z.2.1 + n6) c7 (epF ep l) w7 J7.dk o7.rd (fun q => by have h1 := (o7.bl d q).1; have h2 := J.dk.blk.lt; omega) (by omega)) (hk := ?_)
      rintro _ w8 ⟨rfl, sd8, gd8, D8, T8⟩
      have J8 := J7.disk D8 T8
      have hbk8 := J8.blk
      obtain ⟨r, hr⟩ : ∃ r, opD k (appD (epF ep l)) = r := ⟨_, rfl⟩
      rw [hr] at J8 ⊢
      by_cases c2 : r.2 = 0
      · have c2' : ((r.2 : Nat) : Int) = 0 := by omega
        rw [if_neg (fun q => q c2)]
        have hdis : ∀ b, gd b = 0 ∨ g3 b = 0 := fun b => by
          by_cases q : gd b = 0
          · exact .inl q
          · right
            have h1 := (J.dk.old b q).2
            by_cases q2 : g3 b = 0
            · exact q2
            · have h2 := (L2.old b q2).1; omega
        have hgj : g3 jb = 0 := by
          by_cases q2 : g3 jb = 0
          · exact q2
          · have h2 := (L2.old jb q2).1; have h1 := J.blk.lt; omega
        obtain ⟨L8, hd8⟩ := ((L2.ext e3).ext e37).tn T8 hdis
        repeat (first | refine T_seq ?_ | refine T_region ?_ | refine T_cond_false rfl ?_ | refine T_skip ?_ | refine TL_ne_f (hk := ?_) | refine TL_nil ?_ | refine TL_move (hk := ?_) | refine TL_assign (hk := ?_) | refine TL_fieldAddr TE (hk := ?_) | refine TL_nilCheck (hk := ?_))
        refine TL_store TE (hk := ?_); intro w9 m9 z9 k9
        have gj8 := J8.dj
        have J9 : JrM w9 base jb d lg2 sd8 gd8 r.1 sl3 es3 g3 ap.1 fl := ⟨k9, J8.dk.mod m9 (fun b hb => by rw [List.mem_singleton.1 hb]; exact gj8), by
          have L9 := L8.mod m9 (fun b hb => by rw [List.mem_singleton.1 hb]; exact hgj)
          have hbw : base ≤ w.heap.size := by have := J.hj; have := J.blk.lt; omega
          exact { L9 with ow := Own.weaken L9.ow hbw, old := fun b hb => by have := L9.old b hb; omega }, hLk2, hd8, hgj, gj8, J.hj⟩
        repeat (first | refine T_seq ?_ | refine T_region ?_ | refine TL_nil ?_ | refine TL_move (hk := ?_) | refine TL_assign (hk := ?_))
        exact T_ret2 rfl rfl rfl ⟨rfl, lg2, sd8, gd8, sl3, es3, g3, J9, ((Tn.ext e07).trans (oJ_tn T8)).trans (oJ_one m9), fun b hb => .inr (L2.old b hb).1⟩
      · have c2' : ¬ ((r.2 : Nat) : Int) = 0 := by omega
        rw [if_pos c2]
        repeat (first | refine T_seq ?_ | refine T_region ?_ | refine T_cond_true rfl ?_ | refine TL_ne_t (hk := ?_) | refine TL_nil ?_ | refine TL_move (hk := ?_) | refine TL_assign (hk := ?_))
        exact T_ret2 rfl rfl rfl ⟨rfl, lg, sd8, gd8, sl, es, g, J8, (Tn.ext e07).trans (oJ_tn T8), fun b hb => .inl hb⟩
  · rw [if_pos c1]
    have c1' : ¬ ((ap.2.2.1 : Nat) : Int) = 0 := by omega
    repeat (first | refine T_seq ?_ | refine T_region ?_ | refine T_cond_true rfl ?_ | refine TL_ne_t (hk := ?_) | refine TL_nil ?_ | refine TL_move (hk := ?_) | refine TL_assign (hk := ?_) | refine TL_extract (hk := ?_))
    exact T_ret2 rfl rfl rfl ⟨rfl, lg, sd, gd, sl, es, g, J2, Tn.ext e02, fun b hb => .inl hb⟩
end Go.Proofs.YtjlaomcankmdjaaGreat

namespace Go.Proofs.YtjlaomcankmdjaaGreat
open Go.RowKit Go.Proofs.Eng Go.Proofs.Codec Go.Proofs.Foot Go.Proofs.Journal
set_option linter.unusedVariables false set_option maxRecDepth 10000
attribute [local irreducible] T TL LV TH TA
set_option maxHeartbeats 1600000
section
variable {base jb d lg : Nat} {sd : SL} {gd : Nat → Nat} {k : DK} {sl : SL} {es : List EM} {g : Nat → Nat} {L : LE} {fl : Int}
theorem Flush_c (w : World) (J : JrM w base jb d lg sd gd k sl es g L fl) :
    Ret Tryz.prog 25 [pB jb] w (fun v w' => v = .int .i64 ((opD k synD).2 : Int) ∧ ∃ sd' gd', JrM w' base jb d lg sd' gd' (opD k synD).1 sl es g L (if (opD k synD).2 = 0 then (L.l.length : Int) else fl) ∧ Tn (oJ jb gd) (oJ jb gd') w w') := by
  have hb := J.blk
  obtain ⟨r, hr⟩ : ∃ r, opD k synD = r := ⟨_, rfl⟩
  rw [hr]
  refine ret_T (n := 22) Tryz.func25 rfl rfl ?_
  repeat (first | refine T_seq ?_ | refine T_region ?_ | refine T_cond_false rfl ?_ | refine T_skip ?_ | refine TL_pnil_f TE (hk := ?_) | refine TL_nil ?_ | refine TL_move (hk := ?_) | refine TL_assign (hk := ?_) | refine TL_load TE (hk := ?_) | refine TL_fieldAddr TE (hk := ?_) | refine TL_nilCheck (hk := ?_))
  refine TL_call TE (hc := Sync_c w J.dk) (hk := ?_)
  rintro _ w1 ⟨rfl, sd1, gd1, D1, T1⟩
  have J1 := J.disk D1 T1
  have hb1 := J1.blk
  rw [hr] at J1 ⊢
  by_cases c : r.2 = 0
  · have c' : ((r.2 : Nat) : Int) = 0 := by omega
    rw [if_pos c]
    repeat (first | refine T_seq ?_ | refine T_region ?_ | refine T_cond_true rfl ?_ | refine TL_eq_t (hk := ?_) | refine TL_nil ?_ | refine TL_move (hk := ?_) | refine TL_assign (hk := ?_) | refine TL_load TE (hk := ?_) | refine TL_fieldAddr TE (hk := ?_) | refine TL_nilCheck (hk := ?_))
    refine TL_call TE (hc := LLen_c w1 J1.log) (hk := ?_)
    rintro _ w2 ⟨rfl, hw2⟩
    rw [hw2]
    clear hw2 w2
    repeat (first | refine TL_fieldAddr TE (hk := ?_) | refine TL_nilCheck (hk := ?_))
    refine TL_store TE (hk := ?_); intro w3 m3 z3 k3
    have hJ3 : JrM w3 base jb d lg sd1 gd1 r.1 sl es g L (L.l.length : Int) := { J1 with blk := k3, dk := J1.dk.mod m3 (fun b hb => by rw [List.mem_singleton.1 hb]; exact J1.dj), log := J1.log.mod m3 (fun b hb => by rw [List.mem_singleton.1 hb]; exact J1.gj) }
    repeat (first | refine T_seq ?_ | refine T_region ?_ | refine TL_nil ?_ | refine TL_move (hk := ?_) | refine TL_assign (hk := ?_))
    exact T_ret1 rfl rfl ⟨by rw [c], sd1, gd1, hJ3, (oJ_tn T1).trans (oJ_one m3)⟩
  · have c' : ¬ ((r.2 : Nat) : Int) = 0 := by omega
    rw [if_neg c]
    repeat (first | refine T_seq ?_ | refine T_region ?_ | refine T_cond_false rfl ?_ | refine T_skip ?_ | refine TL_eq_f (hk := ?_) | refine TL_nil ?_ | refine TL_move (hk := ?_) | refine TL_assign (hk := ?_))
    exact T_ret1 rfl rfl ⟨rfl, sd1, gd1, J1, oJ_tn T1⟩
theorem Written_c (w : World) (J : JrM w base jb d lg sd gd k sl es g L fl) : Ret Tryz.prog 28 [pB jb] w (fun v w' => v = .int .i64 (L.l.length : Int) ∧ w' = w) := by
  have hb := J.blk
  refine ret_T (n := 10) Tryz.func28 rfl rfl ?_
  repeat (first | refine T_seq ?_ | refine T_region ?_ | refine T_cond_false rfl ?_ | refine T_skip ?_ | refine TL_pnil_f TE (hk := ?_) | refine TL_nil ?_ | refine TL_move (hk := ?_) | refine TL_assign (hk := ?_) | refine TL_load TE (hk := ?_) | refine TL_fieldAddr TE (hk := ?_) | refine TL_nilCheck (hk := ?_))
  refine TL_call TE (hc := LLen_c w J.log) (hk := ?_)
  rintro _ w1 ⟨rfl, rfl⟩
  repeat (first | refine TL_nil ?_ | refine TL_assign (hk := ?_))
  exact T_ret1 rfl rfl ⟨rfl, rfl⟩
end
theorem jnum_c (z : Int) (w : World) : Ret Tryz.prog 9 [.int .i64 z] w (fun v w' => v = .int .i64 z ∧ w' = w) := by
  refine ret_T (n := 4) Tryz.func9 rfl rfl ?_
  repeat (first | refine T_seq ?_ | refine T_region ?_ | refine TL_nil ?_ | refine TL_move (hk := ?_) | refine TL_assign (hk := ?_))
  exact T_ret1 rfl rfl ⟨rfl, rfl⟩
end Go.Proofs.YtjlaomcankmdjaaGreat

namespace Go.Proofs.YtjlaomcankmdjaaGreat
open Go.Proofs.Eng Go.Proofs.Codec Go.Proofs.Foot Go.Proofs.Journal
theorem lim_le {s : RS} {most e : Int} (h0 : 0 ≤ most) : ((s.take (0 : Nat) (tLim most e)).1 : Int) ≤ most := by
  unfold RS.take
  split
  · cases h : tLim most e (s.b.drop s.pos) with
    | error x => simpa using h0
    | ok r => exact tLim_le (by rw [h])
  · simpa using h0
theorem text_le {s : RS} {most : Int} (h0 : 0 ≤ most) : ((s.take ([] : List UInt8) (tText most)).1.length : Int) ≤ most := by
  unfold RS.take
  split
  · cases h : tText most (s.b.drop s.pos) with
    | error x => simpa using h0
    | ok r => exact tText_le (by rw [h])
  · simpa using h0
theorem zag_fit {n : Nat} (h : n < 2 ^ 64) : -9223372036854775808 ≤ zag n ∧ zag n ≤ 9223372036854775807 := by
  unfold zag
  split <;> omega
theorem int_fit {s : RS} : -9223372036854775808 ≤ (s.take (0 : Int) tInt).1 ∧ (s.take (0 : Int) tInt).1 ≤ 9223372036854775807 := by
  unfold RS.take
  split
  · cases h : tInt (s.b.drop s.pos) with
    | error x => simp
    | ok r =>
      obtain ⟨v, k⟩ := r
      simp only
      unfold tInt at h
      cases hq : num0 (s.b.drop s.pos) with
      | error x => rw [hq] at h; cases h
      | ok q =>
        obtain ⟨m, j⟩ := q
        rw [hq] at h
        cases h
        exact zag_fit (num0_ok hq).1
  · simp
theorem takeV_fit (s : RS) : VFit (takeV s).1 := by
  have hz : VFit vz := ⟨by decide, by decide, by decide⟩
  have h0 : ∀ s a, VFit (takeV0 s a).1 := fun s a => by
    unfold takeV0
    split
    · exact ⟨⟨by simp, by simp⟩, int_fit, by simp⟩
    · split
      · have := text_le (s := s) (most := 64) (by decide)
        exact ⟨⟨by simp, by simp⟩, ⟨by simp, by simp⟩, by simp only; omega⟩
      · split <;> exact hz
  unfold takeV endV
  split
  · exact hz
  · exact h0 _ _
theorem argsR_fit : ∀ (n : Nat) (s : RS) (acc : List VE) (r : List VE × RS), argsR n s acc = some r → (∀ v ∈ acc, VFit v) → r.1.length = acc.length + n ∧ ∀ v ∈ r.1, VFit v
  | 0, s, acc, r, h, hf => by cases h; exact ⟨rfl, hf⟩
  | n + 1, s, acc, r, h, hf => by
    unfold argsR at h
    split at h
    · cases h
    · obtain ⟨h1, h2⟩ := argsR_fit n _ _ r h (fun v hv => by
        rcases List.mem_append.1 hv with q | q
        · exact hf v q
        · rw [List.mem_singleton.1 q]; exact takeV_fit s)
      refine ⟨?_, h2⟩
      rw [h1, List.length_append]
      simp only [List.length_cons, List.length_nil]
      omega
theorem getR_fit {b : List UInt8} {r : RE} (h : getR b = some r) : RFit r ∧ r.ar.length ≤ 8 := by
  unfold getR at h
  split at h
  · cases h
  · cases ha : argsR (rq5 b).1 (rq5 b).2 [] with
    | none => rw [ha] at h; cases h
    | some q =>
      rw [ha] at h
      unfold endR at h
      simp only at h
      split at h
      · cases h
        obtain ⟨h1, h2⟩ := argsR_fit _ _ _ _ ha (fun v hv => by cases hv)
        have n1 : ((rq1 b).1 : Int) ≤ 63 := lim_le (by decide)
        have n5 : ((rq5 b).1 : Int) ≤ 8 := lim_le (by decide)
        have n3 : (((rq3 b).1).length : Int) ≤ 16 := text_le (by decide)
        refine ⟨⟨by simp only; omega, by have := take_lt (s := (rq1 b).2); exact this, by simp only; omega, h2⟩, ?_⟩
        simp only
        rw [h1]
        simp only [List.length_nil]
        omega
      · cases h
theorem norm_fit {r k : List Tx} (h : isNorm r k = true) : r.length ≤ 64 ∧ k.length ≤ 64 ∧ Short r ∧ Short k := by
  have h1 := norm_short h
  have h2 := h
  unfold isNorm at h2
  rw [decide_eq_true_eq] at h2
  have h3 : r = keysM (ofM r k) 1 ∧ k = keysM (ofM r k) 2 := by
    obtain ⟨a, b, c⟩ := h2
    unfold normF at a b c
    split at a
    · rename_i q1
      rw [if_pos q1] at b c
      split at a
      · cases a
      · rename_i q2
        rw [if_neg q2] at b c
        exact ⟨b.symm, c.symm⟩
    · cases a
  have hk : ∀ m u, (keysM m u).length ≤ m.length := fun m u => by
    unfold keysM used
    rw [List.length_mergeSort, List.length_map]
    exact List.length_filter_le _ _
  refine ⟨by rw [h3.1]; exact Nat.le_trans (hk _ _) h1.2, by rw [h3.2]; exact Nat.le_trans (hk _ _) h1.2, fun i hi => ?_, fun i hi => ?_⟩
  · have := h1.1 (r.getD i []) (List.mem_append_left _ (by rw [List.getD_eq_getElem?_getD, List.getElem?_eq_getElem hi]; exact List.getElem_mem _))
    omega
  · have := h1.1 (k.getD i []) (List.mem_append_right _ (by rw [List.getD_eq_getElem?_getD, List.getElem?_eq_getElem hi]; exact List.getElem_mem _))
    omega
theorem getEn_fit (b : List UInt8) (e : EE) (h : getEn b = some e) : PFit e.p := by
  unfold getEn at h
  split at h
  · cases h
  · rename_i hc
    cases hq : getR (ge3 b).1 with
    | none => rw [hq] at h; cases h
    | some q =>
      rw [hq] at h
      unfold geQ at h
      simp only at h
      split at h
      · rename_i hg
        cases h
        obtain ⟨f1, f2⟩ := getR_fit hq
        obtain ⟨g1, -, -⟩ := put_get (b := b.drop (b.length - (ge4 b).2.rest)) hg.1
        obtain ⟨n1, n2, n3, n4⟩ := norm_fit g1
        have hb := byte_lt (s := (ge3 b).2)
        exact ⟨f1, by simp only; show _ ∧ ((ge4 b).1 : Int) ≤ _; have : (ge4 b).1 < 256 := hb; omega, by simp only; omega, Nat.le_trans n1 (by decide), Nat.le_trans n2 (by decide), n3, n4⟩
      · cases h
end Go.Proofs.YtjlaomcankmdjaaGreat

namespace Go.Proofs.YtjlaomcankmdjaaGreat
open Go.RowKit Go.Proofs.Eng Go.Proofs.Codec Go.Proofs.Foot Go.Proofs.Journal
def lvP : PE := ⟨⟨0, 0, [112], []⟩, 1, [], []⟩
def lvW1 : (LE × Int × Nat) × DK := writeJ ⟨[], 0⟩ (newD []) 0 [lvP, lvP]
def lvS : DK × Nat := opD lvW1.2 synD
def lvW2 : (LE × Int × Nat) × DK := writeJ lvW1.1.1 lvS.1 1 [lvP]
def lvO : Option LE × Nat × DK := openJ (newD (leftD lvW2.2 5))
theorem lv1 : openJ (newD []) = (some ⟨[], 0⟩, 0, newD []) := by kernel_rfl
theorem lv2 : lvW1.1.2.1 = 0 := by decide +kernel
theorem lv3 : lvW1.1.2.2 = 0 := by decide +kernel
theorem lv4 : lvS.2 = 0 := by decide +kernel
theorem lv5 : lvO.2.1 = 0 := by decide +kernel
theorem lv6 : lvO.1.map (fun L => L.l.length) = some 2 := by decide +kernel
theorem lv7 : lvW2.1.1.l.length = 3 := by decide +kernel
end Go.Proofs.YtjlaomcankmdjaaGreat

namespace Go.Proofs.YtjlaomcankmdjaaGreat
open Go.RowKit Go.Proofs.Eng Go.Proofs.Codec Go.Proofs.Foot Go.Proofs.Journal
set_option linter.unusedVariables false set_option maxRecDepth 10000
attribute [local irreducible] T TL LV TH TA
set_option maxHeartbeats 3200000
def lvM : PM := ⟨lvP, (none, 0, 0), (none, 0, 0), (none, 0, 0)⟩
theorem lvM_ok (w : World) : PLies w lvM ∧ PFit lvM.p :=
  ⟨⟨(Own.nil w 0 161 3).rd, (Own.nil w 0 9 1).rd, (Own.nil w 0 9 1).rd⟩, ⟨⟨by decide, by decide, by decide, fun v hv => by cases hv⟩, by decide, by decide, by decide, by decide, fun i hi => (by cases hi), fun i hi => (by cases hi)⟩⟩
theorem OpO.jrm {w w' : World} {base d : Nat} {gd : Nat → Nat} {o : Option LE × Nat × DK} {jp : Value} {L : LE} (h : OpO w w' base d gd o jp) (hL : o.1 = some L) (hb : base ≤ w.heap.size) :
    ∃ sd' gd' jb lg sl es g, jp = pB jb ∧ JrM w' base jb d lg sd' gd' o.2.2 sl es g L (L.l.length : Int) ∧ Tn gd gd' w w' ∧ w.heap.size ≤ jb := by
  obtain ⟨sl', gd', D, T, hm⟩ := h
  rw [hL] at hm
  obtain ⟨jb, lg, sl, es, g, hj, k, M, ok, gj, hjb, hd, gdj⟩ := hm
  exact ⟨sl', gd', jb, lg, sl, es, g, hj, ⟨k, D, { M with ow := Own.weaken M.ow hb, old := fun b q => by have := M.old b q; omega }, ok, hd, gj, gdj, by omega⟩, T, hjb⟩
theorem OpO.no {w w' : World} {base d : Nat} {gd : Nat → Nat} {o : Option LE × Nat × DK} {jp : Value} (h : OpO w w' base d gd o jp) (hL : o.1 = none) : jp = .pointer none ∧ ∃ sd' gd', DiskM w' base d 0 sd' gd' o.2.2 ∧ Tn gd gd' w w' := by
  obtain ⟨sl', gd', D, T, hm⟩ := h
  rw [hL] at hm
  exact ⟨hm, sl', gd', D, T⟩
theorem jlive_c (w : World) : Ret Tryz.prog 10 [] w (fun v w' => v = .bool true ∧ Ext w w') := by
  refine ret_T (n := 81) Tryz.func10 rfl rfl ?_
  repeat (first | refine T_seq ?_ | refine T_region ?_ | refine TL_nil ?_ | refine TL_assign (hk := ?_))
  refine TL_call TE (hc := NewDisk_c none 0 0 [] w (Own.nil w 0 5 1).rd (by omega) (by omega)) (hk := ?_)
  rintro _ w1 ⟨d, sd1, gd1, rfl, e1, D1⟩
  have z1 := e1.size
  repeat (first | refine T_seq ?_ | refine T_region ?_ | refine TL_nil ?_ | refine TL_move (hk := ?_) | refine TL_assign (hk := ?_))
  refine TL_call TE (hc := Open_j w1 D1 getEn_fit) (hk := ?_)
  rintro _ w2 ⟨jp, rfl, O2⟩
  obtain ⟨sd2, gd2, jb, lg2, sl2, es2, g2, rfl, J2, T2, hjb⟩ := O2.jrm (L := ⟨[], 0⟩) (by rw [lv1]) z1
  rw [lv1] at J2 ⊢
  simp only at J2 ⊢
  repeat (first | refine T_seq ?_ | refine T_region ?_ | refine TL_pnil_f TE (hk := ?_) | refine TL_nil ?_ | refine TL_move (hk := ?_) | refine TL_assign (hk := ?_) | refine TL_yes (hk := ?_) | refine TL_extract (hk := ?_))
  refine TL_call TE (hc := jnum_c _ w2) (hk := ?_)
  rintro _ w3 ⟨rfl, hw3⟩
  rw [hw3]
  clear hw3 w3
  repeat (first | refine T_seq ?_ | refine T_region ?_ | refine T_cond_false rfl ?_ | refine T_skip ?_ | refine TL_ne_f (hk := ?_) | refine TL_pnil_f TE (hk := ?_) | refine TL_nil ?_ | refine TL_move (hk := ?_) | refine TL_yes (hk := ?_) | refine TL_pick_f (hk := ?_) | refine TL_build TE (hk := ?_))
  refine TL_alloc TE (hk := ?_); intro b4 w4 e4 h4 h4' k4
  --
  refine TL_storea TE (hk := ?_); intro w5 m5 z5 k5
  replace k5 : Blk w5 b4 45 (pmV lvM) := k5
  have e25 : Ext w2 w5 := e4.step m5 (fun u hu => .inr (by rw [List.mem_singleton.1 hu]; omega))
  have J5 := J2.ext e25
  unfold pmV at k5
  repeat (first | refine T_seq ?_ | refine T_region ?_ | refine TL_nil ?_ | refine TL_move (hk := ?_))
  refine TL_loadb TE (cs := pmV lvM) (o := 0) rfl rfl k5 rfl rfl (Nat.succ_pos _) (hk := ?_)
  --
  refine TL_loadb TE (cs := pmV lvM) (o := 0) rfl rfl k5 rfl rfl (Nat.succ_pos _) (hk := ?_)
  --
  refine TL_buildSliceA TE (hk := ?_); intro b6 w6 e6 h6 h6' k6
  replace k6 : Blk w6 b6 45 (rowV pmV [lvM, lvM]) := k6
  have r6 : Rd w6 (some ⟨b6, 0, none⟩) 2 7 (rowV pmV [lvM, lvM]) := Rd.blk k6 rfl
  have J6 := J5.ext e6
  have hb0 : w.heap.size ≤ w2.heap.size := by have := T2.size; omega
  have e02 : Ext w w2 := T2.ext0 e1 (fun b hb => (D1.old b hb).1)
  have e06 := (e02.ext e25).ext e6
  have hjl : jb < w2.heap.size := J2.blk.lt
  have hp4 : b4 ≠ jb := by omega
  have gd4 : gd2 b4 = 0 := by
    by_cases q : gd2 b4 = 0
    · exact q
    · have := (J2.dk.old b4 q).2; omega
  have o4 : oJ jb gd2 b4 = 0 := by rw [oJ_ne hp4]; exact gd4
  have k46 := k5.be e6
  have hx : ∀ x ∈ [lvM, lvM], PLies w6 x ∧ PFit x.p := fun x hm => by
    have : x = lvM := by simpa using hm
    rw [this]; exact lvM_ok w6
  have hA6 : ∀ u ∈ blkL (some ⟨b6, 0, none⟩), u < w6.heap.size := fun u hu => by
    have h := Lo.mem (A := some ⟨b6, 0, none⟩) (B := w6.heap.size) (fun ad e => by cases e; exact h6') u hu
    exact h
  have hB6 : ∀ x ∈ [lvM, lvM], ∀ u ∈ pmB x, u < w6.heap.size := fun x hm u hu => by
    have hm' : x = lvM := by simpa using hm
    rw [hm'] at hu
    cases hu
  --
  refine TL_call TE (hc := Write_c 0 (some ⟨b6, 0, none⟩) 2 2 [lvM, lvM] w6 J6 r6 hx hA6 hB6 (by decide) (by decide)) (hk := ?_)
  have hW1 : writeJ ⟨[], 0⟩ (newD []) 0 ([lvM, lvM].map (·.p)) = lvW1 := rfl
  rw [hW1, lv2, lv3]
  rintro _ w7 ⟨rfl, lg7, sd7, gd7, sl7, es7, g7, J7, T7, -⟩
  have e07 := T7.ext0 e06 (fun b hb => (J6.old b hb).1)
  have k47 : Blk w7 b4 45 (pmV lvM) := by
    obtain ⟨⟨Z, m7, s7⟩, -, -⟩ := T7
    exact k46.mod m7 (fun q => s7 b4 q o4)
  have o47 := T7.old o4 k46.lt
  repeat (first | refine T_seq ?_ | refine T_region ?_ | refine TL_nil ?_ | refine TL_move (hk := ?_) | refine TL_assign (hk := ?_) | refine TL_extract (hk := ?_))
  refine TL_call TE (hc := Flush_c w7 J7) (hk := ?_)
  have hS : opD lvW1.2 synD = lvS := rfl
  rw [hS, lv4]
  rintro _ w8 ⟨rfl, sd8, gd8, J8, T8⟩
  rw [if_pos rfl] at J8
  have e08 := T8.ext0 e07 (fun b hb => (J7.old b hb).1)
  have k48 : Blk w8 b4 45 (pmV lvM) := by
    obtain ⟨⟨Z, m7, s7⟩, -, -⟩ := T8
    exact k47.mod m7 (fun q => s7 b4 q o47)
  clear k47 k46 k5 k6 J6 J5 J7 r6
  unfold pmV at k48
  repeat (first | refine T_seq ?_ | refine T_region ?_ | refine TL_nil ?_ | refine TL_move (hk := ?_) | refine TL_assign (hk := ?_))
  refine TL_loadb TE (cs := pmV lvM) (o := 0) rfl rfl k48 rfl rfl (Nat.succ_pos _) (hk := ?_)
  --
  refine TL_buildSliceA TE (hk := ?_); intro b9 w9 e9 h9 h9' k9
  replace k9 : Blk w9 b9 45 (rowV pmV [lvM]) := k9
  have r9 : Rd w9 (some ⟨b9, 0, none⟩) 1 7 (rowV pmV [lvM]) := Rd.blk k9 rfl
  have J9 := J8.ext e9
  have e09 := e08.ext e9
  have hx9 : ∀ x ∈ [lvM], PLies w9 x ∧ PFit x.p := fun x hm => by
    have : x = lvM := by simpa using hm
    rw [this]; exact lvM_ok w9
  have hA9 : ∀ u ∈ blkL (some ⟨b9, 0, none⟩), u < w9.heap.size := fun u hu => by
    have h := Lo.mem (A := some ⟨b9, 0, none⟩) (B := w9.heap.size) (fun ad e => by cases e; exact h9') u hu
    exact h
  have hB9 : ∀ x ∈ [lvM], ∀ u ∈ pmB x, u < w9.heap.size := fun x hm u hu => by
    have hm' : x = lvM := by simpa using hm
    rw [hm'] at hu
    cases hu
  --
  refine TL_call TE (hc := Write_c 1 (some ⟨b9, 0, none⟩) 1 1 [lvM] w9 J9 r9 hx9 hA9 hB9 (by decide) (by decide)) (hk := ?_)
  have hW2 : writeJ lvW1.1.1 lvS.1 1 ([lvM].map (·.p)) = lvW2 := rfl
  rw [hW2]
  rintro _ w10 ⟨rfl, lg10, sd10, gd10, sl10, es10, g10, J10, T10, -⟩
  have e010 := T10.ext0 e09 (fun b hb => (J9.old b hb).1)
  clear J8 J9 k9 r9 k48
  repeat (first | refine T_seq ?_ | refine T_region ?_ | refine TL_nil ?_ | refine TL_move (hk := ?_))
  refine TL_call TE (hc := Left_c 5 w10 J10.dk) (hk := ?_)
  rintro _ w11 ⟨y, rfl, D11, T11, oy⟩
  have J11 := J10.disk D11 T11
  have e011 := T11.ext0 e010 (fun b hb => (J10.dk.old b hb).1)
  have hyl := oy.len
  have hyc := oy.cap.1
  simp only [bv_length, Nat.mul_one] at hyl
  have hll : (leftD lvW2.2 5).length ≤ 4194304 := by
    have := J10.dk.ok.ln
    unfold leftD
    rw [List.length_take]; omega
  --
  refine TL_call TE (hc := NewDisk_c y.1 y.2.1 y.2.2 (leftD lvW2.2 5) w11 oy.rd hyc (by omega)) (hk := ?_)
  rintro _ w12 ⟨d2, sd12, gd12, rfl, e12, D12⟩
  have J12 := J11.ext e12
  --
  refine TL_call TE (hc := Open_j w12 D12 getEn_fit) (hk := ?_)
  have hO : openJ (newD (leftD lvW2.2 5)) = lvO := rfl
  rw [hO, lv5]
  rintro _ w13 ⟨jp2, rfl, O13⟩
  obtain ⟨L2, hL2, hL2n⟩ : ∃ L2, lvO.1 = some L2 ∧ L2.l.length = 2 := by
    have h := lv6
    cases hq : lvO.1 with
    | none => rw [hq] at h; cases h
    | some L => rw [hq] at h; exact ⟨L, rfl, by simpa using h⟩
  obtain ⟨sd13, gd13, jb2, lg13, sl13, es13, g13, rfl, J13, T13, hjb2⟩ := O13.jrm hL2 (Nat.le_of_lt_succ (Nat.lt_succ_of_le e12.size))
  have e1213 : Ext w11 w13 := T13.ext0 e12 (fun b hb => (D12.old b hb).1)
  have J12' := J11.ext e1213
  have e013 := e011.ext e1213
  have h3 := lv7
  clear J10 J11 J12
  repeat (first | refine T_seq ?_ | refine T_region ?_ | refine TL_nil ?_ | refine TL_move (hk := ?_) | refine TL_assign (hk := ?_) | refine TL_extract (hk := ?_))
  refine TL_call TE (hc := jnum_c _ w13) (hk := ?_)
  rintro _ w14 ⟨rfl, hw⟩
  rw [hw]
  clear hw w14
  repeat (first | refine TL_eq_t (hk := ?_) | refine TL_move (hk := ?_) | refine TL_yes (hk := ?_) | refine TL_pick_t (hk := ?_))
  refine TL_call TE (hc := jnum_c _ w13) (hk := ?_)
  rintro _ w14 ⟨rfl, hw⟩
  rw [hw]
  clear hw w14
  repeat (first | refine TL_eq_t (hk := ?_) | refine TL_move (hk := ?_) | refine TL_yes (hk := ?_) | refine TL_pick_t (hk := ?_))
  refine TL_call TE (hc := jnum_c _ w13) (hk := ?_)
  rintro _ w14 ⟨rfl, hw⟩
  rw [hw]
  clear hw w14
  repeat (first | refine TL_eq_t (hk := ?_) | refine TL_pnn_t TE (hk := ?_) | refine TL_move (hk := ?_) | refine TL_yes (hk := ?_) | refine TL_pick_t (hk := ?_))
  refine TL_call TE (hc := Written_c w13 J13) (hk := ?_)
  rintro _ w14 ⟨rfl, hw⟩
  rw [hw, hL2n]
  clear hw w14
  repeat (first | refine TL_eq_t (hk := ?_) | refine TL_move (hk := ?_) | refine TL_yes (hk := ?_) | refine TL_pick_t (hk := ?_))
  refine TL_call TE (hc := Written_c w13 J12') (hk := ?_)
  rintro _ w14 ⟨rfl, hw⟩
  rw [hw, h3]
  clear hw w14
  repeat (first | refine TL_eq_t (hk := ?_) | refine TL_nil ?_ | refine TL_assign (hk := ?_) | refine TL_yes (hk := ?_) | refine TL_pick_t (hk := ?_))
  exact T_ret1 rfl rfl ⟨rfl, e013⟩
end Go.Proofs.YtjlaomcankmdjaaGreat

namespace Go.Proofs.YtjlaomcankmdjaaGreat
open Go.RowKit Go.Proofs.Eng Go.Proofs.Codec Go.Proofs.Foot Go.Proofs.Journal
set_option linter.unusedVariables false set_option maxRecDepth 10000
attribute [local irreducible] T TL LV TH TA
set_option maxHeartbeats 3200000
end Go.Proofs.YtjlaomcankmdjaaGreat

namespace Go.Proofs.YtjlaomcankmdjaaGreat
open Go.RowKit Go.Proofs.Eng Go.Proofs.Codec Go.Proofs.Foot Go.Proofs.Journal
set_option linter.unusedVariables false set_option maxRecDepth 10000
attribute [local irreducible] T TL LV TH TA
set_option maxHeartbeats 3200000
theorem rvmay_c (c : Nat) (h : 32 ≤ c ∧ c ≤ 126) (w : World) : Ret Tryz.prog 181 [.int .u8 (c : Int)] w (fun v w' => v = .bool true ∧ w' = w) := by
  obtain ⟨h1, h2⟩ := h
  refine ret_T (n := 9) Tryz.func181 rfl rfl ?_
  repeat (first | refine T_seq ?_ | refine T_region ?_ | refine TL_le_t (hk := ?_) | refine TL_ge_t (hk := ?_) | refine TL_nil ?_ | refine TL_move (hk := ?_) | refine TL_assign (hk := ?_) | refine TL_yes (hk := ?_) | refine TL_pick_t (hk := ?_))
  exact T_ret1 rfl rfl ⟨rfl, rfl⟩
theorem rOf_c (i : Int) (w : World) : Ret Tryz.prog 140 [.int .i64 i] w (fun v w' => v = vA ⟨1, i, []⟩ ∧ Ext w w') := by
  refine ret_T (n := 5) Tryz.func140 rfl rfl ?_
  repeat (first | refine T_seq ?_ | refine T_region ?_)
  refine TL_alloc TE (hk := ?_); intro b1 w1 e1 h1 h1' k1
  repeat (first | refine T_seq ?_ | refine T_region ?_ | refine TL_nil ?_ | refine TL_move (hk := ?_) | refine TL_build TE (hk := ?_))
  refine TL_storea TE (hk := ?_); intro w2 m2 z2 k2
  repeat (refine TL_nil ?_)
  exact T_retA1 TE (vs := [.int .i64 1, .int .i64 i, .string (ofL [])]) (o := 0) rfl rfl rfl rfl k2 rfl (Nat.succ_pos _) ⟨rfl, e1.step m2 (fun u hu => .inr (by rw [List.mem_singleton.1 hu]; omega))⟩
theorem rWord_c (t : List UInt8) (w : World) : Ret Tryz.prog 142 [.string (ofL t)] w (fun v w' => v = vA ⟨2, 0, t⟩ ∧ Ext w w') := by
  refine ret_T (n := 5) Tryz.func142 rfl rfl ?_
  repeat (first | refine T_seq ?_ | refine T_region ?_)
  refine TL_alloc TE (hk := ?_); intro b1 w1 e1 h1 h1' k1
  repeat (first | refine T_seq ?_ | refine T_region ?_ | refine TL_nil ?_ | refine TL_move (hk := ?_) | refine TL_build TE (hk := ?_))
  refine TL_storea TE (hk := ?_); intro w2 m2 z2 k2
  repeat (refine TL_nil ?_)
  exact T_retA1 TE (vs := [.int .i64 2, .int .i64 0, .string (ofL t)]) (o := 0) rfl rfl rfl rfl k2 rfl (Nat.succ_pos _) ⟨rfl, e1.step m2 (fun u hu => .inr (by rw [List.mem_singleton.1 hu]; omega))⟩
theorem rvalid_c (v : VE) (hv : validV v = true) (w : World) : Ret Tryz.prog 143 [vA v] w (fun u w' => u = .bool true ∧ Ext w w') := by
  obtain ⟨kd, n, t⟩ := v
  unfold validV at hv
  simp only at hv
  refine ret_T (n := 45) Tryz.func143 rfl rfl ?_
  repeat (first | refine T_seq ?_ | refine T_region ?_)
  refine TL_box (hk := ?_); intro b1 w1 e1 h1 h1' k1
  replace k1 : Blk w1 b1 161 [.int .i64 kd, .int .i64 n, .string (ofL t)] := k1
  by_cases h0 : kd = 0
  · rw [if_pos h0, decide_eq_true_eq] at hv
    obtain ⟨rfl, rfl⟩ := hv
    repeat (first | refine T_seq ?_ | refine T_region ?_ | refine T_cond_true rfl ?_ | refine T_block ?_ | refine TL_eq_t (hk := ?_) | refine TL_seq_t (hk := ?_) | refine TL_nil ?_ | refine TL_move (hk := ?_) | refine TL_assign (hk := ?_) | refine TL_load TE (hk := ?_) | refine TL_fieldAddr TE (hk := ?_) | refine TL_yes (hk := ?_) | refine TL_pick_t (hk := ?_))
    exact T_ret1 rfl rfl ⟨rfl, e1⟩
  rw [if_neg h0] at hv
  by_cases h1 : kd = 1
  · rw [if_pos h1, decide_eq_true_eq] at hv
    subst hv
    repeat (first | refine T_seq ?_ | refine T_region ?_ | refine T_cond_true rfl ?_ | refine T_cond_false rfl ?_ | refine T_block ?_ | refine TL_eq_t (hk := ?_) | refine TL_eq_f (hk := ?_) | refine TL_seq_t (hk := ?_) | refine TL_nil ?_ | refine TL_assign (hk := ?_) | refine TL_load TE (hk := ?_) | refine TL_fieldAddr TE (hk := ?_))
    exact T_ret1 rfl rfl ⟨rfl, e1⟩
  rw [if_neg h1] at hv
  by_cases h2 : kd = 2
  · rw [if_pos h2, Bool.and_eq_true, decide_eq_true_eq] at hv
    obtain ⟨⟨rfl, ht⟩, hp⟩ := hv
    have hs : (ofL t).size = t.length := ofL_size t
    repeat (first | refine T_seq ?_ | refine T_region ?_ | refine T_cond_true rfl ?_ | refine T_cond_false rfl ?_ | refine T_block ?_ | refine TL_eq_t (hk := ?_) | refine TL_eq_f (hk := ?_) | refine TL_nil ?_ | refine TL_assign (hk := ?_) | refine TL_load TE (hk := ?_) | refine TL_fieldAddr TE (hk := ?_))
    refine T_loop (ι := Nat) (fun i => [(3, .int .i64 (i : Int)), (1, .pointer (some ⟨b1, 0, none⟩))]) (fun i w' => i ≤ t.length ∧ w' = w1) (fun i => t.length - i) 0 (.c rfl (.c rfl (.n))) ⟨Nat.zero_le _, rfl⟩ ?_
    rintro i w2 ⟨hi, rfl⟩ ih
    by_cases hlt : i < t.length
    · have hgl := gb_lt t i
      have hc : 32 ≤ gb t i ∧ gb t i ≤ 126 := by
        unfold prB at hp
        have := List.all_eq_true.1 hp (t.getD i 0) (by rw [List.getD_eq_getElem?_getD, List.getElem?_eq_getElem hlt]; exact List.getElem_mem _)
        rw [decide_eq_true_eq] at this
        exact this
      repeat (first | refine T_seq ?_ | refine T_region ?_ | refine T_cond_true rfl ?_ | refine T_block ?_ | refine T_skip ?_ | refine TL_lt_t (hk := ?_) | refine TL_nil ?_ | refine TL_move (hk := ?_) | refine TL_load TE (hk := ?_) | refine TL_fieldAddr TE (hk := ?_) | refine TL_len_s TE (hk := ?_) | (refine TL_index_s TE (hk := ?_); intro _))
      refine TL_call TE (hc := rvmay_c (gb t i) hc _) (hk := ?_)
      rintro _ w3 ⟨rfl, rfl⟩
      repeat (first | refine T_region ?_ | refine T_cond_false rfl ?_ | refine T_inBlock ?_ | refine T_skip ?_ | refine TL_add (hk := ?_) | refine TL_nil ?_ | refine TL_move (hk := ?_) | refine TL_assign (hk := ?_) | refine TL_not (hk := ?_))
      exact ih (i + 1) _ _ (by omega) ⟨by omega, rfl⟩ (.c rfl (.c rfl (.n)))
    · clear ih
      repeat (first | refine T_seq ?_ | refine T_region ?_ | refine T_cond_false rfl ?_ | refine T_exit rfl ?_ | refine TL_lt_f (hk := ?_) | refine TL_le_t (hk := ?_) | refine TL_eq_t (hk := ?_) | refine TL_nil ?_ | refine TL_move (hk := ?_) | refine TL_assign (hk := ?_) | refine TL_load TE (hk := ?_) | refine TL_fieldAddr TE (hk := ?_) | refine TL_len_s TE (hk := ?_) | refine TL_yes (hk := ?_) | refine TL_pick_t (hk := ?_))
      exact T_ret1 rfl rfl ⟨rfl, e1⟩
  · rw [if_neg h2] at hv; cases hv
theorem rgiven_c (v : VE) (hv : givenB v = true) (w : World) : Ret Tryz.prog 182 [vA v] w (fun u w' => u = .bool true ∧ Ext w w') := by
  unfold givenB at hv
  rw [Bool.and_eq_true, decide_eq_true_eq] at hv
  obtain ⟨g1, g2⟩ := hv
  refine ret_T (n := 10) Tryz.func182 rfl rfl ?_
  repeat (first | refine T_seq ?_ | refine T_region ?_)
  refine TL_box (hk := ?_); intro b1 w1 e1 h1 h1' k1
  replace k1 : Blk w1 b1 161 [.int .i64 v.kd, .int .i64 v.n, .string (ofL v.t)] := k1
  repeat (first | refine T_seq ?_ | refine T_region ?_ | refine TL_nil ?_ | refine TL_assign (hk := ?_))
  refine TL_loadb TE (cs := [.int .i64 v.kd, .int .i64 v.n, .string (ofL v.t)]) (o := 0) rfl rfl k1 rfl rfl (Nat.succ_pos _) (hk := ?_)
  --
  refine TL_call TE (hc := rvalid_c v g1 w1) (hk := ?_)
  rintro _ w2 ⟨rfl, e2⟩
  have k2 := k1.be e2
  clear k1
  repeat (first | refine TL_ne_t (hk := ?_) | refine TL_nil ?_ | refine TL_move (hk := ?_) | refine TL_assign (hk := ?_) | refine TL_load TE (hk := ?_) | refine TL_fieldAddr TE (hk := ?_) | refine TL_yes (hk := ?_) | refine TL_pick_t (hk := ?_))
  exact T_ret1 rfl rfl ⟨rfl, e1.ext e2⟩
theorem rname_c (t : List UInt8) (hn : nameB t = true) (w : World) : Ret Tryz.prog 102 [.string (ofL t)] w (fun v w' => v = .bool true ∧ w' = w) := by
  have hs : (ofL t).size = t.length := ofL_size t
  unfold nameB at hn
  rw [Bool.and_eq_true, decide_eq_true_eq] at hn
  obtain ⟨hg, hl1, hl2⟩ := hn
  refine ret_T (n := 47) Tryz.func102 rfl rfl ?_
  repeat (first | refine T_seq ?_ | refine T_region ?_ | refine T_block ?_ | refine TL_nil ?_ | refine TL_assign (hk := ?_))
  refine T_loop (ι := Nat) (fun i => [(3, .int .i64 (i : Int)), (0, .string (ofL t))]) (fun i w' => i ≤ t.length ∧ w' = w) (fun i => t.length - i) 0 (.c rfl (.c rfl (.n))) ⟨Nat.zero_le _, rfl⟩ ?_
  rintro i w1 ⟨hi, rfl⟩ ih
  by_cases hlt : i < t.length
  · have hgl := gb_lt t i
    have gdef := List.all_eq_true.1 hg i (List.mem_range.2 hlt)
    unfold goodC at gdef
    rw [decide_eq_true_eq] at gdef
    by_cases c1 : 97 ≤ gb t i
    · by_cases c2 : gb t i ≤ 122
      · repeat (first | refine T_seq ?_ | refine T_region ?_ | refine T_cond_true rfl ?_ | refine T_cond_false rfl ?_ | refine T_block ?_ | refine T_inBlock ?_ | refine T_skip ?_ | refine TL_add (hk := ?_) | refine TL_lt_t (hk := ?_) | refine TL_le_t (hk := ?_) | refine TL_ge_t (hk := ?_) | refine TL_nil ?_ | refine TL_move (hk := ?_) | refine TL_assign (hk := ?_) | refine TL_len_s TE (hk := ?_) | refine TL_yes (hk := ?_) | refine TL_no (hk := ?_) | refine TL_pick_t (hk := ?_) | refine TL_pick_f (hk := ?_) | refine TL_not (hk := ?_) | (refine TL_index_s TE (hk := ?_); intro _))
        exact ih (i + 1) _ _ (by omega) ⟨by omega, rfl⟩ (.c rfl (.c rfl (.n)))
      · exfalso; omega
    · have h0 : i ≠ 0 := by omega
      by_cases c3 : gb t i = 95
      · repeat (first | refine T_seq ?_ | refine T_region ?_ | refine T_cond_true rfl ?_ | refine T_cond_false rfl ?_ | refine T_block ?_ | refine T_inBlock ?_ | refine T_skip ?_ | refine TL_add (hk := ?_) | refine TL_lt_t (hk := ?_) | refine TL_ge_f (hk := ?_) | refine TL_eq_f (hk := ?_) | refine TL_ne_f (hk := ?_) | refine TL_nil ?_ | refine TL_move (hk := ?_) | refine TL_assign (hk := ?_) | refine TL_len_s TE (hk := ?_) | refine TL_yes (hk := ?_) | refine TL_no (hk := ?_) | refine TL_pick_t (hk := ?_) | refine TL_pick_f (hk := ?_) | refine TL_not (hk := ?_) | (refine TL_index_s TE (hk := ?_); intro _))
        exact ih (i + 1) _ _ (by omega) ⟨by omega, rfl⟩ (.c rfl (.c rfl (.n)))
      · have c4 : 48 ≤ gb t i := by omega
        have c5 : gb t i ≤ 57 := by omega
        repeat (first | refine T_seq ?_ | refine T_region ?_ | refine T_cond_true rfl ?_ | refine T_cond_false rfl ?_ | refine T_block ?_ | refine T_inBlock ?_ | refine T_skip ?_ | refine TL_add (hk := ?_) | refine TL_lt_t (hk := ?_) | refine TL_lt_f (hk := ?_) | refine TL_gt_f (hk := ?_) | refine TL_ge_f (hk := ?_) | refine TL_eq_f (hk := ?_) | refine TL_ne_t (hk := ?_) | refine TL_nil ?_ | refine TL_move (hk := ?_) | refine TL_assign (hk := ?_) | refine TL_len_s TE (hk := ?_) | refine TL_yes (hk := ?_) | refine TL_no (hk := ?_) | refine TL_pick_t (hk := ?_) | refine TL_pick_f (hk := ?_) | refine TL_not (hk := ?_) | (refine TL_index_s TE (hk := ?_); intro _))
        exact ih (i + 1) _ _ (by omega) ⟨by omega, rfl⟩ (.c rfl (.c rfl (.n)))
  · clear ih
    repeat (first | refine T_seq ?_ | refine T_region ?_ | refine T_cond_false rfl ?_ | refine T_exit rfl ?_ | refine TL_lt_f (hk := ?_) | refine TL_le_t (hk := ?_) | refine TL_ge_t (hk := ?_) | refine TL_nil ?_ | refine TL_move (hk := ?_) | refine TL_assign (hk := ?_) | refine TL_len_s TE (hk := ?_) | refine TL_yes (hk := ?_) | refine TL_pick_t (hk := ?_))
    exact T_ret1 rfl rfl ⟨rfl, rfl⟩
theorem rcheck_c (r : RE) (A : Option Addr) (n c : Nat) (w : World) (hc : checkR r = 0) (h : Rd w A n 3 (rowV veV r.ar)) : Ret Tryz.prog 145 [rA r A n c] w (fun v w' => v = .int .i64 0 ∧ Ext w w') := by
  obtain ⟨⟨g1, g2⟩, g3, g4, g5⟩ := check_ok hc
  have hl : r.ar.length = n := by have := h.1; rw [rowV_len veV_len] at this; omega
  refine ret_T (n := 34) Tryz.func145 rfl rfl ?_
  repeat (first | refine T_seq ?_ | refine T_region ?_)
  refine TL_box (hk := ?_); intro b1 w1 e1 h1 h1' k1
  replace k1 : Blk w1 b1 40 [.int .i64 r.cl, .int .u64 (r.tk : Int), .string (ofL r.nm), .slice A n c] := k1
  repeat (first | refine T_seq ?_ | refine T_region ?_ | refine T_cond_false rfl ?_ | refine T_skip ?_ | refine TL_lt_f (hk := ?_) | refine TL_ge_f (hk := ?_) | refine TL_nil ?_ | refine TL_move (hk := ?_) | refine TL_assign (hk := ?_) | refine TL_load TE (hk := ?_) | refine TL_fieldAddr TE (hk := ?_) | refine TL_yes (hk := ?_) | refine TL_pick_f (hk := ?_))
  refine TL_call TE (hc := rname_c r.nm g3 w1) (hk := ?_)
  rintro _ w2 ⟨rfl, hw⟩
  rw [hw]
  clear hw w2
  repeat (first | refine T_seq ?_ | refine T_region ?_ | refine T_cond_false rfl ?_ | refine T_block ?_ | refine T_skip ?_ | refine TL_gt_f (hk := ?_) | refine TL_nil ?_ | refine TL_assign (hk := ?_) | refine TL_load TE (hk := ?_) | refine TL_fieldAddr TE (hk := ?_) | refine TL_len TE (hk := ?_) | refine TL_not (hk := ?_))
  refine T_loop (ι := Nat) (fun i => [(3, .int .i64 (i : Int)), (1, .pointer (some ⟨b1, 0, none⟩))]) (fun i w' => i ≤ n ∧ Ext w1 w') (fun i => n - i) 0 (.c rfl (.c rfl (.n))) ⟨Nat.zero_le _, Mod.refl _ _⟩ ?_
  rintro i w2 ⟨hi, e2⟩ ih
  have k2 := k1.be e2
  have h2 := (h.be e1).be e2
  by_cases hlt : i < n
  · have hA : A ≠ none := by obtain ⟨_, _, hq, _⟩ := h2.2 (by omega); rw [hq]; simp
    have ta := rowV_elem veV_len r.ar i ⟨0, 0, []⟩ (by omega)
    have hin : r.ar.getD i ⟨0, 0, []⟩ ∈ r.ar := by rw [List.getD_eq_getElem?_getD, List.getElem?_eq_getElem (by omega)]; exact List.getElem_mem _
    have hg := List.all_eq_true.1 g5 _ hin
    generalize r.ar.getD i ⟨0, 0, []⟩ = x at ta hg
    repeat (first | refine T_seq ?_ | refine T_region ?_ | refine T_cond_true rfl ?_ | refine T_block ?_ | refine T_skip ?_ | refine TL_lt_t (hk := ?_) | refine TL_nil ?_ | refine TL_move (hk := ?_) | refine TL_load TE (hk := ?_) | refine TL_fieldAddr TE (hk := ?_) | refine TL_indexAddrn TE (hk := ?_) | refine TL_len TE (hk := ?_))
    refine TL_loada TE (cs := [.int .i64 x.kd, .int .i64 x.n, .string (ofL x.t)]) (hx := rfl) (ht := rfl) (hi := rfl) (hr := h2) (hc := ta) (h0 := Nat.succ_pos _) (hk := ?_)
    --
    refine TL_call TE (hc := rgiven_c x hg w2) (hk := ?_)
    rintro _ w3 ⟨rfl, e3⟩
    repeat (first | refine T_region ?_ | refine T_cond_false rfl ?_ | refine T_inBlock ?_ | refine T_skip ?_ | refine TL_add (hk := ?_) | refine TL_nil ?_ | refine TL_move (hk := ?_) | refine TL_assign (hk := ?_) | refine TL_not (hk := ?_))
    exact ih (i + 1) w3 _ (by omega) ⟨by omega, e2.ext e3⟩ (.c rfl (.c rfl (.n)))
  · clear ih
    repeat (first | refine T_seq ?_ | refine T_region ?_ | refine T_cond_false rfl ?_ | refine T_exit rfl ?_ | refine TL_lt_f (hk := ?_) | refine TL_nil ?_ | refine TL_move (hk := ?_) | refine TL_assign (hk := ?_) | refine TL_load TE (hk := ?_) | refine TL_fieldAddr TE (hk := ?_) | refine TL_len TE (hk := ?_))
    exact T_ret1 rfl rfl ⟨rfl, e1.ext e2⟩
end Go.Proofs.YtjlaomcankmdjaaGreat

namespace Go.Proofs.YtjlaomcankmdjaaGreat
open Go.RowKit Go.Proofs.Eng Go.Proofs.Codec Go.Proofs.Foot Go.Proofs.Journal
set_option linter.unusedVariables false set_option maxRecDepth 10000
attribute [local irreducible] T TL LV TH TA
set_option maxHeartbeats 3200000
theorem rvput_c (B : Option Addr) (nb cb : Nat) (b : List UInt8) (v : VE) (w : World) (hg : givenB v = true) (hf : VFit v) (hb : Rd w B nb 1 (bv b)) (hnb : nb ≤ 6000000000) :
    Ret Tryz.prog 148 [.slice B nb cb, vA v] w (fun u w' => ∃ A n c, u = .slice A n c ∧ Ext w w' ∧ Own w' w.heap.size 5 1 A n c (bv (putV b v))) := by
  unfold givenB at hg
  rw [Bool.and_eq_true, decide_eq_true_eq] at hg
  obtain ⟨g1, g2⟩ := hg
  have hvn := hf.n
  have hvt := hf.t
  have hs : (ofL v.t).size = v.t.length := ofL_size v.t
  have hput : putV b v = if v.kd = 1 then (b ++ [1]) ++ encU (zig v.n) else (b ++ [2]) ++ (encU v.t.length ++ v.t) := by
    unfold putV
    rw [if_neg (by rw [g1]; decide)]
    by_cases q : v.kd = 1
    · rw [if_pos q, if_pos q]
    · rw [if_neg q, if_neg q]
      have : v.kd = 2 := by
        unfold validV at g1
        rw [if_neg g2, if_neg q] at g1
        split at g1
        · assumption
        · cases g1
      rw [if_pos this]
  have hkd : v.kd = 1 ∨ v.kd = 2 := by
    unfold validV at g1
    rw [if_neg g2] at g1
    split at g1
    · left; assumption
    · split at g1
      · right; assumption
      · cases g1
  rw [hput]
  refine ret_T (n := 34) Tryz.func148 rfl rfl ?_
  repeat (first | refine T_seq ?_ | refine T_region ?_)
  refine TL_box (hk := ?_); intro b1 w1 e1 h1 h1' k1
  replace k1 : Blk w1 b1 161 [.int .i64 v.kd, .int .i64 v.n, .string (ofL v.t)] := k1
  have z1 := e1.size
  repeat (first | refine T_seq ?_ | refine T_region ?_ | refine TL_nil ?_ | refine TL_assign (hk := ?_))
  refine TL_buildSlice0 TE (hk := ?_); intro b2 w2 e2 h2 h2' k2
  have o2 : Own w2 w1.heap.size 5 1 (some ⟨b2, 0, none⟩) 0 0 [] := Own.of_blk k2 h2 rfl (by decide)
  have hb2 := (hb.be e1).be e2
  repeat (refine TL_move (hk := ?_))
  refine TL_append TE (ho := o2) (hr := hb2) (h1 := bv_one _) (hk := ?_); intro A3 c3 w3 o3 m3 n3
  rw [List.nil_append] at o3
  have e13 : Ext w1 w3 := Mod.own e2 m3 o2.hi
  have k3 := k1.be e13
  have z3 := e13.size
  clear k1 k2 o2
  repeat (first | refine T_seq ?_ | refine T_region ?_ | refine TL_nil ?_ | refine TL_assign (hk := ?_))
  refine TL_loadb TE (cs := [.int .i64 v.kd, .int .i64 v.n, .string (ofL v.t)]) (o := 0) rfl rfl k3 rfl rfl (Nat.succ_pos _) (hk := ?_)
  --
  refine TL_call TE (hc := rvalid_c v g1 w3) (hk := ?_)
  rintro _ w4 ⟨rfl, e4⟩
  have k4 := k3.be e4
  have o4 := o3.be e4
  have z4 := e4.size
  clear k3 o3
  obtain ⟨kd, hkdd⟩ : ∃ kd, v.kd = kd := ⟨_, rfl⟩
  rw [hkdd] at k4 hkd ⊢
  clear hkdd hput
  rcases hkd with rfl | rfl
  · repeat (first | refine T_seq ?_ | refine T_region ?_ | refine T_cond_false rfl ?_ | refine T_skip ?_ | refine TL_nil ?_ | refine TL_move (hk := ?_) | refine TL_load TE (hk := ?_) | refine TL_fieldAddr TE (hk := ?_) | refine TL_not (hk := ?_) | refine TL_conv TE (hk := ?_))
    refine TL_buildSlice TE (hk := ?_); intro b5 w5 e5 h5 h5' k5
    replace k5 : Blk w5 b5 5 (bv [1]) := k5
    have o5 := o4.be e5
    have k45 := k4.be e5
    have r5 : Rd w5 (some ⟨b5, 0, none⟩) 1 1 (bv [1]) := Rd.blk k5 rfl
    have z5 := e5.size
    --
    refine TL_append TE (ho := o5) (hr := r5) (h1 := bv_one _) (hk := ?_); intro A6 c6 w6 o6 m6 n6
    rw [← bv_append] at o6
    have e16 : Ext w1 w6 := Mod.own ((e13.ext e4).ext e5) m6 o5.hi
    have k6 : Blk w6 b1 161 [.int .i64 1, .int .i64 v.n, .string (ofL v.t)] := k45.mod m6 (fun q => by have := (o5.bl b1 q).1; omega)
    have z6 := m6.size
    have l6 := o6.len
    simp only [bv_length, Nat.mul_one] at l6
    clear k4 k45 k5
    repeat (first | refine T_seq ?_ | refine T_region ?_ | refine T_cond_true rfl ?_ | refine TL_eq_t (hk := ?_) | refine TL_nil ?_ | refine TL_move (hk := ?_) | refine TL_assign (hk := ?_) | refine TL_load TE (hk := ?_) | refine TL_fieldAddr TE (hk := ?_))
    refine TL_call TE (hc := RPutInt_c A6 (0 + nb + 1) c6 (b ++ [1]) v.n w6 o6.rd (by omega) hvn) (hk := ?_)
    rintro _ w7 ⟨A7, n7, c7, rfl, e7, o7⟩
    repeat (first | refine TL_nil ?_ | refine TL_assign (hk := ?_))
    exact T_ret1 rfl rfl ⟨A7, n7, c7, rfl, (e1.ext e16).ext e7, by rw [if_pos rfl]; exact Own.weaken o7 (by omega)⟩
  · repeat (first | refine T_seq ?_ | refine T_region ?_ | refine T_cond_false rfl ?_ | refine T_skip ?_ | refine TL_nil ?_ | refine TL_move (hk := ?_) | refine TL_load TE (hk := ?_) | refine TL_fieldAddr TE (hk := ?_) | refine TL_not (hk := ?_) | refine TL_conv TE (hk := ?_))
    refine TL_buildSlice TE (hk := ?_); intro b5 w5 e5 h5 h5' k5
    replace k5 : Blk w5 b5 5 (bv [2]) := k5
    have o5 := o4.be e5
    have k45 := k4.be e5
    have r5 : Rd w5 (some ⟨b5, 0, none⟩) 1 1 (bv [2]) := Rd.blk k5 rfl
    have z5 := e5.size
    --
    refine TL_append TE (ho := o5) (hr := r5) (h1 := bv_one _) (hk := ?_); intro A6 c6 w6 o6 m6 n6
    rw [← bv_append] at o6
    have e16 : Ext w1 w6 := Mod.own ((e13.ext e4).ext e5) m6 o5.hi
    have k6 : Blk w6 b1 161 [.int .i64 2, .int .i64 v.n, .string (ofL v.t)] := k45.mod m6 (fun q => by have := (o5.bl b1 q).1; omega)
    have z6 := m6.size
    have l6 := o6.len
    simp only [bv_length, Nat.mul_one] at l6
    clear k4 k45 k5
    repeat (first | refine T_seq ?_ | refine T_region ?_ | refine T_cond_true rfl ?_ | refine T_cond_false rfl ?_ | refine T_skip ?_ | refine TL_eq_t (hk := ?_) | refine TL_eq_f (hk := ?_) | refine TL_nil ?_ | refine TL_move (hk := ?_) | refine TL_assign (hk := ?_) | refine TL_load TE (hk := ?_) | refine TL_fieldAddr TE (hk := ?_))
    refine TL_call TE (hc := RPutText_c A6 (0 + nb + 1) c6 (b ++ [2]) (ofL v.t) w6 o6.rd (by omega) (by rw [hs]; omega)) (hk := ?_)
    rintro _ w7 ⟨A7, n7, c7, rfl, e7, o7⟩
    rw [hs, show (ofL v.t).data.toList = v.t by simp [ofL]] at o7
    repeat (first | refine TL_nil ?_ | refine TL_assign (hk := ?_))
    exact T_ret1 rfl rfl ⟨A7, n7, c7, rfl, (e1.ext e16).ext e7, by rw [if_neg (by decide)]; exact Own.weaken o7 (by omega)⟩
theorem rqput_c (r : RE) (B A : Option Addr) (nb cb n c : Nat) (b : List UInt8) (w : World) (hc : checkR r = 0) (hf : RFit r) (hb : Rd w B nb 1 (bv b)) (h : Rd w A n 3 (rowV veV r.ar)) (hnb : nb ≤ 5000000000) (hn : n ≤ 1048576) :
    Ret Tryz.prog 106 [.slice B nb cb, rA r A n c] w (fun u w' => ∃ A' n' c', u = .tuple #[.slice A' n' c', .int .i64 0] ∧ Ext w w' ∧ Own w' w.heap.size 5 1 A' n' c' (bv (reqB b r))) := by
  have hl : r.ar.length = n := by have := h.1; rw [rowV_len veV_len] at this; omega
  have hbl : b.length = nb := by simpa using hb.1
  refine ret_T (n := 46) Tryz.func106 rfl rfl ?_
  repeat (first | refine T_seq ?_ | refine T_region ?_)
  refine TL_box (hk := ?_); intro b1 w1 e1 h1 h1' k1
  replace k1 : Blk w1 b1 40 [.int .i64 r.cl, .int .u64 (r.tk : Int), .string (ofL r.nm), .slice A n c] := k1
  have z1 := e1.size
  repeat (first | refine T_seq ?_ | refine T_region ?_ | refine TL_nil ?_ | refine TL_assign (hk := ?_))
  refine TL_loadb TE (cs := [.int .i64 r.cl, .int .u64 (r.tk : Int), .string (ofL r.nm), .slice A n c]) (o := 0) rfl rfl k1 rfl rfl (Nat.succ_pos _) (hk := ?_)
  --
  refine TL_call TE (hc := rcheck_c r A n c w1 hc (h.be e1)) (hk := ?_)
  rintro _ w2 ⟨rfl, e2⟩
  have k2 := k1.be e2
  have e02 := e1.ext e2
  have hb2 := hb.be e02
  have h2' := h.be e02
  have z2 := e2.size
  clear k1
  obtain ⟨h1a, h2a, h3a, h4a⟩ := check_ok hc
  have hnm := nm_len h2a
  have htk := hf.tk
  have hs : (ofL r.nm).size = r.nm.length := ofL_size r.nm
  have hcl : r.cl = ((r.cl.toNat : Nat) : Int) := by omega
  have hbD : b1 ∉ ([] : List Nat) := by simp
  repeat (first | refine T_seq ?_ | refine T_region ?_ | refine T_cond_false rfl ?_ | refine T_skip ?_ | refine TL_ne_f (hk := ?_) | refine TL_nil ?_ | refine TL_move (hk := ?_) | refine TL_assign (hk := ?_))
  refine T_region_any TE.mixed ([] : List Nat) ?_; intro w3 e3 z3
  have k3 := k2.be e3
  have hb3 := hb2.be e3
  (refine TA_take 0 rfl (by kernel_rfl) (by kernel_rfl) (by kernel_rfl) ?_; (repeat (first | refine TL_move (hk := ?_) | refine TLP_load TE (hk := ?_) | refine TL_fieldAddr TE (hk := ?_))); refine TL_nil_p ?_); (refine TA_take 1 rfl (by kernel_rfl) (by kernel_rfl) (by kernel_rfl) ?_; (repeat (first | refine TL_move (hk := ?_) | refine TLP_load TE (hk := ?_) | refine TL_fieldAddr TE (hk := ?_))); refine TL_nil_p ?_); (refine TA_take 2 rfl (by kernel_rfl) (by kernel_rfl) (by kernel_rfl) ?_; (repeat (first | refine TL_move (hk := ?_) | refine TLP_load TE (hk := ?_) | refine TL_fieldAddr TE (hk := ?_))); refine TL_nil_p ?_)
  (refine TA_take 3 rfl (by kernel_rfl) (by kernel_rfl) (by kernel_rfl) ?_; (repeat (refine TL_conv TE (hk := ?_))); refine TL_nil_p ?_)
  (refine TA_take 5 rfl (by kernel_rfl) (by kernel_rfl) (by kernel_rfl) ?_; (repeat (first | refine TLP_load TE (hk := ?_) | refine TL_fieldAddr TE (hk := ?_))); refine TL_nil_p ?_); (refine TA_take 6 rfl (by kernel_rfl) (by kernel_rfl) (by kernel_rfl) ?_; (repeat (first | refine TLP_load TE (hk := ?_) | refine TL_fieldAddr TE (hk := ?_))); refine TL_nil_p ?_)
  refine TA_one 4 rfl (by kernel_rfl) (by kernel_rfl) ?_; (try refine TL_yes (hk := ?_)); refine TL_call TE (hc := (RPutUint_c B nb cb b r.cl.toNat w3 hcl hb3 (by omega) (by omega))) (hq := (by rintro _ w' ⟨A', n', c', rfl, e, o⟩; exact e)) (hk := ?_)
  rintro _ w4 ⟨A4, n4, c4, rfl, e4, o4⟩
  have l4 := o4.len
  have u4 := encU_len64 (show r.cl.toNat < 2 ^ 64 by omega)
  simp only [bv_length, List.length_append, Nat.mul_one] at l4
  refine TL_nil_p ?_
  refine TA_one 7 rfl (by kernel_rfl) (by kernel_rfl) ?_; (try refine TL_yes (hk := ?_)); refine TL_call TE (hc := (RPutUint_c A4 n4 c4 (b ++ encU r.cl.toNat) r.tk w4 rfl o4.rd (by omega) (by omega))) (hq := (by rintro _ w' ⟨A', n', c', rfl, e, o⟩; exact e4.ext e)) (hk := ?_)
  rintro _ w5 ⟨A5, n5, c5, rfl, e5, o5⟩
  have l5 := o5.len
  have u5 := encU_len64 (show r.tk < 2 ^ 64 by omega)
  simp only [bv_length, List.length_append, Nat.mul_one] at l5
  refine TL_nil_p ?_
  (refine TA_one 8 rfl (by kernel_rfl) (by kernel_rfl) ?_; (repeat (refine TL_assign (hk := ?_))); refine TL_nil_p ?_)
  refine TA_done (by kernel_rfl) ?_
  have e25 := (e3.ext e4).ext e5
  have k5 := k2.be e25
  clear k2 k3
  repeat (refine T_seq ?_)
  refine T_region_any TE.mixed ([] : List Nat) ?_; intro w6 e6 z6
  have k6 := k5.be e6
  have o6 := o5.be e6
  (refine TA_take 0 rfl (by kernel_rfl) (by kernel_rfl) (by kernel_rfl) ?_; (repeat (first | refine TL_move (hk := ?_) | refine TLP_load TE (hk := ?_) | refine TL_fieldAddr TE (hk := ?_))); refine TL_nil_p ?_); (refine TA_take 1 rfl (by kernel_rfl) (by kernel_rfl) (by kernel_rfl) ?_; (repeat (first | refine TL_move (hk := ?_) | refine TLP_load TE (hk := ?_) | refine TL_fieldAddr TE (hk := ?_))); refine TL_nil_p ?_); (refine TA_take 2 rfl (by kernel_rfl) (by kernel_rfl) (by kernel_rfl) ?_; (repeat (first | refine TL_move (hk := ?_) | refine TLP_load TE (hk := ?_) | refine TL_fieldAddr TE (hk := ?_))); refine TL_nil_p ?_)
  (refine TA_take 4 rfl (by kernel_rfl) (by kernel_rfl) (by kernel_rfl) ?_; (repeat (first | refine TLP_load TE (hk := ?_) | refine TL_fieldAddr TE (hk := ?_) | refine TL_len TE (hk := ?_))); refine TL_nil_p ?_); (refine TA_take 5 rfl (by kernel_rfl) (by kernel_rfl) (by kernel_rfl) ?_; (repeat (first | refine TLP_load TE (hk := ?_) | refine TL_fieldAddr TE (hk := ?_) | refine TL_len TE (hk := ?_))); refine TL_nil_p ?_); (refine TA_take 6 rfl (by kernel_rfl) (by kernel_rfl) (by kernel_rfl) ?_; (repeat (first | refine TLP_load TE (hk := ?_) | refine TL_fieldAddr TE (hk := ?_) | refine TL_len TE (hk := ?_))); refine TL_nil_p ?_)
  (refine TA_take 7 rfl (by kernel_rfl) (by kernel_rfl) (by kernel_rfl) ?_; (repeat (refine TL_conv TE (hk := ?_))); refine TL_nil_p ?_)
  refine TA_one 3 rfl (by kernel_rfl) (by kernel_rfl) ?_; (try refine TL_yes (hk := ?_)); refine TL_call TE (hc := (RPutText_c A5 n5 c5 _ (ofL r.nm) w6 o6.rd (by omega) (by rw [hs]; omega))) (hq := (by rintro _ w' ⟨A', n', c', rfl, e, o⟩; exact e)) (hk := ?_)
  rintro _ w7 ⟨A7, n7, c7, rfl, e7, o7⟩
  rw [hs, show (ofL r.nm).data.toList = r.nm by simp [ofL]] at o7
  have l7 := o7.len
  have u7 := encU_len64 (show r.nm.length < 2 ^ 64 by omega)
  simp only [bv_length, List.length_append, Nat.mul_one] at l7
  refine TL_nil_p ?_
  refine TA_one 8 rfl (by kernel_rfl) (by kernel_rfl) ?_; (try refine TL_yes (hk := ?_)); refine TL_call TE (hc := (RPutUint_c A7 n7 c7 _ r.ar.length w7 (by omega) o7.rd (by omega) (by omega))) (hq := (by rintro _ w' ⟨A', n', c', rfl, e, o⟩; exact e7.ext e)) (hk := ?_)
  rintro _ w8 ⟨A8, n8, c8, rfl, e8, o8⟩
  have l8 := o8.len
  have u8 := encU_len64 (show r.ar.length < 2 ^ 64 by omega)
  simp only [bv_length, List.length_append, Nat.mul_one] at l8
  refine TL_nil_p ?_
  (refine TA_one 9 rfl (by kernel_rfl) (by kernel_rfl) ?_; (repeat (refine TL_assign (hk := ?_))); refine TL_nil_p ?_)
  refine TA_done (by kernel_rfl) ?_
  have e58 := (e6.ext e7).ext e8
  have e28 := e25.ext e58
  have e08 := e02.ext e28
  have k8 := k5.be e58
  have z08 := e08.size
  have h8 := h2'.be e28
  clear k5 k6
  obtain ⟨b0, hb0⟩ : ∃ b0, (((b ++ encU r.cl.toNat) ++ encU r.tk) ++ (encU r.nm.length ++ r.nm)) ++ encU r.ar.length = b0 := ⟨_, rfl⟩
  have hb0l : b0.length ≤ nb + 100 := by rw [← hb0]; simp only [List.length_append]; omega
  have hreq : reqB b r = r.ar.foldl putV b0 := by unfold reqB; rw [hb0]
  rw [hb0] at o8
  rw [hreq]
  have z07 := (e02.ext (e25.ext (e6.ext e7))).size
  repeat (first | refine T_seq ?_ | refine T_region ?_ | refine T_block ?_ | refine TL_nil ?_ | refine TL_assign (hk := ?_))
  refine T_loop (ι := Nat × SL) (fun q => [(8, .int .i64 (q.1 : Int)), (7, sL q.2), (3, .pointer (some ⟨b1, 0, none⟩))]) (fun q w' => q.1 ≤ n ∧ Ext w8 w' ∧ Own w' w.heap.size 5 1 q.2.1 q.2.2.1 q.2.2.2 (bv ((r.ar.take q.1).foldl putV b0))) (fun q => n - q.1) (0, (A8, n8, c8)) (.c rfl (.c rfl (.c rfl (.n)))) ⟨Nat.zero_le _, Mod.refl _ _, Own.weaken o8 z07⟩ ?_
  rintro ⟨i, y⟩ w9 ⟨hi, e9, o9⟩ ih
  simp only at hi e9 o9 ih ⊢
  have h9 := h8.be e9
  have k9 := k8.be e9
  by_cases hlt : i < n
  · have hA : A ≠ none := by obtain ⟨_, _, hq, _⟩ := h9.2 (by omega); rw [hq]; simp
    have t1 := rowV_elem veV_len r.ar i ve0 (by omega)
    have hmem : r.ar.getD i ve0 ∈ r.ar := by rw [List.getD_eq_getElem?_getD, List.getElem?_eq_getElem (by omega)]; exact List.getElem_mem _
    have hvf := hf.ar _ hmem
    have hvg := List.all_eq_true.1 h4a _ hmem
    have htf := take_fold r.ar b0 i (by omega)
    have hfl := fold_len (l := r.ar.take i) (b := b0) (fun v hv => hf.ar v (List.mem_of_mem_take hv))
    rw [List.length_take] at hfl
    have l9 := o9.len
    simp only [bv_length, Nat.mul_one] at l9
    generalize r.ar.getD i ve0 = x at t1 hvf hvg htf
    repeat (first | refine T_seq ?_ | refine T_region ?_ | refine T_cond_true rfl ?_ | refine T_block ?_ | refine T_skip ?_ | refine TL_lt_t (hk := ?_) | refine TL_nil ?_ | refine TL_move (hk := ?_) | refine TL_load TE (hk := ?_) | refine TL_fieldAddr TE (hk := ?_) | refine TL_indexAddrn TE (hk := ?_) | refine TL_len TE (hk := ?_))
    refine TL_loada TE (cs := veV x) (hx := rfl) (ht := rfl) (hi := rfl) (hr := h9) (hc := t1) (h0 := Nat.succ_pos _) (hk := ?_)
    have z9 := e9.size
    --
    refine TL_call TE (hc := rvput_c y.1 y.2.1 y.2.2 _ x w9 hvg hvf o9.rd (by omega)) (hk := ?_)
    rintro _ w12 ⟨A12, n12, c12, rfl, e12, o12⟩
    repeat (first | refine T_region ?_ | refine T_inBlock ?_ | refine TL_add (hk := ?_) | refine TL_nil ?_ | refine TL_move (hk := ?_) | refine TL_assign (hk := ?_))
    exact ih (i + 1, (A12, n12, c12)) _ _ (by simp only; omega) ⟨by simp only; omega, e9.ext e12, by simp only; rw [htf]; exact Own.weaken o12 (by omega)⟩ (.c rfl (.c rfl (.c rfl (.n))))
  · clear ih
    have : i = n := by omega
    subst this
    have htk2 : r.ar.take i = r.ar := List.take_of_length_le (by omega)
    rw [htk2] at o9
    repeat (first | refine T_seq ?_ | refine T_region ?_ | refine T_cond_false rfl ?_ | refine T_exit rfl ?_ | refine TL_lt_f (hk := ?_) | refine TL_nil ?_ | refine TL_move (hk := ?_) | refine TL_assign (hk := ?_) | refine TL_load TE (hk := ?_) | refine TL_fieldAddr TE (hk := ?_) | refine TL_len TE (hk := ?_))
    exact T_ret2 rfl rfl rfl ⟨y.1, y.2.1, y.2.2, rfl, e08.ext e9, o9⟩
theorem rright_c (x : PM) (w : World) (X : PLies w x) (F : PFit x.p) (hr : rightP x.p = 0) (hn : x.p.rd.length ≤ 64 ∧ x.p.wr.length ≤ 64) : Ret Tryz.prog 61 [pA x] w (fun v w' => v = .int .i64 0 ∧ Ext w w') := by
  obtain ⟨g1, g2, g3⟩ := right_ok hr
  obtain ⟨l1, l2, l3⟩ := X.len
  have na := F.na
  refine ret_T (n := 26) Tryz.func61 rfl rfl ?_
  repeat (first | refine T_seq ?_ | refine T_region ?_)
  refine TL_box (hk := ?_); intro b1 w1 e1 h1 h1' k1
  replace k1 : Blk w1 b1 45 (pmV x) := k1
  unfold pmV at k1
  have rn : Rd w1 none 0 1 (bv []) := (Own.nil w1 w1.heap.size 5 1).rd
  repeat (first | refine T_seq ?_ | refine T_region ?_ | refine TL_nil ?_ | refine TL_assign (hk := ?_) | refine TL_fieldAddr TE (hk := ?_))
  refine TL_loadb TE (cs := [.int .i64 x.p.q.cl, .int .u64 (x.p.q.tk : Int), .string (ofL x.p.q.nm), sL x.a]) (o := 0) rfl rfl k1 rfl rfl (Nat.succ_pos _) (hk := ?_)
  --
  refine TL_call TE (hc := rqput_c x.p.q none x.a.1 0 0 x.a.2.1 x.a.2.2 [] w1 g1 F.q rn (X.ra.be e1) (by omega) (by omega)) (hk := ?_)
  rintro _ w2 ⟨A2, n2, c2, rfl, e2, o2⟩
  have k2 := k1.be e2
  have e02 := e1.ext e2
  clear k1
  have X2 := X.be e02
  have hni : isNorm x.p.rd x.p.wr = true := g3
  rcases g2 with g2 | g2
  · rw [g2] at k2
    repeat (first | refine T_seq ?_ | refine T_region ?_ | refine T_cond_false rfl ?_ | refine T_skip ?_ | refine TL_ne_f (hk := ?_) | refine TL_nil ?_ | refine TL_move (hk := ?_) | refine TL_assign (hk := ?_) | refine TL_load TE (hk := ?_) | refine TL_fieldAddr TE (hk := ?_) | refine TL_no (hk := ?_) | refine TL_pick_f (hk := ?_) | refine TL_extract (hk := ?_))
    refine TL_loadb TE (cs := [sL x.b, sL x.c]) (o := 5) rfl rfl k2 rfl rfl (Nat.succ_pos _) (hk := ?_)
    --
    refine TL_call TE (hc := RIs_c x.b.1 x.c.1 x.b.2.1 x.b.2.2 x.c.2.1 x.c.2.2 x.p.rd x.p.wr w2 X2.rb X2.rc (by omega) (by omega) F.sr F.sk) (hk := ?_)
    rintro _ w3 ⟨rfl, e3⟩
    rw [hni]
    repeat (first | refine T_seq ?_ | refine T_region ?_ | refine T_cond_false rfl ?_ | refine T_skip ?_ | refine TL_nil ?_ | refine TL_assign (hk := ?_) | refine TL_not (hk := ?_))
    exact T_ret1 rfl rfl ⟨rfl, e02.ext e3⟩
  · rw [g2] at k2
    repeat (first | refine T_seq ?_ | refine T_region ?_ | refine T_cond_false rfl ?_ | refine T_skip ?_ | refine TL_ne_t (hk := ?_) | refine TL_ne_f (hk := ?_) | refine TL_nil ?_ | refine TL_move (hk := ?_) | refine TL_assign (hk := ?_) | refine TL_load TE (hk := ?_) | refine TL_fieldAddr TE (hk := ?_) | refine TL_yes (hk := ?_) | refine TL_pick_t (hk := ?_) | refine TL_extract (hk := ?_))
    refine TL_loadb TE (cs := [sL x.b, sL x.c]) (o := 5) rfl rfl k2 rfl rfl (Nat.succ_pos _) (hk := ?_)
    --
    refine TL_call TE (hc := RIs_c x.b.1 x.c.1 x.b.2.1 x.b.2.2 x.c.2.1 x.c.2.2 x.p.rd x.p.wr w2 X2.rb X2.rc (by omega) (by omega) F.sr F.sk) (hk := ?_)
    rintro _ w3 ⟨rfl, e3⟩
    rw [hni]
    repeat (first | refine T_seq ?_ | refine T_region ?_ | refine T_cond_false rfl ?_ | refine T_skip ?_ | refine TL_nil ?_ | refine TL_assign (hk := ?_) | refine TL_not (hk := ?_))
    exact T_ret1 rfl rfl ⟨rfl, e02.ext e3⟩
end Go.Proofs.YtjlaomcankmdjaaGreat
