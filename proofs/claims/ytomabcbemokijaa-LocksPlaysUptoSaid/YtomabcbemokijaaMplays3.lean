import Derived.Test.YtomabcbemokijaaMplays2
/- Parts: KW17 KW18 KLaw5 KW19 KW20 KW13 KMem2 KW21 KW22 KW23. -/
namespace Go.Proofs.Ytomabcbemokijaa
open Go.RowKit Go.Proofs.Eng Go.Proofs.Foot Go.Proofs.Locks
set_option linter.unusedSimpArgs false
set_option linter.unusedVariables false set_option maxRecDepth 10000
attribute [local irreducible] T TL LV TH TA
set_option maxHeartbeats 1600000
section
variable {q : Nat} {x : SL} {last : Int} {es : List WE}
theorem RQueue_c (k : Tx) (w : World) (h : RfM w q x last es) :
    Ret Try.prog 53 [pT q, .string (ofL k)] w (fun v w' => ∃ y, v = sL y ∧ Ext w w' ∧ QdRow w' w.heap.size y (quU es k es.length)) := by
  have hl := h.len
  have hln := h.ln
  have hqlt := h.blk.lt
  refine ret_T (n := 49) Try.func53 rfl rfl ?_
  repeat (first | refine T_seq ?_ | refine T_region ?_ | refine T_block ?_ | refine TL_nil ?_ | refine TL_assign (hk := ?_))
  refine T_loop (ι := Nat × SL) (fun i => [(6, .int .i64 (i.1 : Int)), (5, sL i.2), (0, pT q), (1, .string (ofL k))]) (fun i w' => Ext w w' ∧ i.1 ≤ es.length ∧ i.2.2.1 ≤ i.1 ∧ QdRow w' w.heap.size i.2 (quU es k i.1)) (fun i => es.length - i.1) (0, (none, 0, 0)) (.c rfl (.c rfl (.c rfl (.c rfl (.n))))) ⟨Mod.refl _ _, Nat.zero_le _, Nat.le_refl _, Own.nil _ _ _ _⟩ ?_
  rintro ⟨i, y⟩ w2 ⟨e2, hi, hyl, ry⟩ ih
  simp only at hi hyl ry ih ⊢
  have h2 := h.ext e2
  have hb := h2.blk
  have hr := h2.rd
  have z2 := e2.size
  by_cases hlt : i < es.length
  · have hv := rowV_at weV_len es i 0 we0 (by omega) (by omega)
    have t1 := rowV_elem weV_len es i we0 hlt
    have hs := quU_succ es k i
    have hm : es.getD i we0 ∈ es := by rw [List.getD_eq_getElem?_getD, List.getElem?_eq_getElem hlt]; exact List.getElem_mem _
    have hgr := fun w' (h' : RfM w' q x last es) => granted_c14 i k w' h' hlt
    obtain ⟨a, ha⟩ : ∃ a, es.getD i we0 = a := ⟨_, rfl⟩
    rw [ha] at hv hs t1 hm
    replace hv : (rowV weV es)[i * 2 + 0]? = some (.int .i64 a.s) := hv
    obtain ⟨ra, an⟩ := h2.lk a hm
    have hA : x.1 ≠ none := by obtain ⟨_, _, hq, _⟩ := hr.2 (by omega); rw [hq]; simp
    repeat (first | refine T_seq ?_ | refine T_region ?_ | refine T_cond_true rfl ?_ | refine T_block ?_ | refine T_skip ?_ | refine TL_lt_t (hk := ?_) | refine TL_nil ?_ | refine TL_move (hk := ?_) | refine TL_load TE (hk := ?_) | refine TL_fieldAddr TE (hk := ?_) | refine TL_indexAddrn TE (hk := ?_) | refine TL_len TE (hk := ?_) | refine TL_nilCheck (hk := ?_))
    refine TL_loada TE (cs := weV a) (hx := rfl) (ht := rfl) (hi := rfl) (hr := hr) (hc := t1) (h0 := Nat.succ_pos _) (hk := ?_)
    repeat (refine TL_move (hk := ?_))
    refine TL_call TE (hc := Asks_c a k _ ra (by omega)) (hk := ?_)
    rintro _ w3 ⟨rfl, e3⟩
    have ry3 := Own.be e3 ry
    have z3 := e3.size
    have h3 := h2.ext e3
    clear hb hr ry ra
    cases hT : asksT a.l k with
    | true =>
      rw [if_pos hT] at hs
      generalize asksB a.l k = bb at hs
      have hAx : Off x.1 (blkL y.1) := off_ofL fun b p p' => by have := Lo.mem (h.rd.lo (by omega)) b p; have := (ry3.bl b p').1; omega
      have hqx : q ∉ blkL y.1 := fun p => by have := (ry3.bl q p).1; omega
      repeat (first | refine T_seq ?_ | refine T_region ?_ | refine T_cond_true rfl ?_ | refine TL_nil ?_ | refine TL_move (hk := ?_) | refine TL_assign (hk := ?_) | refine TL_extract (hk := ?_))
      refine T_region_any TE.mixed (blkL y.1) ?_; intro w4 e4 z4
      have h4 := h3.ext e4
      have hb4 := h4.blk
      have hr4 := h4.rd
      have ry4 := Own.be e4 ry3
      (refine TA_take 0 rfl (by kernel_rfl) (by kernel_rfl) (by kernel_rfl) ?_; (repeat (first | refine TL_move (hk := ?_) | refine TLP_load TE (hk := ?_) | refine TLP_load_rd TE (hk := ?_) | refine TL_fieldAddr TE (hk := ?_) | refine TL_fieldAddr_e TE (hk := ?_) | refine TL_indexAddrn TE (hk := ?_) | refine TL_nilCheck (hk := ?_))); refine TL_nil_p ?_); (refine TA_take 1 rfl (by kernel_rfl) (by kernel_rfl) (by kernel_rfl) ?_; (repeat (first | refine TL_move (hk := ?_) | refine TLP_load TE (hk := ?_) | refine TLP_load_rd TE (hk := ?_) | refine TL_fieldAddr TE (hk := ?_) | refine TL_fieldAddr_e TE (hk := ?_) | refine TL_indexAddrn TE (hk := ?_) | refine TL_nilCheck (hk := ?_))); refine TL_nil_p ?_); (refine TA_take 2 rfl (by kernel_rfl) (by kernel_rfl) (by kernel_rfl) ?_; (repeat (first | refine TL_move (hk := ?_) | refine TLP_load TE (hk := ?_) | refine TLP_load_rd TE (hk := ?_) | refine TL_fieldAddr TE (hk := ?_) | refine TL_fieldAddr_e TE (hk := ?_) | refine TL_indexAddrn TE (hk := ?_) | refine TL_nilCheck (hk := ?_))); refine TL_nil_p ?_); (refine TA_take 3 rfl (by kernel_rfl) (by kernel_rfl) (by kernel_rfl) ?_; (repeat (first | refine TL_move (hk := ?_) | refine TLP_load TE (hk := ?_) | refine TLP_load_rd TE (hk := ?_) | refine TL_fieldAddr TE (hk := ?_) | refine TL_fieldAddr_e TE (hk := ?_) | refine TL_indexAddrn TE (hk := ?_) | refine TL_nilCheck (hk := ?_))); refine TL_nil_p ?_); (refine TA_take 4 rfl (by kernel_rfl) (by kernel_rfl) (by kernel_rfl) ?_; (repeat (first | refine TL_move (hk := ?_) | refine TLP_load TE (hk := ?_) | refine TLP_load_rd TE (hk := ?_) | refine TL_fieldAddr TE (hk := ?_) | refine TL_fieldAddr_e TE (hk := ?_) | refine TL_indexAddrn TE (hk := ?_) | refine TL_nilCheck (hk := ?_))); refine TL_nil_p ?_); (refine TA_take 5 rfl (by kernel_rfl) (by kernel_rfl) (by kernel_rfl) ?_; (repeat (first | refine TL_move (hk := ?_) | refine TLP_load TE (hk := ?_) | refine TLP_load_rd TE (hk := ?_) | refine TL_fieldAddr TE (hk := ?_) | refine TL_fieldAddr_e TE (hk := ?_) | refine TL_indexAddrn TE (hk := ?_) | refine TL_nilCheck (hk := ?_))); refine TL_nil_p ?_); (refine TA_take 6 rfl (by kernel_rfl) (by kernel_rfl) (by kernel_rfl) ?_; (repeat (first | refine TL_move (hk := ?_) | refine TLP_load TE (hk := ?_) | refine TLP_load_rd TE (hk := ?_) | refine TL_fieldAddr TE (hk := ?_) | refine TL_fieldAddr_e TE (hk := ?_) | refine TL_indexAddrn TE (hk := ?_) | refine TL_nilCheck (hk := ?_))); refine TL_nil_p ?_); (refine TA_take 7 rfl (by kernel_rfl) (by kernel_rfl) (by kernel_rfl) ?_; (repeat (first | refine TL_move (hk := ?_) | refine TLP_load TE (hk := ?_) | refine TLP_load_rd TE (hk := ?_) | refine TL_fieldAddr TE (hk := ?_) | refine TL_fieldAddr_e TE (hk := ?_) | refine TL_indexAddrn TE (hk := ?_) | refine TL_nilCheck (hk := ?_))); refine TL_nil_p ?_); (refine TA_take 8 rfl (by kernel_rfl) (by kernel_rfl) (by kernel_rfl) ?_; (repeat (first | refine TL_move (hk := ?_) | refine TLP_load TE (hk := ?_) | refine TLP_load_rd TE (hk := ?_) | refine TL_fieldAddr TE (hk := ?_) | refine TL_fieldAddr_e TE (hk := ?_) | refine TL_indexAddrn TE (hk := ?_) | refine TL_nilCheck (hk := ?_))); refine TL_nil_p ?_); (refine TA_take 9 rfl (by kernel_rfl) (by kernel_rfl) (by kernel_rfl) ?_; (repeat (first | refine TL_move (hk := ?_) | refine TLP_load TE (hk := ?_) | refine TLP_load_rd TE (hk := ?_) | refine TL_fieldAddr TE (hk := ?_) | refine TL_fieldAddr_e TE (hk := ?_) | refine TL_indexAddrn TE (hk := ?_) | refine TL_nilCheck (hk := ?_))); refine TL_nil_p ?_); (refine TA_take 10 rfl (by kernel_rfl) (by kernel_rfl) (by kernel_rfl) ?_; (repeat (first | refine TL_move (hk := ?_) | refine TLP_load TE (hk := ?_) | refine TLP_load_rd TE (hk := ?_) | refine TL_fieldAddr TE (hk := ?_) | refine TL_fieldAddr_e TE (hk := ?_) | refine TL_indexAddrn TE (hk := ?_) | refine TL_nilCheck (hk := ?_))); refine TL_nil_p ?_); (refine TA_take 11 rfl (by kernel_rfl) (by kernel_rfl) (by kernel_rfl) ?_; (repeat (first | refine TL_move (hk := ?_) | refine TLP_load TE (hk := ?_) | refine TLP_load_rd TE (hk := ?_) | refine TL_fieldAddr TE (hk := ?_) | refine TL_fieldAddr_e TE (hk := ?_) | refine TL_indexAddrn TE (hk := ?_) | refine TL_nilCheck (hk := ?_))); refine TL_nil_p ?_); (refine TA_take 12 rfl (by kernel_rfl) (by kernel_rfl) (by kernel_rfl) ?_; (repeat (first | refine TL_move (hk := ?_) | refine TLP_load TE (hk := ?_) | refine TLP_load_rd TE (hk := ?_) | refine TL_fieldAddr TE (hk := ?_) | refine TL_fieldAddr_e TE (hk := ?_) | refine TL_indexAddrn TE (hk := ?_) | refine TL_nilCheck (hk := ?_))); refine TL_nil_p ?_)
      refine TA_one 13 rfl (by kernel_rfl) (by kernel_rfl) ?_; (try refine TL_yes (hk := ?_)); refine TL_call TE (hc := (hgr w4 h4)) (hq := (by rintro _ w5 ⟨rfl, e⟩; exact Ext.un e)) (hk := ?_)
      rintro _ w5 ⟨rfl, e5⟩
      have ry5 := Own.be e5 ry4
      generalize grB es i k = gg at hs
      refine TL_nil_p ?_
      (refine TA_one 14 rfl (by kernel_rfl) (by kernel_rfl) ?_; (repeat (refine TL_build TE (hk := ?_))); refine TL_nil_p ?_)
      refine TA_one 15 rfl (by kernel_rfl) (by kernel_rfl) ?_
      refine TL_buildSliceA TE (hf := rfl) (hq := fun w' h => Ext.un (e5.ext h)) (hk := ?_); intro b8 w8 e8 h8 h8' k8
      replace k8 : Blk w8 b8 84 (rowV qdV [((a.s, bb), gg)]) := k8
      have r8 : Rd w8 (some ⟨b8, 0, none⟩) 1 3 (rowV qdV [((a.s, bb), gg)]) := Rd.blk k8 rfl
      have z8 := e8.size
      have z45 := e5.size
      have z34 := e4.size
      refine TL_nil_p ?_
      refine TA_one 16 rfl (by kernel_rfl) (by kernel_rfl) ?_
      refine TL_append TE (ho := Own.be e8 ry5) (hr := r8) (h1 := rowV_one qdV_one _) (hf := rfl) (hq := fun w' m => (Ext.un (e5.ext e8)).trans m) (hk := ?_); intro A9 c9 w9 o9 m9 n9
      rw [← rowV_append, ← hs] at o9
      refine TL_nil_p ?_
      (refine TA_one 17 rfl (by kernel_rfl) (by kernel_rfl) ?_; (repeat (refine TL_assign (hk := ?_))); refine TL_nil_p ?_)
      refine TA_done (by kernel_rfl) ?_
      repeat (first | refine T_region ?_ | refine T_inBlock ?_ | refine TL_add (hk := ?_) | refine TL_nil ?_ | refine TL_move (hk := ?_) | refine TL_assign (hk := ?_))
      exact ih (i + 1, (A9, y.2.1 + 1, c9)) w9 _ (by simp only; omega) ⟨Mod.own ((((e2.ext e3).ext e4).ext e5).ext e8) m9 ry5.hi, by simp only; omega, by simp only; omega, o9⟩ (.c rfl (.c rfl (.c rfl (.c rfl (.n)))))
    | false =>
      rw [if_neg (by rw [hT]; decide), List.append_nil] at hs
      rw [← hs] at ry3
      repeat (first | refine T_seq ?_ | refine T_region ?_ | refine T_cond_false rfl ?_ | refine T_inBlock ?_ | refine T_skip ?_ | refine TL_add (hk := ?_) | refine TL_nil ?_ | refine TL_move (hk := ?_) | refine TL_assign (hk := ?_) | refine TL_extract (hk := ?_))
      exact ih (i + 1, y) w3 _ (by simp only; omega) ⟨e2.ext e3, by simp only; omega, by simp only; omega, ry3⟩ (.c rfl (.c rfl (.c rfl (.c rfl (.n)))))
  · clear ih
    have hin : i = es.length := by omega
    rw [hin] at ry
    repeat (first | refine T_seq ?_ | refine T_region ?_ | refine T_cond_false rfl ?_ | refine T_exit rfl ?_ | refine TL_lt_f (hk := ?_) | refine TL_nil ?_ | refine TL_move (hk := ?_) | refine TL_assign (hk := ?_) | refine TL_load TE (hk := ?_) | refine TL_fieldAddr TE (hk := ?_) | refine TL_len TE (hk := ?_) | refine TL_nilCheck (hk := ?_))
    exact T_ret1 rfl rfl ⟨y, rfl, e2, ry⟩
theorem quU_len (es : List WE) (k : Tx) : (quU es k es.length).length ≤ es.length := by
  unfold quU
  have := List.length_filterMap_le (fun j => (asks (es.getD j we0).l k).map fun b => ((((es.getD j we0).s, b), grB es j k) : Akk × Bool)) (List.range es.length)
  rwa [List.length_range] at this
theorem RHeld_c (k : Tx) (w : World) (h : RfM w q x last es) :
    Ret Try.prog 54 [pT q, .string (ofL k)] w (fun v w' => ∃ y, v = sL y ∧ Ext w w' ∧ IRow w' w.heap.size y (((quU es k es.length).filter (·.2)).map (·.1.1))) := by
  have hln := h.ln
  have hql := quU_len es k
  refine ret_T (n := 31) Try.func54 rfl rfl ?_
  repeat (first | refine T_seq ?_ | refine T_region ?_ | refine TL_nil ?_ | refine TL_move (hk := ?_) | refine TL_assign (hk := ?_))
  refine TL_call TE (hc := RQueue_c k w h) (hk := ?_)
  rintro _ w1 ⟨z, rfl, e1, rz⟩
  have hzl : (quU es k es.length).length = z.2.1 := by have := rz.len; rw [rowV_len qdV_len] at this; omega
  have hend : heldU (quU es k es.length) (quU es k es.length).length = ((quU es k es.length).filter (·.2)).map (·.1.1) := by unfold heldU; rw [List.take_length]
  have hsu := heldU_succ (quU es k es.length)
  generalize quU es k es.length = Q at rz hzl hend hsu hql
  have z1 := e1.size
  repeat (first | refine T_seq ?_ | refine T_region ?_ | refine T_block ?_ | refine TL_nil ?_ | refine TL_assign (hk := ?_))
  refine T_loop (ι := Nat × SL) (fun i => [(7, .int .i64 (i.1 : Int)), (6, sL z), (5, sL i.2)]) (fun i w' => Ext w1 w' ∧ i.1 ≤ z.2.1 ∧ i.2.2.1 ≤ i.1 ∧ IRow w' w1.heap.size i.2 (heldU Q i.1)) (fun i => z.2.1 - i.1) (0, (none, 0, 0)) (.c rfl (.c rfl (.c rfl (.n)))) ⟨Mod.refl _ _, Nat.zero_le _, Nat.le_refl _, Own.nil _ _ _ _⟩ ?_
  rintro ⟨i, y⟩ w2 ⟨e2, hi, hyl, ry⟩ ih
  simp only at hi hyl ry ih ⊢
  have hE := e1.ext e2
  have zE := hE.size
  have z2s := e2.size
  by_cases hlt : i < z.2.1
  · have r1 := (Own.be e2 rz).rd
    have hv0 := rowV_at qdV_len Q i 0 qd0 (by omega) (by omega)
    have hv2 := rowV_at qdV_len Q i 2 qd0 (by omega) (by omega)
    have hsu := hsu i (by omega)
    obtain ⟨a, ha⟩ : ∃ a, Q.getD i qd0 = a := ⟨_, rfl⟩
    rw [ha] at hv0 hv2 hsu
    replace hv0 : (rowV qdV Q)[i * 3 + 0]? = some (.int .i64 a.1.1) := hv0
    replace hv2 : (rowV qdV Q)[i * 3 + 2]? = some (.bool a.2) := hv2
    have hA : z.1 ≠ none := by obtain ⟨_, _, hq, _⟩ := r1.2 (by omega); rw [hq]; simp
    cases hg : a.2 with
    | true =>
      rw [hg] at hv2
      rw [if_pos hg] at hsu
      repeat (first | refine T_seq ?_ | refine T_region ?_ | refine T_cond_true rfl ?_ | refine T_block ?_ | refine T_skip ?_ | refine TL_lt_t (hk := ?_) | refine TL_nil ?_ | refine TL_move (hk := ?_) | refine TL_load_rd TE (hk := ?_) | refine TL_fieldAddr_e TE (hk := ?_) | refine TL_indexAddrn TE (hk := ?_) | refine TL_len TE (hk := ?_))
      refine TL_buildSlice TE (hk := ?_); intro b5 w5 e5 h5 h5' k5
      replace k5 : Blk w5 b5 2 (iv [a.1.1]) := k5
      have r5 : Rd w5 (some ⟨b5, 0, none⟩) 1 1 (iv [a.1.1]) := Rd.blk k5 rfl
      have z5 := e5.size
      --
      refine TL_append TE (ho := Own.be e5 ry) (hr := r5) (h1 := iv_one _) (hk := ?_); intro A6 c6 w6 o6 m6 n6
      rw [← iv_append, ← hsu] at o6
      repeat (first | refine T_region ?_ | refine T_inBlock ?_ | refine TL_add (hk := ?_) | refine TL_nil ?_ | refine TL_move (hk := ?_) | refine TL_assign (hk := ?_))
      have hE6 : Ext w1 w6 := Mod.own (e2.ext e5) m6 ry.hi
      exact ih (i + 1, (A6, y.2.1 + 1, c6)) w6 _ (by simp only; omega) ⟨hE6, by simp only; omega, by simp only; omega, o6⟩ (.c rfl (.c rfl (.c rfl (.n))))
    | false =>
      rw [hg] at hv2
      rw [if_neg (by rw [hg]; decide), List.append_nil] at hsu
      rw [← hsu] at ry
      repeat (first | refine T_seq ?_ | refine T_region ?_ | refine T_cond_true rfl ?_ | refine T_cond_false rfl ?_ | refine T_block ?_ | refine T_inBlock ?_ | refine T_skip ?_ | refine TL_add (hk := ?_) | refine TL_lt_t (hk := ?_) | refine TL_nil ?_ | refine TL_move (hk := ?_) | refine TL_assign (hk := ?_) | refine TL_load_rd TE (hk := ?_) | refine TL_fieldAddr_e TE (hk := ?_) | refine TL_indexAddrn TE (hk := ?_) | refine TL_len TE (hk := ?_))
      exact ih (i + 1, y) w2 _ (by simp only; omega) ⟨e2, by simp only; omega, by simp only; omega, ry⟩ (.c rfl (.c rfl (.c rfl (.n))))
  · clear ih
    have hin : i = Q.length := by omega
    rw [hin, hend] at ry
    repeat (first | refine T_seq ?_ | refine T_region ?_ | refine T_cond_false rfl ?_ | refine T_exit rfl ?_ | refine TL_lt_f (hk := ?_) | refine TL_nil ?_ | refine TL_move (hk := ?_) | refine TL_assign (hk := ?_) | refine TL_len TE (hk := ?_))
    exact T_ret1 rfl rfl ⟨y, rfl, hE, Own.weaken ry z1⟩
end
end Go.Proofs.Ytomabcbemokijaa

namespace Go.Proofs.Ytomabcbemokijaa
open Go.RowKit Go.Proofs.Eng Go.Proofs.Foot Go.Proofs.Locks
set_option linter.unusedSimpArgs false
set_option linter.unusedVariables false set_option maxRecDepth 10000
attribute [local irreducible] T TL LV TH TA
set_option maxHeartbeats 1600000
def wtU (es : List WE) (p i : Nat) : List Int := ((es.take i).filter fun e => clashL e.l (es.getD p we0).l).map (·.s)
theorem wtU_succ (es : List WE) (p i : Nat) (hi : i < es.length) : wtU es p (i + 1) = wtU es p i ++ (if clashL (es.getD i we0).l (es.getD p we0).l = true then [(es.getD i we0).s] else []) := by
  unfold wtU
  have hg : es.getD i we0 = es[i] := by rw [List.getD_eq_getElem?_getD, List.getElem?_eq_getElem hi]; rfl
  rw [List.take_succ_eq_append_getElem hi, List.filter_append, List.map_append, hg]
  congr 1
  generalize (es.getD p we0).l = L
  by_cases e : clashL es[i].l L = true <;> simp [e]
theorem clashL_succ (a l : List Lk) (i : Nat) (hi : i < l.length) : clashL a (l.take (i + 1)) = (clashL a (l.take i) || (asksT a (l.getD i lk0).1 && (asksB a (l.getD i lk0).1 || (l.getD i lk0).2))) := by
  have hg : l.getD i lk0 = l[i] := by rw [List.getD_eq_getElem?_getD, List.getElem?_eq_getElem hi]; rfl
  unfold clashL
  rw [List.take_succ_eq_append_getElem hi, List.any_append, hg]
  congr 1
  unfold asksT asksB
  cases h : asks a l[i].1 <;> simp [h]
def wtW (es : List WE) (s : Int) : List Int := if 0 ≤ atW es s then wtU es (atW es s).toNat (atW es s).toNat else []
section
variable {q : Nat} {x : SL} {last : Int} {es : List WE}
theorem RWaits_c (s : Int) (w : World) (h : RfM w q x last es) :
    Ret Try.prog 51 [pT q, .int .i64 s] w (fun v w' => ∃ y, v = sL y ∧ Ext w w' ∧ IRow w' w.heap.size y (wtW es s)) := by
  have hl := h.len
  have hln := h.ln
  refine ret_T (n := 82) Try.func51 rfl rfl ?_
  repeat (first | refine T_seq ?_ | refine T_region ?_ | refine TL_nil ?_ | refine TL_move (hk := ?_) | refine TL_assign (hk := ?_))
  refine TL_call TE (hc := at_c14 s _ h) (hk := ?_)
  rintro _ w ⟨rfl, rfl⟩
  by_cases h0 : 0 ≤ atW es s
  · obtain ⟨hp, hpe⟩ := atW_lt h0
    have hres : wtW es s = wtU es (atW es s).toNat (atW es s).toNat := if_pos h0
    generalize (atW es s).toNat = p at hp hpe hres
    rw [hpe]
    have hvp := rowV_at weV_len es p 1 we0 hp (by omega)
    have hmp : es.getD p we0 ∈ es := by rw [List.getD_eq_getElem?_getD, List.getElem?_eq_getElem hp]; exact List.getElem_mem _
    have hsu := fun i (hi : i < es.length) => wtU_succ es p i hi
    obtain ⟨b, hb0⟩ : ∃ b, es.getD p we0 = b := ⟨_, rfl⟩
    rw [hb0] at hvp hmp
    simp only [hb0] at hsu
    replace hvp : (rowV weV es)[p * 2 + 1]? = some (.slice b.A b.n b.c) := hvp
    obtain ⟨rb, bn⟩ := h.lk b hmp
    have hbl : b.l.length = b.n := by have := rb.1; rw [rowV_len lkV_len] at this; omega
    have hA : x.1 ≠ none := by obtain ⟨_, _, hq, _⟩ := h.rd.2 (by omega); rw [hq]; simp
    repeat (first | refine T_seq ?_ | refine T_region ?_ | refine T_block ?_ | refine TL_nil ?_ | refine TL_assign (hk := ?_))
    refine T_loop (ι := Nat × SL) (fun i => [(7, .int .i64 (i.1 : Int)), (6, sL i.2), (0, pT q), (5, .int .i64 (p : Int))]) (fun i w' => Ext w w' ∧ i.1 ≤ p ∧ i.2.2.1 ≤ i.1 ∧ IRow w' w.heap.size i.2 (wtU es p i.1)) (fun i => p - i.1) (0, (none, 0, 0)) (.c rfl (.c rfl (.c rfl (.c rfl (.n))))) ⟨Mod.refl _ _, Nat.zero_le _, Nat.le_refl _, Own.nil _ _ _ _⟩ ?_
    rintro ⟨i, y⟩ w2 ⟨e2, hi, hyl, ry⟩ ih
    simp only at hi hyl ry ih ⊢
    by_cases hlt : i < p
    · have hv := rowV_at weV_len es i 0 we0 (by omega) (by omega)
      have t1 := rowV_elem weV_len es i we0 (by omega)
      have hs := hsu i (by omega)
      have hm : es.getD i we0 ∈ es := by rw [List.getD_eq_getElem?_getD, List.getElem?_eq_getElem (by omega)]; exact List.getElem_mem _
      obtain ⟨a, ha⟩ : ∃ a, es.getD i we0 = a := ⟨_, rfl⟩
      rw [ha] at hv hs t1 hm
      replace hv : (rowV weV es)[i * 2 + 0]? = some (.int .i64 a.s) := hv
      obtain ⟨ra, an⟩ := h.lk a hm
      repeat (first | refine T_seq ?_ | refine T_region ?_ | refine T_cond_true rfl ?_ | refine T_block ?_ | refine T_skip ?_ | refine TL_lt_t (hk := ?_) | refine TL_nil ?_ | refine TL_move (hk := ?_) | refine TL_assign (hk := ?_))
      refine T_loop (ι := Nat × Bool) (fun j => [(9, .int .i64 (j.1 : Int)), (8, .bool j.2), (7, .int .i64 (i : Int)), (6, sL y), (0, pT q), (5, .int .i64 (p : Int))]) (fun j w' => Ext w2 w' ∧ j.1 ≤ b.n ∧ j.2 = clashL a.l (b.l.take j.1)) (fun j => b.n - j.1) (0, false) (.c rfl (.c rfl (.c rfl (.c rfl (.c rfl (.c rfl (.n))))))) ⟨Mod.refl _ _, Nat.zero_le _, by rw [List.take_zero]; rfl⟩ ?_
      rintro ⟨j, kv⟩ w3 ⟨e3, hj, hkv⟩ ih2
      simp only at hj hkv ih2 ⊢
      have h3 := h.ext (e2.ext e3)
      have hb3 := h3.blk
      have hr3 := h3.rd
      have rb3 := rb.be (e2.ext e3)
      by_cases hjl : j < b.n
      · clear ih
        have t2 := rowV_elem lkV_len b.l j lk0 (by omega)
        have hcs := clashL_succ a.l b.l j (by omega)
        rw [← hkv] at hcs
        have hB : b.A ≠ none := by obtain ⟨_, _, hq, _⟩ := rb3.2 (by omega); rw [hq]; simp
        obtain ⟨u, hu⟩ : ∃ u, b.l.getD j lk0 = u := ⟨_, rfl⟩
        rw [hu] at t2 hcs
        repeat (first | refine T_seq ?_ | refine T_region ?_ | refine T_cond_true rfl ?_ | refine T_block ?_ | refine T_skip ?_ | refine TL_lt_t (hk := ?_) | refine TL_nil ?_ | refine TL_move (hk := ?_) | refine TL_load TE (hk := ?_) | refine TL_load_rd TE (hk := ?_) | refine TL_fieldAddr TE (hk := ?_) | refine TL_fieldAddr_e TE (hk := ?_) | refine TL_indexAddrn TE (hk := ?_) | refine TL_len TE (hk := ?_) | refine TL_nilCheck (hk := ?_))
        refine TL_loada TE (cs := lkV u) (hx := rfl) (ht := rfl) (hi := rfl) (hr := rb3) (hc := t2) (h0 := Nat.succ_pos _) (hk := ?_)
        --
        refine TL_alloc TE (hk := ?_); intro b4 w4 e4 h4' h4'' k4
        --
        refine TL_storea TE (hk := ?_); intro w5 m5 z5 k5
        have e35 : Ext w3 w5 := Mod.step e4 m5 (by simp; omega)
        replace k5 : Blk w5 b4 61 (lkV u) := k5
        unfold lkV at k5
        have h5 := h3.ext e35
        have hb5 := h5.blk
        have hr5 := h5.rd
        have ra5 := ra.be ((e2.ext e3).ext e35)
        clear k4 m5 e4 hb3 hr3 rb3
        repeat (first | refine T_seq ?_ | refine T_region_q TE.mixed (by kernel_rfl) ?_ | refine TL_nil ?_ | refine TL_move (hk := ?_) | refine TL_load TE (hk := ?_) | refine TL_fieldAddr TE (hk := ?_) | refine TL_indexAddrn TE (hk := ?_) | refine TL_nilCheck (hk := ?_))
        refine TL_loada TE (cs := weV a) (hx := rfl) (ht := rfl) (hi := rfl) (hr := hr5) (hc := t1) (h0 := Nat.succ_pos _) (hk := ?_)
        repeat (first | refine TL_load TE (hk := ?_) | refine TL_fieldAddr TE (hk := ?_))
        refine TL_call_q TE rfl rfl rfl ((fun w' e' => Asks_c a u.1 w' (ra5.be e') (by omega))) ?_
        generalize asksT a.l u.1 = tv at hcs
        generalize asksB a.l u.1 = bv at hcs
        repeat (first | refine TL_move (hk := ?_) | refine TL_assign (hk := ?_) | refine TL_extract (hk := ?_))
        refine TL_nil_q ?_; intro w6 e6
        have e36 := e35.ext e6
        have k6 := k5.be e6
        clear k5
        cases kv with
        | true =>
          repeat (first | refine T_region ?_ | refine T_inBlock ?_ | refine TL_add (hk := ?_) | refine TL_nil ?_ | refine TL_move (hk := ?_) | refine TL_assign (hk := ?_) | refine TL_no (hk := ?_) | refine TL_pick_t (hk := ?_))
          exact ih2 (j + 1, true) w6 _ (by simp only; omega) ⟨e3.ext e36, by simp only; omega, by simp only; rw [hcs]; rfl⟩ (.c rfl (.c rfl (.c rfl (.c rfl (.c rfl (.c rfl (.n)))))))
        | false =>
          cases tv with
          | false =>
            repeat (first | refine T_region ?_ | refine T_inBlock ?_ | refine TL_add (hk := ?_) | refine TL_nil ?_ | refine TL_move (hk := ?_) | refine TL_assign (hk := ?_) | refine TL_yes (hk := ?_) | refine TL_no (hk := ?_) | refine TL_pick_f (hk := ?_))
            exact ih2 (j + 1, false) w6 _ (by simp only; omega) ⟨e3.ext e36, by simp only; omega, by simp only; rw [hcs]; rfl⟩ (.c rfl (.c rfl (.c rfl (.c rfl (.c rfl (.c rfl (.n)))))))
          | true =>
            cases bv with
            | true =>
              repeat (first | refine T_region ?_ | refine T_inBlock ?_ | refine TL_add (hk := ?_) | refine TL_nil ?_ | refine TL_move (hk := ?_) | refine TL_assign (hk := ?_) | refine TL_yes (hk := ?_) | refine TL_no (hk := ?_) | refine TL_pick_t (hk := ?_) | refine TL_pick_f (hk := ?_))
              exact ih2 (j + 1, true) w6 _ (by simp only; omega) ⟨e3.ext e36, by simp only; omega, by simp only; rw [hcs]; rfl⟩ (.c rfl (.c rfl (.c rfl (.c rfl (.c rfl (.c rfl (.n)))))))
            | false =>
              repeat (first | refine T_region ?_ | refine T_inBlock ?_ | refine TL_add (hk := ?_) | refine TL_nil ?_ | refine TL_move (hk := ?_) | refine TL_assign (hk := ?_) | refine TL_load TE (hk := ?_) | refine TL_fieldAddr TE (hk := ?_) | refine TL_yes (hk := ?_) | refine TL_pick_t (hk := ?_) | refine TL_pick_f (hk := ?_))
              exact ih2 (j + 1, u.2) w6 _ (by simp only; omega) ⟨e3.ext e36, by simp only; omega, by simp only; rw [hcs]; rfl⟩ (.c rfl (.c rfl (.c rfl (.c rfl (.c rfl (.c rfl (.n)))))))
      · clear ih2
        have hjb : j = b.l.length := by omega
        rw [hjb, List.take_length] at hkv
        have ry3 := Own.be e3 ry
        have z3 := e3.size
        have z2 := e2.size
        have e23 := e2.ext e3
        clear ry rb3
        cases kv with
        | true =>
          rw [← hkv, if_pos rfl] at hs
          repeat (first | refine T_seq ?_ | refine T_region ?_ | refine T_cond_true rfl ?_ | refine T_cond_false rfl ?_ | refine T_exit rfl ?_ | refine TL_lt_f (hk := ?_) | refine TL_nil ?_ | refine TL_move (hk := ?_) | refine TL_load TE (hk := ?_) | refine TL_load_rd TE (hk := ?_) | refine TL_fieldAddr TE (hk := ?_) | refine TL_fieldAddr_e TE (hk := ?_) | refine TL_indexAddrn TE (hk := ?_) | refine TL_len TE (hk := ?_) | refine TL_nilCheck (hk := ?_))
          refine TL_buildSlice TE (hk := ?_); intro b5 w5 e5 h5 h5' k5
          replace k5 : Blk w5 b5 2 (iv [a.s]) := k5
          have r5 : Rd w5 (some ⟨b5, 0, none⟩) 1 1 (iv [a.s]) := Rd.blk k5 rfl
          have z5 := e5.size
          --
          refine TL_append TE (ho := Own.be e5 ry3) (hr := r5) (h1 := iv_one _) (hk := ?_); intro A6 c6 w6 o6 m6 n6
          rw [← iv_append, ← hs] at o6
          repeat (first | refine T_region ?_ | refine T_inBlock ?_ | refine TL_add (hk := ?_) | refine TL_nil ?_ | refine TL_move (hk := ?_) | refine TL_assign (hk := ?_))
          exact ih (i + 1, (A6, y.2.1 + 1, c6)) w6 _ (by simp only; omega) ⟨Mod.own (e23.ext e5) m6 ry3.hi, by simp only; omega, by simp only; omega, o6⟩ (.c rfl (.c rfl (.c rfl (.c rfl (.n)))))
        | false =>
          rw [← hkv, if_neg (by decide), List.append_nil] at hs
          rw [← hs] at ry3
          repeat (first | refine T_seq ?_ | refine T_region ?_ | refine T_cond_false rfl ?_ | refine T_inBlock ?_ | refine T_skip ?_ | refine T_exit rfl ?_ | refine TL_add (hk := ?_) | refine TL_lt_f (hk := ?_) | refine TL_nil ?_ | refine TL_move (hk := ?_) | refine TL_assign (hk := ?_) | refine TL_load TE (hk := ?_) | refine TL_load_rd TE (hk := ?_) | refine TL_fieldAddr TE (hk := ?_) | refine TL_fieldAddr_e TE (hk := ?_) | refine TL_indexAddrn TE (hk := ?_) | refine TL_len TE (hk := ?_) | refine TL_nilCheck (hk := ?_))
          exact ih (i + 1, y) w3 _ (by simp only; omega) ⟨e23, by simp only; omega, by simp only; omega, ry3⟩ (.c rfl (.c rfl (.c rfl (.c rfl (.n)))))
    · clear ih
      have hin : i = p := by omega
      rw [hin, ← hres] at ry
      repeat (first | refine T_seq ?_ | refine T_region ?_ | refine T_cond_false rfl ?_ | refine T_exit rfl ?_ | refine TL_lt_f (hk := ?_) | refine TL_nil ?_ | refine TL_move (hk := ?_) | refine TL_assign (hk := ?_))
      exact T_ret1 rfl rfl ⟨y, rfl, e2, ry⟩
  · have hres : wtW es s = [] := if_neg h0
    rw [atW_neg h0]
    repeat (first | refine T_seq ?_ | refine T_region ?_ | refine T_block ?_ | refine TL_nil ?_ | refine TL_assign (hk := ?_))
    refine T_loop (ι := Nat) (fun i => [(7, .int .i64 (i : Int)), (6, sL (none, 0, 0)), (5, .int .i64 (-1))]) (fun i w' => w' = w ∧ i = 0) (fun i => 0) 0 (.c rfl (.c rfl (.c rfl (.n)))) ⟨rfl, rfl⟩ ?_
    rintro i w2 ⟨rfl, rfl⟩ ih
    clear ih
    repeat (first | refine T_seq ?_ | refine T_region ?_ | refine T_cond_false rfl ?_ | refine T_exit rfl ?_ | refine TL_lt_f (hk := ?_) | refine TL_nil ?_ | refine TL_move (hk := ?_) | refine TL_assign (hk := ?_))
    exact T_ret1 rfl rfl ⟨(none, 0, 0), rfl, Mod.refl _ _, by rw [hres]; exact Own.nil _ _ _ _⟩
end
end Go.Proofs.Ytomabcbemokijaa

/- What the document's table tells is what the table tells. -/
namespace Go.Proofs.Ytomabcbemokijaa
open Go.RowKit Go.Proofs.Eng Go.Proofs.Foot Go.Proofs.Locks
set_option linter.unusedSimpArgs false
set_option linter.unusedVariables false set_option maxRecDepth 10000
attribute [local irreducible] T TL LV TH TA
section
variable {t : LS} {N : Nat} {es : List WE}
theorem w_get {k : Nat} (hk : k < es.length) : es.getD k we0 = es[k] := by rw [List.getD_eq_getElem?_getD, List.getElem?_eq_getElem hk]; rfl
theorem w_ent (he : es.map entW = t.E) {k : Nat} (hk : k < es.length) : ∃ hk' : k < t.E.length, t.E[k] = entW (es.getD k we0) := by
  have h1 : k < (es.map entW).length := by simpa using hk
  rw [he] at h1
  refine ⟨h1, ?_⟩
  have := congrArg (fun l : List Ent => l[k]?) he
  simp only [List.getElem?_map, List.getElem?_eq_getElem hk, Option.map_some, List.getElem?_eq_getElem h1, Option.some.injEq] at this
  rw [← this, w_get hk]
theorem w_row (ok : OkT N t) (he : es.map entW = t.E) {k : Nat} (hk : k < es.length) : eget t.E (es.getD k we0).s = some (es.getD k we0).l ∧ aheadE t.E (es.getD k we0).s = (es.take k).map entW := by
  obtain ⟨hk', e⟩ := w_ent he hk
  have h1 := eget_of (ok_nodup ok) (List.getElem_mem hk')
  have h2 := ahead_take (ok_nodup ok) hk'
  rw [e] at h1 h2
  refine ⟨h1, ?_⟩
  rw [List.map_take, he]
  exact h2
theorem alU_eq (he : es.map entW = t.E) : alU es es.length = allE t := by
  unfold alU allE
  rw [List.take_length, ← he, List.map_map]
  rfl
theorem grB_iff {k : Nat} {key : Tx} {b : Bool} (h : asks (es.getD k we0).l key = some b) : grB es k key = true ↔ ∀ a ∈ qOf ((es.take k).map entW) key, (b || a.2) = false := by
  have hb : asksB (es.getD k we0).l key = b := by unfold asksB; rw [h]; rfl
  unfold grB
  rw [hb, List.all_eq_true]
  constructor
  · intro g a ha
    obtain ⟨e, hm, h1, h2⟩ := qOf_seq ha
    obtain ⟨e', he', rfl⟩ := List.mem_map.1 hm
    have := g e' he'
    have h2' : asks e'.l key = some a.2 := h2
    have hT : asksT e'.l key = true := by unfold asksT; rw [h2']; rfl
    have hB : asksB e'.l key = a.2 := by unfold asksB; rw [h2']; rfl
    rw [hT, hB] at this
    simpa using this
  · intro g e he
    cases hx : asks e.l key with
    | none => unfold asksT; rw [hx]; rfl
    | some c =>
      have hT : asksT e.l key = true := by unfold asksT; rw [hx]; rfl
      have hB : asksB e.l key = c := by unfold asksB; rw [hx]; rfl
      have := g _ (qOf_mem (e := entW e) (List.mem_map.2 ⟨e, he, rfl⟩) hx)
      rw [hT, hB]
      simpa using this
theorem clashL_no {a l : List Lk} : clashL a l = false ↔ ∀ y ∈ l, (asksT a y.1 && (asksB a y.1 || y.2)) = false := by
  unfold clashL
  rw [List.any_eq_false]
  refine forall_congr' fun y => forall_congr' fun _ => ?_
  unfold asksT asksB
  cases h : asks a y.1 <;> simp [h]
theorem rdB_ready (ok : OkT N t) (he : es.map entW = t.E) {k : Nat} (hk : k < es.length) : rdB es k = readyE t.E (es.getD k we0).s := by
  obtain ⟨h1, h2⟩ := w_row ok he hk
  have hnl := chk_nodup (ok.ky _ (eget_mem h1))
  have h3 := ready_iff h1 hnl
  rw [h2] at h3
  have h4 : rdB es k = true ↔ ∀ e ∈ (es.take k).map entW, clashL e.2 (es.getD k we0).l = false := by
    unfold rdB grB
    rw [List.all_eq_true]
    constructor
    · intro g e hm
      obtain ⟨e', he', rfl⟩ := List.mem_map.1 hm
      show clashL e'.l _ = false
      rw [clashL_no]
      intro y hy
      have h5 := List.all_eq_true.1 (g y hy) e' he'
      have h6 : asksB (es.getD k we0).l y.1 = y.2 := by unfold asksB; rw [asks_mem hnl hy]; rfl
      rw [h6] at h5
      rw [Bool.or_comm]
      cases hh : asksT e'.l y.1 && (y.2 || asksB e'.l y.1) with
      | false => rfl
      | true => rw [hh] at h5; cases h5
    · intro g y hy
      rw [List.all_eq_true]
      intro e' he'
      have h5 := g (entW e') (List.mem_map.2 ⟨e', he', rfl⟩)
      have h6 : asksB (es.getD k we0).l y.1 = y.2 := by unfold asksB; rw [asks_mem hnl hy]; rfl
      have h7 := clashL_no.1 h5 y hy
      rw [Bool.or_comm] at h7
      rw [h6]
      have h8 : (asksT e'.l y.1 && (y.2 || asksB e'.l y.1)) = false := h7
      rw [h8]
      rfl
  rw [← h3] at h4
  cases q2 : readyE t.E (es.getD k we0).s with
  | true => exact h4.2 q2
  | false =>
    cases q1 : rdB es k with
    | false => rfl
    | true => rw [h4.1 q1] at q2; cases q2
theorem range_all (he : es.map entW = t.E) : allE t = (List.range es.length).map fun j => (es.getD j we0).s := by
  rw [← alU_eq he]
  unfold alU
  rw [List.take_length]
  apply List.ext_getElem
  · simp
  · intro i h1 h2
    have hi : i < es.length := by simpa using h1
    simp only [List.getElem_map, List.getElem_range]
    rw [w_get hi]
theorem rdU_eq (ok : OkT N t) (he : es.map entW = t.E) : rdU es es.length = readiesE t := by
  unfold rdU readiesE
  rw [range_all he, List.filter_map]
  congr 1
  apply List.filter_congr
  intro j hj
  exact rdB_ready ok he (List.mem_range.1 hj)
theorem atW_get {s : Int} (h : 0 ≤ atW es s) : (es.getD (atW es s).toNat we0).s = s := by
  have hl := (atW_lt h).1
  unfold atW at h hl ⊢
  cases h1 : es.findIdx? fun e => decide (e.s = s) with
  | none => rw [h1] at h; simp at h
  | some i =>
    rw [h1] at hl
    simp only [Int.toNat_natCast] at hl ⊢
    rw [w_get hl]
    rw [List.findIdx?_eq_some_iff_getElem] at h1
    obtain ⟨_, h2, _⟩ := h1
    simpa using h2
theorem atW_out (he : es.map entW = t.E) {s : Int} (h : ¬ 0 ≤ atW es s) : eget t.E s = none := by
  have h1 : es.findIdx? (fun e => decide (e.s = s)) = none := by
    cases h1 : es.findIdx? fun e => decide (e.s = s) with
    | none => rfl
    | some i => unfold atW at h; rw [h1] at h; simp only at h; omega
  rw [List.findIdx?_eq_none_iff] at h1
  unfold eget
  rw [Option.map_eq_none_iff, List.find?_eq_none, ← he]
  intro e hm
  obtain ⟨e', he', rfl⟩ := List.mem_map.1 hm
  have := h1 e' he'
  simp only [decide_eq_false_iff_not] at this
  simp [entW, this]
theorem rdyW_eq (ok : OkT N t) (he : es.map entW = t.E) (s : Int) : rdyW es s = readyE t.E s := by
  unfold rdyW
  by_cases h : 0 ≤ atW es s
  · rw [if_pos h, rdB_ready ok he (atW_lt h).1, atW_get h]
  · rw [if_neg h]
    unfold readyE
    rw [atW_out he h]
theorem wtW_eq (ok : OkT N t) (he : es.map entW = t.E) (s : Int) : wtW es s = waitsE t s := by
  unfold wtW waitsE
  by_cases h : 0 ≤ atW es s
  · rw [if_pos h]
    have hl := (atW_lt h).1
    obtain ⟨h1, h2⟩ := w_row ok he hl
    rw [atW_get h] at h1 h2
    rw [h1]
    have h3 : (t.E.takeWhile fun e => !decide (e.1 = s)) = (es.take (atW es s).toNat).map entW := h2
    simp only [h3]
    unfold wtU
    rw [List.filter_map, List.map_map]
    rfl
  · rw [if_neg h, atW_out he h]
theorem qOf_take (es : List WE) (k : Tx) (i : Nat) (hi : i < es.length) : qOf ((es.take (i + 1)).map entW) k = qOf ((es.take i).map entW) k ++ (if asksT (es.getD i we0).l k = true then [((es.getD i we0).s, asksB (es.getD i we0).l k)] else []) := by
  rw [List.take_succ_eq_append_getElem hi, List.map_append, w_get hi]
  unfold qOf
  rw [List.filterMap_append]
  congr 1
  unfold asksT asksB
  cases h : asks es[i].l k with
  | none => simp [entW, h]
  | some b => simp [entW, h]
theorem quU_eq (ok : OkT N t) (he : es.map entW = t.E) (k : Tx) : ∀ i, i ≤ es.length → quU es k i = (queueE t k).take (qOf ((es.take i).map entW) k).length
  | 0, _ => by simp [quU, qOf]
  | i + 1, hi => by
    have hi' : i < es.length := by omega
    rw [quU_succ, quU_eq ok he k i (by omega), qOf_take es k i hi']
    cases hT : asksT (es.getD i we0).l k with
    | false => simp
    | true =>
      simp only [if_true]
      have hb : asks (es.getD i we0).l k = some (asksB (es.getD i we0).l k) := by
        unfold asksT at hT
        unfold asksB
        cases h : asks (es.getD i we0).l k with
        | none => rw [h] at hT; cases hT
        | some b => rfl
      have hg := grB_iff (es := es) (k := i) hb
      have hsplit : ∃ q2, qOf t.E k = qOf ((es.take i).map entW) k ++ ((es.getD i we0).s, asksB (es.getD i we0).l k) :: q2 := by
        refine ⟨qOf ((es.drop (i + 1)).map entW) k, ?_⟩
        have h1 : t.E = (es.take (i + 1)).map entW ++ (es.drop (i + 1)).map entW := by rw [← List.map_append, List.take_append_drop, he]
        have h2 : ∀ a b : List Ent, qOf (a ++ b) k = qOf a k ++ qOf b k := fun a b => by unfold qOf; rw [List.filterMap_append]
        rw [h1, h2, qOf_take es k i hi', hT]
        simp
      obtain ⟨q2, hq⟩ := hsplit
      generalize asksB (es.getD i we0).l k = b at hb hg hq ⊢
      generalize (es.getD i we0).s = s at hq ⊢
      generalize qOf ((es.take i).map entW) k = q1 at hg hq ⊢
      have hgi := grant_iff q1 q2 s b
      rw [← hq, ← hg] at hgi
      have hlt : q1.length < (qOf t.E k).length := by rw [hq]; simp
      rw [List.length_append, List.length_singleton, queueE_succ t k q1.length hlt]
      congr 2
      have h5 : (qOf t.E k).getD q1.length ak0 = (s, b) := by rw [hq, List.getD_eq_getElem?_getD]; simp
      rw [h5]
      congr 1
      cases hh : grB es i k with
      | true => rw [decide_eq_true (hgi.2 hh)]
      | false => rw [decide_eq_false (fun q => by rw [hgi.1 q] at hh; cases hh)]
theorem quU_all (ok : OkT N t) (he : es.map entW = t.E) (k : Tx) : quU es k es.length = queueE t k := by
  rw [quU_eq ok he k es.length (Nat.le_refl _), List.take_length, he, ← queueE_len, List.take_length]
end
end Go.Proofs.Ytomabcbemokijaa

namespace Go.Proofs.Ytomabcbemokijaa
open Go.RowKit Go.Proofs.Eng Go.Proofs.Foot Go.Proofs.Locks
set_option linter.unusedSimpArgs false
set_option linter.unusedVariables false set_option maxRecDepth 10000
attribute [local irreducible] T TL LV TH TA
set_option maxHeartbeats 1600000
theorem eqAsked (a b : Int) (x y u v : Bool) (w : World) : (Op.equalIn 10000 84 (.agg #[.int .i64 a, .bool x, .bool u]) (.agg #[.int .i64 b, .bool y, .bool v])).run Try.prog w = .ok (decide (a = b) && ((x == y) && (u == v))) w := by
  rw [run_equalIn_struct w 9999 _ _ _ (by kernel_rfl) (by kernel_rfl)]
  have e : (Try.prog.fieldsOf 84).toList = [{ name := "Seq", type := 2, offset := 0, embedded := false, tag := "", pkgPath := "", byteOffset := 0 }, { name := "Write", type := 4, offset := 1, embedded := false, tag := "", pkgPath := "", byteOffset := 8 }, { name := "Granted", type := 4, offset := 2, embedded := false, tag := "", pkgPath := "", byteOffset := 9 }] := by kernel_rfl
  rw [e]
  simp [Op.eqFields, part, run_equalIn_int w 9998 2 .i64 .i64 _ _ Try.underlying2, run_equalIn_bool' w 9998 4 _ _ Try.underlying4, run_isAgg_no Try.underlying2 rfl, run_isAgg_no Try.underlying4 rfl]
  by_cases h : a = b <;> by_cases g : x = y <;> by_cases g2 : u = v <;> simp [h, g, g2]
theorem asked_c14 (A B : Option Addr) (n c m d : Nat) (la lb : List (Akk × Bool)) (w : World) (h : Rd w A n 3 (rowV qdV la)) (g : Rd w B m 3 (rowV qdV lb)) (hn : n ≤ 1000000) (hm : m ≤ 1000000) :
    Ret Try.prog 52 [.slice A n c, .slice B m d] w (fun v w' => v = .bool (decide (la = lb)) ∧ Ext w w') := by
  have hla : la.length = n := by have := h.1; rw [rowV_len qdV_len] at this; omega
  have hlb : lb.length = m := by have := g.1; rw [rowV_len qdV_len] at this; omega
  refine ret_T (n := 26) Try.func52 rfl rfl ?_
  by_cases hnm : n = m
  · subst hnm
    repeat (first | refine T_seq ?_ | refine T_region ?_ | refine T_cond_false rfl ?_ | refine T_block ?_ | refine T_skip ?_ | refine TL_ne_f (hk := ?_) | refine TL_nil ?_ | refine TL_move (hk := ?_) | refine TL_assign (hk := ?_) | refine TL_len TE (hk := ?_))
    refine T_loop (ι := Nat) (fun i => [(5, .int .i64 (i : Int)), (0, .slice A n c), (1, .slice B n d)]) (fun i w' => Ext w w' ∧ i ≤ n ∧ ∀ j, j < i → la.getD j qd0 = lb.getD j qd0) (fun i => n - i) 0 (.c rfl (.c rfl (.c rfl (.n)))) ⟨Mod.refl _ _, Nat.zero_le _, fun j h => absurd h (by omega)⟩ ?_
    rintro i w1 ⟨e1, hi, hu⟩ ih
    have h1 := h.be e1
    have g1 := g.be e1
    by_cases hlt : i < n
    · have hta := rowV_elem qdV_len la i qd0 (by omega)
      have htb := rowV_elem qdV_len lb i qd0 (by omega)
      have hne : ¬ la.getD i qd0 = lb.getD i qd0 → ¬ la = lb := fun q e => q (by rw [e])
      have hA : A ≠ none := by obtain ⟨_, _, hq, _⟩ := h1.2 (by omega); rw [hq]; simp
      have hB : B ≠ none := by obtain ⟨_, _, hq, _⟩ := g1.2 (by omega); rw [hq]; simp
      obtain ⟨⟨⟨s, x⟩, u⟩, hs⟩ : ∃ p, la.getD i qd0 = p := ⟨_, rfl⟩
      obtain ⟨⟨⟨t, y⟩, v⟩, ht⟩ : ∃ p, lb.getD i qd0 = p := ⟨_, rfl⟩
      rw [hs] at hta hne
      rw [ht] at htb hne
      repeat (first | refine T_seq ?_ | refine T_region ?_ | refine T_region_q TE.mixed (by kernel_rfl) ?_ | refine T_cond_true rfl ?_ | refine T_block ?_ | refine T_skip ?_ | refine TL_lt_t (hk := ?_) | refine TL_nil ?_ | refine TL_move (hk := ?_) | refine TL_indexAddrn TE (hk := ?_) | refine TL_len TE (hk := ?_))
      refine TL_loada TE (cs := [.int .i64 s, .bool x, .bool u]) (hx := rfl) (ht := rfl) (hi := rfl) (hr := h1) (hc := hta) (h0 := Nat.succ_pos _) (hk := ?_)
      repeat (first | refine TL_move (hk := ?_) | refine TL_indexAddrn TE (hk := ?_))
      refine TL_loada TE (cs := [.int .i64 t, .bool y, .bool v]) (hx := rfl) (ht := rfl) (hi := rfl) (hr := g1) (hc := htb) (h0 := Nat.succ_pos _) (hk := ?_)
      refine TL_ane (r := decide (s = t) && ((x == y) && (u == v))) (by kernel_rfl) (eqAsked _ _ _ _ _ _) (hk := ?_)
      refine TL_nil_q ?_; intro w2 e2
      by_cases e : s = t ∧ x = y ∧ u = v
      · obtain ⟨rfl, rfl, rfl⟩ := e
        rw [show (decide (s = s) && ((x == x) && (u == u))) = true by simp]
        repeat (first | refine T_region ?_ | refine T_cond_false rfl ?_ | refine T_inBlock ?_ | refine T_skip ?_ | refine TL_add (hk := ?_) | refine TL_nil ?_ | refine TL_move (hk := ?_) | refine TL_assign (hk := ?_))
        exact ih (i + 1) _ _ (by omega) ⟨e1.ext e2, by omega, fun j hj => by
          by_cases q : j = i
          · rw [q, hs, ht]
          · exact hu j (by omega)⟩ (.c rfl (.c rfl (.c rfl (.n))))
      · have hr := hne (fun q => e (by cases q; exact ⟨rfl, rfl, rfl⟩))
        have hne : (decide (s = t) && ((x == y) && (u == v))) = false := by
          by_cases q : s = t
          · by_cases q2 : x = y
            · by_cases q3 : u = v
              · exact absurd ⟨q, q2, q3⟩ e
              · simp [q3]
            · simp [q2]
          · simp [q]
        rw [hne]
        clear ih
        repeat (first | refine T_seq ?_ | refine T_region ?_ | refine T_cond_true rfl ?_ | refine TL_nil ?_ | refine TL_assign (hk := ?_))
        exact T_ret1 rfl rfl ⟨by rw [decide_eq_false hr], e1.ext e2⟩
    · clear ih
      have hr : la = lb := List.ext_getElem (by omega) (fun j h1 h2 => by
        have := hu j (by omega)
        rwa [List.getD_eq_getElem?_getD, List.getElem?_eq_getElem h1, List.getD_eq_getElem?_getD, List.getElem?_eq_getElem h2] at this)
      repeat (first | refine T_seq ?_ | refine T_region ?_ | refine T_cond_false rfl ?_ | refine T_exit rfl ?_ | refine TL_lt_f (hk := ?_) | refine TL_nil ?_ | refine TL_move (hk := ?_) | refine TL_assign (hk := ?_) | refine TL_len TE (hk := ?_))
      exact T_ret1 rfl rfl ⟨by rw [decide_eq_true hr], e1⟩
  · have hr : ¬ la = lb := fun q => hnm (by rw [← hla, ← hlb, q])
    repeat (first | refine T_seq ?_ | refine T_region ?_ | refine T_cond_true rfl ?_ | refine TL_ne_t (hk := ?_) | refine TL_nil ?_ | refine TL_move (hk := ?_) | refine TL_assign (hk := ?_) | refine TL_len TE (hk := ?_))
    exact T_ret1 rfl rfl ⟨by rw [decide_eq_false hr], Mod.refl _ _⟩
end Go.Proofs.Ytomabcbemokijaa

namespace Go.Proofs.Ytomabcbemokijaa
open Go.RowKit Go.Proofs.Eng Go.Proofs.Foot Go.Proofs.Locks
set_option linter.unusedSimpArgs false
set_option linter.unusedVariables false set_option maxRecDepth 10000
attribute [local irreducible] T TL LV TH TA
set_option maxHeartbeats 3200000
section
variable {base N : Nat} {m : LM} {f : Nat → Ow} {t : LS} {q : Nat} {x : SL} {last : Int} {es : List WE}
theorem stands_c (B C : Option Addr) (kn kc sn sc : Nat) (ks : List Tx) (sq : List Int) (w : World) (h : TabM w base m f (qOf t.E) t.E t.nx) (ok : OkT N t) (hN : N ≤ 100000) (hR : RfM w q x last es) (he : es.map entW = t.E)
    (hB : Rd w B kn 1 (sv ks)) (hC : Rd w C sn 1 (iv sq)) (hkn : kn ≤ 1000000) (hsn : sn ≤ 1000000) :
    Ret Try.prog 31 [pT m.p, pT q, .slice B kn kc, .slice C sn sc] w (fun v w' => v = .bool true ∧ Ext w w') := by
  have hln := ok.ln
  have hxl := hR.len
  have hEl : es.length = t.E.length := by rw [← he, List.length_map]
  have hskl : ks.length = kn := by have := hB.1; simpa [sv] using this
  have hsql : sq.length = sn := by have := hC.1; rw [iv_len] at this; omega
  have All := fun w' (e : Ext w w') => All_c w' (h.ext e) ok hN
  have Rdy := fun w' (e : Ext w w') => Readies_c w' (h.ext e) ok hN
  have Cnt := fun w' (e : Ext w w') => Count_c w' (h.ext e)
  have Red := fun s w' (e : Ext w w') => Ready_c s w' (h.ext e) ok hN
  have Wai := fun s w' (e : Ext w w') => Waits_c s w' (h.ext e) ok hN
  have Que := fun k w' (e : Ext w w') => Queue_c k w' (h.ext e) ok hN
  have Hel := fun k w' (e : Ext w w') => Held_c k w' (h.ext e) ok hN
  have RAl := fun w' (e : Ext w w') => RAll_c w' (hR.ext e)
  have RRd := fun w' (e : Ext w w') => RReadies_c w' (hR.ext e)
  have RRe := fun s w' (e : Ext w w') => RReady_c s w' (hR.ext e)
  have RWa := fun s w' (e : Ext w w') => RWaits_c s w' (hR.ext e)
  have RQu := fun k w' (e : Ext w w') => RQueue_c k w' (hR.ext e)
  have RHe := fun k w' (e : Ext w w') => RHeld_c k w' (hR.ext e)
  rw [alU_eq he] at RAl
  rw [rdU_eq ok he] at RRd
  simp only [rdyW_eq ok he] at RRe
  simp only [wtW_eq ok he] at RWa
  simp only [quU_all ok he] at RQu RHe
  have hcnt : (t.E.length : Int) = (x.2.1 : Int) := by omega
  have hal : (allE t).length = t.E.length := by simp [allE]
  have hrl : (readiesE t).length ≤ t.E.length := by
    have h1 := List.length_filter_le (readyE t.E) (allE t)
    unfold readiesE
    omega
  have hwl := fun s => waits_len t s
  have hql := fun k => queueE_len t k
  have hqo := fun k => qOf_len (E := t.E) (k := k)
  have hhl : ∀ k, (heldE t k).length ≤ (queueE t k).length := fun k => by unfold heldE; rw [List.length_map]; exact List.length_filter_le _ _
  have hqn : q ∉ ([] : List Nat) := by simp
  refine ret_T (n := 106) Try.func31 rfl rfl ?_
  repeat (first | refine T_seq ?_ | refine T_region ?_ | refine TL_nil ?_ | refine TL_assign (hk := ?_))
  refine T_region_any TE.mixed ([] : List Nat) ?_; intro w1 e1 z1
  have hb1 := hR.blk.be e1
  (refine TA_take 0 rfl (by kernel_rfl) (by kernel_rfl) (by kernel_rfl) ?_; (repeat (refine TL_move (hk := ?_))); refine TL_nil_p ?_); (refine TA_take 2 rfl (by kernel_rfl) (by kernel_rfl) (by kernel_rfl) ?_; (repeat (refine TL_move (hk := ?_))); refine TL_nil_p ?_)
  refine TA_one 1 rfl (by kernel_rfl) (by kernel_rfl) ?_; (try refine TL_yes (hk := ?_)); refine TL_call TE (hc := (All w1 e1)) (hq := (by rintro _ w2 ⟨y, rfl, e, _⟩; exact Ext.un e)) (hk := ?_)
  rintro _ w2 ⟨a1, rfl, e2, r1⟩
  have E2 := e1.ext e2
  refine TL_nil_p ?_
  refine TA_one 3 rfl (by kernel_rfl) (by kernel_rfl) ?_; (try refine TL_yes (hk := ?_)); refine TL_call TE (hc := (RAl w2 E2)) (hq := (by rintro _ w3 ⟨y, rfl, e, _⟩; exact Ext.un (e2.ext e))) (hk := ?_)
  rintro _ w3 ⟨a2, rfl, e3, r2⟩
  have E3 := E2.ext e3
  have l1 : (allE t).length = a1.2.1 := by have := r1.len; rw [iv_len] at this; omega
  have l2 : (allE t).length = a2.2.1 := by have := r2.len; rw [iv_len] at this; omega
  refine TL_nil_p ?_
  refine TA_one 4 rfl (by kernel_rfl) (by kernel_rfl) ?_; (try refine TL_yes (hk := ?_)); refine TL_call TE (hc := (numbers_c14 a1.1 a2.1 a1.2.1 a1.2.2 a2.2.1 a2.2.2 (allE t) (allE t) w3 (Own.be e3 r1).rd r2.rd (by omega) (by omega))) (hq := (by rintro _ w4 ⟨rfl, e⟩; exact Ext.un ((e2.ext e3).ext e))) (hk := ?_)
  rintro _ w4 ⟨rfl, e4⟩
  have E4 := E3.ext e4
  have D4 := (e2.ext e3).ext e4
  rw [decide_eq_true (rfl : allE t = allE t)]
  refine TL_nil_p ?_
  (refine TA_take 5 rfl (by kernel_rfl) (by kernel_rfl) (by kernel_rfl) ?_; (repeat (first | refine TL_move (hk := ?_) | refine TL_yes (hk := ?_) | refine TL_not (hk := ?_))); refine TL_nil_p ?_); (refine TA_take 6 rfl (by kernel_rfl) (by kernel_rfl) (by kernel_rfl) ?_; (repeat (first | refine TL_move (hk := ?_) | refine TL_yes (hk := ?_) | refine TL_not (hk := ?_))); refine TL_nil_p ?_); (refine TA_take 7 rfl (by kernel_rfl) (by kernel_rfl) (by kernel_rfl) ?_; (repeat (first | refine TL_move (hk := ?_) | refine TL_yes (hk := ?_) | refine TL_not (hk := ?_))); refine TL_nil_p ?_); (refine TA_take 9 rfl (by kernel_rfl) (by kernel_rfl) (by kernel_rfl) ?_; (repeat (first | refine TL_move (hk := ?_) | refine TL_yes (hk := ?_) | refine TL_not (hk := ?_))); refine TL_nil_p ?_)
  refine TA_one 8 rfl (by kernel_rfl) (by kernel_rfl) ?_; (try refine TL_yes (hk := ?_)); refine TL_call TE (hc := (Rdy w4 E4)) (hq := (by rintro _ w5 ⟨y, rfl, e, _⟩; exact Ext.un (D4.ext e))) (hk := ?_)
  rintro _ w5 ⟨a3, rfl, e5, r3⟩
  have E5 := E4.ext e5
  have D5 := D4.ext e5
  refine TL_nil_p ?_
  refine TA_one 10 rfl (by kernel_rfl) (by kernel_rfl) ?_; (try refine TL_yes (hk := ?_)); refine TL_call TE (hc := (RRd w5 E5)) (hq := (by rintro _ w6 ⟨y, rfl, e, _⟩; exact Ext.un (D5.ext e))) (hk := ?_)
  rintro _ w6 ⟨a4, rfl, e6, r4⟩
  have E6 := E5.ext e6
  have D6 := D5.ext e6
  have l3 : (readiesE t).length = a3.2.1 := by have := r3.len; rw [iv_len] at this; omega
  have l4 : (readiesE t).length = a4.2.1 := by have := r4.len; rw [iv_len] at this; omega
  refine TL_nil_p ?_
  refine TA_one 11 rfl (by kernel_rfl) (by kernel_rfl) ?_; (try refine TL_yes (hk := ?_)); refine TL_call TE (hc := (numbers_c14 a3.1 a4.1 a3.2.1 a3.2.2 a4.2.1 a4.2.2 (readiesE t) (readiesE t) w6 (Own.be e6 r3).rd r4.rd (by omega) (by omega))) (hq := (by rintro _ w7 ⟨rfl, e⟩; exact Ext.un (D6.ext e))) (hk := ?_)
  rintro _ w7 ⟨rfl, e7⟩
  have E7 := E6.ext e7
  have D7 := D6.ext e7
  rw [decide_eq_true (rfl : readiesE t = readiesE t)]
  refine TL_nil_p ?_
  (refine TA_take 12 rfl (by kernel_rfl) (by kernel_rfl) (by kernel_rfl) ?_; (repeat (first | refine TL_move (hk := ?_) | refine TLP_load TE (hk := ?_) | refine TL_fieldAddr TE (hk := ?_) | refine TL_len TE (hk := ?_) | refine TL_yes (hk := ?_) | refine TL_pick_f (hk := ?_) | refine TL_nilCheck (hk := ?_) | refine TL_not (hk := ?_))); refine TL_nil_p ?_); (refine TA_take 13 rfl (by kernel_rfl) (by kernel_rfl) (by kernel_rfl) ?_; (repeat (first | refine TL_move (hk := ?_) | refine TLP_load TE (hk := ?_) | refine TL_fieldAddr TE (hk := ?_) | refine TL_len TE (hk := ?_) | refine TL_yes (hk := ?_) | refine TL_pick_f (hk := ?_) | refine TL_nilCheck (hk := ?_) | refine TL_not (hk := ?_))); refine TL_nil_p ?_); (refine TA_take 14 rfl (by kernel_rfl) (by kernel_rfl) (by kernel_rfl) ?_; (repeat (first | refine TL_move (hk := ?_) | refine TLP_load TE (hk := ?_) | refine TL_fieldAddr TE (hk := ?_) | refine TL_len TE (hk := ?_) | refine TL_yes (hk := ?_) | refine TL_pick_f (hk := ?_) | refine TL_nilCheck (hk := ?_) | refine TL_not (hk := ?_))); refine TL_nil_p ?_); (refine TA_take 15 rfl (by kernel_rfl) (by kernel_rfl) (by kernel_rfl) ?_; (repeat (first | refine TL_move (hk := ?_) | refine TLP_load TE (hk := ?_) | refine TL_fieldAddr TE (hk := ?_) | refine TL_len TE (hk := ?_) | refine TL_yes (hk := ?_) | refine TL_pick_f (hk := ?_) | refine TL_nilCheck (hk := ?_) | refine TL_not (hk := ?_))); refine TL_nil_p ?_); (refine TA_take 17 rfl (by kernel_rfl) (by kernel_rfl) (by kernel_rfl) ?_; (repeat (first | refine TL_move (hk := ?_) | refine TLP_load TE (hk := ?_) | refine TL_fieldAddr TE (hk := ?_) | refine TL_len TE (hk := ?_) | refine TL_yes (hk := ?_) | refine TL_pick_f (hk := ?_) | refine TL_nilCheck (hk := ?_) | refine TL_not (hk := ?_))); refine TL_nil_p ?_); (refine TA_take 18 rfl (by kernel_rfl) (by kernel_rfl) (by kernel_rfl) ?_; (repeat (first | refine TL_move (hk := ?_) | refine TLP_load TE (hk := ?_) | refine TL_fieldAddr TE (hk := ?_) | refine TL_len TE (hk := ?_) | refine TL_yes (hk := ?_) | refine TL_pick_f (hk := ?_) | refine TL_nilCheck (hk := ?_) | refine TL_not (hk := ?_))); refine TL_nil_p ?_); (refine TA_take 19 rfl (by kernel_rfl) (by kernel_rfl) (by kernel_rfl) ?_; (repeat (first | refine TL_move (hk := ?_) | refine TLP_load TE (hk := ?_) | refine TL_fieldAddr TE (hk := ?_) | refine TL_len TE (hk := ?_) | refine TL_yes (hk := ?_) | refine TL_pick_f (hk := ?_) | refine TL_nilCheck (hk := ?_) | refine TL_not (hk := ?_))); refine TL_nil_p ?_); (refine TA_take 20 rfl (by kernel_rfl) (by kernel_rfl) (by kernel_rfl) ?_; (repeat (first | refine TL_move (hk := ?_) | refine TLP_load TE (hk := ?_) | refine TL_fieldAddr TE (hk := ?_) | refine TL_len TE (hk := ?_) | refine TL_yes (hk := ?_) | refine TL_pick_f (hk := ?_) | refine TL_nilCheck (hk := ?_) | refine TL_not (hk := ?_))); refine TL_nil_p ?_); (refine TA_take 21 rfl (by kernel_rfl) (by kernel_rfl) (by kernel_rfl) ?_; (repeat (first | refine TL_move (hk := ?_) | refine TLP_load TE (hk := ?_) | refine TL_fieldAddr TE (hk := ?_) | refine TL_len TE (hk := ?_) | refine TL_yes (hk := ?_) | refine TL_pick_f (hk := ?_) | refine TL_nilCheck (hk := ?_) | refine TL_not (hk := ?_))); refine TL_nil_p ?_)
  refine TA_one 16 rfl (by kernel_rfl) (by kernel_rfl) ?_; (try refine TL_yes (hk := ?_)); refine TL_call TE (hc := (Cnt w7 E7)) (hq := (by rintro _ w8 ⟨rfl, rfl⟩; exact Ext.un D7)) (hk := ?_)
  rintro _ w7 ⟨rfl, rfl⟩
  refine TL_nil_p ?_
  (refine TA_one 22 rfl (by kernel_rfl) (by kernel_rfl) ?_; (repeat (first | refine TL_ne_f (hk := ?_) | refine TL_yes (hk := ?_) | refine TL_pick_f (hk := ?_))); refine TL_nil_p ?_); (refine TA_one 23 rfl (by kernel_rfl) (by kernel_rfl) ?_; (repeat (first | refine TL_ne_f (hk := ?_) | refine TL_yes (hk := ?_) | refine TL_pick_f (hk := ?_))); refine TL_nil_p ?_)
  refine TA_done (by kernel_rfl) ?_
  clear hb1 r1 r2 r3 r4
  have hC7 := hC.be E7
  repeat (first | refine T_seq ?_ | refine T_region ?_ | refine T_cond_false rfl ?_ | refine T_block ?_ | refine T_skip ?_ | refine TL_nil ?_ | refine TL_assign (hk := ?_))
  refine T_loop (ι := Nat) (fun i => [(9, .int .i64 (i : Int)), (0, pT m.p), (1, pT q), (2, .slice B kn kc), (3, .slice C sn sc)]) (fun i w' => i ≤ sn ∧ Ext w w') (fun i => sn - i) 0 (.c rfl (.c rfl (.c rfl (.c rfl (.c rfl (.n)))))) ⟨Nat.zero_le _, E7⟩ ?_
  clear e1 e2 e3 e4 e5 e6 e7 E2 E3 E4 E5 E6 E7 D4 D5 D6 D7 hC7
  rintro i w1 ⟨hi, E1⟩ ih
  by_cases hlt : i < sn
  · have hC1 := hC.be E1
    have hCn : C ≠ none := by obtain ⟨_, _, hq, _⟩ := hC1.2 (by omega); rw [hq]; simp
    have hv := iv_get sq i (by omega)
    obtain ⟨s, hs⟩ : ∃ s, sq.getD i 0 = s := ⟨_, rfl⟩
    rw [hs] at hv
    have Red := Red s
    have Wai := Wai s
    have RRe := RRe s
    have RWa := RWa s
    have hwl := hwl s
    generalize readyE t.E s = r at Red RRe
    generalize waitsE t s = ww at Wai RWa hwl
    repeat (first | refine T_seq ?_ | refine T_region ?_ | refine T_cond_true rfl ?_ | refine T_block ?_ | refine T_skip ?_ | refine TL_lt_t (hk := ?_) | refine TL_nil ?_ | refine TL_move (hk := ?_) | refine TL_len TE (hk := ?_))
    refine T_region_any TE.mixed ([] : List Nat) ?_; intro w2 e2 z2
    have E2 := E1.ext e2
    have hC2 := hC1.be e2
    clear hC1
    (refine TA_take 0 rfl (by kernel_rfl) (by kernel_rfl) (by kernel_rfl) ?_; (repeat (first | refine TL_move (hk := ?_) | refine TLP_load_rd TE (hk := ?_) | refine TL_indexAddr1n TE (hk := ?_))); refine TL_nil_p ?_); (refine TA_take 1 rfl (by kernel_rfl) (by kernel_rfl) (by kernel_rfl) ?_; (repeat (first | refine TL_move (hk := ?_) | refine TLP_load_rd TE (hk := ?_) | refine TL_indexAddr1n TE (hk := ?_))); refine TL_nil_p ?_); (refine TA_take 2 rfl (by kernel_rfl) (by kernel_rfl) (by kernel_rfl) ?_; (repeat (first | refine TL_move (hk := ?_) | refine TLP_load_rd TE (hk := ?_) | refine TL_indexAddr1n TE (hk := ?_))); refine TL_nil_p ?_); (refine TA_take 3 rfl (by kernel_rfl) (by kernel_rfl) (by kernel_rfl) ?_; (repeat (first | refine TL_move (hk := ?_) | refine TLP_load_rd TE (hk := ?_) | refine TL_indexAddr1n TE (hk := ?_))); refine TL_nil_p ?_); (refine TA_take 4 rfl (by kernel_rfl) (by kernel_rfl) (by kernel_rfl) ?_; (repeat (first | refine TL_move (hk := ?_) | refine TLP_load_rd TE (hk := ?_) | refine TL_indexAddr1n TE (hk := ?_))); refine TL_nil_p ?_); (refine TA_take 6 rfl (by kernel_rfl) (by kernel_rfl) (by kernel_rfl) ?_; (repeat (first | refine TL_move (hk := ?_) | refine TLP_load_rd TE (hk := ?_) | refine TL_indexAddr1n TE (hk := ?_))); refine TL_nil_p ?_); (refine TA_take 7 rfl (by kernel_rfl) (by kernel_rfl) (by kernel_rfl) ?_; (repeat (first | refine TL_move (hk := ?_) | refine TLP_load_rd TE (hk := ?_) | refine TL_indexAddr1n TE (hk := ?_))); refine TL_nil_p ?_); (refine TA_take 8 rfl (by kernel_rfl) (by kernel_rfl) (by kernel_rfl) ?_; (repeat (first | refine TL_move (hk := ?_) | refine TLP_load_rd TE (hk := ?_) | refine TL_indexAddr1n TE (hk := ?_))); refine TL_nil_p ?_); (refine TA_take 9 rfl (by kernel_rfl) (by kernel_rfl) (by kernel_rfl) ?_; (repeat (first | refine TL_move (hk := ?_) | refine TLP_load_rd TE (hk := ?_) | refine TL_indexAddr1n TE (hk := ?_))); refine TL_nil_p ?_); (refine TA_take 10 rfl (by kernel_rfl) (by kernel_rfl) (by kernel_rfl) ?_; (repeat (first | refine TL_move (hk := ?_) | refine TLP_load_rd TE (hk := ?_) | refine TL_indexAddr1n TE (hk := ?_))); refine TL_nil_p ?_)
    refine TA_one 5 rfl (by kernel_rfl) (by kernel_rfl) ?_; (try refine TL_yes (hk := ?_)); refine TL_call TE (hc := (Red w2 E2)) (hq := (by rintro _ w3 ⟨rfl, e⟩; exact Ext.un e)) (hk := ?_)
    rintro _ w3 ⟨rfl, e3⟩
    have E3 := E2.ext e3
    refine TL_nil_p ?_
    refine TA_one 11 rfl (by kernel_rfl) (by kernel_rfl) ?_; (try refine TL_yes (hk := ?_)); refine TL_call TE (hc := (RRe w3 E3)) (hq := (by rintro _ w4 ⟨rfl, e⟩; exact Ext.un (e3.ext e))) (hk := ?_)
    rintro _ w4 ⟨rfl, e4⟩
    have E4 := E3.ext e4
    have D4 := e3.ext e4
    have hC4 := hC2.be D4
    clear hC2
    refine TL_nil_p ?_
    (refine TA_one 12 rfl (by kernel_rfl) (by kernel_rfl) ?_; (repeat (refine TL_bne TE (hk := ?_))); refine TL_nil_p ?_)
    rw [show (!(r == r)) = false from by simp]
    (refine TA_take 13 rfl (by kernel_rfl) (by kernel_rfl) (by kernel_rfl) ?_; (repeat (first | refine TL_move (hk := ?_) | refine TLP_load_rd TE (hk := ?_) | refine TL_indexAddr1n TE (hk := ?_) | refine TL_yes (hk := ?_))); refine TL_nil_p ?_); (refine TA_take 14 rfl (by kernel_rfl) (by kernel_rfl) (by kernel_rfl) ?_; (repeat (first | refine TL_move (hk := ?_) | refine TLP_load_rd TE (hk := ?_) | refine TL_indexAddr1n TE (hk := ?_) | refine TL_yes (hk := ?_))); refine TL_nil_p ?_); (refine TA_take 15 rfl (by kernel_rfl) (by kernel_rfl) (by kernel_rfl) ?_; (repeat (first | refine TL_move (hk := ?_) | refine TLP_load_rd TE (hk := ?_) | refine TL_indexAddr1n TE (hk := ?_) | refine TL_yes (hk := ?_))); refine TL_nil_p ?_); (refine TA_take 16 rfl (by kernel_rfl) (by kernel_rfl) (by kernel_rfl) ?_; (repeat (first | refine TL_move (hk := ?_) | refine TLP_load_rd TE (hk := ?_) | refine TL_indexAddr1n TE (hk := ?_) | refine TL_yes (hk := ?_))); refine TL_nil_p ?_); (refine TA_take 17 rfl (by kernel_rfl) (by kernel_rfl) (by kernel_rfl) ?_; (repeat (first | refine TL_move (hk := ?_) | refine TLP_load_rd TE (hk := ?_) | refine TL_indexAddr1n TE (hk := ?_) | refine TL_yes (hk := ?_))); refine TL_nil_p ?_); (refine TA_take 18 rfl (by kernel_rfl) (by kernel_rfl) (by kernel_rfl) ?_; (repeat (first | refine TL_move (hk := ?_) | refine TLP_load_rd TE (hk := ?_) | refine TL_indexAddr1n TE (hk := ?_) | refine TL_yes (hk := ?_))); refine TL_nil_p ?_); (refine TA_take 20 rfl (by kernel_rfl) (by kernel_rfl) (by kernel_rfl) ?_; (repeat (first | refine TL_move (hk := ?_) | refine TLP_load_rd TE (hk := ?_) | refine TL_indexAddr1n TE (hk := ?_) | refine TL_yes (hk := ?_))); refine TL_nil_p ?_); (refine TA_take 21 rfl (by kernel_rfl) (by kernel_rfl) (by kernel_rfl) ?_; (repeat (first | refine TL_move (hk := ?_) | refine TLP_load_rd TE (hk := ?_) | refine TL_indexAddr1n TE (hk := ?_) | refine TL_yes (hk := ?_))); refine TL_nil_p ?_); (refine TA_take 22 rfl (by kernel_rfl) (by kernel_rfl) (by kernel_rfl) ?_; (repeat (first | refine TL_move (hk := ?_) | refine TLP_load_rd TE (hk := ?_) | refine TL_indexAddr1n TE (hk := ?_) | refine TL_yes (hk := ?_))); refine TL_nil_p ?_); (refine TA_take 23 rfl (by kernel_rfl) (by kernel_rfl) (by kernel_rfl) ?_; (repeat (first | refine TL_move (hk := ?_) | refine TLP_load_rd TE (hk := ?_) | refine TL_indexAddr1n TE (hk := ?_) | refine TL_yes (hk := ?_))); refine TL_nil_p ?_); (refine TA_take 24 rfl (by kernel_rfl) (by kernel_rfl) (by kernel_rfl) ?_; (repeat (first | refine TL_move (hk := ?_) | refine TLP_load_rd TE (hk := ?_) | refine TL_indexAddr1n TE (hk := ?_) | refine TL_yes (hk := ?_))); refine TL_nil_p ?_)
    refine TA_one 19 rfl (by kernel_rfl) (by kernel_rfl) ?_; (try refine TL_yes (hk := ?_)); refine TL_call TE (hc := (Wai w4 E4)) (hq := (by rintro _ w5 ⟨y, rfl, e, _⟩; exact Ext.un (D4.ext e))) (hk := ?_)
    rintro _ w5 ⟨a3, rfl, e5, r3⟩
    have E5 := E4.ext e5
    have D5 := D4.ext e5
    refine TL_nil_p ?_
    refine TA_one 25 rfl (by kernel_rfl) (by kernel_rfl) ?_; (try refine TL_yes (hk := ?_)); refine TL_call TE (hc := (RWa w5 E5)) (hq := (by rintro _ w6 ⟨y, rfl, e, _⟩; exact Ext.un (D5.ext e))) (hk := ?_)
    rintro _ w6 ⟨a4, rfl, e6, r4⟩
    have E6 := E5.ext e6
    have D6 := D5.ext e6
    have l3 : ww.length = a3.2.1 := by have := r3.len; rw [iv_len] at this; omega
    have l4 : ww.length = a4.2.1 := by have := r4.len; rw [iv_len] at this; omega
    refine TL_nil_p ?_
    refine TA_one 26 rfl (by kernel_rfl) (by kernel_rfl) ?_; (try refine TL_yes (hk := ?_)); refine TL_call TE (hc := (numbers_c14 a3.1 a4.1 a3.2.1 a3.2.2 a4.2.1 a4.2.2 ww ww w6 (Own.be e6 r3).rd r4.rd (by omega) (by omega))) (hq := (by rintro _ w7 ⟨rfl, e⟩; exact Ext.un (D6.ext e))) (hk := ?_)
    rintro _ w7 ⟨rfl, e7⟩
    have E7 := E6.ext e7
    rw [decide_eq_true (rfl : ww = ww)]
    refine TL_nil_p ?_
    (refine TA_one 27 rfl (by kernel_rfl) (by kernel_rfl) ?_; (repeat (first | refine TL_yes (hk := ?_) | refine TL_pick_f (hk := ?_) | refine TL_not (hk := ?_))); refine TL_nil_p ?_); (refine TA_one 28 rfl (by kernel_rfl) (by kernel_rfl) ?_; (repeat (first | refine TL_yes (hk := ?_) | refine TL_pick_f (hk := ?_) | refine TL_not (hk := ?_))); refine TL_nil_p ?_)
    refine TA_done (by kernel_rfl) ?_
    clear hC4 r3 r4
    repeat (first | refine T_region ?_ | refine T_cond_false rfl ?_ | refine T_inBlock ?_ | refine T_skip ?_ | refine TL_add (hk := ?_) | refine TL_nil ?_ | refine TL_move (hk := ?_) | refine TL_assign (hk := ?_))
    exact ih (i + 1) w7 _ (by omega) ⟨by omega, E7⟩ (.c rfl (.c rfl (.c rfl (.c rfl (.c rfl (.n))))))
  · clear ih
    repeat (first | refine T_seq ?_ | refine T_region ?_ | refine T_cond_false rfl ?_ | refine T_block ?_ | refine T_exit rfl ?_ | refine TL_lt_f (hk := ?_) | refine TL_nil ?_ | refine TL_move (hk := ?_) | refine TL_assign (hk := ?_) | refine TL_len TE (hk := ?_))
    refine T_loop (ι := Nat) (fun i => [(10, .int .i64 (i : Int)), (0, pT m.p), (1, pT q), (2, .slice B kn kc)]) (fun i w' => i ≤ kn ∧ Ext w w') (fun i => kn - i) 0 (.c rfl (.c rfl (.c rfl (.c rfl (.n))))) ⟨Nat.zero_le _, E1⟩ ?_
    clear hlt hi
    clear E1
    rintro j w1 ⟨hj, E1⟩ ih
    by_cases hjl : j < kn
    · have hB1 := hB.be E1
      have hBn : B ≠ none := by obtain ⟨_, _, hq, _⟩ := hB1.2 (by omega); rw [hq]; simp
      obtain ⟨k, hk⟩ : ∃ k, ks.getD j [] = k := ⟨_, rfl⟩
      have Que := Que k
      have Hel := Hel k
      have RQu := RQu k
      have RHe := RHe k
      have hql := hql k
      have hqo := hqo k
      have hhl := hhl k
      have hhe : heldE t k = ((queueE t k).filter (·.2)).map (·.1.1) := rfl
      rw [hhe] at Hel hhl
      generalize ((queueE t k).filter (·.2)).map (·.1.1) = hh at Hel RHe hhl
      generalize queueE t k = qq at Que RQu hql hhl
      repeat (first | refine T_seq ?_ | refine T_region ?_ | refine T_cond_true rfl ?_ | refine T_block ?_ | refine T_skip ?_ | refine TL_lt_t (hk := ?_) | refine TL_nil ?_ | refine TL_move (hk := ?_) | refine TL_len TE (hk := ?_))
      refine T_region_any TE.mixed ([] : List Nat) ?_; intro w2 e2 z2
      have E2 := E1.ext e2
      have hB2 := hB1.be e2
      clear hB1
      (refine TA_take 0 rfl (by kernel_rfl) (by kernel_rfl) (by kernel_rfl) ?_; (repeat (first | refine TL_move (hk := ?_) | refine TLP_load_s TE (hk := ?_) | refine TL_indexAddr1n TE (hk := ?_))); refine TL_nil_p ?_); (refine TA_take 1 rfl (by kernel_rfl) (by kernel_rfl) (by kernel_rfl) ?_; (repeat (first | refine TL_move (hk := ?_) | refine TLP_load_s TE (hk := ?_) | refine TL_indexAddr1n TE (hk := ?_))); refine TL_nil_p ?_); (refine TA_take 2 rfl (by kernel_rfl) (by kernel_rfl) (by kernel_rfl) ?_; (repeat (first | refine TL_move (hk := ?_) | refine TLP_load_s TE (hk := ?_) | refine TL_indexAddr1n TE (hk := ?_))); refine TL_nil_p ?_); (refine TA_take 3 rfl (by kernel_rfl) (by kernel_rfl) (by kernel_rfl) ?_; (repeat (first | refine TL_move (hk := ?_) | refine TLP_load_s TE (hk := ?_) | refine TL_indexAddr1n TE (hk := ?_))); refine TL_nil_p ?_); (refine TA_take 4 rfl (by kernel_rfl) (by kernel_rfl) (by kernel_rfl) ?_; (repeat (first | refine TL_move (hk := ?_) | refine TLP_load_s TE (hk := ?_) | refine TL_indexAddr1n TE (hk := ?_))); refine TL_nil_p ?_); (refine TA_take 6 rfl (by kernel_rfl) (by kernel_rfl) (by kernel_rfl) ?_; (repeat (first | refine TL_move (hk := ?_) | refine TLP_load_s TE (hk := ?_) | refine TL_indexAddr1n TE (hk := ?_))); refine TL_nil_p ?_); (refine TA_take 7 rfl (by kernel_rfl) (by kernel_rfl) (by kernel_rfl) ?_; (repeat (first | refine TL_move (hk := ?_) | refine TLP_load_s TE (hk := ?_) | refine TL_indexAddr1n TE (hk := ?_))); refine TL_nil_p ?_); (refine TA_take 8 rfl (by kernel_rfl) (by kernel_rfl) (by kernel_rfl) ?_; (repeat (first | refine TL_move (hk := ?_) | refine TLP_load_s TE (hk := ?_) | refine TL_indexAddr1n TE (hk := ?_))); refine TL_nil_p ?_); (refine TA_take 9 rfl (by kernel_rfl) (by kernel_rfl) (by kernel_rfl) ?_; (repeat (first | refine TL_move (hk := ?_) | refine TLP_load_s TE (hk := ?_) | refine TL_indexAddr1n TE (hk := ?_))); refine TL_nil_p ?_); (refine TA_take 10 rfl (by kernel_rfl) (by kernel_rfl) (by kernel_rfl) ?_; (repeat (first | refine TL_move (hk := ?_) | refine TLP_load_s TE (hk := ?_) | refine TL_indexAddr1n TE (hk := ?_))); refine TL_nil_p ?_)
      rw [hk]
      refine TA_one 5 rfl (by kernel_rfl) (by kernel_rfl) ?_; (try refine TL_yes (hk := ?_)); refine TL_call TE (hc := (Que w2 E2)) (hq := (by rintro _ w3 ⟨y, rfl, e, _⟩; exact Ext.un e)) (hk := ?_)
      rintro _ w3 ⟨a1, rfl, e3, r1⟩
      have E3 := E2.ext e3
      refine TL_nil_p ?_
      refine TA_one 11 rfl (by kernel_rfl) (by kernel_rfl) ?_; (try refine TL_yes (hk := ?_)); refine TL_call TE (hc := (RQu w3 E3)) (hq := (by rintro _ w4 ⟨y, rfl, e, _⟩; exact Ext.un (e3.ext e))) (hk := ?_)
      rintro _ w4 ⟨a2, rfl, e4, r2⟩
      have E4 := E3.ext e4
      have D4 := e3.ext e4
      have l1 : qq.length = a1.2.1 := by have := r1.len; rw [rowV_len qdV_len] at this; omega
      have l2 : qq.length = a2.2.1 := by have := r2.len; rw [rowV_len qdV_len] at this; omega
      refine TL_nil_p ?_
      refine TA_one 12 rfl (by kernel_rfl) (by kernel_rfl) ?_; (try refine TL_yes (hk := ?_)); refine TL_call TE (hc := (asked_c14 a1.1 a2.1 a1.2.1 a1.2.2 a2.2.1 a2.2.2 qq qq w4 (Own.be e4 r1).rd r2.rd (by omega) (by omega))) (hq := (by rintro _ w5 ⟨rfl, e⟩; exact Ext.un (D4.ext e))) (hk := ?_)
      rintro _ w5 ⟨rfl, e5⟩
      have E5 := E4.ext e5
      have D5 := D4.ext e5
      have hB5 := hB2.be D5
      clear hB2
      rw [decide_eq_true (rfl : qq = qq)]
      refine TL_nil_p ?_
      (refine TA_take 13 rfl (by kernel_rfl) (by kernel_rfl) (by kernel_rfl) ?_; (repeat (first | refine TL_move (hk := ?_) | refine TLP_load_s TE (hk := ?_) | refine TL_indexAddr1n TE (hk := ?_) | refine TL_yes (hk := ?_) | refine TL_not (hk := ?_))); refine TL_nil_p ?_); (refine TA_take 14 rfl (by kernel_rfl) (by kernel_rfl) (by kernel_rfl) ?_; (repeat (first | refine TL_move (hk := ?_) | refine TLP_load_s TE (hk := ?_) | refine TL_indexAddr1n TE (hk := ?_) | refine TL_yes (hk := ?_) | refine TL_not (hk := ?_))); refine TL_nil_p ?_); (refine TA_take 15 rfl (by kernel_rfl) (by kernel_rfl) (by kernel_rfl) ?_; (repeat (first | refine TL_move (hk := ?_) | refine TLP_load_s TE (hk := ?_) | refine TL_indexAddr1n TE (hk := ?_) | refine TL_yes (hk := ?_) | refine TL_not (hk := ?_))); refine TL_nil_p ?_); (refine TA_take 16 rfl (by kernel_rfl) (by kernel_rfl) (by kernel_rfl) ?_; (repeat (first | refine TL_move (hk := ?_) | refine TLP_load_s TE (hk := ?_) | refine TL_indexAddr1n TE (hk := ?_) | refine TL_yes (hk := ?_) | refine TL_not (hk := ?_))); refine TL_nil_p ?_); (refine TA_take 17 rfl (by kernel_rfl) (by kernel_rfl) (by kernel_rfl) ?_; (repeat (first | refine TL_move (hk := ?_) | refine TLP_load_s TE (hk := ?_) | refine TL_indexAddr1n TE (hk := ?_) | refine TL_yes (hk := ?_) | refine TL_not (hk := ?_))); refine TL_nil_p ?_); (refine TA_take 18 rfl (by kernel_rfl) (by kernel_rfl) (by kernel_rfl) ?_; (repeat (first | refine TL_move (hk := ?_) | refine TLP_load_s TE (hk := ?_) | refine TL_indexAddr1n TE (hk := ?_) | refine TL_yes (hk := ?_) | refine TL_not (hk := ?_))); refine TL_nil_p ?_); (refine TA_take 19 rfl (by kernel_rfl) (by kernel_rfl) (by kernel_rfl) ?_; (repeat (first | refine TL_move (hk := ?_) | refine TLP_load_s TE (hk := ?_) | refine TL_indexAddr1n TE (hk := ?_) | refine TL_yes (hk := ?_) | refine TL_not (hk := ?_))); refine TL_nil_p ?_); (refine TA_take 21 rfl (by kernel_rfl) (by kernel_rfl) (by kernel_rfl) ?_; (repeat (first | refine TL_move (hk := ?_) | refine TLP_load_s TE (hk := ?_) | refine TL_indexAddr1n TE (hk := ?_) | refine TL_yes (hk := ?_) | refine TL_not (hk := ?_))); refine TL_nil_p ?_); (refine TA_take 22 rfl (by kernel_rfl) (by kernel_rfl) (by kernel_rfl) ?_; (repeat (first | refine TL_move (hk := ?_) | refine TLP_load_s TE (hk := ?_) | refine TL_indexAddr1n TE (hk := ?_) | refine TL_yes (hk := ?_) | refine TL_not (hk := ?_))); refine TL_nil_p ?_); (refine TA_take 23 rfl (by kernel_rfl) (by kernel_rfl) (by kernel_rfl) ?_; (repeat (first | refine TL_move (hk := ?_) | refine TLP_load_s TE (hk := ?_) | refine TL_indexAddr1n TE (hk := ?_) | refine TL_yes (hk := ?_) | refine TL_not (hk := ?_))); refine TL_nil_p ?_); (refine TA_take 24 rfl (by kernel_rfl) (by kernel_rfl) (by kernel_rfl) ?_; (repeat (first | refine TL_move (hk := ?_) | refine TLP_load_s TE (hk := ?_) | refine TL_indexAddr1n TE (hk := ?_) | refine TL_yes (hk := ?_) | refine TL_not (hk := ?_))); refine TL_nil_p ?_); (refine TA_take 25 rfl (by kernel_rfl) (by kernel_rfl) (by kernel_rfl) ?_; (repeat (first | refine TL_move (hk := ?_) | refine TLP_load_s TE (hk := ?_) | refine TL_indexAddr1n TE (hk := ?_) | refine TL_yes (hk := ?_) | refine TL_not (hk := ?_))); refine TL_nil_p ?_)
      rw [hk]
      refine TA_one 20 rfl (by kernel_rfl) (by kernel_rfl) ?_; (try refine TL_yes (hk := ?_)); refine TL_call TE (hc := (Hel w5 E5)) (hq := (by rintro _ w6 ⟨y, rfl, e, _⟩; exact Ext.un (D5.ext e))) (hk := ?_)
      rintro _ w6 ⟨a3, rfl, e6, r3⟩
      have E6 := E5.ext e6
      have D6 := D5.ext e6
      refine TL_nil_p ?_
      refine TA_one 26 rfl (by kernel_rfl) (by kernel_rfl) ?_; (try refine TL_yes (hk := ?_)); refine TL_call TE (hc := (RHe w6 E6)) (hq := (by rintro _ w7 ⟨y, rfl, e, _⟩; exact Ext.un (D6.ext e))) (hk := ?_)
      rintro _ w7 ⟨a4, rfl, e7, r4⟩
      have E7 := E6.ext e7
      have D7 := D6.ext e7
      have l3 : hh.length = a3.2.1 := by have := r3.len; rw [iv_len] at this; omega
      have l4 : hh.length = a4.2.1 := by have := r4.len; rw [iv_len] at this; omega
      refine TL_nil_p ?_
      refine TA_one 27 rfl (by kernel_rfl) (by kernel_rfl) ?_; (try refine TL_yes (hk := ?_)); refine TL_call TE (hc := (numbers_c14 a3.1 a4.1 a3.2.1 a3.2.2 a4.2.1 a4.2.2 hh hh w7 (Own.be e7 r3).rd r4.rd (by omega) (by omega))) (hq := (by rintro _ w8 ⟨rfl, e⟩; exact Ext.un (D7.ext e))) (hk := ?_)
      rintro _ w8 ⟨rfl, e8⟩
      have E8 := E7.ext e8
      rw [decide_eq_true (rfl : hh = hh)]
      refine TL_nil_p ?_
      (refine TA_one 28 rfl (by kernel_rfl) (by kernel_rfl) ?_; (repeat (first | refine TL_yes (hk := ?_) | refine TL_pick_f (hk := ?_) | refine TL_not (hk := ?_))); refine TL_nil_p ?_); (refine TA_one 29 rfl (by kernel_rfl) (by kernel_rfl) ?_; (repeat (first | refine TL_yes (hk := ?_) | refine TL_pick_f (hk := ?_) | refine TL_not (hk := ?_))); refine TL_nil_p ?_)
      refine TA_done (by kernel_rfl) ?_
      clear hB5 r1 r2 r3 r4
      repeat (first | refine T_region ?_ | refine T_cond_false rfl ?_ | refine T_inBlock ?_ | refine T_skip ?_ | refine TL_add (hk := ?_) | refine TL_nil ?_ | refine TL_move (hk := ?_) | refine TL_assign (hk := ?_))
      exact ih (j + 1) w8 _ (by omega) ⟨by omega, E8⟩ (.c rfl (.c rfl (.c rfl (.c rfl (.n)))))
    · clear ih
      repeat (first | refine T_seq ?_ | refine T_region ?_ | refine T_cond_false rfl ?_ | refine T_exit rfl ?_ | refine TL_lt_f (hk := ?_) | refine TL_nil ?_ | refine TL_move (hk := ?_) | refine TL_assign (hk := ?_) | refine TL_len TE (hk := ?_))
      exact T_ret1 rfl rfl ⟨rfl, E1⟩
end
end Go.Proofs.Ytomabcbemokijaa

namespace Go.Proofs.Ytomabcbemokijaa
open Go.RowKit Go.Proofs.Eng Go.Proofs.Foot Go.Proofs.Locks
set_option linter.unusedSimpArgs false
set_option linter.unusedVariables false set_option maxRecDepth 10000
attribute [local irreducible] T TL LV TH TA
set_option maxHeartbeats 3200000
theorem rel_yes {t : LS} {s : Int} (h : readyE t.E s = true) : (relE t s).1.E = t.E.filter fun e => !decide (e.1 = s) := by
  unfold relE
  cases h1 : eget t.E s with
  | none => unfold readyE at h; rw [h1] at h; cases h
  | some l => simp only [h]; rfl
theorem enq_zero {t : LS} {s : Int} {l : List Lk} (h : (enqE t s l).2 = 0) : (enqE t s l).1.E = t.E ++ [(s, l)] := by
  unfold enqE at h ⊢
  split at h
  · cases h
  · split at h
    · rename_i g1 g2; exact absurd h g2
    · rename_i g1 g2; rw [if_neg g1, if_neg g2]
theorem enq_not {t : LS} {s : Int} {l : List Lk} (h : (enqE t s l).2 ≠ 0) : (enqE t s l).1 = t := by
  unfold enqE at h ⊢
  split
  · rfl
  · split
    · rfl
    · rename_i g1 g2; rw [if_neg g1, if_neg g2] at h; exact absurd rfl h
/-- The rows that a statement keeps: they are the table's entries. -/
structure RowsI (w0 w : World) (x : SL) (rs : List RE) (f : Nat → Ow) (t : LS) : Prop where
  row : RwRow w w0.heap.size x rs
  zero : ∀ b ∈ blkL x.1, ow f b = 0
  ent : rs.map entR = t.E
  rd : ∀ r ∈ rs, Rd w0 r.A r.n 2 (rowV lkV r.l) ∧ r.n ≤ 2000
theorem RowsI.len {w0 w : World} {x : SL} {rs : List RE} {f : Nat → Ow} {t : LS} (h : RowsI w0 w x rs f t) : rs.length = x.2.1 ∧ rs.length = t.E.length := by
  have h1 := h.row.len
  rw [rowV_len rwV_len] at h1
  have h2 := congrArg List.length h.ent
  rw [List.length_map] at h2
  exact ⟨by omega, h2⟩
theorem RowsI.ext {w0 w w' : World} {x : SL} {rs : List RE} {f : Nat → Ow} {t : LS} (h : RowsI w0 w x rs f t) (e : Ext w w') : RowsI w0 w' x rs f t := { h with row := h.row.be e }
theorem RowsI.tn {w0 w w' : World} {x : SL} {rs : List RE} {f f' : Nat → Ow} {t t' : LS} (h : RowsI w0 w x rs f t) (tn : Tn (ow f) (ow f') w w') (he : t'.E = t.E) : RowsI w0 w' x rs f' t' := by
  obtain ⟨h1, h2⟩ := h.row.tn tn h.zero
  exact ⟨h1, h2, by rw [he]; exact h.ent, h.rd⟩
def WasI (rs : List RE) (t : LS) : Prop := ∀ r ∈ rs, r.was = true → readyE t.E r.s = true
end Go.Proofs.Ytomabcbemokijaa

/- The document's table, its memory its own. -/
namespace Go.Proofs.Ytomabcbemokijaa
open Go.RowKit Go.Proofs.Eng Go.Proofs.Foot Go.Proofs.Locks
set_option linter.unusedSimpArgs false
set_option linter.unusedVariables false set_option maxRecDepth 10000
attribute [local irreducible] T TL LV TH TA
structure RtM (w : World) (base q : Nat) (x : SL) (last : Int) (es : List WE) (g : Nat → Nat) : Prop where
  rf : RfM w q x last es
  own : Own w base 91 2 x.1 x.2.1 x.2.2 (rowV weV es)
  gq : g q = 1
  gx : ∀ b ∈ blkL x.1, g b = 2
  gl : ∀ e ∈ es, ∀ b ∈ blkL e.A, g b = 3
  old : ∀ b, g b ≠ 0 → base ≤ b ∧ b < w.heap.size
section
variable {w w' w0 : World} {base q : Nat} {x : SL} {last : Int} {es : List WE} {g : Nat → Nat} {S : List Nat}
theorem RtM.mod (h : RtM w base q x last es g) (hm : Eng.Mod S w w') (hS : ∀ b ∈ S, g b = 0) : RtM w' base q x last es g :=
  have nin : ∀ b k, g b = k + 1 → b ∉ S := fun b k e q => by rw [hS b q] at e; cases e
  { h with
    rf := ⟨h.rf.blk.mod hm (nin q 0 h.gq), h.rf.rd.mod hm (off_ofL fun b hb => nin b 1 (h.gx b hb)), fun e he => ⟨(h.rf.lk e he).1.mod hm (off_ofL fun b hb => nin b 2 (h.gl e he b hb)), (h.rf.lk e he).2⟩, h.rf.ln⟩
    own := h.own.modL hm (fun b hb => nin b 1 (h.gx b hb))
    old := fun b hb => by have := h.old b hb; have := hm.size; omega }
theorem RtM.ext (h : RtM w base q x last es g) (e : Ext w w') : RtM w' base q x last es g := h.mod e (fun b hb => by cases hb)
theorem RtM.tn (h : RtM w base q x last es g) {o o' : Nat → Nat} (t : Tn o o' w w') (hd : ∀ b, o b = 0 ∨ g b = 0) : RtM w' base q x last es g ∧ ∀ b, o' b = 0 ∨ g b = 0 := by
  obtain ⟨⟨S, m1, s1⟩, n1, z1⟩ := t
  refine ⟨h.mod m1 (fun b hb => (hd b).resolve_left (s1 b hb)), fun b => ?_⟩
  by_cases q : o' b = 0
  · exact .inl q
  · right
    rcases n1 b q with h1 | h1
    · exact (hd b).resolve_left h1
    · by_cases y : g b = 0
      · exact y
      · have := (h.old b y).2; omega
def updO (g : Nat → Nat) (L : List Nat) (k : Nat) : Nat → Nat := fun b => if b ∈ L then k else g b
theorem updO_in {g : Nat → Nat} {L : List Nat} {k b : Nat} (h : b ∈ L) : updO g L k b = k := if_pos h
theorem updO_out {g : Nat → Nat} {L : List Nat} {k b : Nat} (h : b ∉ L) : updO g L k b = g b := if_neg h
/-- An entry more: its locks A a new row, the entries' row B. -/
theorem RtM.put (h : RtM w base q x last es g) {s : Int} {z y : SL} {l : List Lk} {w1 w2 w3 : World} (hs : es.length < 100000) (hzn : z.2.1 ≤ 2000)
    (e1 : Ext w w1) (hz : LRow w1 w.heap.size z l) (m2 : Eng.Mod (blkL x.1) w1 w2) (hy : Own w2 base 91 2 y.1 y.2.1 y.2.2 (rowV weV (es ++ [⟨s, z.1, z.2.1, z.2.2, l⟩]))) (hn : Near x.1 y.1 w1)
    (m3 : Eng.Mod [q] w2 w3) (hb : Blk w3 q 88 [sL y, .int .i64 s]) :
    ∃ g', RtM w3 base q y s (es ++ [⟨s, z.1, z.2.1, z.2.2, l⟩]) g' ∧ Tn g g' w w3 := by
  have z1 := e1.size
  have z2 := m2.size
  have z3 := m3.size
  have hql := h.old q (by rw [h.gq]; decide)
  have hqx : q ∉ blkL x.1 := fun hq => by have := h.gx q hq; rw [h.gq] at this; cases this
  have hyo : ∀ b ∈ blkL y.1, b ∈ blkL x.1 ∨ w1.heap.size ≤ b := hn.mem
  have hyq : ∀ b ∈ blkL y.1, b ≠ q := fun b hb e => by
    rcases hyo b hb with h1 | h1
    · exact hqx (e ▸ h1)
    · omega
  have hzl : ∀ b ∈ blkL z.1, w.heap.size ≤ b ∧ b < w1.heap.size := fun b hb => hz.bl b hb
  have hzx : ∀ b ∈ blkL z.1, b ∉ blkL x.1 := fun b hb hx => by
    have := (h.old b (by rw [h.gx b hx]; decide)).2
    have := hzl b hb
    omega
  have hzy : ∀ b ∈ blkL z.1, b ∉ blkL y.1 := fun b hb hy => by
    rcases hyo b hy with h1 | h1
    · exact hzx b hb h1
    · have := hzl b hb; omega
  have gy : ∀ b ∈ blkL y.1, g b = 2 ∨ w.heap.size ≤ b := fun b hb => (hyo b hb).imp (h.gx b) (fun a => by omega)
  have keep : ∀ b k, g b = k → k ≠ 0 → k ≠ 2 → updO (updO g (blkL y.1) 2) (blkL z.1) 3 b = k := fun b k e k0 k2 => by
    have hlt := (h.old b (by rw [e]; exact k0)).2
    rw [updO_out (fun hb => by have := (hzl b hb).1; omega), updO_out (fun hb => by rcases gy b hb with h1 | h1 <;> omega)]
    exact e
  have m13 : Eng.Mod (q :: blkL x.1) w1 w3 := (m2.mono (S' := q :: blkL x.1) (fun b hb => .inl (List.mem_cons_of_mem _ hb))).step m3 (fun b hb => .inl (by rw [List.mem_singleton.1 hb]; exact List.mem_cons_self))
  have hoff : ∀ b k, g b = k → k ≠ 0 → k ≠ 1 → k ≠ 2 → b ∉ q :: blkL x.1 := fun b k e k0 k1 k2 hb => by
    rcases List.mem_cons.1 hb with rfl | hb
    · rw [h.gq] at e; omega
    · rw [h.gx b hb] at e; omega
  have hy3 : Own w3 base 91 2 y.1 y.2.1 y.2.2 (rowV weV (es ++ [⟨s, z.1, z.2.1, z.2.2, l⟩])) := hy.modL m3 (fun b hb hq => hyq b hb (List.mem_singleton.1 hq))
  refine ⟨updO (updO g (blkL y.1) 2) (blkL z.1) 3, ⟨⟨hb, hy3.rd, fun e he => ?_, by simp; omega⟩, hy3, keep q 1 h.gq (by decide) (by decide), fun b hb => ?_, fun e he b hb => ?_, fun b hb => ?_⟩, ⟨q :: blkL x.1, (e1.mono (by simp)).trans m13, fun b hb => ?_⟩, fun b hb => ?_, by omega⟩
  · rcases List.mem_append.1 he with he | he
    · exact ⟨((h.rf.lk e he).1.be e1).mod m13 (off_ofL fun b hb => hoff b 3 (h.gl e he b hb) (by decide) (by decide) (by decide)), (h.rf.lk e he).2⟩
    · rw [List.mem_singleton.1 he]
      exact ⟨hz.rd.mod m13 (off_ofL fun b hb hq => by
        rcases List.mem_cons.1 hq with e | hq
        · have := (hzl b hb).1; omega
        · exact hzx b hb hq), hzn⟩
  · rw [updO_out (fun hz => hzy b hz hb), updO_in hb]
  · rcases List.mem_append.1 he with he | he
    · exact keep b 3 (h.gl e he b hb) (by decide) (by decide)
    · rw [List.mem_singleton.1 he] at hb
      exact updO_in hb
  · by_cases h1 : b ∈ blkL z.1
    · have := hzl b h1; omega
    · rw [updO_out h1] at hb
      by_cases h2 : b ∈ blkL y.1
      · have := hy3.bl b h2; omega
      · rw [updO_out h2] at hb
        have := h.old b hb; omega
  · rcases List.mem_cons.1 hb with rfl | hb
    · rw [h.gq]; decide
    · rw [h.gx b hb]; decide
  · by_cases h1 : b ∈ blkL z.1
    · exact .inr (hzl b h1).1
    · rw [updO_out h1] at hb
      by_cases h2 : b ∈ blkL y.1
      · rcases gy b h2 with h3 | h3
        · left; rw [h3]; decide
        · exact .inr h3
      · rw [updO_out h2] at hb; exact .inl hb
/-- Other entries, some of those that were, in a new row. -/
theorem RtM.sub (h : RtM w base q x last es g) {y : SL} {es' : List WE} {w1 w2 : World} (e1 : Ext w w1) (hsub : ∀ e ∈ es', e ∈ es) (hl : es'.length ≤ 100000) (hy : Own w1 w.heap.size 91 2 y.1 y.2.1 y.2.2 (rowV weV es'))
    (m2 : Eng.Mod [q] w1 w2) (hb : Blk w2 q 88 [sL y, .int .i64 last]) :
    ∃ g', RtM w2 base q y last es' g' ∧ Tn g g' w w2 := by
  have z1 := e1.size
  have z2 := m2.size
  have hql := h.old q (by rw [h.gq]; decide)
  have hyl : ∀ b ∈ blkL y.1, w.heap.size ≤ b ∧ b < w1.heap.size := fun b hb => hy.bl b hb
  let g1 : Nat → Nat := fun b => if g b = 2 then 0 else g b
  have keep : ∀ b k, g b = k → k ≠ 0 → k ≠ 2 → updO g1 (blkL y.1) 2 b = k := fun b k e k0 k2 => by
    have hlt := (h.old b (by rw [e]; exact k0)).2
    rw [updO_out (fun hb => by have := (hyl b hb).1; omega)]
    show (if g b = 2 then 0 else g b) = k
    rw [if_neg (by omega)]; exact e
  have g1z : ∀ b, g1 b ≠ 0 → g b ≠ 0 := fun b hb e => hb (by show (if g b = 2 then 0 else g b) = 0; split; rfl; exact e)
  have hy2 : Own w2 base 91 2 y.1 y.2.1 y.2.2 (rowV weV es') := (hy.weaken (by omega)).modL m2 (fun b hb hq => by rw [List.mem_singleton] at hq; have := (hyl b hb).1; omega)
  refine ⟨updO g1 (blkL y.1) 2, ⟨⟨hb, hy2.rd, fun e he => ⟨((h.rf.lk e (hsub e he)).1.be e1).mod m2 (off_ofL fun b hb hq => by rw [List.mem_singleton] at hq; have := h.gl e (hsub e he) b hb; rw [hq, h.gq] at this; cases this), (h.rf.lk e (hsub e he)).2⟩, hl⟩, hy2, keep q 1 h.gq (by decide) (by decide), fun b hb => updO_in hb, fun e he b hb => keep b 3 (h.gl e (hsub e he) b hb) (by decide) (by decide), fun b hb => ?_⟩, ⟨[q], (e1.mono (by simp)).trans m2, fun b hb => by rw [List.mem_singleton.1 hb, h.gq]; decide⟩, fun b hb => ?_, by omega⟩
  · by_cases h2 : b ∈ blkL y.1
    · have := hyl b h2; omega
    · rw [updO_out h2] at hb
      have := h.old b (g1z b hb); omega
  · by_cases h2 : b ∈ blkL y.1
    · exact .inr (hyl b h2).1
    · rw [updO_out h2] at hb; exact .inl (g1z b hb)
end
/-! ## The two tables, apart -/
structure KD (w0 w : World) (base p N : Nat) (m : LM) (f : Nat → Ow) (t : LS) (bb q : Nat) (x : SL) (last : Int) (es : List WE) (g : Nat → Nat) : Prop where
  T : TS w0 w base p N m f t
  R : RtM w bb q x last es g
  dj : ∀ b, ow f b = 0 ∨ g b = 0
  hb : w0.heap.size ≤ bb
section
variable {w0 w w' : World} {base p N bb q : Nat} {m m' : LM} {f f' : Nat → Ow} {t t' : LS} {x x' : SL} {last last' : Int} {es es' : List WE} {g g' : Nat → Nat} {S : List Nat}
theorem KD.ext (T : KD w0 w base p N m f t bb q x last es g) (e : Ext w w') : KD w0 w' base p N m f t bb q x last es g := ⟨T.T.ext e, T.R.ext e, T.dj, T.hb⟩
theorem KD.a (T : KD w0 w base p N m f t bb q x last es g) (hp : m'.p = m.p) (h : TabM w' base m' f' (qOf t'.E) t'.E t'.nx) (tn : Tn (ow f) (ow f') w w') {N' : Nat} (ok : OkT N' t') : KD w0 w' base p N' m' f' t' bb q x last es g := by
  obtain ⟨h1, h2⟩ := T.R.tn tn T.dj
  exact ⟨T.T.turn hp h tn ok, h1, h2, T.hb⟩
theorem KD.b (T : KD w0 w base p N m f t bb q x last es g) (h : RtM w' bb q x' last' es' g') (tn : Tn g g' w w') : KD w0 w' base p N m f t bb q x' last' es' g' := by
  obtain ⟨h1, h2⟩ := T.T.h.tn tn (fun b => (T.dj b).symm)
  exact ⟨⟨tn.ext0 T.T.e (fun b hb => by have := (T.R.old b hb).1; have := T.hb; omega), T.T.ok, T.T.hp, h1, T.T.hb⟩, h, fun b => (h2 b).symm, T.hb⟩
theorem KD.mod (T : KD w0 w base p N m f t bb q x last es g) (hm : Eng.Mod S w w') (h0 : ∀ b ∈ S, w0.heap.size ≤ b) (h1 : ∀ b ∈ S, ow f b = 0) (h2 : ∀ b ∈ S, g b = 0) : KD w0 w' base p N m f t bb q x last es g :=
  ⟨⟨T.T.e.step hm (fun b hb => .inr (h0 b hb)), T.T.ok, T.T.hp, T.T.h.mod hm h1, T.T.hb⟩, T.R.mod hm h2, T.dj, T.hb⟩
theorem KD.mono (T : KD w0 w base p N m f t bb q x last es g) {M : Nat} (h : N ≤ M) : KD w0 w base p M m f t bb q x last es g := { T with T := T.T.mono h }
/-- All old blocks that one of the two owns. -/
def ownK (w : World) (f : Nat → Ow) (g : Nat → Nat) : List Nat := (List.range w.heap.size).filter fun b => decide (ow f b ≠ 0 ∨ g b ≠ 0)
theorem ownK_mem {b : Nat} (h : b ∈ ownK w f g) : ow f b ≠ 0 ∨ g b ≠ 0 := by
  have := (List.mem_filter.1 h).2
  simpa using this
theorem ownK_a {w2 : World} (z : w2.heap.size = w.heap.size) : ∀ b, b < w2.heap.size → ow f b ≠ 0 → b ∈ ownK w f g := fun b h q => List.mem_filter.2 ⟨List.mem_range.2 (by omega), by simpa using .inl q⟩
theorem ownK_b {w2 : World} (z : w2.heap.size = w.heap.size) : ∀ b, b < w2.heap.size → g b ≠ 0 → b ∈ ownK w f g := fun b h q => List.mem_filter.2 ⟨List.mem_range.2 (by omega), by simpa using .inr q⟩
theorem KD.own (T : KD w0 w base p N m f t bb q x last es g) {b : Nat} (hb : ow f b ≠ 0 ∨ g b ≠ 0) : w0.heap.size ≤ b := by
  rcases hb with hb | hb
  · exact T.T.own hb
  · have := (T.R.old b hb).1; have := T.hb; omega
theorem KD.off (T : KD w0 w base p N m f t bb q x last es g) {A : Option Addr} (h : Lo A w0.heap.size) : Off A (ownK w f g) := off_ofL fun b q q' => by
  have h1 := Lo.mem h b q
  have h2 := T.own (ownK_mem q')
  omega
end
/-! ## What both answer -/
def LastR (nx last : Int) : Prop := (0 ≤ nx ∧ last = nx - 1) ∨ (nx < 0 ∧ last = 9223372036854775807)
def renqE (last s : Int) (l : List Lk) : Nat := if s ≤ last then 140 else chk none l
section
variable {N : Nat} {t : LS} {es : List WE} {last : Int}
theorem renq_eq (h : LastR t.nx last) {s : Int} (hs : -9223372036854775808 ≤ s ∧ s ≤ 9223372036854775807) (l : List Lk) : renqE last s l = (enqE t s l).2 := by
  unfold renqE enqE
  have : s ≤ last ↔ s < t.nx ∨ t.nx < 0 := by
    rcases h with ⟨h1, h2⟩ | ⟨h1, h2⟩ <;> omega
  by_cases h1 : s ≤ last
  · rw [if_pos h1, if_pos (this.1 h1)]
  · rw [if_neg h1, if_neg (fun q => h1 (this.2 q))]
    by_cases h2 : chk none l = 0
    · rw [if_neg (fun q => q h2), h2]
    · rw [if_pos h2]
theorem renq_last (h : LastR t.nx last) {s : Int} (hs : -9223372036854775808 ≤ s ∧ s ≤ 9223372036854775807) (l : List Lk) (h0 : (enqE t s l).2 = 0) : LastR (enqE t s l).1.nx s := by
  unfold enqE at h0 ⊢
  by_cases h1 : s < t.nx ∨ t.nx < 0
  · rw [if_pos h1] at h0; cases h0
  · rw [if_neg h1] at h0 ⊢
    by_cases h2 : chk none l ≠ 0
    · rw [if_pos h2] at h0; exact absurd h0 h2
    · rw [if_neg h2]
      simp only
      by_cases h3 : s < 9223372036854775807
      · left
        rw [bump_lt (by omega) h3]
        omega
      · right
        rw [show s = 9223372036854775807 by omega, bump_max]
        omega
def rrelE (es : List WE) (s : Int) : Nat := if 0 ≤ atW es s then (if rdB es (atW es s).toNat = true then 0 else 141) else 7
theorem rrel_eq (ok : OkT N t) (he : es.map entW = t.E) (s : Int) : rrelE es s = (relE t s).2 := by
  unfold rrelE relE
  by_cases h : 0 ≤ atW es s
  · rw [if_pos h]
    have hl := (atW_lt h).1
    obtain ⟨h1, h2⟩ := w_row ok he hl
    rw [atW_get h] at h1
    rw [h1, rdB_ready ok he hl, atW_get h]
    cases readyE t.E s <;> rfl
  · rw [if_neg h, atW_out he h]
theorem rrel_es (ok : OkT N t) (he : es.map entW = t.E) (s : Int) (h0 : (relE t s).2 = 0) : (es.take (atW es s).toNat ++ es.drop ((atW es s).toNat + 1)).map entW = (relE t s).1.E := by
  have h1 := rrel_eq ok he s
  rw [h0] at h1
  unfold rrelE at h1
  by_cases h : 0 ≤ atW es s
  · rw [if_pos h] at h1
    have hl := (atW_lt h).1
    by_cases hr : rdB es (atW es s).toNat = true
    · rw [rdB_ready ok he hl, atW_get h] at hr
      rw [rel_yes hr, ← he]
      have hg := atW_get h
      have hnd : (es.map (·.s)).Nodup := by
        have := ok_nodup ok
        rw [← he, List.map_map] at this
        exact this
      generalize (atW es s).toNat = p at hl hg
      rw [List.filter_map]
      congr 1
      have hp : ((fun e : Ent => !decide (e.1 = s)) ∘ entW) = fun e : WE => !decide (e.s = s) := rfl
      rw [hp]
      clear h0 h1 h hr hp he
      induction es generalizing p with
      | nil => simp at hl
      | cons e es ih =>
        rw [List.map_cons, List.nodup_cons] at hnd
        cases p with
        | zero =>
          simp only [List.getD_cons_zero] at hg
          simp only [List.take_zero, List.nil_append, List.drop_succ_cons, List.drop_zero]
          rw [List.filter_cons, if_neg (by simp [hg])]
          symm
          rw [List.filter_eq_self]
          intro a ha
          have : ¬ a.s = s := fun q => hnd.1 (by rw [hg, ← q]; exact List.mem_map.2 ⟨a, ha, rfl⟩)
          simp [this]
        | succ p =>
          simp only [List.getD_cons_succ] at hg
          have hl' : p < es.length := by simpa using hl
          have hne : ¬ e.s = s := fun q => hnd.1 (by
            rw [q, ← hg, List.getD_eq_getElem?_getD, List.getElem?_eq_getElem hl']
            exact List.mem_map.2 ⟨_, List.getElem_mem _, rfl⟩)
          rw [List.take_succ_cons, List.drop_succ_cons, List.filter_cons, if_pos (by simp [hne]), List.cons_append]
          congr 1
          exact ih hnd.2 p hl' hg
    · rw [if_neg hr] at h1; cases h1
  · rw [if_neg h] at h1; cases h1
theorem rrel_same {s : Int} (h0 : (relE t s).2 ≠ 0) : (relE t s).1 = t := by
  unfold relE at h0 ⊢
  cases h1 : eget t.E s with
  | none => rfl
  | some l =>
    rw [h1] at h0
    by_cases h2 : readyE t.E s = true
    · simp only [h2, if_true] at h0; exact absurd rfl h0
    · simp only [h2, if_false]; rfl
theorem rel_nx (s : Int) : (relE t s).1.nx = t.nx := by
  unfold relE
  cases eget t.E s with
  | none => rfl
  | some l => simp only; split <;> rfl
end
end Go.Proofs.Ytomabcbemokijaa

namespace Go.Proofs.Ytomabcbemokijaa
open Go.RowKit Go.Proofs.Eng Go.Proofs.Foot Go.Proofs.Locks
set_option linter.unusedSimpArgs false
set_option linter.unusedVariables false set_option maxRecDepth 10000
attribute [local irreducible] T TL LV TH TA
set_option maxHeartbeats 3200000
theorem RNew_c (w : World) : Ret Try.prog 28 [] w (fun v w' => ∃ q g, v = pT q ∧ Ext w w' ∧ RtM w' w.heap.size q (none, 0, 0) (-1) [] g) := by
  refine ret_T (n := 3) Try.func28 rfl rfl ?_
  repeat (first | refine T_seq ?_ | refine T_region ?_ | refine TL_nil ?_ | refine TL_assign (hk := ?_) | refine TL_build TE (hk := ?_))
  refine TL_box (hk := ?_); intro b1 w1 e1 h1 h1' k1
  replace k1 : Blk w1 b1 88 [sL (none, 0, 0), .int .i64 (-1)] := k1
  repeat (first | refine TL_nil ?_ | refine TL_assign (hk := ?_))
  refine T_ret1 rfl rfl ⟨b1, fun b => if b = b1 then 1 else 0, rfl, e1, ⟨k1, Rd.nil _ _ _, (fun e he => by cases he), by simp⟩, Own.nil _ _ _ _, if_pos rfl, (fun b hb => by simp [blkL] at hb), (fun e he => by cases he), fun b hb => ?_⟩
  by_cases e : b = b1
  · omega
  · rw [if_neg e] at hb; exact absurd rfl hb
theorem RtM.num {w w' : World} {base q : Nat} {x : SL} {last s : Int} {es : List WE} {g : Nat → Nat} (h : RtM w base q x last es g) (hm : Eng.Mod [q] w w') (hb : Blk w' q 88 [sL x, .int .i64 s]) : RtM w' base q x s es g ∧ Tn g g w w' := by
  have nin : ∀ b k, g b = k + 2 → b ∉ [q] := fun b k e y => by rw [List.mem_singleton.1 y, h.gq] at e; omega
  exact ⟨{ h with
    rf := ⟨hb, h.rf.rd.mod hm (off_ofL fun b hb => nin b 0 (h.gx b hb)), fun e he => ⟨(h.rf.lk e he).1.mod hm (off_ofL fun b hb => nin b 1 (h.gl e he b hb)), (h.rf.lk e he).2⟩, h.rf.ln⟩
    own := h.own.modL hm (fun b hb => nin b 0 (h.gx b hb))
    old := fun b hb => by have := h.old b hb; have := hm.size; omega }, ⟨[q], hm, fun b hb => by rw [List.mem_singleton.1 hb, h.gq]; decide⟩, fun b hb => .inl hb, hm.size⟩
section
variable {base q : Nat} {x : SL} {last : Int} {es : List WE} {g : Nat → Nat}
theorem REnqueue_c (A : Option Addr) (n c : Nat) (l : List Lk) (s : Int) (w : World) (h : RtM w base q x last es g) (hr : Rd w A n 2 (rowV lkV l)) (hz : 0 < n → ∀ b ∈ blkL A, g b = 0) (hn : n ≤ 2000) (hes : es.length < 1000) (hk : ∀ x ∈ l, x.1.length ≤ 9223372036854775807) :
    Ret Try.prog 30 [pT q, .int .i64 s, .slice A n c] w (fun v w' => v = .int .i64 (renqE last s l : Int) ∧ ∃ x' last' es' g', RtM w' base q x' last' es' g' ∧ Tn g g' w w' ∧ (renqE last s l = 0 → es'.map entW = es.map entW ++ [(s, l)] ∧ last' = s) ∧ (renqE last s l ≠ 0 → es' = es ∧ last' = last)) := by
  have hl : l.length = n := by have := hr.1; rw [rowV_len lkV_len] at this; omega
  have hb := h.rf.blk
  have hret : ∀ w', Ext w w' → renqE last s l ≠ 0 → ∃ x' last' es' g', RtM w' base q x' last' es' g' ∧ Tn g g' w w' ∧ (renqE last s l = 0 → es'.map entW = es.map entW ++ [(s, l)] ∧ last' = s) ∧ (renqE last s l ≠ 0 → es' = es ∧ last' = last) := fun w' e hne => ⟨x, last, es, g, h.ext e, Tn.ext e, fun y => absurd y hne, fun _ => ⟨rfl, rfl⟩⟩
  refine ret_T (n := 61) Try.func30 rfl rfl ?_
  by_cases g1 : s ≤ last
  · have hv : renqE last s l = 140 := if_pos g1
    repeat (first | refine T_seq ?_ | refine T_region ?_ | refine T_cond_true rfl ?_ | refine TL_le_t (hk := ?_) | refine TL_nil ?_ | refine TL_move (hk := ?_) | refine TL_assign (hk := ?_) | refine TL_load TE (hk := ?_) | refine TL_fieldAddr TE (hk := ?_) | refine TL_nilCheck (hk := ?_))
    exact T_ret1 rfl rfl ⟨by rw [hv]; rfl, hret _ (Mod.refl _ _) (by rw [hv]; decide)⟩
  have hv : renqE last s l = chk none l := if_neg g1
  repeat (first | refine T_seq ?_ | refine T_region ?_ | refine T_cond_false rfl ?_ | refine T_block ?_ | refine T_skip ?_ | refine TL_le_f (hk := ?_) | refine TL_nil ?_ | refine TL_move (hk := ?_) | refine TL_assign (hk := ?_) | refine TL_load TE (hk := ?_) | refine TL_fieldAddr TE (hk := ?_) | refine TL_nilCheck (hk := ?_))
  refine T_loop (ι := Nat) (fun i => [(7, .int .i64 (i : Int)), (0, pT q), (1, .int .i64 s), (2, .slice A n c)]) (fun i w' => Ext w w' ∧ i ≤ n ∧ chk none l = chkAt l i) (fun i => n - i) 0 (.c rfl (.c rfl (.c rfl (.c rfl (.n))))) ⟨Mod.refl _ _, Nat.zero_le _, (chkAt_zero l).symm⟩ ?_
  rintro i w1 ⟨e1, hi, hck⟩ ih
  have r1 := hr.be e1
  by_cases hlt : i < n
  · have hsu := chkAt_succ l i (by omega)
    have hv0 : (rowV lkV l)[i * 2 + 0]? = some (.string (ofL (l.getD i lk0).1)) := rowV_at lkV_len l i 0 lk0 (by omega) (by omega)
    have hm : l.getD i lk0 ∈ l := by rw [List.getD_eq_getElem?_getD, List.getElem?_eq_getElem (by omega)]; exact List.getElem_mem _
    have hkx := hk _ hm
    have hpv : i ≠ 0 → (rowV lkV l)[(i - 1) * 2 + 0]? = some (.string (ofL (l.getD (i - 1) lk0).1)) := fun q => rowV_at lkV_len l (i - 1) 0 lk0 (by omega) (by omega)
    obtain ⟨z, hzz⟩ : ∃ x, l.getD i lk0 = x := ⟨_, rfl⟩
    obtain ⟨y, hy⟩ : ∃ x, l.getD (i - 1) lk0 = x := ⟨_, rfl⟩
    rw [hzz, hy] at hsu
    rw [hzz] at hv0 hkx
    rw [hy] at hpv
    have hA : A ≠ none := by obtain ⟨_, _, hq, _⟩ := r1.2 (by omega); rw [hq]; simp
    repeat (first | refine T_seq ?_ | refine T_region ?_ | refine T_cond_true rfl ?_ | refine T_block ?_ | refine T_skip ?_ | refine TL_lt_t (hk := ?_) | refine TL_nil ?_ | refine TL_move (hk := ?_) | refine TL_load_rd TE (hk := ?_) | refine TL_fieldAddr_e TE (hk := ?_) | refine TL_indexAddrn TE (hk := ?_) | refine TL_len TE (hk := ?_))
    refine TL_call TE (hc := RValid_c z.1 hkx _) (hk := ?_)
    rintro _ _ ⟨rfl, rfl⟩
    by_cases hvd : validT z.1 = false
    · rw [hvd]
      rw [if_pos hvd] at hsu
      clear ih
      repeat (first | refine T_seq ?_ | refine T_region ?_ | refine T_cond_true rfl ?_ | refine TL_nil ?_ | refine TL_assign (hk := ?_) | refine TL_not (hk := ?_))
      exact T_ret1 rfl rfl ⟨by rw [hv, hck, hsu]; rfl, hret _ e1 (by rw [hv, hck, hsu]; decide)⟩
    · have hv' : validT z.1 = true := by simpa using hvd
      rw [hv']
      rw [if_neg hvd] at hsu
      by_cases h0 : i = 0
      · subst h0
        rw [if_neg (fun q => q.1 rfl)] at hsu
        repeat (first | refine T_seq ?_ | refine T_region_q TE.mixed (by kernel_rfl) ?_ | refine T_cond_false rfl ?_ | refine T_skip ?_ | refine TL_gt_f (hk := ?_) | refine TL_nil ?_ | refine TL_move (hk := ?_) | refine TL_no (hk := ?_) | refine TL_pick_f (hk := ?_) | refine TL_not (hk := ?_))
        refine TL_nil_q ?_; intro w4 e4
        repeat (first | refine T_region ?_ | refine T_cond_false rfl ?_ | refine T_inBlock ?_ | refine T_skip ?_ | refine TL_add (hk := ?_) | refine TL_nil ?_ | refine TL_move (hk := ?_) | refine TL_assign (hk := ?_))
        exact ih (0 + 1) _ _ (by omega) ⟨e1.ext e4, by omega, by rw [hck, hsu]⟩ (.c rfl (.c rfl (.c rfl (.c rfl (.n)))))
      · have h0' : 0 < (i : Int) := by omega
        have hpv := hpv h0
        have hi1 : (i : Int) - 1 = ((i - 1 : Nat) : Int) := by omega
        by_cases hle : z.1 ≤ y.1
        · rw [if_pos ⟨h0, hle⟩] at hsu
          clear ih
          repeat (first | refine T_seq ?_ | refine T_region_q TE.mixed (by kernel_rfl) ?_ | refine T_cond_false rfl ?_ | refine T_skip ?_ | refine TL_sub (hk := ?_) | refine TL_gt_t (hk := ?_) | refine TL_nil ?_ | refine TL_move (hk := ?_) | refine TL_fieldAddr_e TE (hk := ?_) | refine TL_indexAddr TE (hk := ?_) | refine TL_yes (hk := ?_) | refine TL_not (hk := ?_))
          rw [hi1]
          repeat (first | refine TL_sge_t (hk := ?_) | refine TL_move (hk := ?_) | refine TL_load_rd TE (hk := ?_) | refine TL_fieldAddr_e TE (hk := ?_) | refine TL_indexAddrn TE (hk := ?_) | refine TL_yes (hk := ?_) | refine TL_pick_t (hk := ?_))
          refine TL_nil_q ?_; intro w4 e4
          repeat (first | refine T_seq ?_ | refine T_region ?_ | refine T_cond_true rfl ?_ | refine TL_nil ?_ | refine TL_assign (hk := ?_))
          exact T_ret1 rfl rfl ⟨by rw [hv, hck, hsu]; rfl, hret _ (e1.ext e4) (by rw [hv, hck, hsu]; decide)⟩
        · rw [if_neg (fun q => hle q.2)] at hsu
          repeat (first | refine T_seq ?_ | refine T_region_q TE.mixed (by kernel_rfl) ?_ | refine T_cond_false rfl ?_ | refine T_skip ?_ | refine TL_sub (hk := ?_) | refine TL_gt_t (hk := ?_) | refine TL_nil ?_ | refine TL_move (hk := ?_) | refine TL_fieldAddr_e TE (hk := ?_) | refine TL_indexAddr TE (hk := ?_) | refine TL_yes (hk := ?_) | refine TL_not (hk := ?_))
          rw [hi1]
          repeat (first | refine TL_sge_f (hk := ?_) | refine TL_move (hk := ?_) | refine TL_load_rd TE (hk := ?_) | refine TL_fieldAddr_e TE (hk := ?_) | refine TL_indexAddrn TE (hk := ?_) | refine TL_yes (hk := ?_) | refine TL_pick_t (hk := ?_))
          refine TL_nil_q ?_; intro w4 e4
          repeat (first | refine T_region ?_ | refine T_cond_false rfl ?_ | refine T_inBlock ?_ | refine T_skip ?_ | refine TL_add (hk := ?_) | refine TL_nil ?_ | refine TL_move (hk := ?_) | refine TL_assign (hk := ?_))
          exact ih (i + 1) _ _ (by omega) ⟨e1.ext e4, by omega, by rw [hck, hsu]⟩ (.c rfl (.c rfl (.c rfl (.c rfl (.n)))))
  · have hin : i = l.length := by omega
    rw [hin, chkAt_end] at hck
    clear ih
    have h1 := h.ext e1
    have hb1 := h1.rf.blk
    have hv0 : renqE last s l = 0 := by rw [hv]; exact hck
    clear hb hret
    repeat (first | refine T_seq ?_ | refine T_region ?_ | refine T_cond_false rfl ?_ | refine T_exit rfl ?_ | refine TL_lt_f (hk := ?_) | refine TL_nil ?_ | refine TL_move (hk := ?_) | refine TL_fieldAddr TE (hk := ?_) | refine TL_len TE (hk := ?_) | refine TL_nilCheck (hk := ?_))
    refine TL_store TE (hk := ?_); intro w2 m2 z2 k2
    replace k2 : Blk w2 q 88 [sL x, .int .i64 s] := k2
    obtain ⟨h2, t2⟩ := h1.num m2 k2
    have r2 : Rd w2 A n 2 (rowV lkV l) := ⟨r1.1, fun hn0 => (r1.mod m2 (off_ofL fun b hb hq => by rw [List.mem_singleton.1 hq] at hb; have := hz hn0 q hb; rw [h.gq] at this; cases this)).2 hn0⟩
    have hqx : q ∉ blkL x.1 := fun hq => by have := h.gx q hq; rw [h.gq] at this; cases this
    have hxl := h.rf.len
    have hqlt := h2.old q (by rw [h.gq]; decide)
    have hone := rowV_one lkV_one l
    clear h1 hb1 r1 hr
    repeat (first | refine T_seq ?_ | refine TL_nil ?_)
    refine T_region_anyz TE.mixed (blkL x.1) (some 14) ?_; intro w3 e3 z3
    have k3 := k2.be e3
    have r3 := r2.be e3
    have h3 := h2.ext e3
    (refine TA_take 0 rfl (by kernel_rfl) (by kernel_rfl) (by kernel_rfl) ?_; (repeat (first | refine TL_move (hk := ?_) | refine TLP_load TE (hk := ?_) | refine TL_fieldAddr TE (hk := ?_) | refine TL_nilCheck (hk := ?_))); refine TL_nil_p ?_); (refine TA_take 1 rfl (by kernel_rfl) (by kernel_rfl) (by kernel_rfl) ?_; (repeat (first | refine TL_move (hk := ?_) | refine TLP_load TE (hk := ?_) | refine TL_fieldAddr TE (hk := ?_) | refine TL_nilCheck (hk := ?_))); refine TL_nil_p ?_); (refine TA_take 2 rfl (by kernel_rfl) (by kernel_rfl) (by kernel_rfl) ?_; (repeat (first | refine TL_move (hk := ?_) | refine TLP_load TE (hk := ?_) | refine TL_fieldAddr TE (hk := ?_) | refine TL_nilCheck (hk := ?_))); refine TL_nil_p ?_); (refine TA_take 3 rfl (by kernel_rfl) (by kernel_rfl) (by kernel_rfl) ?_; (repeat (first | refine TL_move (hk := ?_) | refine TLP_load TE (hk := ?_) | refine TL_fieldAddr TE (hk := ?_) | refine TL_nilCheck (hk := ?_))); refine TL_nil_p ?_); (refine TA_take 4 rfl (by kernel_rfl) (by kernel_rfl) (by kernel_rfl) ?_; (repeat (first | refine TL_move (hk := ?_) | refine TLP_load TE (hk := ?_) | refine TL_fieldAddr TE (hk := ?_) | refine TL_nilCheck (hk := ?_))); refine TL_nil_p ?_); (refine TA_take 5 rfl (by kernel_rfl) (by kernel_rfl) (by kernel_rfl) ?_; (repeat (first | refine TL_move (hk := ?_) | refine TLP_load TE (hk := ?_) | refine TL_fieldAddr TE (hk := ?_) | refine TL_nilCheck (hk := ?_))); refine TL_nil_p ?_); (refine TA_take 7 rfl (by kernel_rfl) (by kernel_rfl) (by kernel_rfl) ?_; (repeat (first | refine TL_move (hk := ?_) | refine TLP_load TE (hk := ?_) | refine TL_fieldAddr TE (hk := ?_) | refine TL_nilCheck (hk := ?_))); refine TL_nil_p ?_)
    refine TA_one 6 rfl (by kernel_rfl) (by kernel_rfl) ?_
    refine TL_buildSlice0 TE (hf := rfl) (hq := fun w' h => Ext.un h) (hk := ?_); intro b4 w4 e4 h4 h4' k4
    have o4 : Own w4 w3.heap.size 61 2 (some ⟨b4, 0, none⟩) 0 0 [] := Own.of_blk k4 h4 rfl (by decide)
    have r4 := r3.be e4
    refine TL_nil_p ?_
    refine TA_one 8 rfl (by kernel_rfl) (by kernel_rfl) ?_
    refine TL_append TE (ho := o4) (hr := r4) (h1 := hone) (hf := rfl) (hq := fun w' m => Ext.un (Mod.own e4 m o4.hi)) (hk := ?_); intro A5 c5 w5 o5 m5 n5
    rw [List.nil_append] at o5
    have e35 : Ext w3 w5 := Mod.own e4 m5 o4.hi
    have z35 := e35.size
    refine TL_nil_p ?_
    (refine TA_take 9 rfl (by kernel_rfl) (by kernel_rfl) (by kernel_rfl) ?_; (repeat (refine TL_build TE (hk := ?_))); refine TL_nil_p ?_)
    refine TA_one 10 rfl (by kernel_rfl) (by kernel_rfl) ?_
    refine TL_buildSliceA TE (hf := rfl) (hq := fun w' h => (Ext.un e35).ext h) (hk := ?_); intro b6 w6 e6 h6 h6' k6
    replace k6 : Blk w6 b6 91 (rowV weV [⟨s, A5, 0 + n, c5, l⟩]) := k6
    have r6 : Rd w6 (some ⟨b6, 0, none⟩) 1 2 (rowV weV [⟨s, A5, 0 + n, c5, l⟩]) := Rd.blk k6 rfl
    have e36 := e35.ext e6
    have ox := Own.be e36 h3.own
    refine TL_nil_p ?_
    refine TA_one 11 rfl (by kernel_rfl) (by kernel_rfl) ?_
    refine TL_append TE (ho := ox) (hr := r6) (h1 := rowV_one weV_one _) (hf := rfl) (hq := fun w' m => (Ext.un e36).trans m) (hk := ?_); intro A7 c7 w7 o7 m7 n7
    rw [← rowV_append] at o7
    have k7 := (k3.be e36).mod m7 hqx
    have z37 := e36.size
    have z67 := m7.size
    refine TL_nil_p ?_
    (refine TA_one 12 rfl (by kernel_rfl) (by kernel_rfl) ?_; (repeat (first | refine TL_fieldAddr TE (hk := ?_) | refine TL_nilCheck (hk := ?_))); refine TL_nil_p ?_); (refine TA_one 13 rfl (by kernel_rfl) (by kernel_rfl) ?_; (repeat (first | refine TL_fieldAddr TE (hk := ?_) | refine TL_nilCheck (hk := ?_))); refine TL_nil_p ?_)
    refine TA_one 14 rfl (by kernel_rfl) (by kernel_rfl) ?_
    refine TL_store TE (hk := ?_); intro w8 m8 z8 k8
    refine TL_nil_z (by kernel_rfl) ?_
    have o5' : LRow w6 w3.heap.size (A5, 0 + n, c5) l := Own.be e6 o5
    obtain ⟨g8, h8, t8⟩ := h3.put (s := s) (z := (A5, 0 + n, c5)) (y := (A7, x.2.1 + 1, c7)) (l := l) (by omega) (by simp only; omega) e36 o5' m7 o7 n7 m8 k8
    repeat (first | refine T_seq ?_ | refine T_region ?_ | refine TL_nil ?_ | refine TL_assign (hk := ?_))
    refine T_ret1 rfl rfl ⟨by rw [hv0]; rfl, _, _, _, g8, h8, (((Tn.ext e1).trans t2).trans (Tn.ext e3)).trans t8, fun _ => ⟨by simp [entW], rfl⟩, fun y => absurd hv0 y⟩
theorem RRelease_c (s : Int) (w : World) (h : RtM w base q x last es g) :
    Ret Try.prog 29 [pT q, .int .i64 s] w (fun v w' => v = .int .i64 (rrelE es s : Int) ∧ ∃ x' es' g', RtM w' base q x' last es' g' ∧ Tn g g' w w' ∧ (rrelE es s = 0 → es' = es.take (atW es s).toNat ++ es.drop ((atW es s).toNat + 1)) ∧ (rrelE es s ≠ 0 → es' = es)) := by
  have hln := h.rf.ln
  have hret : ∀ w', Ext w w' → rrelE es s ≠ 0 → ∃ x' es' g', RtM w' base q x' last es' g' ∧ Tn g g' w w' ∧ (rrelE es s = 0 → es' = es.take (atW es s).toNat ++ es.drop ((atW es s).toNat + 1)) ∧ (rrelE es s ≠ 0 → es' = es) := fun w' e hne => ⟨x, es, g, h.ext e, Tn.ext e, fun y => absurd y hne, fun _ => rfl⟩
  refine ret_T (n := 34) Try.func29 rfl rfl ?_
  repeat (first | refine T_seq ?_ | refine T_region ?_ | refine TL_nil ?_ | refine TL_move (hk := ?_) | refine TL_assign (hk := ?_))
  refine TL_call TE (hc := at_c14 s _ h.rf) (hk := ?_)
  rintro _ w ⟨rfl, rfl⟩
  by_cases h0 : 0 ≤ atW es s
  · obtain ⟨h1, h2⟩ := atW_lt h0
    have hr : rrelE es s = if rdB es (atW es s).toNat = true then 0 else 141 := if_pos h0
    generalize (atW es s).toNat = p at h1 h2 hr hret
    rw [h2]
    repeat (first | refine T_seq ?_ | refine T_region ?_ | refine T_cond_false rfl ?_ | refine T_skip ?_ | refine TL_lt_f (hk := ?_) | refine TL_nil ?_ | refine TL_move (hk := ?_) | refine TL_assign (hk := ?_))
    refine TL_call TE (hc := ready_c14 p _ h.rf h1) (hk := ?_)
    rintro _ w1 ⟨rfl, e1⟩
    cases hrd : rdB es p with
    | false =>
      rw [hrd] at hr
      repeat (first | refine T_seq ?_ | refine T_region ?_ | refine T_cond_true rfl ?_ | refine TL_nil ?_ | refine TL_assign (hk := ?_) | refine TL_not (hk := ?_))
      exact T_ret1 rfl rfl ⟨by rw [hr]; rfl, hret _ e1 (by rw [hr]; decide)⟩
    | true =>
      rw [hrd, if_pos rfl] at hr
      have hh := h.ext e1
      have hb1 := hh.rf.blk
      have hxl := hh.rf.len
      have hcap := hh.own.cap
      unfold maxLen at hcap
      have hc1 : (p : Int) + 1 = ((p + 1 : Nat) : Int) := by omega
      have hqn : q ∉ ([] : List Nat) := by simp
      clear hret
      repeat (first | refine T_seq ?_ | refine T_cond_false rfl ?_ | refine T_skip ?_ | refine TL_nil ?_ | refine TL_not (hk := ?_))
      refine T_region_anyz TE.mixed ([] : List Nat) (some 19) ?_; intro w3 e3 z3
      have k3 := hb1.be e3
      have h3 := hh.ext e3
      have R3 := h3.rf.rd
      have rt := R3.take (h := p) (by omega)
      rw [rowV_take weV_len] at rt
      have rc := R3.cut (c := x.2.2) (l := p + 1) (h := x.2.1) (by omega) (Nat.le_refl _) hcap.1
      rw [rowV_drop weV_len, List.take_of_length_le (by rw [rowV_len weV_len, List.length_drop]; have : es.length = x.2.1 := hxl; rw [this]; exact Nat.le_refl _)] at rc
      (refine TA_take 0 rfl (by kernel_rfl) (by kernel_rfl) (by kernel_rfl) ?_; (repeat (first | refine TL_add (hk := ?_) | refine TL_move (hk := ?_) | refine TLP_load TE (hk := ?_) | refine TL_fieldAddr TE (hk := ?_) | refine TL_nilCheck (hk := ?_) | refine TL_slice_hi TE (hk := ?_))); refine TL_nil_p ?_); (refine TA_take 2 rfl (by kernel_rfl) (by kernel_rfl) (by kernel_rfl) ?_; (repeat (first | refine TL_add (hk := ?_) | refine TL_move (hk := ?_) | refine TLP_load TE (hk := ?_) | refine TL_fieldAddr TE (hk := ?_) | refine TL_nilCheck (hk := ?_) | refine TL_slice_hi TE (hk := ?_))); refine TL_nil_p ?_); (refine TA_take 3 rfl (by kernel_rfl) (by kernel_rfl) (by kernel_rfl) ?_; (repeat (first | refine TL_add (hk := ?_) | refine TL_move (hk := ?_) | refine TLP_load TE (hk := ?_) | refine TL_fieldAddr TE (hk := ?_) | refine TL_nilCheck (hk := ?_) | refine TL_slice_hi TE (hk := ?_))); refine TL_nil_p ?_); (refine TA_take 4 rfl (by kernel_rfl) (by kernel_rfl) (by kernel_rfl) ?_; (repeat (first | refine TL_add (hk := ?_) | refine TL_move (hk := ?_) | refine TLP_load TE (hk := ?_) | refine TL_fieldAddr TE (hk := ?_) | refine TL_nilCheck (hk := ?_) | refine TL_slice_hi TE (hk := ?_))); refine TL_nil_p ?_); (refine TA_take 5 rfl (by kernel_rfl) (by kernel_rfl) (by kernel_rfl) ?_; (repeat (first | refine TL_add (hk := ?_) | refine TL_move (hk := ?_) | refine TLP_load TE (hk := ?_) | refine TL_fieldAddr TE (hk := ?_) | refine TL_nilCheck (hk := ?_) | refine TL_slice_hi TE (hk := ?_))); refine TL_nil_p ?_); (refine TA_take 6 rfl (by kernel_rfl) (by kernel_rfl) (by kernel_rfl) ?_; (repeat (first | refine TL_add (hk := ?_) | refine TL_move (hk := ?_) | refine TLP_load TE (hk := ?_) | refine TL_fieldAddr TE (hk := ?_) | refine TL_nilCheck (hk := ?_) | refine TL_slice_hi TE (hk := ?_))); refine TL_nil_p ?_); (refine TA_take 7 rfl (by kernel_rfl) (by kernel_rfl) (by kernel_rfl) ?_; (repeat (first | refine TL_add (hk := ?_) | refine TL_move (hk := ?_) | refine TLP_load TE (hk := ?_) | refine TL_fieldAddr TE (hk := ?_) | refine TL_nilCheck (hk := ?_) | refine TL_slice_hi TE (hk := ?_))); refine TL_nil_p ?_); (refine TA_take 9 rfl (by kernel_rfl) (by kernel_rfl) (by kernel_rfl) ?_; (repeat (first | refine TL_add (hk := ?_) | refine TL_move (hk := ?_) | refine TLP_load TE (hk := ?_) | refine TL_fieldAddr TE (hk := ?_) | refine TL_nilCheck (hk := ?_) | refine TL_slice_hi TE (hk := ?_))); refine TL_nil_p ?_); (refine TA_take 10 rfl (by kernel_rfl) (by kernel_rfl) (by kernel_rfl) ?_; (repeat (first | refine TL_add (hk := ?_) | refine TL_move (hk := ?_) | refine TLP_load TE (hk := ?_) | refine TL_fieldAddr TE (hk := ?_) | refine TL_nilCheck (hk := ?_) | refine TL_slice_hi TE (hk := ?_))); refine TL_nil_p ?_); (refine TA_take 11 rfl (by kernel_rfl) (by kernel_rfl) (by kernel_rfl) ?_; (repeat (first | refine TL_add (hk := ?_) | refine TL_move (hk := ?_) | refine TLP_load TE (hk := ?_) | refine TL_fieldAddr TE (hk := ?_) | refine TL_nilCheck (hk := ?_) | refine TL_slice_hi TE (hk := ?_))); refine TL_nil_p ?_); (refine TA_take 12 rfl (by kernel_rfl) (by kernel_rfl) (by kernel_rfl) ?_; (repeat (first | refine TL_add (hk := ?_) | refine TL_move (hk := ?_) | refine TLP_load TE (hk := ?_) | refine TL_fieldAddr TE (hk := ?_) | refine TL_nilCheck (hk := ?_) | refine TL_slice_hi TE (hk := ?_))); refine TL_nil_p ?_); (refine TA_take 13 rfl (by kernel_rfl) (by kernel_rfl) (by kernel_rfl) ?_; (repeat (first | refine TL_add (hk := ?_) | refine TL_move (hk := ?_) | refine TLP_load TE (hk := ?_) | refine TL_fieldAddr TE (hk := ?_) | refine TL_nilCheck (hk := ?_) | refine TL_slice_hi TE (hk := ?_))); refine TL_nil_p ?_); (refine TA_take 14 rfl (by kernel_rfl) (by kernel_rfl) (by kernel_rfl) ?_; (repeat (first | refine TL_add (hk := ?_) | refine TL_move (hk := ?_) | refine TLP_load TE (hk := ?_) | refine TL_fieldAddr TE (hk := ?_) | refine TL_nilCheck (hk := ?_) | refine TL_slice_hi TE (hk := ?_))); refine TL_nil_p ?_)
      rw [hc1]
      (refine TA_take 15 rfl (by kernel_rfl) (by kernel_rfl) (by kernel_rfl) ?_; (repeat (refine TL_slice_lo TE (hk := ?_))); refine TL_nil_p ?_)
      refine TA_one 1 rfl (by kernel_rfl) (by kernel_rfl) ?_
      refine TL_buildSlice0 TE (hf := rfl) (hq := fun w' h => Ext.un h) (hk := ?_); intro b4 w4 e4 h4 h4' k4
      have o4 : Own w4 w3.heap.size 91 2 (some ⟨b4, 0, none⟩) 0 0 [] := Own.of_blk k4 h4 rfl (by decide)
      refine TL_nil_p ?_
      refine TA_one 8 rfl (by kernel_rfl) (by kernel_rfl) ?_
      refine TL_append TE (ho := o4) (hr := rt.be e4) (h1 := rowV_one weV_one _) (hf := rfl) (hq := fun w' m => Ext.un (Mod.own e4 m o4.hi)) (hk := ?_); intro A5 c5 w5 o5 m5 n5
      rw [List.nil_append] at o5
      have e35 : Ext w3 w5 := Mod.own e4 m5 o4.hi
      have z35 := e35.size
      refine TL_nil_p ?_
      refine TA_one 16 rfl (by kernel_rfl) (by kernel_rfl) ?_
      refine TL_append TE (ho := o5) (hr := rc.be e35) (h1 := rowV_one weV_one _) (hf := rfl) (hq := fun w' m => Ext.un (Mod.own e35 m o5.hi)) (hk := ?_); intro A6 c6 w6 o6 m6 n6
      rw [← rowV_append] at o6
      have e36 : Ext w3 w6 := Mod.own e35 m6 o5.hi
      have k6 := k3.be e36
      refine TL_nil_p ?_
      (refine TA_one 17 rfl (by kernel_rfl) (by kernel_rfl) ?_; (repeat (first | refine TL_fieldAddr TE (hk := ?_) | refine TL_nilCheck (hk := ?_))); refine TL_nil_p ?_); (refine TA_one 18 rfl (by kernel_rfl) (by kernel_rfl) ?_; (repeat (first | refine TL_fieldAddr TE (hk := ?_) | refine TL_nilCheck (hk := ?_))); refine TL_nil_p ?_)
      refine TA_one 19 rfl (by kernel_rfl) (by kernel_rfl) ?_
      refine TL_store TE (hk := ?_); intro w8 m8 z8 k8
      refine TL_nil_z (by kernel_rfl) ?_
      obtain ⟨g8, h8, t8⟩ := h3.sub (y := (A6, _, c6)) (es' := es.take p ++ es.drop (p + 1)) e36 (fun e he => by
        rcases List.mem_append.1 he with he | he
        · exact List.mem_of_mem_take he
        · exact List.mem_of_mem_drop he) (by simp only [List.length_append, List.length_take, List.length_drop]; omega) o6 m8 k8
      repeat (first | refine T_seq ?_ | refine T_region ?_ | refine TL_nil ?_ | refine TL_assign (hk := ?_))
      exact T_ret1 rfl rfl ⟨by rw [hr]; rfl, _, _, g8, h8, ((Tn.ext e1).trans (Tn.ext e3)).trans t8, fun _ => rfl, fun y => absurd hr y⟩
  · have hr : rrelE es s = 7 := if_neg h0
    rw [atW_neg h0] at hret ⊢
    repeat (first | refine T_seq ?_ | refine T_region ?_ | refine T_cond_true rfl ?_ | refine TL_lt_t (hk := ?_) | refine TL_nil ?_ | refine TL_move (hk := ?_) | refine TL_assign (hk := ?_))
    exact T_ret1 rfl rfl ⟨by rw [hr]; rfl, hret _ (Mod.refl _ _) (by rw [hr]; decide)⟩
end
end Go.Proofs.Ytomabcbemokijaa

namespace Go.Proofs.Ytomabcbemokijaa
open Go.RowKit Go.Proofs.Eng Go.Proofs.Foot Go.Proofs.Locks
set_option linter.unusedSimpArgs false
set_option linter.unusedVariables false set_option maxRecDepth 10000
attribute [local irreducible] T TL LV TH TA
set_option maxHeartbeats 3200000
def sl0 : SL := (none, 0, 0)
/-- A row of lists of numbers, each its own. -/
structure ListsM (w : World) (base : Nat) (O : SL) (xs : List SL) (g : Nat → Nat) : Prop where
  own : Own w base 43 1 O.1 O.2.1 O.2.2 (xs.map sL)
  el : ∀ i, i < xs.length → ∃ l, IRow w base (xs.getD i sl0) l
  gO : ∀ b ∈ blkL O.1, g b = 1
  gx : ∀ i, i < xs.length → ∀ b ∈ blkL (xs.getD i sl0).1, g b = i + 2
  old : ∀ b, g b ≠ 0 → base ≤ b ∧ b < w.heap.size
section
variable {w w' : World} {base : Nat} {O : SL} {xs : List SL} {g : Nat → Nat}
theorem ListsM.len (h : ListsM w base O xs g) : xs.length = O.2.1 := by have := h.own.len; simpa using this
theorem ListsM.mod (h : ListsM w base O xs g) {S : List Nat} (hm : Eng.Mod S w w') (hS : ∀ b ∈ S, g b = 0) : ListsM w' base O xs g :=
  have nin : ∀ b k, g b = k + 1 → b ∉ S := fun b k e q => by rw [hS b q] at e; cases e
  { h with
    own := h.own.modL hm (fun b hb => nin b 0 (h.gO b hb))
    el := fun i hi => (h.el i hi).imp fun l hl => hl.modL hm (fun b hb => nin b _ (h.gx i hi b hb))
    old := fun b hb => by have := h.old b hb; have := hm.size; omega }
theorem ListsM.ext (h : ListsM w base O xs g) (e : Ext w w') : ListsM w' base O xs g := h.mod e (fun b hb => by cases hb)
theorem getD_snoc {α : Type} {l : List α} {x d : α} {i : Nat} (hi : i < (l ++ [x]).length) : (i < l.length ∧ (l ++ [x]).getD i d = l.getD i d) ∨ (i = l.length ∧ (l ++ [x]).getD i d = x) := by
  simp only [List.length_append, List.length_cons, List.length_nil] at hi
  by_cases q : i < l.length
  · exact .inl ⟨q, by simp [List.getD_eq_getElem?_getD, List.getElem?_append_left q]⟩
  · have : i = l.length := by omega
    subst this
    exact .inr ⟨rfl, by simp [List.getD_eq_getElem?_getD]⟩
theorem ListsM.add (h : ListsM w base O xs g) {x y : SL} {l : List Int} {w1 w2 w3 : World} (hbw : base ≤ w.heap.size) (e1 : Ext w w1) (hx : IRow w1 w.heap.size x l) (e2 : Ext w1 w2) (m3 : Eng.Mod (blkL O.1) w2 w3) (hy : Own w3 base 43 1 y.1 y.2.1 y.2.2 (xs.map sL ++ [sL x])) (hn : Near O.1 y.1 w2) :
    ∃ g', ListsM w3 base y (xs ++ [x]) g' := by
  have z1 := e1.size
  have z2 := e2.size
  have z3 := m3.size
  have hyo : ∀ b ∈ blkL y.1, b ∈ blkL O.1 ∨ w2.heap.size ≤ b := hn.mem
  have hxl : ∀ b ∈ blkL x.1, w.heap.size ≤ b ∧ b < w1.heap.size := fun b hb => hx.bl b hb
  have hg0 : ∀ b, w.heap.size ≤ b → g b = 0 := fun b q => by
    by_cases y : g b = 0
    · exact y
    · have := (h.old b y).2; omega
  have hxO : ∀ b ∈ blkL x.1, b ∉ blkL O.1 := fun b hb q => by have := h.gO b q; have := hg0 b (hxl b hb).1; omega
  have hxy : ∀ b ∈ blkL x.1, b ∉ blkL y.1 := fun b hb q => by
    rcases hyo b q with h1 | h1
    · exact hxO b hb h1
    · have := hxl b hb; omega
  let g' := updO (updO g (blkL y.1) 1) (blkL x.1) (xs.length + 2)
  have keep : ∀ b k, g b = k + 2 → g' b = k + 2 := fun b k e => by
    have hlt := (h.old b (by omega)).2
    show updO _ _ _ b = _
    rw [updO_out (fun q => by have := (hxl b q).1; omega), updO_out (fun q => by
      rcases hyo b q with h1 | h1
      · have := h.gO b h1; omega
      · omega)]
    exact e
  have e03 : ∀ {A : Option Addr} {n c s : Nat} {e : TypeId} {cs : List Value} {B : Nat}, Own w B e s A n c cs → (∀ b ∈ blkL A, b ∉ blkL O.1) → Own w3 B e s A n c cs := fun ho hb => (Own.be (e1.ext e2) ho).modL m3 hb
  refine ⟨g', by simpa using hy, fun i hi => ?_, fun b hb => ?_, fun i hi b hb => ?_, fun b hb => ?_⟩
  · rcases getD_snoc (d := sl0) hi with ⟨q, e⟩ | ⟨q, e⟩
    · rw [e]
      obtain ⟨l', hl'⟩ := h.el i q
      exact ⟨l', e03 hl' (fun b hb hO => by have := h.gx i q b hb; have := h.gO b hO; omega)⟩
    · rw [e]
      exact ⟨l, ((Own.be e2 hx).weaken hbw).modL m3 hxO⟩
  · show updO _ _ _ b = _
    rw [updO_out (fun q => hxy b q hb), updO_in hb]
  · rcases getD_snoc (d := sl0) hi with ⟨q, e⟩ | ⟨q, e⟩
    · rw [e] at hb
      exact keep b i (h.gx i q b hb)
    · rw [e] at hb
      show updO _ _ _ b = _
      rw [updO_in hb, q]
  · by_cases q1 : b ∈ blkL x.1
    · have := hxl b q1; omega
    · replace hb : updO _ _ _ b ≠ 0 := hb
      rw [updO_out q1] at hb
      by_cases q2 : b ∈ blkL y.1
      · exact hy.bl b q2
      · rw [updO_out q2] at hb
        have := h.old b hb; omega
theorem ListsM.set (h : ListsM w base O xs g) {i : Nat} (hi : i < xs.length) {l' : List Int} (hm : Eng.Mod (blkL (xs.getD i sl0).1) w w') (hx : IRow w' base (xs.getD i sl0) l') : ListsM w' base O xs g :=
  { h with
    own := h.own.modL hm (fun b hb q => by have := h.gO b hb; have := h.gx i hi b q; omega)
    el := fun j hj => by
      by_cases e : j = i
      · subst e; exact ⟨l', hx⟩
      · exact (h.el j hj).imp fun l hl => hl.modL hm (fun b hb q => by have := h.gx j hj b hb; have := h.gx i hi b q; omega)
    old := fun b hb => by have := h.old b hb; have := hm.size; omega }
theorem ListsM.two {x y : SL} {a b : List Int} {w1 w2 w3 : World} {b3 : Nat} (e1 : Ext w w1) (hx : IRow w1 w.heap.size x a) (e2 : Ext w1 w2) (hy : IRow w2 w1.heap.size y b) (e3 : Ext w2 w3) (h3 : w2.heap.size ≤ b3) (k3 : Blk w3 b3 43 [sL x, sL y]) :
    ∃ g, ListsM w3 w.heap.size (some ⟨b3, 0, none⟩, 2, 2) [x, y] g := by
  have z1 := e1.size
  have z2 := e2.size
  have z3 := e3.size
  have hl := k3.lt
  have hxl : ∀ b ∈ blkL x.1, w.heap.size ≤ b ∧ b < w1.heap.size := fun b hb => hx.bl b hb
  have hyl : ∀ b ∈ blkL y.1, w1.heap.size ≤ b ∧ b < w2.heap.size := fun b hb => hy.bl b hb
  refine ⟨updO (updO (updO (fun _ => 0) [b3] 1) (blkL x.1) 2) (blkL y.1) 3, Own.of_blk k3 (by omega) rfl (by show 2 ≤ maxLen; decide), fun i hi => ?_, fun b hb => ?_, fun i hi b hb => ?_, fun b hb => ?_⟩
  · match i, hi with
    | 0, _ => exact ⟨a, Own.be e3 (Own.be e2 hx)⟩
    | 1, _ => exact ⟨b, (Own.be e3 hy).weaken z1⟩
  · simp only [blkL, List.mem_singleton] at hb
    rw [updO_out (fun q => by have := hyl b q; omega), updO_out (fun q => by have := hxl b q; omega), updO_in (by simp [hb])]
  · match i, hi with
    | 0, _ =>
      replace hb : b ∈ blkL x.1 := hb
      rw [updO_out (fun q => by have := hyl b q; have := hxl b hb; omega), updO_in hb]
    | 1, _ =>
      replace hb : b ∈ blkL y.1 := hb
      rw [updO_in hb]
  · by_cases q1 : b ∈ blkL y.1
    · have := hyl b q1; omega
    · rw [updO_out q1] at hb
      by_cases q2 : b ∈ blkL x.1
      · have := hxl b q2; omega
      · rw [updO_out q2] at hb
        by_cases q3 : b ∈ [b3]
        · rw [List.mem_singleton] at q3; omega
        · rw [updO_out q3] at hb; exact absurd rfl hb
end
theorem iv_set (l : List Int) (j : Nat) (z : Int) : (iv l).set j (.int .i64 z) = iv (l.set j z) := by simp [iv, List.map_set]
section
variable {base N : Nat} {m : LM} {f : Nat → Ow} {t : LS}
theorem spoilt_c14 (B C : Option Addr) (kn kc sn sc : Nat) (ks : List Tx) (sq : List Int) (w : World) (h : TabM w base m f (qOf t.E) t.E t.nx) (ok : OkT N t) (hN : N ≤ 100000)
    (hB : Rd w B kn 1 (sv ks)) (hC : Rd w C sn 1 (iv sq)) (hkn : kn ≤ 1000000) (hsn : sn ≤ 1000000) :
    Ret Try.prog 32 [pT m.p, .slice B kn kc, .slice C sn sc] w (fun v w' => Ext w w') := by
  have hskl : ks.length = kn := by have := hB.1; simpa [sv] using this
  have hsql : sq.length = sn := by have := hC.1; rw [iv_len] at this; omega
  have hwl := fun s => waits_len t s
  have hql := fun k => queueE_len t k
  have hqo := fun k => qOf_len (E := t.E) (k := k)
  have hln := ok.ln
  refine ret_T (n := 85) Try.func32 rfl rfl ?_
  repeat (first | refine T_seq ?_ | refine T_region ?_ | refine TL_move (hk := ?_))
  refine TL_call TE (hc := All_c w h ok hN) (hk := ?_)
  rintro _ w1 ⟨x1, rfl, e1, r1⟩
  repeat (refine TL_move (hk := ?_))
  refine TL_call TE (hc := Readies_c w1 (h.ext e1) ok hN) (hk := ?_)
  rintro _ w2 ⟨x2, rfl, e2, r2⟩
  --
  refine TL_buildSlice TE (hk := ?_); intro b3 w3 e3 h3 h3' k3
  obtain ⟨g3, L3⟩ := ListsM.two e1 r1 e2 r2 e3 h3 k3
  have E3 := (e1.ext e2).ext e3
  have hal : (allE t).length = t.E.length := by simp [allE]
  clear r1 r2 e1 e2 e3 k3
  repeat (first | refine T_seq ?_ | refine T_region ?_ | refine T_block ?_ | refine TL_nil ?_ | refine TL_assign (hk := ?_))
  refine T_loop (ι := Nat × SL) (fun i => [(7, .int .i64 (i.1 : Int)), (6, sL i.2), (0, pT m.p), (1, .slice B kn kc), (2, .slice C sn sc)]) (fun i w' => i.1 ≤ sn ∧ Ext w w' ∧ ∃ xs g, ListsM w' w.heap.size i.2 xs g ∧ xs.length = i.1 + 2) (fun i => sn - i.1) (0, (some ⟨b3, 0, none⟩, 2, 2)) (.c rfl (.c rfl (.c rfl (.c rfl (.c rfl (.n)))))) ⟨Nat.zero_le _, E3, _, g3, L3, rfl⟩ ?_
  clear E3 L3
  rintro ⟨i, O⟩ w1 ⟨hi, E1, xs, g1, L1, hxs⟩ ih
  simp only at hi L1 hxs ih ⊢
  have hO := L1.len
  by_cases hlt : i < sn
  · have hC1 := hC.be E1
    have hCn : C ≠ none := by obtain ⟨_, _, hq, _⟩ := hC1.2 (by omega); rw [hq]; simp
    have hv := iv_get sq i (by omega)
    obtain ⟨s, hs⟩ : ∃ s, sq.getD i 0 = s := ⟨_, rfl⟩
    rw [hs] at hv
    repeat (first | refine T_seq ?_ | refine T_region ?_ | refine T_cond_true rfl ?_ | refine T_block ?_ | refine T_skip ?_ | refine TL_lt_t (hk := ?_) | refine TL_nil ?_ | refine TL_move (hk := ?_) | refine TL_load_rd TE (hk := ?_) | refine TL_indexAddr1n TE (hk := ?_) | refine TL_len TE (hk := ?_))
    refine TL_call TE (hc := Waits_c s w1 (h.ext E1) ok hN) (hk := ?_)
    rintro _ w2 ⟨y, rfl, e2, r2⟩
    --
    refine TL_buildSlice TE (hk := ?_); intro b3 w3 e3 h3 h3' k3
    replace k3 : Blk w3 b3 43 [sL y] := k3
    have r3 : Rd w3 (some ⟨b3, 0, none⟩) 1 1 [sL y] := Rd.blk k3 rfl
    have o3 := Own.be (e2.ext e3) L1.own
    have zz := ((E1.ext e2).ext e3).size
    --
    refine TL_append TE (ho := o3) (hr := r3) (h1 := by intro u hu; rw [List.mem_singleton.1 hu]; rfl) (hk := ?_); intro A4 c4 w4 o4 m4 n4
    obtain ⟨g4, L4⟩ := L1.add (y := (A4, O.2.1 + 1, c4)) E1.size e2 r2 e3 m4 o4 n4
    have E4 : Ext w w4 := Mod.own ((E1.ext e2).ext e3) m4 L1.own.hi
    repeat (first | refine T_region ?_ | refine T_inBlock ?_ | refine TL_add (hk := ?_) | refine TL_nil ?_ | refine TL_move (hk := ?_) | refine TL_assign (hk := ?_))
    exact ih (i + 1, (A4, O.2.1 + 1, c4)) w4 _ (by simp only; omega) ⟨by simp only; omega, E4, _, g4, L4, by simp; omega⟩ (.c rfl (.c rfl (.c rfl (.c rfl (.c rfl (.n))))))
  · clear ih
    repeat (first | refine T_seq ?_ | refine T_region ?_ | refine T_cond_false rfl ?_ | refine T_block ?_ | refine T_exit rfl ?_ | refine TL_lt_f (hk := ?_) | refine TL_nil ?_ | refine TL_move (hk := ?_) | refine TL_assign (hk := ?_) | refine TL_len TE (hk := ?_))
    refine T_loop (ι := Nat × SL) (fun i => [(8, .int .i64 (i.1 : Int)), (6, sL i.2), (0, pT m.p), (1, .slice B kn kc)]) (fun i w' => i.1 ≤ kn ∧ Ext w w' ∧ ∃ xs g, ListsM w' w.heap.size i.2 xs g ∧ xs.length = i.1 + sn + 2) (fun i => kn - i.1) (0, O) (.c rfl (.c rfl (.c rfl (.c rfl (.n))))) ⟨Nat.zero_le _, E1, _, g1, L1, by simp only; omega⟩ ?_
    clear E1 L1 hxs hlt hi hO g1 xs O
    rintro ⟨i, O⟩ w1 ⟨hi, E1, xs, g1, L1, hxs⟩ ih
    simp only at hi L1 hxs ih ⊢
    have hO := L1.len
    by_cases hlt : i < kn
    · have hB1 := hB.be E1
      have hBn : B ≠ none := by obtain ⟨_, _, hq, _⟩ := hB1.2 (by omega); rw [hq]; simp
      obtain ⟨k, hk⟩ : ∃ k, ks.getD i [] = k := ⟨_, rfl⟩
      repeat (first | refine T_seq ?_ | refine T_region ?_ | refine T_cond_true rfl ?_ | refine T_block ?_ | refine T_skip ?_ | refine TL_lt_t (hk := ?_) | refine TL_nil ?_ | refine TL_move (hk := ?_) | refine TL_indexAddr1n TE (hk := ?_) | refine TL_len TE (hk := ?_) | refine TL_load_s TE (hk := ?_))
      rw [hk]
      refine TL_call TE (hc := Held_c k w1 (h.ext E1) ok hN) (hk := ?_)
      rintro _ w2 ⟨y, rfl, e2, r2⟩
      --
      refine TL_buildSlice TE (hk := ?_); intro b3 w3 e3 h3 h3' k3
      replace k3 : Blk w3 b3 43 [sL y] := k3
      have r3 : Rd w3 (some ⟨b3, 0, none⟩) 1 1 [sL y] := Rd.blk k3 rfl
      have o3 := Own.be (e2.ext e3) L1.own
      have zz := ((E1.ext e2).ext e3).size
      --
      refine TL_append TE (ho := o3) (hr := r3) (h1 := by intro u hu; rw [List.mem_singleton.1 hu]; rfl) (hk := ?_); intro A4 c4 w4 o4 m4 n4
      obtain ⟨g4, L4⟩ := L1.add (y := (A4, O.2.1 + 1, c4)) E1.size e2 r2 e3 m4 o4 n4
      have E4 : Ext w w4 := Mod.own ((E1.ext e2).ext e3) m4 L1.own.hi
      have hB4 := hB.be E4
      clear hB1 o3 r3 k3
      repeat (first | refine T_seq ?_ | refine T_region ?_ | refine TL_nil ?_ | refine TL_move (hk := ?_) | refine TL_assign (hk := ?_) | refine TL_indexAddr1n TE (hk := ?_) | refine TL_load_s TE (hk := ?_))
      rw [hk]
      refine TL_call TE (hc := Queue_c k w4 (h.ext E4) ok hN) (hk := ?_)
      rintro _ w5 ⟨z, rfl, e5, r5⟩
      have h1 := hql k
      have h2 := hqo k
      generalize queueE t k = Q at r5 h1
      have L5 := L4.ext e5
      have E5 := E4.ext e5
      have hzl : Q.length = z.2.1 := by have := r5.len; rw [rowV_len qdV_len] at this; omega
      repeat (first | refine T_seq ?_ | refine T_region ?_ | refine T_block ?_ | refine TL_nil ?_ | refine TL_assign (hk := ?_))
      have r5' : ∃ cs, Own w5 w4.heap.size 84 3 z.1 z.2.1 z.2.2 cs := ⟨_, r5⟩
      refine T_loop (ι := Nat) (fun j => [(10, .int .i64 (j : Int)), (9, sL z), (8, .int .i64 (i : Int)), (6, sL (A4, O.2.1 + 1, c4)), (0, pT m.p), (1, .slice B kn kc)]) (fun j w' => j ≤ z.2.1 ∧ Eng.Mod (blkL z.1) w5 w' ∧ ∃ cs, Own w' w4.heap.size 84 3 z.1 z.2.1 z.2.2 cs) (fun j => z.2.1 - j) 0 (.c rfl (.c rfl (.c rfl (.c rfl (.c rfl (.c rfl (.n))))))) ⟨Nat.zero_le _, Mod.refl _ _, r5'⟩ ?_
      have hzb := r5.bl
      clear hB4 r5'
      rintro j w6 ⟨hj, m6, cs, r6⟩ ih2
      by_cases hjl : j < z.2.1
      · have hzn : z.1 ≠ none := by obtain ⟨_, _, hq, _⟩ := r6.rd.2 (by omega); rw [hq]; simp
        have hcl := r6.len
        repeat (first | refine T_seq ?_ | refine T_region ?_ | refine T_cond_true rfl ?_ | refine T_block ?_ | refine T_skip ?_ | refine TL_lt_t (hk := ?_) | refine TL_nil ?_ | refine TL_move (hk := ?_) | refine TL_indexAddrn TE (hk := ?_) | refine TL_len TE (hk := ?_) | refine TL_build TE (hk := ?_))
        refine TL_storea_own TE (j := j * 3) (vs := [.int .i64 99, .bool false, .bool false]) (ho := r6) (hj := by simp only [List.length_cons, List.length_nil]; omega) (hk := ?_); intro w7 m7 z7 o7
        repeat (first | refine T_region ?_ | refine T_inBlock ?_ | refine TL_add (hk := ?_) | refine TL_nil ?_ | refine TL_move (hk := ?_) | refine TL_assign (hk := ?_))
        exact ih2 (j + 1) w7 _ (by omega) ⟨by omega, m6.trans m7, _, o7⟩ (.c rfl (.c rfl (.c rfl (.c rfl (.c rfl (.c rfl (.n)))))))
      · clear ih2
        have E6 : Ext w w6 := E5.step m6 (fun b hb => .inr (by have := (hzb b hb).1; have := E4.size; omega))
        have L6 : ListsM w6 w.heap.size (A4, O.2.1 + 1, c4) (xs ++ [y]) g4 := L5.mod m6 (fun b hb => by
          by_cases q : g4 b = 0
          · exact q
          · have := (L4.old b q).2; have := (hzb b hb).1; omega)
        repeat (first | refine T_seq ?_ | refine T_region ?_ | refine T_cond_false rfl ?_ | refine T_inBlock ?_ | refine T_exit rfl ?_ | refine TL_add (hk := ?_) | refine TL_lt_f (hk := ?_) | refine TL_nil ?_ | refine TL_move (hk := ?_) | refine TL_assign (hk := ?_) | refine TL_len TE (hk := ?_))
        exact ih (i + 1, (A4, O.2.1 + 1, c4)) w6 _ (by simp only; omega) ⟨by simp only; omega, E6, _, g4, L6, by simp; omega⟩ (.c rfl (.c rfl (.c rfl (.c rfl (.n)))))
    · clear ih
      repeat (first | refine T_seq ?_ | refine T_region ?_ | refine T_cond_false rfl ?_ | refine T_block ?_ | refine T_exit rfl ?_ | refine TL_lt_f (hk := ?_) | refine TL_nil ?_ | refine TL_move (hk := ?_) | refine TL_assign (hk := ?_) | refine TL_len TE (hk := ?_))
      refine T_loop (ι := Nat) (fun i => [(11, .int .i64 (i : Int)), (6, sL O)]) (fun i w' => i ≤ O.2.1 ∧ Ext w w' ∧ ListsM w' w.heap.size O xs g1) (fun i => O.2.1 - i) 0 (.c rfl (.c rfl (.n))) ⟨Nat.zero_le _, E1, L1⟩ ?_
      clear E1 L1
      rintro i w2 ⟨hi2, E2, L2⟩ ih
      by_cases hlt2 : i < O.2.1
      · have hv : (xs.map sL)[i]? = some (sL (xs.getD i sl0)) := by simp [List.getD_eq_getElem?_getD, List.getElem?_eq_getElem (show i < xs.length by omega)]
        obtain ⟨l, hl⟩ := L2.el i (by omega)
        have hgx := L2.gx i (by omega)
        generalize hz : xs.getD i sl0 = z at hv hl hgx
        repeat (first | refine T_seq ?_ | refine T_region ?_ | refine T_cond_true rfl ?_ | refine T_block ?_ | refine T_skip ?_ | refine TL_lt_t (hk := ?_) | refine TL_nil ?_ | refine TL_move (hk := ?_) | refine TL_assign (hk := ?_) | refine TL_len TE (hk := ?_))
        refine T_loop (ι := Nat) (fun j => [(12, .int .i64 (j : Int)), (11, .int .i64 (i : Int)), (6, sL O)]) (fun j w' => j ≤ z.2.1 ∧ Ext w w' ∧ ListsM w' w.heap.size O xs g1) (fun j => z.2.1 - j) 0 (.c rfl (.c rfl (.c rfl (.n)))) ⟨Nat.zero_le _, E2, L2⟩ ?_
        clear L2 hl E2
        rintro j w3 ⟨hj, E3, L3⟩ ih2
        have hOo := L3.own
        have r3 := L3.own.rd
        have hOn : O.1 ≠ none := by obtain ⟨_, _, hq, _⟩ := r3.2 (by omega); rw [hq]; simp
        obtain ⟨l, hl⟩ := L3.el i (by omega)
        rw [hz] at hl
        have hzcap := hl.cap
        unfold maxLen at hzcap
        by_cases hjl : j < z.2.1
        · have hzn : z.1 ≠ none := by obtain ⟨_, _, hq, _⟩ := hl.rd.2 (by omega); rw [hq]; simp
          have hll := hl.len
          repeat (first | refine T_seq ?_ | refine T_region ?_ | refine T_cond_true rfl ?_ | refine T_block ?_ | refine T_skip ?_ | refine TL_lt_t (hk := ?_) | refine TL_nil ?_ | refine TL_move (hk := ?_) | refine TL_load_rd TE (hk := ?_) | refine TL_indexAddr1n TE (hk := ?_) | refine TL_len TE (hk := ?_))
          refine TL_store_own TE (hk := ?_); intro w4 m4 z4 o4
          repeat (first | refine T_region ?_ | refine T_inBlock ?_ | refine TL_add (hk := ?_) | refine TL_nil ?_ | refine TL_move (hk := ?_) | refine TL_assign (hk := ?_))
          rw [iv_set] at o4
          have L4 : ListsM w4 w.heap.size O xs g1 := L3.set (i := i) (by omega) (l' := l.set j 99) (by rw [hz]; exact m4) (by rw [hz]; exact o4)
          exact ih2 (j + 1) w4 _ (by omega) ⟨by omega, E3.step m4 (fun b hb => .inr (by have := hgx b hb; have := (L3.old b (by omega)).1; omega)), L4⟩ (.c rfl (.c rfl (.c rfl (.n))))
        · clear ih2
          repeat (first | refine T_seq ?_ | refine T_region ?_ | refine T_cond_false rfl ?_ | refine T_inBlock ?_ | refine T_exit rfl ?_ | refine TL_add (hk := ?_) | refine TL_lt_f (hk := ?_) | refine TL_nil ?_ | refine TL_move (hk := ?_) | refine TL_assign (hk := ?_) | refine TL_load_rd TE (hk := ?_) | refine TL_indexAddr1n TE (hk := ?_) | refine TL_len TE (hk := ?_))
          exact ih (i + 1) w3 _ (by omega) ⟨by omega, E3, L3⟩ (.c rfl (.c rfl (.n)))
      · clear ih
        repeat (first | refine T_seq ?_ | refine T_region ?_ | refine T_cond_false rfl ?_ | refine T_exit rfl ?_ | refine TL_lt_f (hk := ?_) | refine TL_nil ?_ | refine TL_move (hk := ?_) | refine TL_len TE (hk := ?_))
        exact T_end0 rfl E2
end
end Go.Proofs.Ytomabcbemokijaa

namespace Go.Proofs.Ytomabcbemokijaa
open Go.RowKit Go.Proofs.Eng Go.Proofs.Foot Go.Proofs.Locks
set_option linter.unusedSimpArgs false
set_option linter.unusedVariables false set_option maxRecDepth 10000
attribute [local irreducible] T TL LV TH TA
set_option maxHeartbeats 3200000
theorem eqLock (a b : ByteArray) (x y : Bool) (w : World) : (Op.equalIn 10000 61 (.agg #[.string a, .bool x]) (.agg #[.string b, .bool y])).run Try.prog w = .ok (decide (a = b) && (x == y)) w := by
  rw [run_equalIn_struct w 9999 _ _ _ (by kernel_rfl) (by kernel_rfl)]
  have e : (Try.prog.fieldsOf 61).toList = [{ name := "Key", type := 9, offset := 0, embedded := false, tag := "", pkgPath := "", byteOffset := 0 }, { name := "Write", type := 4, offset := 1, embedded := false, tag := "", pkgPath := "", byteOffset := 16 }] := by kernel_rfl
  rw [e]
  have h1 := str_beq a b
  simp [Op.eqFields, part, run_equalIn_string w 9998 9 _ _ Try.underlying9, run_equalIn_bool' w 9998 4 _ _ Try.underlying4, run_isAgg_no Try.underlying9 rfl, run_isAgg_no Try.underlying4 rfl, h1]
  by_cases h : a = b <;> by_cases g : x = y <;> simp [h, g]
theorem setAll_far {l vs : List Value} {o p : Nat} (h : o + vs.length ≤ l.length) (hp : o + vs.length ≤ p) : (setAll l o vs).drop p = l.drop p := by
  have h1 : (l.take o ++ vs).length = o + vs.length := by rw [List.length_append, List.length_take]; omega
  rw [setAll_eq _ _ _ h, List.drop_append, List.drop_of_length_le (by omega), List.nil_append, h1, List.drop_drop]
  congr 1
  omega
/-- What stands at an act's end. -/
def PlK (w0 w : World) (ba pa N bb q : Nat) (sx : SL) (sq : List Int) (t : LS) : Prop :=
  ∃ m f x last es g, KD w0 w ba pa N m f t bb q x last es g ∧ es.map entW = t.E ∧ LastR t.nx last ∧ IRow w w0.heap.size sx sq ∧ ∀ b ∈ blkL sx.1, ow f b = 0 ∧ g b = 0
theorem LocksPlays_c (v0 v1 : Value) (w : World) {base base' : Nat} (hM : 1048576 ≤ 1048576) (hv : ReadsB Try.prog w base 22 v0 1048576) (hM2 : 1048576 ≤ 1048576) (hv' : ReadsB Try.prog w base' 50 v1 1048576) :
    Ret Try.prog 7 [v0, v1] w (fun v w' => v = .bool true ∧ Ext w w') := by
  obtain ⟨A, n, c, l, rfl, hA, hl, hnc, hcm, hall, hnm⟩ := acts14_in hv
  obtain ⟨B, kn, kc, ks, rfl, hB, hkl, hkc, hkm, hknm⟩ := keys14_in hv'
  clear hv hM hM2 hv'
  refine ret_T (n := 117) Try.func7 rfl rfl ?_
  repeat (first | refine T_seq ?_ | refine T_region ?_ | refine TL_nil ?_ | refine TL_move (hk := ?_) | refine TL_assign (hk := ?_))
  refine TL_call TE (hc := long_c14 A n c l _ hA hall hnm) (hk := ?_)
  rintro _ w1 ⟨rfl | ⟨rfl, hn, hx2⟩, e1⟩
  · repeat (first | refine T_seq ?_ | refine T_region ?_ | refine T_cond_true rfl ?_ | refine TL_nil ?_ | refine TL_move (hk := ?_) | refine TL_no (hk := ?_) | refine TL_pick_t (hk := ?_))
    refine TL_call TE (hc := live_c14 _) (hk := ?_)
    rintro _ w2 ⟨rfl, e2⟩
    repeat (first | refine TL_nil ?_ | refine TL_assign (hk := ?_))
    exact T_ret1 rfl rfl ⟨rfl, e1.ext e2⟩
  by_cases hkn : 50 < kn
  · repeat (first | refine T_seq ?_ | refine T_region ?_ | refine T_cond_true rfl ?_ | refine TL_gt_t (hk := ?_) | refine TL_nil ?_ | refine TL_move (hk := ?_) | refine TL_len TE (hk := ?_) | refine TL_yes (hk := ?_) | refine TL_pick_f (hk := ?_))
    refine TL_call TE (hc := live_c14 _) (hk := ?_)
    rintro _ w2 ⟨rfl, e2⟩
    repeat (first | refine TL_nil ?_ | refine TL_assign (hk := ?_))
    exact T_ret1 rfl rfl ⟨rfl, e1.ext e2⟩
  repeat (first | refine T_seq ?_ | refine T_region ?_ | refine T_cond_false rfl ?_ | refine T_skip ?_ | refine TL_gt_f (hk := ?_) | refine TL_nil ?_ | refine TL_move (hk := ?_) | refine TL_len TE (hk := ?_) | refine TL_yes (hk := ?_) | refine TL_pick_f (hk := ?_))
  refine TL_call TE (hc := KNew_c _) (hk := ?_)
  rintro _ w2 ⟨m2, f2, rfl, e2, h2⟩
  have z1 := e1.size
  have z2 := e2.size
  have T2 : TS w w2 w1.heap.size m2.p 0 m2 f2 ⟨[], 0⟩ := ⟨e1.ext e2, OkT.start, rfl, h2, z1⟩
  generalize m2.p = p at T2
  repeat (first | refine T_seq ?_ | refine T_region ?_ | refine TL_nil ?_ | refine TL_assign (hk := ?_))
  refine TL_call TE (hc := RNew_c _) (hk := ?_)
  rintro _ w3 ⟨q, g3, rfl, e3, h3⟩
  have K3 : KD w w3 w1.heap.size p 0 m2 f2 ⟨[], 0⟩ w2.heap.size q (none, 0, 0) (-1) [] g3 := ⟨T2.ext e3, h3, fun b => by
    by_cases y : ow f2 b = 0
    · exact .inl y
    · right
      by_cases y2 : g3 b = 0
      · exact y2
      · have := (T2.h.old b y).2; have := (h3.old b y2).1; omega, by omega⟩
  repeat (first | refine T_seq ?_ | refine T_region ?_ | refine TL_pnil_f TE (hk := ?_) | refine TL_nil ?_ | refine TL_move (hk := ?_) | refine TL_assign (hk := ?_) | refine TL_yes (hk := ?_))
  refine TL_call TE (hc := live_c14 _) (hk := ?_)
  rintro _ w4 ⟨rfl, e4⟩
  have K4 := K3.ext e4
  have P4 : PlK w w4 w1.heap.size p 0 w2.heap.size q (none, 0, 0) [] ⟨[], 0⟩ := ⟨m2, f2, _, _, _, g3, K4, rfl, .inl ⟨by simp, by simp⟩, Own.nil _ _ _ _, fun b hb => by simp [blkL] at hb⟩
  clear T2 K3 K4 h2 h3 e1 e2 e3 e4
  repeat (first | refine T_seq ?_ | refine T_region ?_ | refine T_cond_false rfl ?_ | refine T_block ?_ | refine T_skip ?_ | refine TL_nil ?_ | refine TL_assign (hk := ?_) | refine TL_yes (hk := ?_) | refine TL_pick_f (hk := ?_) | refine TL_not (hk := ?_))
  refine T_loop (ι := Nat × SL × List Int) (fun i => [(8, .int .i64 (i.1 : Int)), (7, sL i.2.1), (5, pT p), (6, pT q), (0, .slice A n c), (1, .slice B kn kc)]) (fun i w' => i.1 ≤ n ∧ i.2.2.length = i.1 ∧ ∃ t, PlK w w' w1.heap.size p i.1 w2.heap.size q i.2.1 i.2.2 t) (fun i => n - i.1) (0, (none, 0, 0), []) (.c rfl (.c rfl (.c rfl (.c rfl (.c rfl (.c rfl (.n))))))) ⟨Nat.zero_le _, rfl, _, P4⟩ ?_
  clear P4
  rintro ⟨i, sx, sq⟩ w3 ⟨hi, hsq, t3, m3, f3, x3, last3, es3, g3, K3, he3, hr3, rs3, zs3⟩ ih
  simp only at hi hsq K3 rs3 zs3 ih ⊢
  have hp3 := K3.T.hp
  have hE3 := congrArg List.length he3
  rw [List.length_map] at hE3
  have hE3' := K3.T.ok.ln
  have hsxl : sx.2.1 = i := by have := rs3.len; rw [iv_len] at this; omega
  by_cases hlt : i < n
  · have h1 := hA.be K3.T.e
    have hAn : A ≠ none := by obtain ⟨_, _, hq, _⟩ := h1.2 (by omega); rw [hq]; simp
    have t1 := rowV_elem akkV_len l i ak_0 (by omega)
    have hmem : l.getD i ak_0 ∈ l := by rw [List.getD_eq_getElem?_getD, List.getElem?_eq_getElem (by omega)]; exact List.getElem_mem _
    have hxo := hall _ hmem
    have hxn := hx2 _ hmem
    obtain ⟨x, hx⟩ : ∃ x, l.getD i ak_0 = x := ⟨_, rfl⟩
    rw [hx] at t1 hxo hxn
    have hone := rowV_one lkV_one x.l
    repeat (first | refine T_seq ?_ | refine T_region ?_ | refine T_cond_true rfl ?_ | refine T_block ?_ | refine T_skip ?_ | refine TL_lt_t (hk := ?_) | refine TL_nil ?_ | refine TL_move (hk := ?_) | refine TL_indexAddrn TE (hk := ?_) | refine TL_len TE (hk := ?_))
    refine TL_loada TE (cs := akkV x) (hx := rfl) (ht := rfl) (hi := rfl) (hr := h1) (hc := t1) (h0 := Nat.succ_pos _) (hk := ?_)
    --
    refine TL_alloc TE (hk := ?_); intro b6 w6 e6 h6 h6' k6
    --
    refine TL_storea TE (hk := ?_); intro w7 m7 z7 k7
    have z6 := e6.size
    have e37 : Ext w3 w7 := Mod.step e6 m7 (by simp; omega)
    replace k7 : Blk w7 b6 30 (akkV x) := k7
    unfold akkV at k7
    have K7 := K3.ext e37
    have rs7 := Own.be e37 rs3
    have hb6f : ow f3 b6 = 0 := by
      by_cases y : ow f3 b6 = 0
      · exact y
      · have := (K3.T.h.old b6 y).2; omega
    have hb6g : g3 b6 = 0 := by
      by_cases y : g3 b6 = 0
      · exact y
      · have := (K3.R.old b6 y).2; omega
    have hb6s : b6 ∉ blkL sx.1 := fun hb => by have := (rs3.bl b6 hb).2; omega
    have hb60 : w.heap.size ≤ b6 := by have := K3.T.e.size; omega
    have hAl := hxo.rd
    clear k6 m7 e6 h1 K3 rs3 e37
    repeat (first | refine T_seq ?_ | refine T_region ?_ | refine TL_nil ?_ | refine TL_load TE (hk := ?_) | refine TL_fieldAddr TE (hk := ?_))
    refine T_join (ι := Unit) (fun _ => [(9, .pointer (some ⟨b6, 0, none⟩)), (8, .int .i64 (i : Int)), (7, sL sx), (5, pT p), (6, pT q), (0, .slice A n c), (1, .slice B kn kc)]) (fun _ w' => PlK w w' w1.heap.size p (i + 1) w2.heap.size q sx sq (actE t3 x) ∧ Blk w' b6 30 [.bool x.rel, .int .i64 x.s, .slice x.A x.n x.c]) (fun kk join => ?_) ?_
    · clear ih
      have hD6 : b6 ∉ ownK w7 f3 g3 := fun hb => by
        rcases ownK_mem hb with y | y
        · exact y hb6f
        · exact y hb6g
      cases hrel : x.rel with
      | true =>
        have hact : actE t3 x = (relE t3 x.s).1 := by unfold actE; rw [hrel]; rfl
        rw [hact] at join
        rw [hrel] at k7 join
        repeat (first | refine T_seq ?_ | refine T_cond_true rfl ?_)
        refine T_region_any TE.mixed (ownK w7 f3 g3) ?_; intro w8 e8 z8
        have k8 := k7.be e8
        have K8 := K7.ext e8
        have rs8 := Own.be e8 rs7
        have rel := Release_c x.s w8 K8.T.h K8.T.ok (by omega)
        rw [hp3] at rel
        (refine TA_take 0 rfl (by kernel_rfl) (by kernel_rfl) (by kernel_rfl) ?_; (repeat (first | refine TL_move (hk := ?_) | refine TLP_load TE (hk := ?_) | refine TL_fieldAddr TE (hk := ?_))); refine TL_nil_p ?_); (refine TA_take 1 rfl (by kernel_rfl) (by kernel_rfl) (by kernel_rfl) ?_; (repeat (first | refine TL_move (hk := ?_) | refine TLP_load TE (hk := ?_) | refine TL_fieldAddr TE (hk := ?_))); refine TL_nil_p ?_); (refine TA_take 2 rfl (by kernel_rfl) (by kernel_rfl) (by kernel_rfl) ?_; (repeat (first | refine TL_move (hk := ?_) | refine TLP_load TE (hk := ?_) | refine TL_fieldAddr TE (hk := ?_))); refine TL_nil_p ?_); (refine TA_take 5 rfl (by kernel_rfl) (by kernel_rfl) (by kernel_rfl) ?_; (repeat (first | refine TL_move (hk := ?_) | refine TLP_load TE (hk := ?_) | refine TL_fieldAddr TE (hk := ?_))); refine TL_nil_p ?_); (refine TA_take 6 rfl (by kernel_rfl) (by kernel_rfl) (by kernel_rfl) ?_; (repeat (first | refine TL_move (hk := ?_) | refine TLP_load TE (hk := ?_) | refine TL_fieldAddr TE (hk := ?_))); refine TL_nil_p ?_); (refine TA_take 7 rfl (by kernel_rfl) (by kernel_rfl) (by kernel_rfl) ?_; (repeat (first | refine TL_move (hk := ?_) | refine TLP_load TE (hk := ?_) | refine TL_fieldAddr TE (hk := ?_))); refine TL_nil_p ?_)
        refine TA_one 3 rfl (by kernel_rfl) (by kernel_rfl) ?_; (try refine TL_yes (hk := ?_)); refine TL_call TE (hc := rel) (hq := (by rintro _ w9 ⟨rfl, m', f', _, _, t'⟩; exact t'.inD (Mod.refl _ _) (ownK_a z8))) (hk := ?_)
        rintro _ w9 ⟨rfl, m9, f9, hp9, h9, t9⟩
        have M9 := t9.inD (Mod.refl _ _) (ownK_a (g := g3) z8)
        have K9 := K8.a (hp9.trans hp3.symm) h9 t9 ((okT_rel K8.T.ok x.s).mono (Nat.le_succ _))
        obtain ⟨rs9, zf9⟩ := rs8.tn t9 (fun b hb => (zs3 b hb).1)
        refine TL_nil_p ?_
        refine TA_one 4 rfl (by kernel_rfl) (by kernel_rfl) ?_; (try refine TL_yes (hk := ?_)); refine TL_call TE (hc := num_c14 _ _) (hq := (by rintro _ w8 ⟨rfl, rfl⟩; exact M9)) (hk := ?_)
        rintro _ w9 ⟨rfl, rfl⟩
        have rr := RRelease_c x.s w9 K9.R
        have hc := rrel_eq K8.T.ok he3 x.s
        have hes := rrel_es K8.T.ok he3 x.s
        rw [hc] at rr
        refine TL_nil_p ?_
        refine TA_one 8 rfl (by kernel_rfl) (by kernel_rfl) ?_; (try refine TL_yes (hk := ?_)); refine TL_call TE (hc := rr) (hq := (by rintro _ w9 ⟨rfl, x', es', g', _, t', _⟩; exact t'.inD M9 (ownK_b z8))) (hk := ?_)
        rintro _ w10 ⟨rfl, x10, es10, g10, h10, t10, s10, s10'⟩
        have M10 := t10.inD M9 (ownK_b (f := f3) z8)
        have K10 := K9.b h10 t10
        obtain ⟨rs10, zg10⟩ := rs9.tn t10 (fun b hb => (zs3 b hb).2)
        have k10 := k8.mod M10 hD6
        have he10 : es10.map entW = (relE t3 x.s).1.E := by
          by_cases y : (relE t3 x.s).2 = 0
          · rw [s10 y]; exact hes y
          · rw [s10' y, rrel_same y]; exact he3
        refine TL_nil_p ?_
        (refine TA_one 9 rfl (by kernel_rfl) (by kernel_rfl) ?_; (repeat (refine TL_ne_f (hk := ?_))); refine TL_nil_p ?_)
        refine TA_done (by kernel_rfl) ?_
        repeat (first | refine T_cond_false rfl ?_ | refine T_skip ?_)
        exact T.sub (join () _ ⟨⟨m9, f9, x10, last3, es10, g10, K10, he10, by rw [rel_nx]; exact hr3, rs10, fun b hb => ⟨zf9 b hb, zg10 b hb⟩⟩, k10⟩) (.c rfl (.c rfl (.c rfl (.c rfl (.c rfl (.c rfl (.c rfl (.n))))))))
      | false =>
        have hact : actE t3 x = (enqE t3 x.s x.l).1 := by unfold actE; rw [hrel]; rfl
        rw [hact] at join
        rw [hrel] at k7 join
        repeat (first | refine T_seq ?_ | refine T_region ?_ | refine T_cond_false rfl ?_ | refine TL_load TE (hk := ?_) | refine TL_fieldAddr TE (hk := ?_))
        refine TL_call TE (hc := own_c14 x.A x.n x.c x.l _ (hxo.be K7.T.e).rd hxo.nb) (hk := ?_)
        rintro _ w8 ⟨y, rfl, hyn, e8, ry⟩
        have K8 := K7.ext e8
        have k8 := k7.be e8
        have rs8 := Own.be e8 rs7
        have ryb := ry.bl
        have hyf : ∀ b ∈ blkL y.1, ow f3 b = 0 := fun b hb => by
          by_cases u : ow f3 b = 0
          · exact u
          · have := (K7.T.h.old b u).2; have := (ryb b hb).1; omega
        have hyg : ∀ b ∈ blkL y.1, g3 b = 0 := fun b hb => by
          by_cases u : g3 b = 0
          · exact u
          · have := (K7.R.old b u).2; have := (ryb b hb).1; omega
        have hys : ∀ b ∈ blkL sx.1, b ∉ blkL y.1 := fun b hb hy => by have := (rs7.bl b hb).2; have := (ryb b hy).1; omega
        have hy6 : b6 ∉ blkL y.1 := fun hy => by have := k7.lt; have := (ryb b6 hy).1; omega
        have hD6 : b6 ∉ ownK w8 f3 g3 := fun hb => by
          rcases ownK_mem hb with y | y
          · exact y hb6f
          · exact y hb6g
        have hxg : ∀ b ∈ blkL x.A, 0 < x.n → g3 b = 0 := fun b hb hn0 => by
          by_cases u : g3 b = 0
          · exact u
          · have h1 := Lo.mem (hAl.lo hn0) b hb; have := (K7.R.old b u).1; omega
        clear k7 K7 rs7
        repeat (first | refine T_seq ?_ | refine TL_nil ?_ | refine TL_assign (hk := ?_))
        refine T_region_any TE.mixed (ownK w8 f3 g3) ?_; intro w9 e9 z9
        have k9 := k8.be e9
        have K9 := K8.ext e9
        have rs9 := Own.be e9 rs8
        have ry9 := Own.be e9 ry
        have enq := Enqueue_c y.1 y.2.1 y.2.2 x.l x.s w9 K9.T.h K9.T.ok (by omega) ry9.rd hyf (by omega) (fun u hu => by have := hxo.kl u hu; omega) hxo.sl
        rw [hp3] at enq
        (refine TA_take 0 rfl (by kernel_rfl) (by kernel_rfl) (by kernel_rfl) ?_; (repeat (first | refine TL_move (hk := ?_) | refine TLP_load TE (hk := ?_) | refine TL_fieldAddr TE (hk := ?_))); refine TL_nil_p ?_); (refine TA_take 1 rfl (by kernel_rfl) (by kernel_rfl) (by kernel_rfl) ?_; (repeat (first | refine TL_move (hk := ?_) | refine TLP_load TE (hk := ?_) | refine TL_fieldAddr TE (hk := ?_))); refine TL_nil_p ?_); (refine TA_take 2 rfl (by kernel_rfl) (by kernel_rfl) (by kernel_rfl) ?_; (repeat (first | refine TL_move (hk := ?_) | refine TLP_load TE (hk := ?_) | refine TL_fieldAddr TE (hk := ?_))); refine TL_nil_p ?_); (refine TA_take 3 rfl (by kernel_rfl) (by kernel_rfl) (by kernel_rfl) ?_; (repeat (first | refine TL_move (hk := ?_) | refine TLP_load TE (hk := ?_) | refine TL_fieldAddr TE (hk := ?_))); refine TL_nil_p ?_); (refine TA_take 6 rfl (by kernel_rfl) (by kernel_rfl) (by kernel_rfl) ?_; (repeat (first | refine TL_move (hk := ?_) | refine TLP_load TE (hk := ?_) | refine TL_fieldAddr TE (hk := ?_))); refine TL_nil_p ?_); (refine TA_take 7 rfl (by kernel_rfl) (by kernel_rfl) (by kernel_rfl) ?_; (repeat (first | refine TL_move (hk := ?_) | refine TLP_load TE (hk := ?_) | refine TL_fieldAddr TE (hk := ?_))); refine TL_nil_p ?_); (refine TA_take 8 rfl (by kernel_rfl) (by kernel_rfl) (by kernel_rfl) ?_; (repeat (first | refine TL_move (hk := ?_) | refine TLP_load TE (hk := ?_) | refine TL_fieldAddr TE (hk := ?_))); refine TL_nil_p ?_); (refine TA_take 9 rfl (by kernel_rfl) (by kernel_rfl) (by kernel_rfl) ?_; (repeat (first | refine TL_move (hk := ?_) | refine TLP_load TE (hk := ?_) | refine TL_fieldAddr TE (hk := ?_))); refine TL_nil_p ?_); (refine TA_take 10 rfl (by kernel_rfl) (by kernel_rfl) (by kernel_rfl) ?_; (repeat (first | refine TL_move (hk := ?_) | refine TLP_load TE (hk := ?_) | refine TL_fieldAddr TE (hk := ?_))); refine TL_nil_p ?_)
        refine TA_one 4 rfl (by kernel_rfl) (by kernel_rfl) ?_; (try refine TL_yes (hk := ?_)); refine TL_call TE (hc := enq) (hq := (by rintro _ w6 ⟨rfl, m', f', _, _, t'⟩; exact t'.inD (Mod.refl _ _) (ownK_a z9))) (hk := ?_)
        rintro _ w10 ⟨rfl, m10, f10, hp10, h10, t10⟩
        have M10 := t10.inD (Mod.refl _ _) (ownK_a (g := g3) z9)
        have K10 := K9.a (hp10.trans hp3.symm) h10 t10 (okT_enq K9.T.ok hxo.sl.2 (by have := hxo.ln; omega))
        obtain ⟨rs10, zf10⟩ := rs9.tn t10 (fun b hb => (zs3 b hb).1)
        obtain ⟨ry10, yf10⟩ := ry9.tn t10 hyf
        refine TL_nil_p ?_
        refine TA_one 5 rfl (by kernel_rfl) (by kernel_rfl) ?_; (try refine TL_yes (hk := ?_)); refine TL_call TE (hc := num_c14 _ _) (hq := (by rintro _ w8 ⟨rfl, rfl⟩; exact M10)) (hk := ?_)
        rintro _ w10 ⟨rfl, rfl⟩
        have rq := REnqueue_c x.A x.n x.c x.l x.s w10 K10.R (hAl.be K10.T.e) (fun hn0 b hb => hxg b hb hn0) hxn (by omega) (fun u hu => by have := hxo.kl u hu; omega)
        have hc := renq_eq hr3 hxo.sl x.l
        have hls := renq_last hr3 hxo.sl x.l
        rw [hc] at rq
        refine TL_nil_p ?_
        refine TA_one 11 rfl (by kernel_rfl) (by kernel_rfl) ?_; (try refine TL_yes (hk := ?_)); refine TL_call TE (hc := rq) (hq := (by rintro _ w9 ⟨rfl, x', last', es', g', _, t', _⟩; exact t'.inD M10 (ownK_b z9))) (hk := ?_)
        rintro _ w11 ⟨rfl, x11, last11, es11, g11, h11, t11, s11, s11'⟩
        have M11 := t11.inD M10 (ownK_b (f := f3) z9)
        have K11 := K10.b h11 t11
        obtain ⟨rs11, zg11⟩ := rs10.tn t11 (fun b hb => (zs3 b hb).2)
        obtain ⟨ry11, yg11⟩ := ry10.tn t11 hyg
        have k11 := k9.mod M11 hD6
        have hst : es11.map entW = (enqE t3 x.s x.l).1.E ∧ LastR (enqE t3 x.s x.l).1.nx last11 := by
          by_cases u : (enqE t3 x.s x.l).2 = 0
          · obtain ⟨a1, a2⟩ := s11 u
            rw [a1, a2, enq_zero u, he3]
            exact ⟨rfl, hls u⟩
          · obtain ⟨a1, a2⟩ := s11' u
            rw [a1, a2, enq_not u]
            exact ⟨he3, hr3⟩
        have hy0 : ∀ b ∈ blkL y.1, w.heap.size ≤ b := fun b hb => by have := (ryb b hb).1; have := h6'; omega
        refine TL_nil_p ?_
        (refine TA_one 12 rfl (by kernel_rfl) (by kernel_rfl) ?_; (repeat (refine TL_ne_f (hk := ?_))); refine TL_nil_p ?_)
        refine TA_done (by kernel_rfl) ?_
        have hcs : ∀ j, 0 ≤ j → j < x.n → ((rowV lkV x.l).drop (j * 2)).take 2 = lkV (x.l.getD j lk0) := fun j _ hj => rowV_elem lkV_len x.l j lk0 (by have := hxo.ln; omega)
        clear rq enq M10 M11 K10 K9 K8 rs8 rs9 rs10 ry ry9 ry10 k8 k9
        generalize enqE t3 x.s x.l = r3 at K11 hst join
        repeat (first | refine T_seq ?_ | refine T_region ?_ | refine T_cond_false rfl ?_ | refine T_block ?_ | refine T_skip ?_ | refine TL_nil ?_ | refine TL_assign (hk := ?_))
        refine T_loop (ι := Nat) (fun j => [(11, .int .i64 (j : Int)), (10, sL y), (9, .pointer (some ⟨b6, 0, none⟩)), (8, .int .i64 (i : Int)), (7, sL sx), (5, pT p), (6, pT q), (0, .slice A n c), (1, .slice B kn kc)])
          (fun j w' => j ≤ x.n ∧ KD w w' w1.heap.size p (i + 1) m10 f10 r3.1 w2.heap.size q x11 last11 es11 g11 ∧ IRow w' w.heap.size sx sq ∧ Blk w' b6 30 [.bool false, .int .i64 x.s, .slice x.A x.n x.c] ∧ ∃ cs, Own w' w.heap.size 61 2 y.1 y.2.1 y.2.2 cs ∧ ∀ u, j ≤ u → u < x.n → (cs.drop (u * 2)).take 2 = lkV (x.l.getD u lk0)) (fun j => x.n - j) 0 (.c rfl (.c rfl (.c rfl (.c rfl (.c rfl (.c rfl (.c rfl (.c rfl (.c rfl (.n)))))))))) ⟨Nat.zero_le _, K11, rs11, k11, _, ry11.weaken (by omega), hcs⟩ ?_
        clear K11 rs11 k11 ry11 hcs
        rintro j w12 ⟨hj, K12, rs12, k12, cs, ry12, hcs⟩ ih2
        by_cases hjl : j < x.n
        · have ha := hcs j (Nat.le_refl _) hjl
          have hb := rowV_elem lkV_len x.l j lk0 (by have := hxo.ln; omega)
          obtain ⟨⟨u, v⟩, hu⟩ : ∃ z, x.l.getD j lk0 = z := ⟨_, rfl⟩
          rw [hu] at ha hb
          have hA12 := hAl.be K12.T.e
          have hyn1 : y.1 ≠ none := by obtain ⟨_, _, hq, _⟩ := ry12.rd.2 (by omega); rw [hq]; simp
          have hxn1 : x.A ≠ none := by obtain ⟨_, _, hq, _⟩ := hA12.2 (by omega); rw [hq]; simp
          have hcl := ry12.len
          repeat (first | refine T_seq ?_ | refine T_region ?_ | refine T_region_q TE.mixed (by kernel_rfl) ?_ | refine T_cond_true rfl ?_ | refine T_block ?_ | refine T_skip ?_ | refine TL_lt_t (hk := ?_) | refine TL_nil ?_ | refine TL_move (hk := ?_) | refine TL_indexAddrn TE (hk := ?_) | refine TL_len TE (hk := ?_))
          refine TL_loada TE (cs := lkV (u, v)) (hx := rfl) (ht := rfl) (hi := rfl) (hr := ry12.rd) (hc := ha) (h0 := Nat.succ_pos _) (hk := ?_)
          repeat (first | refine TL_move (hk := ?_) | refine TL_load TE (hk := ?_) | refine TL_fieldAddr TE (hk := ?_) | refine TL_indexAddrn TE (hk := ?_))
          refine TL_loada TE (cs := lkV (u, v)) (hx := rfl) (ht := rfl) (hi := rfl) (hr := hA12) (hc := hb) (h0 := Nat.succ_pos _) (hk := ?_)
          refine TL_ane (r := decide (ofL u = ofL u) && (v == v)) (by kernel_rfl) (eqLock _ _ _ _) (hk := ?_)
          rw [show (decide (ofL u = ofL u) && (v == v)) = true by simp]
          refine TL_nil_q ?_; intro w13 e13
          have ry13 := Own.be e13 ry12
          repeat (first | refine T_region ?_ | refine T_cond_false rfl ?_ | refine T_skip ?_ | refine TL_move (hk := ?_) | refine TL_indexAddrn TE (hk := ?_) | refine TL_build TE (hk := ?_))
          refine TL_storea_own TE (j := j * 2) (vs := [.string (ofL [115, 112, 111, 105, 108, 116]), .bool true]) (ho := ry13) (hj := by simp only [List.length_cons, List.length_nil]; omega) (hk := ?_); intro w14 m14 z14 o14
          repeat (first | refine T_region ?_ | refine T_inBlock ?_ | refine TL_add (hk := ?_) | refine TL_nil ?_ | refine TL_move (hk := ?_) | refine TL_assign (hk := ?_))
          exact ih2 (j + 1) w14 _ (by omega) ⟨by omega, (K12.ext e13).mod m14 hy0 yf10 yg11, (Own.be e13 rs12).modL m14 hys, (k12.be e13).mod m14 hy6, _, o14, fun u h1 h2 => by rw [setAll_far (by simp only [List.length_cons, List.length_nil]; omega) (by simp only [List.length_cons, List.length_nil]; omega)]; exact hcs u (by omega) h2⟩ (.c rfl (.c rfl (.c rfl (.c rfl (.c rfl (.c rfl (.c rfl (.c rfl (.c rfl (.n))))))))))
        · clear ih2
          repeat (first | refine T_seq ?_ | refine T_region ?_ | refine T_cond_false rfl ?_ | refine T_exit rfl ?_ | refine TL_lt_f (hk := ?_) | refine TL_nil ?_ | refine TL_move (hk := ?_) | refine TL_len TE (hk := ?_))
          exact T.sub (join () _ ⟨⟨m10, f10, x11, last11, es11, g11, K12, hst.1, hst.2, rs12, fun b hb => ⟨zf10 b hb, zg11 b hb⟩⟩, k12⟩) (.c rfl (.c rfl (.c rfl (.c rfl (.c rfl (.c rfl (.c rfl (.n))))))))
    clear K7 rs7 k7 zs3
    rintro _ w8 ⟨⟨m8, f8, x8, last8, es8, g8, K8, he8, hr8, rs8, zs8⟩, k8⟩
    generalize actE t3 x = t8 at K8 he8 hr8
    have hone1 := iv_one [x.s]
    have hb60' := hb60
    repeat (first | refine T_seq ?_ | refine T_region ?_ | refine TL_move (hk := ?_) | refine TL_load TE (hk := ?_) | refine TL_fieldAddr TE (hk := ?_))
    refine TL_buildSlice TE (hk := ?_); intro b9 w9 e9 h9 h9' k9
    replace k9 : Blk w9 b9 2 (iv [x.s]) := k9
    have r9 : Rd w9 (some ⟨b9, 0, none⟩) 1 1 (iv [x.s]) := Rd.blk k9 rfl
    have rs9 := Own.be e9 rs8
    have zz := (K8.T.e.ext e9).size
    --
    refine TL_append TE (ho := rs9) (hr := r9) (h1 := hone1) (hk := ?_); intro A10 c10 w10 o10 m10 n10
    have z9 := e9.size
    have K10 := (K8.ext e9).mod m10 (fun b hb => (rs8.bl b hb).1) (fun b hb => (zs8 b hb).1) (fun b hb => (zs8 b hb).2)
    have hz10 : ∀ b ∈ blkL A10, ow f8 b = 0 ∧ g8 b = 0 := fun b hb => by
      rcases n10.mem b hb with y | y
      · exact zs8 b y
      · constructor
        · by_cases u : ow f8 b = 0
          · exact u
          · have := (K8.T.h.old b u).2; omega
        · by_cases u : g8 b = 0
          · exact u
          · have := (K8.R.old b u).2; omega
    rw [show iv sq ++ iv [x.s] = iv (sq ++ [x.s]) by simp [iv]] at o10
    have hp8 := K10.T.hp
    clear K8 rs8 rs9 k8 k9 r9 zs8
    by_cases h7 : i % 8 = 7
    · have h7' : (i : Int) % 8 = 7 := by omega
      have std := stands_c B A10 kn kc (sx.2.1 + 1) c10 ks (sq ++ [x.s]) w10 K10.T.h K10.T.ok (by omega) K10.R.rf he8 (hB.be K10.T.e) o10.rd (by omega) (by omega)
      rw [hp8] at std
      repeat (first | refine T_seq ?_ | refine T_region ?_ | refine TL_rem (hk := ?_) | refine TL_eq_t (hk := ?_) | refine TL_nil ?_ | refine TL_move (hk := ?_) | refine TL_assign (hk := ?_) | refine TL_yes (hk := ?_))
      refine TL_call TE (hc := std) (hk := ?_)
      rintro _ w11 ⟨rfl, e11⟩
      repeat (first | refine T_region ?_ | refine T_cond_false rfl ?_ | refine T_inBlock ?_ | refine T_skip ?_ | refine TL_add (hk := ?_) | refine TL_nil ?_ | refine TL_move (hk := ?_) | refine TL_assign (hk := ?_) | refine TL_yes (hk := ?_) | refine TL_pick_t (hk := ?_) | refine TL_not (hk := ?_))
      exact ih (i + 1, (A10, sx.2.1 + 1, c10), sq ++ [x.s]) w11 _ (by simp only; omega) ⟨by simp only; omega, by simp; omega, _, m8, f8, x8, last8, es8, g8, K10.ext e11, he8, hr8, Own.be e11 o10, hz10⟩ (.c rfl (.c rfl (.c rfl (.c rfl (.c rfl (.c rfl (.n)))))))
    · have h7' : ¬ (i : Int) % 8 = 7 := by omega
      repeat (first | refine T_seq ?_ | refine T_region ?_ | refine T_cond_false rfl ?_ | refine T_inBlock ?_ | refine T_skip ?_ | refine TL_add (hk := ?_) | refine TL_rem (hk := ?_) | refine TL_eq_f (hk := ?_) | refine TL_nil ?_ | refine TL_move (hk := ?_) | refine TL_assign (hk := ?_) | refine TL_no (hk := ?_) | refine TL_pick_f (hk := ?_))
      exact ih (i + 1, (A10, sx.2.1 + 1, c10), sq ++ [x.s]) w10 _ (by simp only; omega) ⟨by simp only; omega, by simp; omega, _, m8, f8, x8, last8, es8, g8, K10, he8, hr8, o10, hz10⟩ (.c rfl (.c rfl (.c rfl (.c rfl (.c rfl (.c rfl (.n)))))))
  · clear ih
    have : n = i := by omega
    subst this
    have e3 := K3.T.e
    have std := fun w' (e : Ext w3 w') => stands_c B sx.1 kn kc sx.2.1 sx.2.2 ks sq w' (K3.T.h.ext e) K3.T.ok (by omega) (K3.R.rf.ext e) he3 ((hB.be e3).be e) (rs3.rd.be e) (by omega) (by omega)
    have spt := fun w' (e : Ext w3 w') => spoilt_c14 B sx.1 kn kc sx.2.1 sx.2.2 ks sq w' (K3.T.h.ext e) K3.T.ok (by omega) ((hB.be e3).be e) (rs3.rd.be e) (by omega) (by omega)
    rw [hp3] at std spt
    repeat (first | refine T_seq ?_ | refine T_region ?_ | refine T_cond_false rfl ?_ | refine T_exit rfl ?_ | refine TL_lt_f (hk := ?_) | refine TL_nil ?_ | refine TL_move (hk := ?_) | refine TL_len TE (hk := ?_))
    refine TL_call TE (hc := std w3 (Mod.refl _ _)) (hk := ?_)
    rintro _ w4 ⟨rfl, e4⟩
    repeat (first | refine T_seq ?_ | refine T_region ?_ | refine T_cond_false rfl ?_ | refine T_skip ?_ | refine TL_nil ?_ | refine TL_move (hk := ?_) | refine TL_not (hk := ?_))
    refine TL_call TE (hc := spt w4 e4) (hk := ?_)
    rintro _ w5 e5
    repeat (first | refine T_seq ?_ | refine T_region ?_ | refine TL_nil ?_ | refine TL_move (hk := ?_))
    refine TL_call TE (hc := std w5 (e4.ext e5)) (hk := ?_)
    rintro _ w6 ⟨rfl, e6⟩
    repeat (first | refine TL_nil ?_ | refine TL_assign (hk := ?_))
    exact T_ret1 rfl rfl ⟨rfl, ((e3.ext e4).ext e5).ext e6⟩
end Go.Proofs.Ytomabcbemokijaa
