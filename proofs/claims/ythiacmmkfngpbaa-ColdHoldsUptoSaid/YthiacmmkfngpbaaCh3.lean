import Derived.Test.YthiacmmkfngpbaaCh2
import Derived.Sort.KeysCollected
/- Parts: OW11 OW12 OW13 OLaw5 OW14 OW15 OW16 OW17 OW18 OW19 OLaw6 OW20 OLaw7 OAct OW22 OW23 OLaw8 FW3 FW4 OW26 OW27 OW28. -/
namespace Go.Proofs.Ythiacmmkfngpbaa
open Go.RowKit Go.Proofs.Eng Go.Proofs.Foot Go.Proofs.Cold
set_option linter.unusedSimpArgs false
set_option linter.unusedVariables false set_option maxRecDepth 10000
attribute [local irreducible] T TL LV TH TA
set_option maxHeartbeats 6400000
section
variable {w w' : World} {base : Nat} {m : CM} {f : Nat → Oo} {t : CS}
theorem row_tn {o o' : Nat → Nat} {w1 w2 : World} {b0 : Nat} {x : SL} {l : List Tx} (r : TxRow w1 b0 x l) (tn : Tn o o' w1 w2) (h0 : ∀ b ∈ blkL x.1, o b = 0) : TxRow w2 b0 x l ∧ ∀ b ∈ blkL x.1, o' b = 0 := by
  obtain ⟨⟨S, h1, h2⟩, h3, h4⟩ := id tn
  exact ⟨r.modL h1 (fun b hb q => h2 b q (h0 b hb)), fun b hb => tn.old (h0 b hb) (r.bl b hb).2⟩
theorem Tick_c (w : World) (h : TierM w base m f t) (hc : CI0 t) (hn : t.now ≤ 2305843009213693952) (hm : t.num ≤ 2305843009213693952) (hF : t.fet ≤ 2305843009213693952) :
    Ret Try.prog 16 [pB m.p] w (fun v w' => ∃ m' f' x, v = sL x ∧ m'.p = m.p ∧ TierM w' base m' f' (tickC t) ∧ Tn (oo f) (oo f') w w' ∧ TxRow w' w.heap.size x (sortT (doneK t.K)) ∧ ∀ b ∈ blkL x.1, oo f' b = 0) := by
  have hb := h.blk
  unfold tierV at hb
  have hK8 : t.K.length ≤ 8192 := by have := kok_klen hc.k; have := hc.rm; omega
  have hw8 : t.wt.length ≤ 4096 := by have := kok_wlen hc.k; have := hc.rm; omega
  have hnc : (t.now : Int) + 1 = ((t.now + 1 : Nat) : Int) := by omega
  have hmc : (t.num : Int) + 1 = ((t.num + 1 : Nat) : Int) := by omega
  obtain ⟨N, hN⟩ : ∃ N, t.num + 1 = N := ⟨_, rfl⟩
  have hdp := h.doneP
  have hkn := h.kn
  have hkl := h.klen
  have hlkn : (m.lk.map (·.1)).Nodup := by rw [h.kk]; exact h.kn
  refine ret_T (n := 83) Try.func16 rfl rfl ?_
  repeat (first | refine T_seq ?_ | refine T_region ?_ | refine T_cond_false rfl ?_ | refine T_skip ?_ | refine TL_add (hk := ?_) | refine TL_pnil_f TE (hk := ?_) | refine TL_nil ?_ | refine TL_move (hk := ?_) | refine TL_assign (hk := ?_) | refine TL_load TE (hk := ?_) | refine TL_fieldAddr TE (hk := ?_) | refine TL_nilCheck (hk := ?_))
  rw [hnc]
  --
  refine TL_store TE (hk := ?_); intro w1 m1 z1 k1
  repeat (first | refine T_seq ?_ | refine T_region ?_ | refine TL_add (hk := ?_) | refine TL_nil ?_ | refine TL_move (hk := ?_) | refine TL_load TE (hk := ?_) | refine TL_fieldAddr TE (hk := ?_) | refine TL_nilCheck (hk := ?_))
  rw [hmc, hN]
  --
  refine TL_store TE (hk := ?_); intro w2 m2 z2 k2
  obtain ⟨h2, t2n⟩ := h.nums (t' := { t with now := t.now + 1, num := N }) (m1.trans m2) k2 rfl rfl rfl
  clear hb k1 k2
  have hb := h2.blk
  unfold tierV at hb
  simp only at hb
  have mp := h2.mp
  repeat (first | refine T_seq ?_ | refine T_region ?_ | refine TL_nil ?_ | refine TL_move (hk := ?_) | refine TL_assign (hk := ?_) | refine TL_load TE (hk := ?_) | refine TL_fieldAddr TE (hk := ?_) | refine TL_nilCheck (hk := ?_))
  refine TL_range TE (.string) (hk := ?_); intro r w3 e3 hr1 hr2 it
  have hrw : w.heap.size ≤ r := by have := t2n.size; omega
  have hr0 : oo f r = 0 := h.new0 hrw
  have e3s := e3.size
  repeat (first | refine T_block ?_ | refine TL_nil ?_)
  refine T_loop (ι := SL × List Tx × List (Tx × Option Nat)) (fun i => [(28, .pointer (some ⟨r, 0, none⟩)), (3, sL i.1), (0, pB m.p)])
    (fun i w' => TierM w' base m f { t with now := t.now + 1, num := N, K := tkK N t.K (i.2.2.map (·.1)) } ∧ Tn (oo f) (oo f) w w' ∧ It w' r m.kb tK pV m.lk i.2.2 ∧ TxRow w' w.heap.size i.1 i.2.1 ∧ r ∉ blkL i.1.1 ∧ (i.2.1 ++ (i.2.2.filter fun x => doneL (lnOf t x.1)).map (·.1)).Perm (doneK t.K) ∧ i.2.1.length + i.2.2.length ≤ t.K.length ∧ (∀ x ∈ i.2.2, x ∈ m.lk) ∧ (i.2.2.map (·.1)).Nodup) (fun i => i.2.2.length) ((none, 0, 0), [], m.lk) (.c rfl (.c rfl (.c rfl (.n))))
    ⟨by simp only; rw [h.kk, tkK_all]; exact h2.ext e3, t2n.trans (Tn.ext e3), it, Own.nil _ _ _ _, by simp [blkL], by rw [List.nil_append, hdp], by simp only [List.length_nil]; omega, fun x hx => hx, hlkn⟩ ?_
  clear it hb mp h2 t2n
  rintro ⟨y, acc, left⟩ w4 ⟨h4, t4n, it, ry, hry, hpm, hln, hsub, hnd⟩ ih
  simp only at h4 it ry hry hpm hln hsub hnd ih ⊢
  have lr := it.lt
  have hyl : acc.length = y.2.1 := by have := ry.len; simpa using this
  have hy0 : ∀ b ∈ blkL y.1, oo f b = 0 := fun b q => h.new0 (ry.bl b q).1
  repeat (first | refine T_seq ?_ | refine T_region ?_)
  refine TL_next (h0 := ?_) (h1 := ?_)
  · rintro rfl
    clear ih
    simp only [List.filter_nil, List.map_nil, List.append_nil] at hpm h4
    rw [tkK_nil] at h4
    have hb := h4.blk
    unfold tierV at hb
    simp only at hb
    repeat (first | refine T_seq ?_ | refine T_region ?_ | refine T_cond_false rfl ?_ | refine T_block ?_ | refine T_exit rfl ?_ | refine TL_nil ?_ | refine TL_move (hk := ?_) | refine TL_load TE (hk := ?_) | refine TL_fieldAddr TE (hk := ?_) | refine TL_len TE (hk := ?_) | refine TL_extract (hk := ?_) | refine TL_nilCheck (hk := ?_))
    refine T_loop (ι := Nat) (fun j => [(70, .int .i64 (j : Int)), (69, .int .i64 (m.hs.2.1 : Int)), (68, sL m.hs), (3, sL y), (0, pB m.p)])
      (fun j w' => j ≤ t.H.length ∧ TierM w' base m f { t with now := t.now + 1, num := N, K := tickK N t.K, H := (t.H.take j).map (settleE (tickK N t.K)) ++ t.H.drop j } ∧ Tn (oo f) (oo f) w w' ∧ TxRow w' w.heap.size y acc) (fun j => t.H.length - j) 0 (.c rfl (.c rfl (.c rfl (.c rfl (.c rfl (.n)))))) ⟨Nat.zero_le _, h4, t4n, ry⟩ ?_
    clear h4 t4n ry it hb lr
    rintro j w5 ⟨hj, h5, t5n, ry⟩ ih
    have hkt := hc.k.tick N
    have hrd := h5.ho.rd
    have hhl := h5.hl'
    have hhp := h5.hl
    simp only [List.length_append, List.length_map, List.length_take, List.length_drop] at hhl hhp
    have hcap := h5.ho.cap
    unfold maxLen at hcap
    by_cases hlt : j < t.H.length
    · obtain ⟨hs1, hs2⟩ := settle_all_c j (tickK N t.K) t.H hlt
      have hv := ptrs_get m.hp j (by omega)
      have cS := settle_c j w5 h5 (by simp only [List.length_append, List.length_map, List.length_take, List.length_drop]; omega) (by
        simp only
        rw [hs2]
        intro q k hk
        have hp := pc_pos (getD_mem (d := hd0) hlt) (by omega) hk
        obtain ⟨l, hl, _⟩ := hkt.1.in_ hp
        rw [hl]
        simp)
      simp only at cS
      rw [hs2, hs1] at cS
      repeat (first | refine T_seq ?_ | refine T_region ?_ | refine T_cond_true rfl ?_ | refine T_block ?_ | refine T_skip ?_ | refine TL_lt_t (hk := ?_) | refine TL_nil ?_ | refine TL_move (hk := ?_) | refine TL_assign (hk := ?_) | refine TL_load_rd TE (hk := ?_) | refine TL_indexAddr1n TE (hk := ?_))
      refine TL_call TE (hc := cS) (hk := ?_)
      rintro _ w6 ⟨h6, t6⟩
      repeat (first | refine T_region ?_ | refine T_inBlock ?_ | refine TL_add (hk := ?_) | refine TL_nil ?_ | refine TL_move (hk := ?_))
      exact ih (j + 1) w6 _ (by omega) ⟨by omega, h6, t5n.trans t6, (row_tn ry t6 hy0).1⟩ (.c rfl (.c rfl (.c rfl (.c rfl (.c rfl (.n))))))
    · clear ih
      have hj2 : j = t.H.length := by omega
      subst hj2
      rw [List.take_length, List.drop_length, List.append_nil] at h5
      have hfin : takeE { t with now := t.now + 1, num := N, K := tickK N t.K, H := t.H.map (settleE (tickK N t.K)) } = tickC t := by unfold tickC; rw [hN]
      have cT := take_c (pc := pcH t.H) w5 h5 hkt.1 hc.dl hc.rm.2 hc.ls.2 (by simp only; unfold tickK; rw [List.length_map]; omega) (by simp only; omega)
      rw [hfin] at cT
      repeat (first | refine T_seq ?_ | refine T_region ?_ | refine T_cond_false rfl ?_ | refine T_exit rfl ?_ | refine TL_lt_f (hk := ?_) | refine TL_nil ?_ | refine TL_move (hk := ?_))
      refine TL_call TE (hc := cT) (hk := ?_)
      rintro _ w6 ⟨m6, f6, hp6, h6, t6⟩
      obtain ⟨ry6, hy6⟩ := row_tn ry t6 hy0
      repeat (first | refine T_seq ?_ | refine T_region ?_ | refine TL_nil ?_ | refine TL_move (hk := ?_))
      refine TL_call TE (hc := Sort_c y.1 y.2.1 y.2.2 _ acc w6 ry6 (by omega)) (hk := ?_)
      rintro _ w7 ⟨rfl, m7, o7⟩
      repeat (first | refine T_seq ?_ | refine T_region ?_ | refine TL_nil ?_ | refine TL_move (hk := ?_) | refine TL_assign (hk := ?_))
      refine T_ret1 rfl rfl ⟨m6, f6, y, rfl, hp6, h6.mod m7 hy6, tn_fresh (t5n.trans t6) m7 (fun b q => (ry6.bl b q).1), ?_, hy6⟩
      have : acc.mergeSort le2 = sortT (doneK t.K) := mergeSort_of_perm hpm
      rw [← this]
      exact o7
  · rintro l1 x l2 w5 rfl m5 s5 it5 cur
    have hx := hsub x (by simp)
    obtain ⟨b, l, hx2, hl, _, hf⟩ := h.item hx
    have hmlk : mget m.lk x.1 = some (some b) := by rw [mget_of hlkn hx, hx2]
    simp only [List.map_append, List.map_cons] at h4 hnd
    obtain ⟨s1, s2, s3⟩ := tkK_step (N := N) hkn hnd hl
    have h5 := h4.mod m5 (fun b hb => by rw [List.mem_singleton.1 hb]; exact hr0)
    have t5n := tn_fresh t4n m5 (fun b hb => by rw [List.mem_singleton.1 hb]; exact hrw)
    obtain ⟨b', g1, hblk, _⟩ := h5.kl _ _ s1
    rw [hmlk] at g1
    cases g1
    unfold lnV at hblk
    have hb := h5.blk
    unfold tierV at hb
    simp only at hb
    have hbw := (h.old b (by rw [oo_of hf]; decide)).2
    have hrb : r ∉ [b] := by simp; omega
    have hkb : m.kb ∉ [b] := fun q => by rw [List.mem_singleton] at q; have := h.fk; rw [q, hf] at this; simp at this
    have hpb : m.p ∉ [b] := fun q => by rw [List.mem_singleton] at q; have := h.fp; rw [q, hf] at this; simp at this
    have hyb : ∀ c ∈ blkL y.1, c ∉ [b] := fun c q q2 => by have := (ry.bl c q).1; rw [List.mem_singleton] at q2; omega
    have ry5 := ry.modL m5 (fun c hc q => by rw [List.mem_singleton] at q; exact hry (q ▸ hc))
    have hlx : lnOf t x.1 = l := by unfold lnOf; rw [hl]; rfl
    have hpx : pV x.2 = pB b := by rw [hx2]; rfl
    have hsub' : ∀ y ∈ l1 ++ l2, y ∈ m.lk := fun y hy => hsub y (by rcases List.mem_append.1 hy with q | q <;> simp [q])
    have hnd' : ((l1 ++ l2).map (·.1)).Nodup := by
      rw [List.map_append]
      exact hnd.sublist (List.Sublist.append (List.Sublist.refl _) (List.sublist_cons_self _ _))
    simp only [List.length_append, List.length_cons] at hln
    rw [List.filter_append, List.filter_cons, hlx] at hpm
    clear h4 it
    repeat (first | refine T_seq ?_ | refine T_region ?_ | refine T_cond_true rfl ?_ | refine T_block ?_ | refine T_skip ?_ | refine TL_nil ?_ | refine TL_move (hk := ?_) | refine TL_assign (hk := ?_) | refine TL_extract (hk := ?_) | refine TL_entry (hk := ?_))
    rw [hpx]
    by_cases hs : l.st = 2
    · obtain ⟨_, q1, _⟩ := hc.k.sg _ _ hl
      obtain ⟨q1, q2⟩ := q1 hs
      have hdl := hc.dl.2
      by_cases h1 : l.left = 1
      · have hlc : (l.left : Int) - 1 = ((0 : Nat) : Int) := by omega
        have htl : tickLn N l = { l with st := 3, left := 0, since := N } := by unfold tickLn; rw [if_pos hs, if_pos h1]
        rw [if_pos (by unfold doneL; simp [hs, h1])] at hpm
        repeat (first | refine T_seq ?_ | refine T_region ?_ | refine T_cond_false rfl ?_ | refine T_skip ?_ | refine TL_sub (hk := ?_) | refine TL_ne_f (hk := ?_) | refine TL_nil ?_ | refine TL_move (hk := ?_) | refine TL_load TE (hk := ?_) | refine TL_fieldAddr TE (hk := ?_) | refine TL_nilCheck (hk := ?_))
        rw [hlc]
        --
        refine TL_store TE (hk := ?_); intro w6 m6 z6 k6
        have hb6 := hb.mod m6 hpb
        repeat (first | refine T_seq ?_ | refine T_region ?_ | refine T_cond_true rfl ?_ | refine TL_eq_t (hk := ?_) | refine TL_nil ?_ | refine TL_move (hk := ?_) | refine TL_load TE (hk := ?_) | refine TL_fieldAddr TE (hk := ?_) | refine TL_nilCheck (hk := ?_))
        refine TL_store TE (hk := ?_); intro w7 m7 z7 k7
        have hb7 := hb6.mod m7 hpb
        repeat (first | refine TL_fieldAddr TE (hk := ?_) | refine TL_nilCheck (hk := ?_))
        refine TL_store TE (hk := ?_); intro w8 m8 z8 k8
        have M8 := (m6.trans m7).trans m8
        replace k8 : Blk w8 b 65 (lnV (tickLn N l)) := by rw [htl]; exact k8
        obtain ⟨h8, t8⟩ := h5.setLine (k := x.1) (l := tickLn N l) (by simp only; rw [s1]; simp) hmlk M8 k8
        simp only at h8
        rw [s2] at h8
        have it8 := it5.mod M8 hrb hkb
        have ry8 := ry5.modL M8 hyb
        have hz8 := M8.size
        have hz5 := t5n.size
        clear hb hb6 hb7 k6 k7 k8 hblk
        repeat (first | refine T_region ?_ | refine TL_nil ?_ | refine TL_move (hk := ?_))
        refine TL_buildSlice TE (hk := ?_); intro b9 w9 e9 h91 h92 k9
        replace k9 : Blk w9 b9 9 (sv [x.1]) := k9
        have r9 : Rd w9 (some ⟨b9, 0, none⟩) 1 1 (sv [x.1]) := Rd.blk k9 rfl
        have ry9 := Own.be e9 ry8
        have z9 := e9.size
        --
        refine TL_append TE (ho := ry9) (hr := r9) (h1 := sv_one _) (hk := ?_); intro A10 c10 w10 o10 m10 n10
        rw [← sv_append] at o10
        have lr8 := it8.lt
        have hwy : ∀ b ∈ blkL y.1, w.heap.size ≤ b := fun b q => (ry.bl b q).1
        repeat (first | refine T_inBlock ?_ | refine TL_nil ?_ | refine TL_assign (hk := ?_))
        refine ih ((A10, y.2.1 + 1, c10), acc ++ [x.1], l1 ++ l2) w10 _ (by simp) ⟨by simp only [List.map_append]; exact (h8.ext e9).mod m10 hy0, tn_fresh (((t5n.trans t8)).trans (Tn.ext e9)) m10 hwy, (it8.be e9).mod m10 hry (fun q => by have := hwy _ q; have := (h.old m.kb (by rw [oo_of h.fk]; decide)).2; omega), o10, fun q => ?_, ?_, by simp only [List.length_append, List.length_cons, List.length_nil]; omega, hsub', hnd'⟩ (.c rfl (.c rfl (.c rfl (.n))))
        · rcases n10.mem r q with q | q
          · exact hry q
          · omega
        · refine List.Perm.trans ?_ hpm
          simp only [List.map_append, List.map_cons, List.append_assoc, List.cons_append, List.nil_append, List.filter_append]
          exact List.Perm.append_left acc List.perm_middle.symm
      · have hlc : (l.left : Int) - 1 = ((l.left - 1 : Nat) : Int) := by omega
        have htl : tickLn N l = { l with left := l.left - 1 } := by unfold tickLn; rw [if_pos hs, if_neg h1]
        rw [if_neg (by unfold doneL; simp [h1])] at hpm
        repeat (first | refine T_seq ?_ | refine T_region ?_ | refine T_cond_false rfl ?_ | refine T_skip ?_ | refine TL_sub (hk := ?_) | refine TL_ne_f (hk := ?_) | refine TL_nil ?_ | refine TL_move (hk := ?_) | refine TL_load TE (hk := ?_) | refine TL_fieldAddr TE (hk := ?_) | refine TL_nilCheck (hk := ?_))
        rw [hlc]
        --
        refine TL_store TE (hk := ?_); intro w6 m6 z6 k6
        have k6' : Blk w6 b 65 (lnV (tickLn N l)) := by rw [htl]; exact k6
        obtain ⟨h6, t6⟩ := h5.setLine (k := x.1) (l := tickLn N l) (by simp only; rw [s1]; simp) hmlk m6 k6'
        clear k6'
        simp only at h6
        rw [s2] at h6
        repeat (first | refine T_seq ?_ | refine T_region ?_ | refine T_cond_false rfl ?_ | refine T_inBlock ?_ | refine T_skip ?_ | refine TL_eq_f (hk := ?_) | refine TL_nil ?_ | refine TL_move (hk := ?_) | refine TL_load TE (hk := ?_) | refine TL_fieldAddr TE (hk := ?_) | refine TL_nilCheck (hk := ?_))
        refine ih (y, acc, l1 ++ l2) w6 _ (by simp) ⟨by simp only [List.map_append]; exact h6, t5n.trans t6, it5.mod m6 hrb hkb, ry5.modL m6 hyb, hry, by rw [List.filter_append]; exact hpm, by simp only [List.length_append]; omega, hsub', hnd'⟩ (.c rfl (.c rfl (.c rfl (.n))))
    · have htl : tickLn N l = l := by unfold tickLn; rw [if_neg hs]
      rw [if_neg (by unfold doneL; simp [hs])] at hpm
      repeat (first | refine T_cond_true rfl ?_ | refine T_exit rfl ?_ | refine TL_ne_t (hk := ?_) | refine TL_nil ?_ | refine TL_load TE (hk := ?_) | refine TL_fieldAddr TE (hk := ?_) | refine TL_nilCheck (hk := ?_))
      refine ih (y, acc, l1 ++ l2) w5 _ (by simp) ⟨by simp only [List.map_append]; rw [← s3 htl]; exact h5, t5n, it5, ry5, hry, by rw [List.filter_append]; exact hpm, by simp only [List.length_append]; omega, hsub', hnd'⟩ (.c rfl (.c rfl (.c rfl (.n))))
end
end Go.Proofs.Ythiacmmkfngpbaa

namespace Go.Proofs.Ythiacmmkfngpbaa
open Go.RowKit Go.Proofs.Eng Go.Proofs.Foot Go.Proofs.Cold
set_option linter.unusedSimpArgs false
set_option linter.unusedVariables false set_option maxRecDepth 10000
attribute [local irreducible] T TL LV TH TA
set_option maxHeartbeats 3200000
section
variable {w w' : World} {base : Nat} {m : CM} {f : Nat → Oo} {t : CS}
theorem unpin1_c (b1 : Nat) (k y : Tx) (w : World) (h1 : Blk w b1 9 [.string (ofL k)]) :
    Ret Try.prog 46 [.string (ofL y), pB b1] w (fun v w' => v = .bool (decide (y = k)) ∧ Ext w w') := by
  refine ret_T (n := 7) Try.func46 rfl rfl ?_
  by_cases q : y = k
  · have hq : ofL y = ofL k := by rw [q]
    rw [decide_eq_true q]
    repeat (first | refine T_seq ?_ | refine T_region ?_ | refine TL_seq_t (hk := ?_) | refine TL_nil ?_ | refine TL_move (hk := ?_) | refine TL_assign (hk := ?_) | refine TL_load TE (hk := ?_))
    exact T_ret1 rfl rfl ⟨rfl, Mod.refl _ _⟩
  · have hq : ¬ ofL y = ofL k := fun e => q (ofL_inj e)
    rw [decide_eq_false q]
    repeat (first | refine T_seq ?_ | refine T_region ?_ | refine TL_seq_f (hk := ?_) | refine TL_nil ?_ | refine TL_move (hk := ?_) | refine TL_assign (hk := ?_) | refine TL_load TE (hk := ?_))
    exact T_ret1 rfl rfl ⟨rfl, Mod.refl _ _⟩
def keepS (k : Tx) (l : List Tx) : List Tx := l.filter fun x => !decide (x = k)
theorem keepS_all {k : Tx} {l : List Tx} : ∀ (i : Nat), i ≤ l.length → (∀ j, j < i → decide (l.getD j [] = k) = false) → keepS k (l.take i) = l.take i
  | 0, _, _ => by simp [keepS]
  | i + 1, hi, h => by
    have := keepS_all i (by omega) (fun j hj => h j (by omega))
    have h1 := h i (by omega)
    rw [List.getD_eq_getElem?_getD, List.getElem?_eq_getElem (by omega)] at h1
    unfold keepS at this ⊢
    rw [List.take_succ_eq_append_getElem (by omega), List.filter_append, this]
    congr 1
    simp only [Option.getD_some] at h1
    simp [h1]
theorem keepS_succ {k : Tx} {l : List Tx} {j : Nat} (h : j < l.length) : keepS k (l.take (j + 1)) = keepS k (l.take j) ++ (if l.getD j [] = k then [] else [l.getD j []]) := by
  unfold keepS
  rw [List.take_succ_eq_append_getElem h, List.filter_append]
  congr 1
  simp only [List.getD_eq_getElem?_getD, List.getElem?_eq_getElem h, Option.getD_some]
  by_cases q : l[j] = k <;> simp [q]
theorem idx_cases (pr : Nat → Bool) (n : Nat) : (idxI pr n = -1 ∧ ∀ j, j < n → pr j = false) ∨ ∃ i : Nat, idxI pr n = (i : Int) ∧ i < n ∧ pr i = true ∧ ∀ j, j < i → pr j = false := by
  unfold idxI
  cases h : (List.range n).find? pr with
  | none =>
    left
    rw [List.find?_eq_none] at h
    exact ⟨rfl, fun j hj => by simpa using h j (by simpa using hj)⟩
  | some i =>
    right
    rw [List.find?_range_eq_some] at h
    exact ⟨i, rfl, by simpa using h.2.1, h.1, fun j hj => by simpa using h.2.2 j hj⟩
abbrev eqF (b : Nat) : Value := .func (.func 46) #[] #[pB b]
theorem DeleteS_c (A : Option Addr) (n c base : Nat) (l : List Tx) (b7 : Nat) (k : Tx) (w : World) (h : Seg w base 9 1 A n c (sv l)) (hn : n ≤ 1000000) (h7 : Blk w b7 9 [.string (ofL k)]) (hb7 : b7 ∉ blkL A) :
    Ret Try.prog 45 [.slice A n c, eqF b7] w (fun v w' => v = .slice A (keepS k l).length c ∧ Eng.Mod (blkL A) w w' ∧ Seg w' base 9 1 A (keepS k l).length c (sv (keepS k l))) := by
  have hl : l.length = n := by have := h.len; rw [sv_length] at this; omega
  have hcap := h.cap.1
  have cI := IndexS_c A n c (sv l) 46 [pB b7] (fun j => decide (l.getD j [] = k)) w h.rd (by omega) rfl (by
    intro j v hv w' e'
    have hj : j < l.length := by have := List.getElem?_eq_some_iff.1 hv; obtain ⟨h, _⟩ := this; simpa using h
    rw [sv_get _ _ hj] at hv
    cases hv
    exact unpin1_c b7 k _ w' (h7.be e'))
  refine ret_T (n := 42) Try.func45 rfl rfl ?_
  repeat (first | refine T_seq ?_ | refine T_region ?_ | refine TL_nil ?_ | refine TL_move (hk := ?_) | refine TL_assign (hk := ?_))
  refine TL_call TE (hc := cI) (hk := ?_)
  rintro _ w1 ⟨rfl, e1⟩
  rcases idx_cases (fun j => decide (l.getD j [] = k)) n with ⟨hi, hu⟩ | ⟨z, hi, hz, hzs, hu⟩
  · rw [hi]
    have hk : keepS k l = l := by have := keepS_all (k := k) (l := l) n (by omega) hu; rwa [List.take_of_length_le (by omega)] at this
    rw [hk, hl]
    repeat (first | refine T_seq ?_ | refine T_region ?_ | refine T_cond_true rfl ?_ | refine TL_eq_t (hk := ?_) | refine TL_nil ?_ | refine TL_move (hk := ?_) | refine TL_assign (hk := ?_))
    exact T_ret1 rfl rfl ⟨rfl, Ext.un e1, h.ext e1⟩
  rw [hi]
  have hzs : l.getD z [] = k := by simpa using hzs
  have hk0 := keepS_all (k := k) (l := l) z (by omega) hu
  have hk1 : keepS k (l.take (z + 1)) = l.take z := by rw [keepS_succ (by omega), if_pos hzs, List.append_nil, hk0]
  have hsx : ¬ (z : Int) = -1 := by omega
  clear cI hi
  repeat (first | refine T_seq ?_ | refine T_region ?_ | refine T_cond_false rfl ?_ | refine T_block ?_ | refine T_skip ?_ | refine TL_add (hk := ?_) | refine TL_eq_f (hk := ?_) | refine TL_nil ?_ | refine TL_move (hk := ?_) | refine TL_assign (hk := ?_))
  refine T_loop (ι := Nat × List Tx) (fun j => [(5, .int .i64 ((keepS k (l.take j.1)).length : Int)), (6, .int .i64 (j.1 : Int)), (0, .slice A n c), (1, eqF b7)])
    (fun j w' => j.1 ≤ n ∧ Eng.Mod (blkL A) w1 w' ∧ Seg w' base 9 1 A n c (sv j.2) ∧ j.2.length = n ∧ j.2.take (keepS k (l.take j.1)).length = keepS k (l.take j.1) ∧ j.2.drop j.1 = l.drop j.1 ∧ (keepS k (l.take j.1)).length < j.1) (fun j => n - j.1) (z + 1, l) (by
      have hq : ((keepS k (l.take (z + 1))).length : Int) = (z : Int) := by rw [hk1, List.length_take]; omega
      simp only [hq]
      exact (.c rfl (.c rfl (.c rfl (.c rfl (.n)))))) ⟨by simp only; omega, Mod.refl _ _, h.ext e1, hl, by simp only; rw [hk1, List.length_take, Nat.min_eq_left (by omega)], rfl, by simp only; rw [hk1, List.length_take]; omega⟩ ?_
  rintro ⟨j, l'⟩ w2 ⟨hj, m2, o2, hl', htk, hdr, hij⟩ ih
  simp only at hj m2 o2 hl' htk hdr hij ih ⊢
  have h72 := (h7.be e1).mod m2 hb7
  by_cases hlt : j < n
  · have hks := keepS_succ (k := k) (l := l) (j := j) (by omega)
    have hgd : l'.getD j [] = l.getD j [] := by
      have := congrArg (fun l : List Tx => l[0]?) hdr
      simp only [List.getElem?_drop, Nat.add_zero] at this
      rw [List.getD_eq_getElem?_getD, List.getD_eq_getElem?_getD, this]
    have hv := sv_get l' j (by omega)
    rw [hgd] at hv
    obtain ⟨x, hx⟩ : ∃ x, l.getD j [] = x := ⟨_, rfl⟩
    rw [hx] at hv hks
    obtain ⟨i, hi⟩ : ∃ i, (keepS k (l.take j)).length = i := ⟨_, rfl⟩
    have hset : (sv l').set i (.string (ofL x)) = sv (l'.set i x) := by simp [sv, List.map_set]
    rw [hi] at htk hij ⊢
    have r2 := o2.rd
    repeat (first | refine T_seq ?_ | refine T_region ?_ | refine T_cond_true rfl ?_ | refine T_block ?_ | refine T_skip ?_ | refine TL_lt_t (hk := ?_) | refine TL_nil ?_ | refine TL_move (hk := ?_) | refine TL_assign (hk := ?_) | refine TL_load_rd TE (hk := ?_) | refine TL_indexAddr1n TE (hk := ?_) | refine TL_len TE (hk := ?_))
    refine TL_callc TE (fst := []) (cap := [pB b7]) rfl rfl rfl rfl (R' := RR (fun v w'' => v = .bool (decide (x = k)) ∧ Ext w2 w'')) (by have := unpin1_c b7 k x w2 h72; unfold Ret at this; simpa using this) ?_ (fun _ _ h => h.elim) (fun _ h => h)
    rintro _ w5 ⟨rfl, e5⟩
    have o5 := o2.ext e5
    by_cases hb : x = k
    · rw [if_pos hb, List.append_nil] at hks
      rw [decide_eq_true hb]
      repeat (first | refine T_region ?_ | refine T_cond_false rfl ?_ | refine T_inBlock ?_ | refine T_skip ?_ | refine TL_add (hk := ?_) | refine TL_nil ?_ | refine TL_move (hk := ?_) | refine TL_assign (hk := ?_) | refine TL_not (hk := ?_))
      refine ih (j + 1, l') w5 _ (by simp only; omega) ⟨by simp only; omega, m2.ext e5, o5, hl', by simp only; rw [hks, hi]; exact htk, by simp only; rw [← List.drop_drop, hdr, List.drop_drop], by simp only; rw [hks]; omega⟩ (by simp only [hks, hi]; exact (.c rfl (.c rfl (.c rfl (.c rfl (.n))))))
    · rw [if_neg hb] at hks
      rw [decide_eq_false hb]
      have r5 := o5.rd
      repeat (first | refine T_seq ?_ | refine T_region ?_ | refine T_cond_true rfl ?_ | refine TL_nil ?_ | refine TL_move (hk := ?_) | refine TL_indexAddr1n TE (hk := ?_) | refine TL_not (hk := ?_))
      refine TL_store_seg TE (ho := o5) (j := i) (hj := by rw [sv_length]; omega) (hk := ?_); intro w6 m6 z6 o6
      rw [hset] at o6
      have hc : ((i : Nat) : Int) + 1 = ((i + 1 : Nat) : Int) := by omega
      have hkl : (keepS k (l.take (j + 1))).length = i + 1 := by rw [hks, List.length_append, hi]; rfl
      repeat (first | refine T_region ?_ | refine T_inBlock ?_ | refine TL_add (hk := ?_) | refine TL_nil ?_ | refine TL_move (hk := ?_) | refine TL_assign (hk := ?_))
      rw [hc]
      --
      refine ih (j + 1, l'.set i x) w6 _ (by simp only; omega) ⟨by simp only; omega, (m2.ext e5).trans m6, o6, by simp [hl'], ?_, ?_, by simp only; omega⟩ (by simp only [hkl]; exact (.c rfl (.c rfl (.c rfl (.c rfl (.n))))))
      · simp only
        rw [hkl, hks, ← htk, List.take_succ_eq_append_getElem (by rw [List.length_set]; omega), List.take_set_of_le (Nat.le_refl _), List.getElem_set_self]
      · simp only
        rw [List.drop_set_of_lt (by omega), ← List.drop_drop, hdr, List.drop_drop]
  · have : n = j := by omega
    subst this
    clear ih
    have hfull : l.take n = l := List.take_of_length_le (by omega)
    rw [hfull] at htk hij ⊢
    obtain ⟨kf, hkf⟩ : ∃ kf, keepS k l = kf := ⟨_, rfl⟩
    rw [hkf] at htk hij ⊢
    obtain ⟨i, hi⟩ : ∃ i, kf.length = i := ⟨_, rfl⟩
    rw [hi] at htk hij ⊢
    have r2 := o2.rd
    repeat (first | refine T_seq ?_ | refine T_region ?_ | refine T_cond_false rfl ?_ | refine T_exit rfl ?_ | refine TL_lt_f (hk := ?_) | refine TL_nil ?_ | refine TL_move (hk := ?_) | refine TL_len TE (hk := ?_) | refine TL_slice_lo TE (hk := ?_))
    refine TL_clear_seg TE (ho := o2) (hk := ?_); intro w3 m3 z3 o3
    have htk2 : (sv l').take (i : Int).toNat = sv kf := by rw [Int.toNat_natCast]; simp only [sv, ← List.map_take]; rw [htk]
    rw [htk2, Int.toNat_natCast] at o3
    repeat (first | refine T_seq ?_ | refine T_region ?_ | refine TL_nil ?_ | refine TL_move (hk := ?_) | refine TL_assign (hk := ?_) | refine TL_slice_hi TE (hk := ?_))
    exact T_ret1 rfl rfl ⟨rfl, (Mod.trans (Ext.un e1) m2).trans m3, o3⟩
end
end Go.Proofs.Ythiacmmkfngpbaa

namespace Go.Proofs.Ythiacmmkfngpbaa
open Go.RowKit Go.Proofs.Eng Go.Proofs.Foot Go.Proofs.Cold
set_option linter.unusedSimpArgs false
set_option linter.unusedVariables false set_option maxRecDepth 10000
attribute [local irreducible] T TL LV TH TA
set_option maxHeartbeats 3200000
section
variable {w w' : World} {base : Nat} {m : CM} {f : Nat → Oo} {t : CS}
theorem mdel_mput : ∀ (l : List (Tx × LnE)) (k : Tx) (a : LnE), mget l k ≠ none → mdel (mput l k a) k = mdel l k
  | [], k, a, h => absurd rfl h
  | x :: l, k, a, h => by
    unfold mget at h
    by_cases e : x.1 = k
    · simp [mput, mdel, e]
    · rw [if_neg e] at h
      simp [mput, mdel, e, mdel_mput l k a h]
theorem unpin_c (k : Tx) (l : LnE) (w : World) (h : TierM w base m f t) (hl : mget t.K k = some l) (hp : 1 ≤ l.pins ∧ l.pins ≤ 1000000) (hwt : t.wt.length ≤ 1000000) :
    Ret Try.prog 34 [pB m.p, .string (ofL k)] w (fun v w' => ∃ m' f', m'.p = m.p ∧ TierM w' base m' f' { t with K := (unpinE t.num (t.K, t.wt) k).1, wt := (unpinE t.num (t.K, t.wt) k).2 } ∧ Tn (oo f) (oo f') w w') := by
  have hl1 : mget (mput t.K k { l with pins := l.pins - 1 }) k = some { l with pins := l.pins - 1 } := by rw [mget_put, if_pos rfl]
  refine ret_T (n := 49) Try.func34 rfl rfl ?_
  repeat (first | refine T_seq ?_ | refine T_region ?_)
  refine TL_box (hk := ?_); intro b1 w1 e1 h1 h1' k1
  replace k1 : Blk w1 b1 9 [.string (ofL k)] := k1
  have H1 := h.ext e1
  repeat (first | refine T_seq ?_ | refine TL_nil ?_)
  refine T_region_anyz TE.mixed [] (some 6) ?_; intro w2 e2 z2
  have H2 := H1.ext e2
  have hb := H2.blk
  unfold tierV at hb
  have mp := H2.mp
  obtain ⟨b, hlk, hblk, hf⟩ := H2.kl _ _ hl
  unfold lnV at hblk
  have k2 := k1.be e2
  have np : m.p ∉ ([] : List Nat) := by simp
  have nb : b1 ∉ ([] : List Nat) := by simp
  (refine TA_take 0 rfl (by kernel_rfl) (by kernel_rfl) (by kernel_rfl) ?_; (repeat (first | refine TL_move (hk := ?_) | refine TLP_load TE (hk := ?_) | refine TL_fieldAddr TE (hk := ?_) | refine TL_nilCheck (hk := ?_))); refine TL_nil_p ?_); (refine TA_take 1 rfl (by kernel_rfl) (by kernel_rfl) (by kernel_rfl) ?_; (repeat (first | refine TL_move (hk := ?_) | refine TLP_load TE (hk := ?_) | refine TL_fieldAddr TE (hk := ?_) | refine TL_nilCheck (hk := ?_))); refine TL_nil_p ?_); (refine TA_take 2 rfl (by kernel_rfl) (by kernel_rfl) (by kernel_rfl) ?_; (repeat (first | refine TL_move (hk := ?_) | refine TLP_load TE (hk := ?_) | refine TL_fieldAddr TE (hk := ?_) | refine TL_nilCheck (hk := ?_))); refine TL_nil_p ?_); (refine TA_take 3 rfl (by kernel_rfl) (by kernel_rfl) (by kernel_rfl) ?_; (repeat (first | refine TL_move (hk := ?_) | refine TLP_load TE (hk := ?_) | refine TL_fieldAddr TE (hk := ?_) | refine TL_nilCheck (hk := ?_))); refine TL_nil_p ?_); (refine TA_take 4 rfl (by kernel_rfl) (by kernel_rfl) (by kernel_rfl) ?_; (repeat (first | refine TL_move (hk := ?_) | refine TLP_load TE (hk := ?_) | refine TL_fieldAddr TE (hk := ?_) | refine TL_nilCheck (hk := ?_))); refine TL_nil_p ?_)
  refine TA_take 5 rfl (by kernel_rfl) (by kernel_rfl) (by kernel_rfl) ?_
  refine TLP_lookup TE (none : Option Nat) mp (by simp) (hK := keys_tx) (hk := ?_)
  refine TL_nil_p ?_
  refine TA_one 6 rfl (by kernel_rfl) (by kernel_rfl) ?_
  (refine TL_assign (hk := ?_))
  refine TL_nil_z (by kernel_rfl) ?_
  rw [hlk]
  have hpc : (l.pins : Int) - 1 = ((l.pins - 1 : Nat) : Int) := by omega
  have hbo := (h.old b (by rw [oo_of hf]; decide)).2
  have hpb : m.p ∉ [b] := fun q => by rw [List.mem_singleton] at q; have := h.fp; rw [q, hf] at this; simp at this
  have hb1b : b1 ∉ [b] := by simp; omega
  repeat (first | refine T_seq ?_ | refine T_region ?_ | refine TL_sub (hk := ?_) | refine TL_move (hk := ?_) | refine TL_load TE (hk := ?_) | refine TL_fieldAddr TE (hk := ?_) | refine TL_nilCheck (hk := ?_))
  rw [hpc]
  --
  refine TL_store TE (hk := ?_); intro w3 m3 z3 k3
  replace k3 : Blk w3 b 65 (lnV { l with pins := l.pins - 1 }) := k3
  obtain ⟨H3, t3⟩ := H2.setLine (k := k) (l := { l with pins := l.pins - 1 }) (by rw [hl]; simp) hlk m3 k3
  have hb3 := hb.mod m3 hpb
  have k13 := k2.mod m3 hb1b
  unfold lnV at k3
  simp only at k3
  have T3 := (Tn.ext (e1.ext e2)).trans t3
  clear hb k1 k2 hblk mp H1 H2
  by_cases hp1 : 1 < l.pins
  · have hu : unpinE t.num (t.K, t.wt) k = (mput t.K k { l with pins := l.pins - 1 }, t.wt) := by unfold unpinE; simp only; rw [hl]; simp only; rw [if_pos hp1]
    rw [hu]
    repeat (first | refine T_seq ?_ | refine T_region ?_ | refine T_cond_true rfl ?_ | refine TL_gt_t (hk := ?_) | refine TL_nil ?_ | refine TL_move (hk := ?_) | refine TL_load TE (hk := ?_) | refine TL_fieldAddr TE (hk := ?_) | refine TL_nilCheck (hk := ?_))
    exact T_ret0 rfl ⟨m, f, rfl, H3, T3⟩
  · repeat (first | refine T_seq ?_ | refine T_region ?_ | refine T_cond_false rfl ?_ | refine T_skip ?_ | refine TL_gt_f (hk := ?_) | refine TL_nil ?_ | refine TL_move (hk := ?_) | refine TL_load TE (hk := ?_) | refine TL_fieldAddr TE (hk := ?_) | refine TL_nilCheck (hk := ?_))
    refine TL_store TE (hk := ?_); intro w4 m4 z4 k4
    have hpz : l.pins - 1 = 0 := by omega
    replace k4 : Blk w4 b 65 (lnV { l with pins := 0, since := t.num }) := by rw [hpz] at k4; exact k4
    obtain ⟨H4, t4⟩ := H3.setLine (k := k) (l := { l with pins := 0, since := t.num }) (by simp only; rw [hl1]; simp) hlk m4 k4
    simp only at H4
    rw [mput_mput] at H4
    have hb4 := hb3.mod m4 hpb
    have k14 := k13.mod m4 hb1b
    unfold lnV at k4
    simp only at k4
    have T4 := T3.trans t4
    clear hb3 k13 k3 H3
    by_cases hs : l.st = 1
    · have hu : unpinE t.num (t.K, t.wt) k = (mdel t.K k, keepS k t.wt) := by unfold unpinE; simp only; rw [hl]; simp only; rw [if_neg hp1, if_pos hs]; rfl
      rw [hu]
      simp only
      have hko := (h.old m.kb (by rw [oo_of h.fk]; decide)).2
      repeat (first | refine T_seq ?_ | refine T_region ?_ | refine T_cond_true rfl ?_ | refine TL_eq_t (hk := ?_) | refine TL_nil ?_ | refine TL_move (hk := ?_) | refine TL_load TE (hk := ?_) | refine TL_fieldAddr TE (hk := ?_) | refine TL_nilCheck (hk := ?_))
      refine T_region_any TE.mixed [m.kb] ?_; intro w5 e5 z5
      have H5 := H4.ext e5
      have hb5 := hb4.be e5
      have k15 := k14.be e5
      have npk : m.p ∉ [m.kb] := fun q => by rw [List.mem_singleton] at q; have a := h.fp; rw [q, h.fk] at a; simp at a
      have nbk : b1 ∉ [m.kb] := by simp; omega
      (refine TA_take 0 rfl (by kernel_rfl) (by kernel_rfl) (by kernel_rfl) ?_; (repeat (first | refine TL_move (hk := ?_) | refine TLP_load TE (hk := ?_) | refine TL_fieldAddr TE (hk := ?_) | refine TL_nilCheck (hk := ?_))); refine TL_nil_p ?_); (refine TA_take 1 rfl (by kernel_rfl) (by kernel_rfl) (by kernel_rfl) ?_; (repeat (first | refine TL_move (hk := ?_) | refine TLP_load TE (hk := ?_) | refine TL_fieldAddr TE (hk := ?_) | refine TL_nilCheck (hk := ?_))); refine TL_nil_p ?_); (refine TA_take 2 rfl (by kernel_rfl) (by kernel_rfl) (by kernel_rfl) ?_; (repeat (first | refine TL_move (hk := ?_) | refine TLP_load TE (hk := ?_) | refine TL_fieldAddr TE (hk := ?_) | refine TL_nilCheck (hk := ?_))); refine TL_nil_p ?_); (refine TA_take 3 rfl (by kernel_rfl) (by kernel_rfl) (by kernel_rfl) ?_; (repeat (first | refine TL_move (hk := ?_) | refine TLP_load TE (hk := ?_) | refine TL_fieldAddr TE (hk := ?_) | refine TL_nilCheck (hk := ?_))); refine TL_nil_p ?_); (refine TA_take 4 rfl (by kernel_rfl) (by kernel_rfl) (by kernel_rfl) ?_; (repeat (first | refine TL_move (hk := ?_) | refine TLP_load TE (hk := ?_) | refine TL_fieldAddr TE (hk := ?_) | refine TL_nilCheck (hk := ?_))); refine TL_nil_p ?_)
      refine TA_one 5 rfl (by kernel_rfl) (by kernel_rfl) ?_
      refine TL_delete TE (hm := H5.mp) (hK := keys_tx) (hf := rfl) (hq := fun _ h _ => h) (hk := ?_); intro w6 m6 z6 mp6
      refine TL_nil_p ?_
      refine TA_done (by kernel_rfl) ?_
      obtain ⟨H6, t6⟩ := H5.delLine m6 mp6
      simp only at H6
      rw [mdel_mput _ _ _ (by rw [hl]; simp)] at H6
      have T6 := (T4.trans (Tn.ext e5)).trans t6
      have hb6 := hb5.mod m6 npk
      have k16 := k15.mod m6 nbk
      clear hb4 hb5 k14 k15 H4 H5
      have hwo := H6.wo
      simp only at hwo
      have hwl := h.wl
      have hnw : b1 ∉ blkL m.ws.1 := fun q => by
        have a := h.fw _ q
        have := (h.old b1 (by rw [oo_of a]; decide)).2
        omega
      repeat (first | refine T_region ?_ | refine TL_move (hk := ?_) | refine TL_load TE (hk := ?_) | refine TL_fieldAddr TE (hk := ?_) | refine TL_nilCheck (hk := ?_) | refine TL_makeFunc (hk := ?_))
      refine TL_call TE (hc := DeleteS_c m.ws.1 m.ws.2.1 m.ws.2.2 base t.wt b1 k w6 hwo (by omega) k16 hnw) (hk := ?_)
      rintro _ w7 ⟨rfl, m7, o7⟩
      have hpw : m.p ∉ blkL m.ws.1 := fun q => by have a := h.fw _ q; rw [h.fp] at a; simp at a
      have hb7 := hb6.mod m7 hpw
      repeat (first | refine TL_fieldAddr TE (hk := ?_) | refine TL_nilCheck (hk := ?_))
      refine TL_store TE (hk := ?_); intro w8 m8 z8 k8
      obtain ⟨f8, H8, t8⟩ := H6.setW (y := (m.ws.1, (keepS k t.wt).length, m.ws.2.2)) (wt' := keepS k t.wt) m7 o7 (fun b q => .inl q) m8 k8
      repeat (refine TL_nil ?_)
      exact T_end0 rfl ⟨{ m with lk := mdel m.lk k, ws := (m.ws.1, (keepS k t.wt).length, m.ws.2.2) }, f8, rfl, H8, T6.trans t8⟩
    · have hu : unpinE t.num (t.K, t.wt) k = (mput t.K k { l with pins := 0, since := t.num }, t.wt) := by unfold unpinE; simp only; rw [hl]; simp only; rw [if_neg hp1, if_neg hs]
      rw [hu]
      repeat (first | refine T_seq ?_ | refine T_region ?_ | refine T_cond_false rfl ?_ | refine T_skip ?_ | refine TL_eq_f (hk := ?_) | refine TL_nil ?_ | refine TL_move (hk := ?_) | refine TL_load TE (hk := ?_) | refine TL_fieldAddr TE (hk := ?_) | refine TL_nilCheck (hk := ?_))
      exact T_end0 rfl ⟨m, f, rfl, H4, T4⟩
end
end Go.Proofs.Ythiacmmkfngpbaa

/- What a tier is once one is held, once one is let go, ahead of the others. -/
namespace Go.Proofs.Cold
open Go.Proofs.Eng Go.Proofs.Foot
set_option linter.unusedSimpArgs false
set_option linter.unusedVariables false
theorem hold_ci0 {t : CS} (h : CI0 t) {id : Int} {ks : List Tx} (hf : findE t id = none) (h2 : ¬ id < 0) (h3 : ¬ chkK none ks ≠ 0) (h4 : ¬ t.room < ks.length) : CI0 { t with H := t.H ++ [⟨id, ks, 1⟩] } :=
    { rm := h.rm, ls := h.ls, dl := h.dl
      k := h.k.congr (fun k => by unfold pcH; simp [List.filter_append, inP])
      hs := fun x hx => by
        rcases List.mem_append.1 hx with hx | hx
        · exact h.hs x hx
        · rw [List.mem_singleton.1 hx]
          exact ⟨.inl rfl, by simpa using h3, by simp only; omega, by simp only; omega⟩
      ids := by
        rw [List.map_append, List.nodup_append]
        refine ⟨h.ids, by simp, fun a ha b hb e => ?_⟩
        simp at hb
        obtain ⟨x, hx, rfl⟩ := List.mem_map.1 ha
        exact find_none hf x hx (e.trans hb)
      ord := by
        rw [List.pairwise_append]
        exact ⟨h.ord, List.pairwise_singleton _ _, fun a _ b hb _ => by rw [List.mem_singleton.1 hb]⟩
      rdy := fun x hx hx3 => by
        rcases List.mem_append.1 hx with hx | hx
        · exact h.rdy x hx hx3
        · rw [List.mem_singleton.1 hx] at hx3; cases hx3
      fet := fun x hx hx2 => by
        rcases List.mem_append.1 hx with hx | hx
        · exact h.fet x hx hx2
        · rw [List.mem_singleton.1 hx] at hx2; cases hx2 }
theorem rel_ci0 {t : CS} (h : CI0 t) {i : Nat} (h1 : i < t.H.length) : CI0 { t with H := t.H.eraseIdx i, num := t.num + 1, K := (if (t.H.getD i hd0).st = 1 then (t.K, t.wt) else (t.H.getD i hd0).ks.foldl (unpinE (t.num + 1)) (t.K, t.wt)).1, wt := (if (t.H.getD i hd0).st = 1 then (t.K, t.wt) else (t.H.getD i hd0).ks.foldl (unpinE (t.num + 1)) (t.K, t.wt)).2 } := by
    have hm := getD_mem (d := hd0) h1
    obtain ⟨s1, s2, s3, s4⟩ := h.hs _ hm
    have hsub : ∀ x ∈ t.H.eraseIdx i, x ∈ t.H := fun x hx => List.mem_of_mem_eraseIdx hx
    have herase := fun k => filter_erase (inP k) t.H i hd0 h1
    generalize t.H.getD i hd0 = h0 at *
    have hKp : KOk t.room t.lines t.delay (if h0.st = 1 then (t.K, t.wt) else h0.ks.foldl (unpinE (t.num + 1)) (t.K, t.wt)).1 (if h0.st = 1 then (t.K, t.wt) else h0.ks.foldl (unpinE (t.num + 1)) (t.K, t.wt)).2 (pcH (t.H.eraseIdx i)) ∧ (∀ j, warmK (if h0.st = 1 then (t.K, t.wt) else h0.ks.foldl (unpinE (t.num + 1)) (t.K, t.wt)).1 j = warmK t.K j) := by
      by_cases e : h0.st = 1
      · rw [if_pos e]
        refine ⟨h.k.congr (fun k => ?_), fun _ => rfl⟩
        have := herase k
        have a1 : inP k h0 = false := by unfold inP; rw [e]; rfl
        rw [a1] at this
        unfold pcH; simp [b2n] at this; omega
      · rw [if_neg e]
        obtain ⟨g1, g2⟩ := h.k.unpins (t.num + 1) h0.ks (chk_nodup s2) (fun k hk => pc_pos hm e hk)
        refine ⟨g1.congr (fun k => ?_), g2⟩
        have := herase k
        have a1 : inP k h0 = decide (k ∈ h0.ks) := by unfold inP; simp [e]
        rw [a1] at this
        unfold pcH
        unfold b2n at this
        simp at this ⊢
        omega
    obtain ⟨q1, q2⟩ := hKp
    generalize (if h0.st = 1 then (t.K, t.wt) else h0.ks.foldl (unpinE (t.num + 1)) (t.K, t.wt)) = p at q1 q2
    exact
      { rm := h.rm, ls := h.ls, dl := h.dl, k := q1, hs := fun x hx => h.hs x (hsub x hx)
        ids := by
          have : ((t.H.eraseIdx i).map (·.id)).Sublist (t.H.map (·.id)) := (List.eraseIdx_sublist _ _).map _
          exact this.nodup h.ids
        ord := h.ord.sublist (List.eraseIdx_sublist _ _)
        rdy := fun x hx hx3 => by rw [warmE_congr (fun k _ => q2 k)]; exact h.rdy x (hsub x hx) hx3
        fet := fun x hx hx2 => by rw [warmE_congr (fun k _ => q2 k)]; exact h.fet x (hsub x hx) hx2 }
end Go.Proofs.Cold

namespace Go.Proofs.Ythiacmmkfngpbaa
open Go.RowKit Go.Proofs.Eng Go.Proofs.Foot Go.Proofs.Cold
set_option linter.unusedSimpArgs false
set_option linter.unusedVariables false set_option maxRecDepth 10000
attribute [local irreducible] T TL LV TH TA
set_option maxHeartbeats 3200000
section
variable {w w' : World} {base : Nat} {m : CM} {f : Nat → Oo} {t : CS}
theorem ptrs_take (l : List (Nat × SL)) (i : Nat) : (ptrs l).take i = ptrs (l.take i) := by simp [ptrs, List.map_take]
theorem ptrs_drop (l : List (Nat × SL)) (i : Nat) : (ptrs l).drop i = ptrs (l.drop i) := by simp [ptrs, List.map_drop]
theorem ptrs_append (a b : List (Nat × SL)) : ptrs (a ++ b) = ptrs a ++ ptrs b := by simp [ptrs]
theorem HDelete_c (A : Option Addr) (n c base i : Nat) (q : List (Nat × SL)) (w : World) (h : Own w base 58 1 A n c (ptrs q)) (hi : i < n) (hn : n ≤ 1000000) (hbw : base ≤ w.heap.size) :
    Ret Try.prog 33 [.slice A n c, .int .i64 (i : Int), .int .i64 ((i + 1 : Nat) : Int)] w (fun v w' => v = .slice A (n - 1) c ∧ Eng.Mod (blkL A) w w' ∧ Own w' base 58 1 A (n - 1) c (ptrs (q.eraseIdx i))) := by
  have hl : q.length = n := by have := h.len; rw [ptrs_len] at this; omega
  have hcap := h.cap
  have hne : ¬ (i : Int) = ((i + 1 : Nat) : Int) := by omega
  rw [List.eraseIdx_eq_take_drop_succ]
  refine ret_T (n := 33) Try.func33 rfl rfl ?_
  repeat (first | refine T_seq ?_ | refine T_region ?_ | refine TL_nil ?_ | refine TL_move (hk := ?_) | refine TL_assign (hk := ?_) | refine TL_len TE (hk := ?_))
  refine TL_slice3 TE (hk := ?_)
  repeat (first | refine T_seq ?_ | refine T_region ?_ | refine T_cond_false rfl ?_ | refine T_skip ?_ | refine TL_eq_f (hk := ?_) | refine TL_nil ?_ | refine TL_move (hk := ?_) | refine TL_assign (hk := ?_) | refine TL_len TE (hk := ?_))
  refine T_region_any TE.mixed (blkL A) ?_; intro w1 e1 z1
  have h1 := h.be e1
  have r1 : Rd w1 (cutA A c (i + 1) 1) (n - (i + 1)) 1 (ptrs (q.drop (i + 1))) := by
    have := Rd.cut (l := i + 1) (h := n) (c := c) h1.rd (by omega) (Nat.le_refl _) hcap.1
    rw [ptrs_drop, List.take_of_length_le (by rw [ptrs_len, List.length_drop]; omega)] at this
    simpa only [Nat.mul_one] using this
  (refine TA_take 0 rfl (by kernel_rfl) (by kernel_rfl) (by kernel_rfl) ?_; (repeat (first | refine TL_move (hk := ?_) | refine TL_slice_hi TE (hk := ?_) | refine TL_slice_lo TE (hk := ?_))); refine TL_nil_p ?_); (refine TA_take 1 rfl (by kernel_rfl) (by kernel_rfl) (by kernel_rfl) ?_; (repeat (first | refine TL_move (hk := ?_) | refine TL_slice_hi TE (hk := ?_) | refine TL_slice_lo TE (hk := ?_))); refine TL_nil_p ?_); (refine TA_take 2 rfl (by kernel_rfl) (by kernel_rfl) (by kernel_rfl) ?_; (repeat (first | refine TL_move (hk := ?_) | refine TL_slice_hi TE (hk := ?_) | refine TL_slice_lo TE (hk := ?_))); refine TL_nil_p ?_); (refine TA_take 3 rfl (by kernel_rfl) (by kernel_rfl) (by kernel_rfl) ?_; (repeat (first | refine TL_move (hk := ?_) | refine TL_slice_hi TE (hk := ?_) | refine TL_slice_lo TE (hk := ?_))); refine TL_nil_p ?_); (refine TA_take 4 rfl (by kernel_rfl) (by kernel_rfl) (by kernel_rfl) ?_; (repeat (first | refine TL_move (hk := ?_) | refine TL_slice_hi TE (hk := ?_) | refine TL_slice_lo TE (hk := ?_))); refine TL_nil_p ?_); (refine TA_take 5 rfl (by kernel_rfl) (by kernel_rfl) (by kernel_rfl) ?_; (repeat (first | refine TL_move (hk := ?_) | refine TL_slice_hi TE (hk := ?_) | refine TL_slice_lo TE (hk := ?_))); refine TL_nil_p ?_)
  refine TA_one 6 rfl (by kernel_rfl) (by kernel_rfl) ?_
  refine TL_append_within TE h1 r1 (ptrs_one _) (i := i) (by omega) (hf := rfl) (hq := fun w' m => m) (hk := ?_); intro w2 o2 m2 z2
  simp only [Nat.mul_one] at o2
  rw [ptrs_take, ← ptrs_append, ptrs_drop, ← ptrs_append] at o2
  refine TL_nil_p ?_
  (refine TA_one 7 rfl (by kernel_rfl) (by kernel_rfl) ?_; (repeat (refine TL_assign (hk := ?_))); refine TL_nil_p ?_)
  refine TA_done (by kernel_rfl) ?_
  repeat (first | refine T_seq ?_ | refine T_region ?_ | refine TL_move (hk := ?_) | refine TL_len TE (hk := ?_) | refine TL_slice_lh TE (hk := ?_))
  refine TL_clear TE o2 (hk := ?_); intro w3 m3 z3 o3
  have hlen : ((i + (n - (i + 1)) : Nat) : Int).toNat = n - 1 := by omega
  have hlen2 : i + (n - (i + 1)) = n - 1 := by omega
  rw [hlen] at o3
  simp only [Nat.mul_one] at o3
  rw [ptrs_take, List.take_append_of_le_length (by simp; omega), List.take_of_length_le (by simp; omega)] at o3
  repeat (first | refine T_seq ?_ | refine T_region ?_ | refine TL_nil ?_ | refine TL_move (hk := ?_) | refine TL_assign (hk := ?_))
  exact T_ret1 rfl rfl ⟨by rw [hlen2], ((e1.mono (by simp)).trans m2).trans m3, o3⟩
theorem getD_erase {α : Type} (l : List α) (i j : Nat) (d : α) : (l.eraseIdx i).getD j d = if j < i then l.getD j d else l.getD (j + 1) d := by
  rw [List.getD_eq_getElem?_getD, List.getElem?_eraseIdx]
  split <;> rw [List.getD_eq_getElem?_getD]
/-- One is held no more. -/
theorem TierM.delHold (h : TierM w base m f t) {i : Nat} (hi : i < t.H.length) {w1 w2 : World} (m1 : Eng.Mod (blkL m.hs.1) w w1) (ho : Own w1 base 58 1 m.hs.1 (m.hs.2.1 - 1) m.hs.2.2 (ptrs (m.hp.eraseIdx i))) (m2 : Eng.Mod [m.p] w1 w2)
    (hb : Blk w2 m.p 56 (tierV { m with hs := (m.hs.1, m.hs.2.1 - 1, m.hs.2.2) } t)) :
    ∃ f', TierM w2 base { m with hs := (m.hs.1, m.hs.2.1 - 1, m.hs.2.2), hp := m.hp.eraseIdx i } f' { t with H := t.H.eraseIdx i } ∧ Tn (oo f) (oo f') w w2 ∧ HoldM w2 f (m.hp.getD i hp0) (t.H.getD i hd0) ∧ ∀ b ∈ (m.hp.getD i hp0).1 :: blkL (m.hp.getD i hp0).2.1, oo f' b = 0 := by
  have z1 := m1.size
  have z2 := m2.size
  have g0 := h.hm i hi
  have M : Eng.Mod (m.p :: blkL m.hs.1) w w2 := (m1.mono (S' := m.p :: blkL m.hs.1) (fun b hb => .inl (List.mem_cons_of_mem _ hb))).step m2 (fun b hb => .inl (by rw [List.mem_singleton.1 hb]; exact List.mem_cons_self))
  have hS : ∀ z, z ≠ 1 → z ≠ 3 → ∀ x ∈ m.p :: blkL m.hs.1, oo f x ≠ z := fun z a1 a2 x hx => by
    rcases List.mem_cons.1 hx with rfl | hx
    · rw [oo_of h.fp]; exact fun e => a1 e.symm
    · rw [oo_of (h.fh x hx)]; exact fun e => a2 e.symm
  obtain ⟨z0, hz0⟩ : ∃ z0, (t.H.getD i hd0).id = z0 := ⟨_, rfl⟩
  let f' : Nat → Oo := fun x => if f x = (6, [], z0) ∨ f x = (7, [], z0) then (0, [], 0) else f x
  have keep : ∀ x z, f x = z → z ≠ (6, [], z0) → z ≠ (7, [], z0) → f' x = z := fun x z e a1 a2 => by
    show (if _ then _ else _) = z
    rw [if_neg (by rw [e]; exact fun q => q.elim a1 a2), e]
  have sub : ∀ x, oo f' x ≠ 0 → oo f x ≠ 0 := fun x q e => by
    unfold oo at q e
    apply q
    show (if _ then _ else _ : Oo).1 = 0
    split
    · rfl
    · exact e
  have hpl : ∀ b ∈ blkL m.hs.1, b ∉ [m.p] := fun b hb q => by
    have a := h.fh b hb
    rw [List.mem_singleton.1 q, h.fp] at a
    simp at a
  have hH := h.hm_mod M (fun x q => ⟨hS 6 (by decide) (by decide) x q, hS 7 (by decide) (by decide) x q⟩)
  have hel := h.hl
  refine ⟨f', { h with
    blk := hb
    mp := h.mp_mod M (hS 2 (by decide) (by decide))
    kl := fun j l hj => ?_
    ho := ho.modL m2 hpl
    hl := by simp only [List.length_eraseIdx]; rw [hel]
    hm := fun j hj => ?_
    hn := by
      have : ((t.H.eraseIdx i).map (·.id)).Sublist (t.H.map (·.id)) := (List.eraseIdx_sublist _ _).map _
      exact this.nodup h.hn
    wo := h.wo_mod M (hS 4 (by decide) (by decide))
    fp := keep _ _ h.fp (by simp) (by simp)
    fk := keep _ _ h.fk (by simp) (by simp)
    fh := fun x hx => keep _ _ (h.fh x hx) (by simp) (by simp)
    fw := fun x hx => keep _ _ (h.fw x hx) (by simp) (by simp)
    old := fun x q => by have := h.old x (sub x q); omega }, ⟨⟨_, M, hS 0 (by decide) (by decide)⟩, fun x q => .inl (sub x q), by omega⟩, hH i hi, fun b hb => ?_⟩
  · obtain ⟨c, c1, c2, c3⟩ := h.kl_mod M (hS 5 (by decide) (by decide)) j l hj
    exact ⟨c, c1, c2, keep _ _ c3 (by simp) (by simp)⟩
  · simp only at hj ⊢
    rw [List.length_eraseIdx, if_pos hi] at hj
    rw [getD_erase, getD_erase]
    have key : ∀ j', j' < t.H.length → j' ≠ i → HoldM w2 f' (m.hp.getD j' hp0) (t.H.getD j' hd0) := fun j' h1 h2 => by
      have g := hH j' h1
      have hid : (t.H.getD j' hd0).id ≠ z0 := fun e => h2 (id_inj h.hn h1 hi (e.trans hz0.symm))
      exact { g with fb := keep _ _ g.fb (by simp; exact hid) (by simp), fk := fun x hx => keep _ _ (g.fk x hx) (by simp) (by simp; exact hid) }
    by_cases e : j < i
    · rw [if_pos e, if_pos e]; exact key j (by omega) (by omega)
    · rw [if_neg e, if_neg e]; exact key (j + 1) (by omega) (by omega)
  · unfold oo
    show (if _ then _ else _ : Oo).1 = 0
    rcases List.mem_cons.1 hb with rfl | hb
    · rw [if_pos (.inl (by rw [g0.fb, hz0]))]
    · rw [if_pos (.inr (by rw [g0.fk b hb, hz0]))]
end
end Go.Proofs.Ythiacmmkfngpbaa

namespace Go.Proofs.Ythiacmmkfngpbaa
open Go.RowKit Go.Proofs.Eng Go.Proofs.Foot Go.Proofs.Cold
set_option linter.unusedSimpArgs false
set_option linter.unusedVariables false set_option maxRecDepth 10000
attribute [local irreducible] T TL LV TH TA
set_option maxHeartbeats 3200000
section
variable {w w' : World} {base : Nat} {m : CM} {f : Nat → Oo} {t : CS}
theorem rd_tn {o o' : Nat → Nat} {w1 w2 : World} {A : Option Addr} {n s : Nat} {l : List Value} (r : Rd w1 A n s l) (tn : Tn o o' w1 w2) (h0 : ∀ b ∈ blkL A, o b = 0 ∧ b < w1.heap.size) : Rd w2 A n s l ∧ ∀ b ∈ blkL A, o' b = 0 ∧ b < w2.heap.size := by
  obtain ⟨⟨S, h1, h2⟩, h3, h4⟩ := id tn
  exact ⟨r.mod h1 (off_ofL fun b hb q => h2 b q (h0 b hb).1), fun b hb => ⟨tn.old (h0 b hb).1 (h0 b hb).2, by have := (h0 b hb).2; omega⟩⟩
theorem Release_c (z : Int) (w : World) (h : TierM w base m f t) (hc : CI0 t) (hH : t.H.length ≤ 1000000) (hm : t.num ≤ 2305843009213693952) (hF : t.fet ≤ 2305843009213693952) :
    Ret Try.prog 14 [pB m.p, .int .i64 z] w (fun v w' => ∃ m' f', v = .int .i64 ((relE t z).2 : Int) ∧ m'.p = m.p ∧ TierM w' base m' f' (relE t z).1 ∧ Tn (oo f) (oo f') w w') := by
  have hb := h.blk
  unfold tierV at hb
  have hrd := h.ho.rd
  have hhl := h.hl'
  have hhp := h.hl
  have hbw := h.bw
  obtain ⟨N, hN⟩ : ∃ N, t.num + 1 = N := ⟨_, rfl⟩
  have hmc : (t.num : Int) + 1 = (N : Int) := by omega
  refine ret_T (n := 61) Try.func14 rfl rfl ?_
  repeat (first | refine T_seq ?_ | refine T_region ?_ | refine T_cond_false rfl ?_ | refine T_skip ?_ | refine TL_pnil_f TE (hk := ?_) | refine TL_nil ?_ | refine TL_move (hk := ?_) | refine TL_assign (hk := ?_))
  refine TL_call TE (hc := find_c z w h) (hk := ?_)
  rintro _ w1 ⟨rfl, e1⟩
  have h1 := h.ext e1
  have hb1 := hb.be e1
  have hrd1 := hrd.be e1
  cases hf : findE t z with
  | none =>
    have hfin : relE t z = (t, 280) := by unfold relE; rw [hf]
    rw [hfin]
    unfold fI
    simp only
    repeat (first | refine T_seq ?_ | refine T_region ?_ | refine T_cond_true rfl ?_ | refine TL_lt_t (hk := ?_) | refine TL_nil ?_ | refine TL_move (hk := ?_) | refine TL_assign (hk := ?_))
    exact T_ret1 rfl rfl ⟨m, f, rfl, rfl, h1, Tn.ext e1⟩
  | some i =>
    obtain ⟨hi, _⟩ := find_some hf
    have hc0 := rel_ci0 hc hi
    have hfin : relE t z = (letE { t with H := t.H.eraseIdx i, num := t.num + 1, K := (if (t.H.getD i hd0).st = 1 then (t.K, t.wt) else (t.H.getD i hd0).ks.foldl (unpinE (t.num + 1)) (t.K, t.wt)).1, wt := (if (t.H.getD i hd0).st = 1 then (t.K, t.wt) else (t.H.getD i hd0).ks.foldl (unpinE (t.num + 1)) (t.K, t.wt)).2 }, 0) := by unfold relE; rw [hf]
    rw [hfin]
    simp only
    clear hfin hf
    rw [hN] at hc0 ⊢
    obtain ⟨s1, s2, s3, s4⟩ := hc.hs _ (getD_mem (d := hd0) hi)
    have hpcp := fun (q : (t.H.getD i hd0).st ≠ 1) k (hk : k ∈ (t.H.getD i hd0).ks) => pc_pos (getD_mem (d := hd0) hi) q hk
    have hv := ptrs_get m.hp i (by omega)
    have hic : (i : Int) + 1 = ((i + 1 : Nat) : Int) := by omega
    unfold fI
    simp only
    repeat (first | refine T_seq ?_ | refine T_region ?_ | refine T_cond_false rfl ?_ | refine T_skip ?_ | refine TL_add (hk := ?_) | refine TL_lt_f (hk := ?_) | refine TL_nil ?_ | refine TL_move (hk := ?_) | refine TL_assign (hk := ?_) | refine TL_load TE (hk := ?_) | refine TL_load_rd TE (hk := ?_) | refine TL_fieldAddr TE (hk := ?_) | refine TL_indexAddr1n TE (hk := ?_) | refine TL_nilCheck (hk := ?_))
    rw [hic]
    --
    refine TL_call TE (hc := HDelete_c m.hs.1 m.hs.2.1 m.hs.2.2 base i m.hp w1 h1.ho (by omega) (by omega) h1.bw) (hk := ?_)
    rintro _ w2 ⟨rfl, m2, o2⟩
    have hph : m.p ∉ blkL m.hs.1 := fun q => by have a := h.fh _ q; rw [h.fp] at a; simp at a
    have hb2 := hb1.mod m2 hph
    repeat (first | refine TL_fieldAddr TE (hk := ?_) | refine TL_nilCheck (hk := ?_))
    refine TL_store TE (hk := ?_); intro w3 m3 z3 k3
    obtain ⟨f3, h3, t3, g3, z3'⟩ := h1.delHold hi m2 o2 m3 k3
    obtain ⟨hd, hhd⟩ : ∃ hd, t.H.getD i hd0 = hd := ⟨_, rfl⟩
    obtain ⟨x, hx⟩ : ∃ x, m.hp.getD i hp0 = x := ⟨_, rfl⟩
    have hxo : ∀ b ∈ x.1 :: blkL x.2.1, b < w1.heap.size ∧ b ≠ m.p := fun b hb => by
      have g := h1.hm i hi
      rw [hx] at g
      rcases List.mem_cons.1 hb with q | q
      · rw [q]
        exact ⟨(h1.old _ (by rw [oo_of g.fb]; decide)).2, fun e => by have a := g.fb; rw [e, h1.fp] at a; simp at a⟩
      · exact ⟨(h1.old _ (by rw [oo_of (g.fk b q)]; simp)).2, fun e => by have a := g.fk b q; rw [e, h1.fp] at a; simp at a⟩
    have hxs := t3.size
    rw [hhd, hx] at g3
    rw [hx] at z3'
    rw [hhd] at hc0 s1 s2 s3 s4 hpcp
    have hb3 := h3.blk
    unfold tierV at hb3
    simp only at hb3
    rw [hhd, hx]
    clear hb1 hb2 k3 o2 hrd1
    repeat (first | refine T_seq ?_ | refine T_region ?_ | refine TL_add (hk := ?_) | refine TL_nil ?_ | refine TL_move (hk := ?_) | refine TL_load TE (hk := ?_) | refine TL_fieldAddr TE (hk := ?_) | refine TL_nilCheck (hk := ?_))
    rw [hmc]
    --
    refine TL_store TE (hk := ?_); intro w4 m4 z4 k4
    obtain ⟨h4, t4⟩ := h3.nums (t' := { t with H := t.H.eraseIdx i, num := N }) m4 k4 rfl rfl rfl
    have T4 := ((Tn.ext e1).trans t3).trans t4
    have gb4 := g3.blk.mod m4 (by rw [List.mem_singleton]; exact (hxo _ List.mem_cons_self).2)
    unfold hdV at gb4
    have gr4 := g3.rd.mod m4 (off_ofL fun b hb q => (hxo b (List.mem_cons_of_mem _ hb)).2 (List.mem_singleton.1 q))
    have gz4 : ∀ b ∈ blkL x.2.1, oo f3 b = 0 ∧ b < w4.heap.size := fun b hb => ⟨z3' b (List.mem_cons_of_mem _ hb), by have := (hxo b (List.mem_cons_of_mem _ hb)).1; omega⟩
    have hkl : hd.ks.length = x.2.2.1 := by have := g3.rd.1; rw [sv_length] at this; omega
    have hel : (t.H.eraseIdx i).length ≤ 1000000 := by rw [List.length_eraseIdx]; split <;> omega
    clear h3 hb3 k4 g3 h1
    have hrm := hc.rm
    by_cases hs : hd.st = 1
    · rw [if_pos hs] at hc0 ⊢
      have cL := let_c w4 h4 hc0 hel hF
      simp only at cL
      repeat (first | refine T_seq ?_ | refine T_region ?_ | refine T_cond_false rfl ?_ | refine T_skip ?_ | refine TL_ne_f (hk := ?_) | refine TL_nil ?_ | refine TL_move (hk := ?_) | refine TL_load TE (hk := ?_) | refine TL_fieldAddr TE (hk := ?_) | refine TL_nilCheck (hk := ?_))
      refine TL_call TE (hc := cL) (hk := ?_)
      rintro _ w5 ⟨m5, f5, hp5, h5, t5⟩
      repeat (first | refine T_seq ?_ | refine T_region ?_ | refine TL_nil ?_ | refine TL_assign (hk := ?_))
      exact T_ret1 rfl rfl ⟨m5, f5, rfl, hp5, h5, T4.trans t5⟩
    · rw [if_neg hs] at hc0 ⊢
      have hnd := chk_nodup s2
      repeat (first | refine T_seq ?_ | refine T_region ?_ | refine T_cond_true rfl ?_ | refine T_block ?_ | refine TL_ne_t (hk := ?_) | refine TL_nil ?_ | refine TL_move (hk := ?_) | refine TL_load TE (hk := ?_) | refine TL_fieldAddr TE (hk := ?_) | refine TL_len TE (hk := ?_) | refine TL_nilCheck (hk := ?_))
      refine T_loop (ι := Nat) (fun j => [(51, .int .i64 (j : Int)), (50, .int .i64 (x.2.2.1 : Int)), (49, sL x.2), (0, pB m.p)])
        (fun j w' => j ≤ hd.ks.length ∧ ∃ m1 f1, m1.p = m.p ∧ TierM w' base m1 f1 { t with H := t.H.eraseIdx i, num := N, K := ((hd.ks.take j).foldl (unpinE N) (t.K, t.wt)).1, wt := ((hd.ks.take j).foldl (unpinE N) (t.K, t.wt)).2 } ∧ Tn (oo f) (oo f1) w w' ∧ Rd w' x.2.1 x.2.2.1 1 (sv hd.ks) ∧ ∀ b ∈ blkL x.2.1, oo f1 b = 0 ∧ b < w'.heap.size)
        (fun j => hd.ks.length - j) 0 (.c rfl (.c rfl (.c rfl (.c rfl (.n))))) ⟨Nat.zero_le _, { m with hs := (m.hs.1, m.hs.2.1 - 1, m.hs.2.2), hp := m.hp.eraseIdx i }, f3, rfl, h4, T4, gr4, gz4⟩ ?_
      clear h4 gr4 gz4 gb4 T4 t4 t3
      rintro j w5 ⟨hj, m5, f5, hp5, h5, t5n, gr, gz⟩ ih
      by_cases hlt : j < hd.ks.length
      · have hpre : ∀ y ∈ hd.ks.take j, y ∈ hd.ks := fun y hy => List.mem_of_mem_take hy
        obtain ⟨u1, _⟩ := hc.k.unpins N (hd.ks.take j) (hnd.sublist (List.take_sublist _ _)) (fun k hk => hpcp hs k (hpre k hk))
        have hqs : (hd.ks.take (j + 1)).foldl (unpinE N) (t.K, t.wt) = unpinE N ((hd.ks.take j).foldl (unpinE N) (t.K, t.wt)) (hd.ks.getD j []) := by
          rw [List.take_succ_eq_append_getElem hlt, List.foldl_append, List.getD_eq_getElem?_getD, List.getElem?_eq_getElem hlt]
          rfl
        have hnj : hd.ks.getD j [] ∉ hd.ks.take j := fun q => by
          rw [List.getD_eq_getElem?_getD, List.getElem?_eq_getElem hlt] at q
          have := List.nodup_append.1 (by rw [List.take_append_drop]; exact hnd : (hd.ks.take j ++ hd.ks.drop j).Nodup)
          exact this.2.2 _ q _ (by rw [List.drop_eq_getElem_cons hlt]; exact List.mem_cons_self) rfl
        have hmj : hd.ks.getD j [] ∈ hd.ks := by rw [List.getD_eq_getElem?_getD, List.getElem?_eq_getElem hlt]; exact List.getElem_mem _
        have hv := sv_get hd.ks j hlt
        obtain ⟨k, hk⟩ : ∃ k, hd.ks.getD j [] = k := ⟨_, rfl⟩
        rw [hk] at hv hqs hnj hmj
        have hpk := hpcp hs k hmj
        obtain ⟨l, hl, hlp⟩ := u1.in_ (k := k) (by rw [if_neg hnj]; omega)
        rw [if_neg hnj] at hlp
        have hwl := kok_wlen u1
        have hpm : pcH t.H k ≤ t.H.length := List.length_filter_le _ _
        have cU := unpin_c k l w5 h5 hl (by omega) (by simp only; omega)
        simp only at cU
        rw [hp5, ← hqs] at cU
        repeat (first | refine T_seq ?_ | refine T_region ?_ | refine T_cond_true rfl ?_ | refine T_block ?_ | refine T_skip ?_ | refine TL_lt_t (hk := ?_) | refine TL_nil ?_ | refine TL_move (hk := ?_) | refine TL_assign (hk := ?_) | refine TL_load_rd TE (hk := ?_) | refine TL_indexAddr1n TE (hk := ?_))
        refine TL_call TE (hc := cU) (hk := ?_)
        rintro _ w6 ⟨m6, f6, hp6, h6, t6⟩
        obtain ⟨gr6, gz6⟩ := rd_tn gr t6 gz
        repeat (first | refine T_region ?_ | refine T_inBlock ?_ | refine TL_add (hk := ?_) | refine TL_nil ?_ | refine TL_move (hk := ?_))
        exact ih (j + 1) w6 _ (by omega) ⟨by omega, m6, f6, hp6, h6, t5n.trans t6, gr6, gz6⟩ (.c rfl (.c rfl (.c rfl (.c rfl (.n)))))
      · clear ih
        have hj2 : j = hd.ks.length := by omega
        subst hj2
        rw [List.take_length] at h5
        have cL := let_c w5 h5 hc0 hel hF
        rw [hp5] at cL
        repeat (first | refine T_seq ?_ | refine T_region ?_ | refine T_cond_false rfl ?_ | refine T_exit rfl ?_ | refine TL_lt_f (hk := ?_) | refine TL_nil ?_ | refine TL_move (hk := ?_))
        refine TL_call TE (hc := cL) (hk := ?_)
        rintro _ w6 ⟨m6, f6, hp6, h6, t6⟩
        repeat (first | refine T_seq ?_ | refine T_region ?_ | refine TL_nil ?_ | refine TL_assign (hk := ?_))
        exact T_ret1 rfl rfl ⟨m6, f6, rfl, hp6, h6, t5n.trans t6⟩
end
end Go.Proofs.Ythiacmmkfngpbaa

namespace Go.Proofs.Ythiacmmkfngpbaa
open Go.RowKit Go.Proofs.Eng Go.Proofs.Foot Go.Proofs.Cold
set_option linter.unusedSimpArgs false
set_option linter.unusedVariables false set_option maxRecDepth 10000
attribute [local irreducible] T TL LV TH TA
set_option maxHeartbeats 3200000
section
variable {w w' : World} {base : Nat} {m : CM} {f : Nat → Oo} {t : CS}
theorem getD_app {α : Type} (l : List α) (x d : α) (j : Nat) (h : j < l.length + 1) : (l ++ [x]).getD j d = if j < l.length then l.getD j d else x := by
  rw [List.getD_eq_getElem?_getD]
  split
  · rename_i e; rw [List.getElem?_append_left e, List.getD_eq_getElem?_getD]
  · rw [List.getElem?_append_right (by omega), show j - l.length = 0 by omega]; rfl
/-- One more is held. -/
theorem TierM.addHold (h : TierM w base m f t) {z : Int} {ks : List Tx} {x : Nat × SL} {y : SL} (hz : ∀ a ∈ t.H, a.id ≠ z) {w1 w2 : World} (m1 : Eng.Mod (blkL m.hs.1) w w1)
    (ho : Own w1 base 58 1 y.1 y.2.1 y.2.2 (ptrs (m.hp ++ [x]))) (hn : ∀ b ∈ blkL y.1, b ∈ blkL m.hs.1 ∨ w.heap.size ≤ b) (hx : Blk w1 x.1 60 (hdV ⟨z, ks, 1⟩ x.2)) (hx0 : w.heap.size ≤ x.1)
    (hr : Rd w1 x.2.1 x.2.2.1 1 (sv ks)) (hcp : x.2.2.1 ≤ x.2.2.2 ∧ x.2.2.2 ≤ maxLen) (hk0 : ∀ b ∈ blkL x.2.1, w.heap.size ≤ b ∧ b < w1.heap.size ∧ b ≠ x.1 ∧ b ∉ blkL y.1) (hxy : x.1 ∉ blkL y.1) (m2 : Eng.Mod [m.p] w1 w2)
    (hb : Blk w2 m.p 56 (tierV { m with hs := y } t)) :
    ∃ f', TierM w2 base { m with hs := y, hp := m.hp ++ [x] } f' { t with H := t.H ++ [⟨z, ks, 1⟩] } ∧ Tn (oo f) (oo f') w w2 := by
  have z1 := m1.size
  have z2 := m2.size
  have hpo := (h.old m.p (by rw [oo_of h.fp]; decide)).2
  have hbase := h.bw
  have hxl := hx.lt
  have M : Eng.Mod (m.p :: blkL m.hs.1) w w2 := (m1.mono (S' := m.p :: blkL m.hs.1) (fun b hb => .inl (List.mem_cons_of_mem _ hb))).step m2 (fun b hb => .inl (by rw [List.mem_singleton.1 hb]; exact List.mem_cons_self))
  have hS : ∀ z, z ≠ 1 → z ≠ 3 → ∀ x ∈ m.p :: blkL m.hs.1, oo f x ≠ z := fun z a1 a2 x hx => by
    rcases List.mem_cons.1 hx with rfl | hx
    · rw [oo_of h.fp]; exact fun e => a1 e.symm
    · rw [oo_of (h.fh x hx)]; exact fun e => a2 e.symm
  let f' : Nat → Oo := fun b => if b ∈ blkL y.1 then (3, [], 0) else if b = x.1 then (6, [], z) else if b ∈ blkL x.2.1 then (7, [], z) else f b
  have keep : ∀ b v, f b = v → v.1 ≠ 0 → v.1 ≠ 3 → f' b = v := fun b v e a1 a2 => by
    have hbo := (h.old b (by unfold oo; rw [e]; exact a1)).2
    show (if _ then _ else _) = v
    rw [if_neg (fun q => by
      rcases hn b q with q | q
      · rw [h.fh b q] at e; rw [← e] at a2; exact a2 rfl
      · omega), if_neg (by omega), if_neg (fun q => by have := (hk0 b q).1; omega), e]
  have hpy : ∀ b ∈ blkL y.1, b ∉ [m.p] := fun b hb q => by
    rw [List.mem_singleton] at q
    rcases hn b hb with q2 | q2
    · have := h.fh b q2; rw [q, h.fp] at this; simp at this
    · omega
  have hH := h.hm_mod M (fun x q => ⟨hS 6 (by decide) (by decide) x q, hS 7 (by decide) (by decide) x q⟩)
  have hel := h.hl
  refine ⟨f', { h with
    blk := hb
    mp := h.mp_mod M (hS 2 (by decide) (by decide))
    kl := fun j l hj => ?_
    ho := ho.modL m2 hpy
    hl := by simp only [List.length_append, List.length_cons, List.length_nil]; rw [hel]
    hm := fun j hj => ?_
    hn := by
      rw [List.map_append, List.nodup_append]
      refine ⟨h.hn, by simp, fun a ha b hb e => ?_⟩
      simp at hb
      obtain ⟨u, hu, rfl⟩ := List.mem_map.1 ha
      exact hz u hu (e.trans hb)
    wo := h.wo_mod M (hS 4 (by decide) (by decide))
    fp := keep _ _ h.fp (by simp) (by simp)
    fk := keep _ _ h.fk (by simp) (by simp)
    fh := fun b hb => if_pos hb
    fw := fun b hb => keep _ _ (h.fw b hb) (by simp) (by simp)
    old := fun b q => ?_ }, ⟨_, M, hS 0 (by decide) (by decide)⟩, fun b q => ?_, by omega⟩
  · obtain ⟨c, c1, c2, c3⟩ := h.kl_mod M (hS 5 (by decide) (by decide)) j l hj
    exact ⟨c, c1, c2, keep _ _ c3 (by simp) (by simp)⟩
  · simp only [List.length_append, List.length_cons, List.length_nil] at hj
    simp only
    rw [getD_app _ _ _ _ (by omega), getD_app _ _ _ _ hj, hel]
    by_cases e : j < t.H.length
    · rw [if_pos e, if_pos e]
      have g := hH j e
      exact { g with fb := keep _ _ g.fb (by simp) (by simp), fk := fun b hb => keep _ _ (g.fk b hb) (by simp) (by simp) }
    · rw [if_neg e, if_neg e]
      exact { blk := hx.mod m2 (by rw [List.mem_singleton]; omega), rd := hr.mod m2 (off_ofL fun b hb q => by have := (hk0 b hb).1; rw [List.mem_singleton.1 q] at this; omega), cp := hcp.1, cm := hcp.2
              fb := by show (if _ then _ else _) = _; rw [if_neg hxy, if_pos rfl]
              fk := fun b hb => by show (if _ then _ else _) = _; obtain ⟨_, _, q1, q2⟩ := hk0 b hb; rw [if_neg q2, if_neg q1, if_pos hb] }
  · by_cases e : b ∈ blkL y.1
    · have a := (ho.bl b e); omega
    · by_cases e2 : b = x.1
      · omega
      · by_cases e3 : b ∈ blkL x.2.1
        · have := hk0 b e3; omega
        · have := h.old b (by unfold oo at q ⊢; rwa [show f' b = f b by show (if _ then _ else _) = _; rw [if_neg e, if_neg e2, if_neg e3]] at q); omega
  · by_cases e : b ∈ blkL y.1
    · rcases hn b e with q2 | q2
      · left; rw [oo_of (h.fh b q2)]; decide
      · exact .inr q2
    · by_cases e2 : b = x.1
      · right; omega
      · by_cases e3 : b ∈ blkL x.2.1
        · exact .inr (hk0 b e3).1
        · left; unfold oo at q ⊢; rwa [show f' b = f b by show (if _ then _ else _) = _; rw [if_neg e, if_neg e2, if_neg e3]] at q
end
end Go.Proofs.Ythiacmmkfngpbaa

namespace Go.Proofs.Ythiacmmkfngpbaa
open Go.RowKit Go.Proofs.Eng Go.Proofs.Foot Go.Proofs.Cold
set_option linter.unusedSimpArgs false
set_option linter.unusedVariables false set_option maxRecDepth 10000
attribute [local irreducible] T TL LV TH TA
set_option maxHeartbeats 3200000
section
variable {w w' : World} {base : Nat} {m : CM} {f : Nat → Oo} {t : CS}
def prevO (ks : List Tx) (j : Nat) : Option Tx := if j = 0 then none else some (ks.getD (j - 1) [])
theorem chk_step {ks : List Tx} {j : Nat} (h : j < ks.length) : chkK (prevO ks j) (ks.drop j) = if validT (ks.getD j []) = false then 30 else if overK (prevO ks j) (ks.getD j []) = true then 40 else chkK (prevO ks (j + 1)) (ks.drop (j + 1)) := by
  rw [List.drop_eq_getElem_cons h]
  have hg : ks.getD j [] = ks[j] := by rw [List.getD_eq_getElem?_getD, List.getElem?_eq_getElem h]; rfl
  have hp : prevO ks (j + 1) = some ks[j] := by unfold prevO; rw [if_neg (by omega), Nat.add_sub_cancel, hg]
  rw [hg, hp]
  conv => lhs; unfold chkK
theorem Hold_c (z : Int) (B : Option Addr) (n c : Nat) (ks : List Tx) (w : World) (h : TierM w base m f t) (hc : CI0 t) (hr : Rd w B n 1 (sv ks)) (hn : n ≤ 1000000) (hlen : ∀ x ∈ ks, x.length ≤ 9223372036854775807) (hH : t.H.length ≤ 999999) (hF : t.fet ≤ 2305843009213693952) :
    Ret Try.prog 12 [pB m.p, .int .i64 z, .slice B n c] w (fun v w' => ∃ m' f', v = .int .i64 ((holdE t z ks).2 : Int) ∧ m'.p = m.p ∧ TierM w' base m' f' (holdE t z ks).1 ∧ Tn (oo f) (oo f') w w') := by
  have hb := h.blk
  unfold tierV at hb
  have hhl := h.hl'
  have hhp := h.hl
  have hbw := h.bw
  have hkl : ks.length = n := by have := hr.1; rw [sv_length] at this; omega
  refine ret_T (n := 65) Try.func12 rfl rfl ?_
  repeat (first | refine T_seq ?_ | refine T_region ?_ | refine T_cond_false rfl ?_ | refine T_block ?_ | refine TL_pnil_f TE (hk := ?_) | refine TL_nil ?_ | refine TL_move (hk := ?_) | refine TL_assign (hk := ?_))
  refine TL_call TE (hc := find_c z w h) (hk := ?_)
  rintro _ w1 ⟨rfl, e1⟩
  have h1 := h.ext e1
  have hb1 := hb.be e1
  have hr1 := hr.be e1
  cases hf : findE t z with
  | some i =>
    have hfin : holdE t z ks = (t, 8) := by unfold holdE; rw [hf]; rfl
    obtain ⟨hi, _⟩ := find_some hf
    rw [hfin]
    unfold fI
    simp only
    repeat (first | refine T_seq ?_ | refine T_region ?_ | refine T_cond_true rfl ?_ | refine TL_ge_t (hk := ?_) | refine TL_nil ?_ | refine TL_assign (hk := ?_))
    exact T_ret1 rfl rfl ⟨m, f, rfl, rfl, h1, Tn.ext e1⟩
  | none =>
    unfold fI
    simp only
    by_cases hz : z < 0
    · have hfin : holdE t z ks = (t, 2) := by unfold holdE; rw [hf, if_neg (by simp), if_pos hz]
      rw [hfin]
      repeat (first | refine T_seq ?_ | refine T_region ?_ | refine T_cond_true rfl ?_ | refine T_cond_false rfl ?_ | refine TL_lt_t (hk := ?_) | refine TL_ge_f (hk := ?_) | refine TL_nil ?_ | refine TL_move (hk := ?_) | refine TL_assign (hk := ?_))
      exact T_ret1 rfl rfl ⟨m, f, rfl, rfl, h1, Tn.ext e1⟩
    · have hfin : holdE t z ks = if chkK none ks ≠ 0 then (t, chkK none ks) else if t.room < ks.length then (t, 6) else (letE { t with H := t.H ++ [⟨z, ks, 1⟩] }, 0) := by unfold holdE; rw [hf, if_neg (by simp), if_neg hz]
      repeat (first | refine T_seq ?_ | refine T_region ?_ | refine T_cond_false rfl ?_ | refine T_block ?_ | refine T_inBlock ?_ | refine T_skip ?_ | refine TL_lt_f (hk := ?_) | refine TL_ge_f (hk := ?_) | refine TL_nil ?_ | refine TL_move (hk := ?_) | refine TL_assign (hk := ?_) | refine TL_len TE (hk := ?_))
      refine T_loop (ι := Nat) (fun j => [(22, .int .i64 (j : Int)), (21, .int .i64 (n : Int)), (20, .slice B n c), (2, .slice B n c), (1, .int .i64 z), (0, pB m.p)])
        (fun j w' => j ≤ n ∧ Ext w w' ∧ chkK none ks = chkK (prevO ks j) (ks.drop j)) (fun j => n - j) 0 (.c rfl (.c rfl (.c rfl (.c rfl (.c rfl (.c rfl (.n))))))) ⟨Nat.zero_le _, e1, rfl⟩ ?_
      clear h1 hb1 hr1 e1
      rintro j w2 ⟨hj, e2, hck⟩ ih
      have h2 := h.ext e2
      have hb2 := hb.be e2
      have hr2 := hr.be e2
      by_cases hlt : j < n
      · have hst := chk_step (ks := ks) (j := j) (by omega)
        have hv := sv_get ks j (by omega)
        have hm : ks.getD j [] ∈ ks := by rw [List.getD_eq_getElem?_getD, List.getElem?_eq_getElem (by omega)]; exact List.getElem_mem _
        obtain ⟨k, hk⟩ : ∃ k, ks.getD j [] = k := ⟨_, rfl⟩
        rw [hk] at hst hv hm
        have cV := Valid_c k (hlen k hm) w2
        repeat (first | refine T_seq ?_ | refine T_region ?_ | refine T_cond_true rfl ?_ | refine T_block ?_ | refine T_skip ?_ | refine TL_lt_t (hk := ?_) | refine TL_nil ?_ | refine TL_move (hk := ?_) | refine TL_assign (hk := ?_) | refine TL_load_rd TE (hk := ?_) | refine TL_indexAddr1n TE (hk := ?_))
        refine TL_call TE (hc := cV) (hk := ?_)
        rintro _ _ ⟨rfl, rfl⟩
        by_cases hval : validT k = true
        · rw [if_neg (by rw [hval]; simp)] at hst
          rw [hval]
          by_cases h0 : j = 0
          · subst h0
            rw [if_neg (by unfold prevO overK; simp)] at hst
            repeat (first | refine T_seq ?_ | refine T_region ?_ | refine T_cond_false rfl ?_ | refine T_inBlock ?_ | refine T_skip ?_ | refine TL_add (hk := ?_) | refine TL_gt_f (hk := ?_) | refine TL_nil ?_ | refine TL_move (hk := ?_) | refine TL_no (hk := ?_) | refine TL_pick_f (hk := ?_) | refine TL_not (hk := ?_))
            exact ih 1 _ _ (by omega) ⟨by omega, e2, by rw [hck, hst]⟩ (.c rfl (.c rfl (.c rfl (.c rfl (.c rfl (.c rfl (.n)))))))
          · have hj1 : (j : Int) - 1 = ((j - 1 : Nat) : Int) := by omega
            have hv1 := sv_get ks (j - 1) (by omega)
            have hpo : prevO ks j = some (ks.getD (j - 1) []) := by unfold prevO; rw [if_neg h0]
            rw [hpo] at hst
            unfold overK at hst
            obtain ⟨y, hy⟩ : ∃ y, ks.getD (j - 1) [] = y := ⟨_, rfl⟩
            rw [hy] at hst hv1
            simp only [decide_eq_true_eq] at hst
            by_cases hle : k ≤ y
            · rw [if_pos hle] at hst
              have hf2 : holdE t z ks = (t, 40) := by rw [hfin, hck, hpo, hy, hst]; rfl
              rw [hf2]
              clear ih
              repeat (first | refine T_seq ?_ | refine T_region ?_ | refine T_cond_false rfl ?_ | refine T_skip ?_ | refine TL_sub (hk := ?_) | refine TL_gt_t (hk := ?_) | refine TL_nil ?_ | refine TL_move (hk := ?_) | refine TL_indexAddr1 TE (hk := ?_) | refine TL_yes (hk := ?_) | refine TL_not (hk := ?_) | refine TL_load_s TE (hk := ?_))
              rw [hj1]
              --
              rw [Int.toNat_natCast, hy]
              repeat (first | refine T_seq ?_ | refine T_region ?_ | refine T_cond_true rfl ?_ | refine TL_sge_t (hk := ?_) | refine TL_nil ?_ | refine TL_assign (hk := ?_) | refine TL_pick_t (hk := ?_))
              exact T_ret1 rfl rfl ⟨m, f, rfl, rfl, h2, Tn.ext e2⟩
            · rw [if_neg hle] at hst
              repeat (first | refine T_seq ?_ | refine T_region ?_ | refine T_cond_false rfl ?_ | refine T_skip ?_ | refine TL_sub (hk := ?_) | refine TL_gt_t (hk := ?_) | refine TL_nil ?_ | refine TL_move (hk := ?_) | refine TL_indexAddr1 TE (hk := ?_) | refine TL_yes (hk := ?_) | refine TL_not (hk := ?_) | refine TL_load_s TE (hk := ?_))
              rw [hj1]
              --
              rw [Int.toNat_natCast, hy]
              repeat (first | refine T_region ?_ | refine T_cond_false rfl ?_ | refine T_inBlock ?_ | refine T_skip ?_ | refine TL_add (hk := ?_) | refine TL_sge_f (hk := ?_) | refine TL_nil ?_ | refine TL_move (hk := ?_) | refine TL_pick_t (hk := ?_))
              exact ih (j + 1) _ _ (by omega) ⟨by omega, e2, by rw [hck, hpo, hy, hst]⟩ (.c rfl (.c rfl (.c rfl (.c rfl (.c rfl (.c rfl (.n)))))))
        · have hval' : validT k = false := by simpa using hval
          rw [if_pos hval'] at hst
          have hf2 : holdE t z ks = (t, 30) := by rw [hfin, hck, hst]; rfl
          rw [hf2, hval']
          clear ih
          repeat (first | refine T_seq ?_ | refine T_region ?_ | refine T_cond_true rfl ?_ | refine TL_nil ?_ | refine TL_assign (hk := ?_) | refine TL_not (hk := ?_))
          exact T_ret1 rfl rfl ⟨m, f, rfl, rfl, h2, Tn.ext e2⟩
      · clear ih
        have hj2 : j = ks.length := by omega
        rw [hj2, List.drop_length] at hck
        have hck0 : chkK none ks = 0 := by rw [hck]; rfl
        rw [if_neg (by rw [hck0]; simp)] at hfin
        by_cases hrm : t.room < ks.length
        · rw [if_pos hrm] at hfin
          rw [hfin]
          repeat (first | refine T_seq ?_ | refine T_region ?_ | refine T_cond_true rfl ?_ | refine T_cond_false rfl ?_ | refine T_exit rfl ?_ | refine TL_lt_f (hk := ?_) | refine TL_gt_t (hk := ?_) | refine TL_nil ?_ | refine TL_move (hk := ?_) | refine TL_assign (hk := ?_) | refine TL_load TE (hk := ?_) | refine TL_fieldAddr TE (hk := ?_) | refine TL_len TE (hk := ?_) | refine TL_nilCheck (hk := ?_))
          exact T_ret1 rfl rfl ⟨m, f, rfl, rfl, h2, Tn.ext e2⟩
        · rw [if_neg hrm] at hfin
          have hc0 := hold_ci0 hc hf hz (by rw [hck0]; simp) hrm
          rw [hfin]
          simp only
          have hph : m.p ∉ blkL m.hs.1 := fun q => by have a := h.fh _ q; rw [h.fp] at a; simp at a
          clear hfin hck hb
          repeat (first | refine T_seq ?_ | refine T_region ?_ | refine T_cond_false rfl ?_ | refine T_skip ?_ | refine T_exit rfl ?_ | refine TL_lt_f (hk := ?_) | refine TL_gt_f (hk := ?_) | refine TL_nil ?_ | refine TL_move (hk := ?_) | refine TL_load TE (hk := ?_) | refine TL_fieldAddr TE (hk := ?_) | refine TL_len TE (hk := ?_) | refine TL_nilCheck (hk := ?_))
          refine T_region_anyz TE.mixed (blkL m.hs.1) (some 14) ?_; intro w3 e3 z3
          have h3 := h2.ext e3
          have hb3 := hb2.be e3
          have hr3 := hr2.be e3
          have hbw3 := h3.bw
          (refine TA_take 0 rfl (by kernel_rfl) (by kernel_rfl) (by kernel_rfl) ?_; (repeat (first | refine TL_move (hk := ?_) | refine TLP_load TE (hk := ?_) | refine TL_fieldAddr TE (hk := ?_) | refine TL_nilCheck (hk := ?_))); refine TL_nil_p ?_); (refine TA_take 1 rfl (by kernel_rfl) (by kernel_rfl) (by kernel_rfl) ?_; (repeat (first | refine TL_move (hk := ?_) | refine TLP_load TE (hk := ?_) | refine TL_fieldAddr TE (hk := ?_) | refine TL_nilCheck (hk := ?_))); refine TL_nil_p ?_); (refine TA_take 2 rfl (by kernel_rfl) (by kernel_rfl) (by kernel_rfl) ?_; (repeat (first | refine TL_move (hk := ?_) | refine TLP_load TE (hk := ?_) | refine TL_fieldAddr TE (hk := ?_) | refine TL_nilCheck (hk := ?_))); refine TL_nil_p ?_); (refine TA_take 3 rfl (by kernel_rfl) (by kernel_rfl) (by kernel_rfl) ?_; (repeat (first | refine TL_move (hk := ?_) | refine TLP_load TE (hk := ?_) | refine TL_fieldAddr TE (hk := ?_) | refine TL_nilCheck (hk := ?_))); refine TL_nil_p ?_); (refine TA_take 4 rfl (by kernel_rfl) (by kernel_rfl) (by kernel_rfl) ?_; (repeat (first | refine TL_move (hk := ?_) | refine TLP_load TE (hk := ?_) | refine TL_fieldAddr TE (hk := ?_) | refine TL_nilCheck (hk := ?_))); refine TL_nil_p ?_); (refine TA_take 5 rfl (by kernel_rfl) (by kernel_rfl) (by kernel_rfl) ?_; (repeat (first | refine TL_move (hk := ?_) | refine TLP_load TE (hk := ?_) | refine TL_fieldAddr TE (hk := ?_) | refine TL_nilCheck (hk := ?_))); refine TL_nil_p ?_); (refine TA_take 6 rfl (by kernel_rfl) (by kernel_rfl) (by kernel_rfl) ?_; (repeat (first | refine TL_move (hk := ?_) | refine TLP_load TE (hk := ?_) | refine TL_fieldAddr TE (hk := ?_) | refine TL_nilCheck (hk := ?_))); refine TL_nil_p ?_)
          refine TA_one 7 rfl (by kernel_rfl) (by kernel_rfl) ?_; (try refine TL_yes (hk := ?_)); refine TL_call TE (hc := SClone_c B n c ks w3 hr3 (by omega)) (hq := (by rintro _ w' ⟨x, rfl, e, _⟩; exact Ext.un e)) (hk := ?_)
          rintro _ w4 ⟨x, rfl, e4, rx⟩
          refine TL_nil_p ?_
          (refine TA_take 8 rfl (by kernel_rfl) (by kernel_rfl) (by kernel_rfl) ?_; (repeat (refine TL_build TE (hk := ?_))); refine TL_nil_p ?_)
          refine TA_one 9 rfl (by kernel_rfl) (by kernel_rfl) ?_
          refine TL_box (hf := rfl) (hq := fun w' h => (Ext.un (e4.ext h))) (hk := ?_); intro b5 w5 e5 h5 h5' k5
          replace k5 : Blk w5 b5 60 (hdV ⟨z, ks, 1⟩ x) := k5
          refine TL_nil_p ?_
          refine TA_one 10 rfl (by kernel_rfl) (by kernel_rfl) ?_
          refine TL_buildSliceA TE (hf := rfl) (hq := fun w' h => (Ext.un ((e4.ext e5).ext h))) (hk := ?_); intro b6 w6 e6 h6 h6' k6
          replace k6 : Blk w6 b6 58 (ptrs [(b5, x)]) := k6
          have r6 : Rd w6 (some ⟨b6, 0, none⟩) 1 1 (ptrs [(b5, x)]) := Rd.blk k6 rfl
          have e36 := (e4.ext e5).ext e6
          have z36 := e36.size
          have ho6 := h3.ho.be e36
          refine TL_nil_p ?_
          refine TA_one 11 rfl (by kernel_rfl) (by kernel_rfl) ?_
          refine TL_append TE (ho := ho6) (hr := r6) (h1 := ptrs_one _) (hf := rfl) (hq := fun w' m => (Ext.un e36).trans m) (hk := ?_); intro A7 c7 w7 o7 m7 n7
          rw [← ptrs_append] at o7
          refine TL_nil_p ?_
          (refine TA_one 12 rfl (by kernel_rfl) (by kernel_rfl) ?_; (repeat (first | refine TL_fieldAddr TE (hk := ?_) | refine TL_nilCheck (hk := ?_))); refine TL_nil_p ?_); (refine TA_one 13 rfl (by kernel_rfl) (by kernel_rfl) ?_; (repeat (first | refine TL_fieldAddr TE (hk := ?_) | refine TL_nilCheck (hk := ?_))); refine TL_nil_p ?_)
          refine TA_one 14 rfl (by kernel_rfl) (by kernel_rfl) ?_
          have hb7 := (hb3.be e36).mod m7 hph
          refine TL_store TE (hb := hb7) (hf := rfl) (hq := fun _ _ _ => trivial) (hk := ?_); intro w8 m8 z8 k8
          refine TL_nil_z (by kernel_rfl) ?_
          have hold : ∀ b ∈ blkL m.hs.1, b < w.heap.size := fun b q => (h.old b (by rw [oo_of (h.fh b q)]; decide)).2
          have y23 := e2.size
          have y3 := e3.size
          have y4 := e4.size
          have y5 := e5.size
          have y6 := e6.size
          have hnear : ∀ b ∈ blkL A7, b ∈ blkL m.hs.1 ∨ w6.heap.size ≤ b := nearB n7
          have n5 : b5 ∉ blkL m.hs.1 := fun q => by have := hold _ q; omega
          have rx7 := ((rx.rd.be e5).be e6).mod m7 (off_ofL fun b q q2 => by have a := hold _ q2; have := (rx.bl b q).1; omega)
          have hcx := rx.cap
          obtain ⟨f9, h9, t9⟩ := h3.addHold (z := z) (ks := ks) (x := (b5, x)) (y := (A7, m.hs.2.1 + 1, c7)) (find_none hf) ((Ext.un e36).trans m7) o7 (fun b q => (hnear b q).imp_right fun a => by omega) ((k5.be e6).mod m7 n5) (by simp only; omega) rx7 hcx (fun b q => ⟨(rx.bl b q).1, by have := (rx.bl b q).2; have := m7.size; omega, by have := (rx.bl b q).2; simp only; omega, fun q2 => by
            have a1 := rx.bl b q
            rcases hnear b q2 with a | a
            · have := hold _ a; omega
            · omega⟩) (fun q => by
            rcases hnear _ q with a | a
            · exact n5 a
            · simp only at a; omega) m8 k8
          have cL := let_c w8 h9 hc0 (by simp only [List.length_append, List.length_cons, List.length_nil]; omega) hF
          simp only at cL
          repeat (first | refine T_seq ?_ | refine T_region ?_ | refine TL_move (hk := ?_))
          refine TL_call TE (hc := cL) (hk := ?_)
          rintro _ w9 ⟨m9, f10, hp9, h10, t10⟩
          repeat (first | refine T_seq ?_ | refine T_region ?_ | refine TL_nil ?_ | refine TL_assign (hk := ?_))
          exact T_ret1 rfl rfl ⟨m9, f10, rfl, hp9, h10, ((Tn.ext (e2.ext e3)).trans t9).trans t10⟩
end
end Go.Proofs.Ythiacmmkfngpbaa

namespace Go.Proofs.Ythiacmmkfngpbaa
open Go.RowKit Go.Proofs.Eng Go.Proofs.Foot Go.Proofs.Cold
set_option linter.unusedSimpArgs false
set_option linter.unusedVariables false set_option maxRecDepth 10000
attribute [local irreducible] T TL LV TH TA
set_option maxHeartbeats 3200000
section
variable {w w' : World} {base : Nat} {m : CM} {f : Nat → Oo} {t : CS}
theorem New_bad (a b c : Int) (w : World) (h : ¬ ((1 ≤ a ∧ a ≤ 4096) ∧ (1 ≤ b ∧ b ≤ 64) ∧ 1 ≤ c ∧ c ≤ 1000)) :
    Ret Try.prog 10 [.int .i64 a, .int .i64 b, .int .i64 c] w (fun v w' => v = .tuple #[.pointer none, .int .i64 2] ∧ Ext w w') := by
  refine ret_T (n := 36) Try.func10 rfl rfl ?_
  by_cases q1 : a < 1
  · repeat (first | refine T_seq ?_ | refine T_region ?_ | refine T_cond_true rfl ?_ | refine TL_lt_t (hk := ?_) | refine TL_nil ?_ | refine TL_move (hk := ?_) | refine TL_assign (hk := ?_) | refine TL_no (hk := ?_) | refine TL_pick_t (hk := ?_))
    exact T_ret2 rfl rfl rfl ⟨rfl, Mod.refl _ _⟩
  by_cases q2 : 4096 < a
  · repeat (first | refine T_seq ?_ | refine T_region ?_ | refine T_cond_true rfl ?_ | refine TL_lt_f (hk := ?_) | refine TL_gt_t (hk := ?_) | refine TL_nil ?_ | refine TL_move (hk := ?_) | refine TL_assign (hk := ?_) | refine TL_yes (hk := ?_) | refine TL_no (hk := ?_) | refine TL_pick_t (hk := ?_) | refine TL_pick_f (hk := ?_))
    exact T_ret2 rfl rfl rfl ⟨rfl, Mod.refl _ _⟩
  by_cases q3 : b < 1
  · repeat (first | refine T_seq ?_ | refine T_region ?_ | refine T_cond_true rfl ?_ | refine TL_lt_t (hk := ?_) | refine TL_lt_f (hk := ?_) | refine TL_gt_f (hk := ?_) | refine TL_nil ?_ | refine TL_move (hk := ?_) | refine TL_assign (hk := ?_) | refine TL_yes (hk := ?_) | refine TL_no (hk := ?_) | refine TL_pick_t (hk := ?_) | refine TL_pick_f (hk := ?_))
    exact T_ret2 rfl rfl rfl ⟨rfl, Mod.refl _ _⟩
  by_cases q4 : 64 < b
  · repeat (first | refine T_seq ?_ | refine T_region ?_ | refine T_cond_true rfl ?_ | refine TL_lt_f (hk := ?_) | refine TL_gt_t (hk := ?_) | refine TL_gt_f (hk := ?_) | refine TL_nil ?_ | refine TL_move (hk := ?_) | refine TL_assign (hk := ?_) | refine TL_yes (hk := ?_) | refine TL_no (hk := ?_) | refine TL_pick_t (hk := ?_) | refine TL_pick_f (hk := ?_))
    exact T_ret2 rfl rfl rfl ⟨rfl, Mod.refl _ _⟩
  by_cases q5 : c < 1
  · repeat (first | refine T_seq ?_ | refine T_region ?_ | refine T_cond_true rfl ?_ | refine TL_lt_t (hk := ?_) | refine TL_lt_f (hk := ?_) | refine TL_gt_f (hk := ?_) | refine TL_nil ?_ | refine TL_move (hk := ?_) | refine TL_assign (hk := ?_) | refine TL_yes (hk := ?_) | refine TL_no (hk := ?_) | refine TL_pick_t (hk := ?_) | refine TL_pick_f (hk := ?_))
    exact T_ret2 rfl rfl rfl ⟨rfl, Mod.refl _ _⟩
  by_cases q6 : 1000 < c
  · repeat (first | refine T_seq ?_ | refine T_region ?_ | refine T_cond_true rfl ?_ | refine TL_lt_f (hk := ?_) | refine TL_gt_t (hk := ?_) | refine TL_gt_f (hk := ?_) | refine TL_nil ?_ | refine TL_move (hk := ?_) | refine TL_assign (hk := ?_) | refine TL_yes (hk := ?_) | refine TL_pick_f (hk := ?_))
    exact T_ret2 rfl rfl rfl ⟨rfl, Mod.refl _ _⟩
  · exact absurd ⟨⟨by omega, by omega⟩, ⟨by omega, by omega⟩, by omega, by omega⟩ h
theorem New_c (a b c : Nat) (w : World) (ha : 1 ≤ a ∧ a ≤ 4096) (hb : 1 ≤ b ∧ b ≤ 64) (hc : 1 ≤ c ∧ c ≤ 1000) :
    Ret Try.prog 10 [.int .i64 (a : Int), .int .i64 (b : Int), .int .i64 (c : Int)] w (fun v w' => ∃ m f, v = .tuple #[pB m.p, .int .i64 0] ∧ Ext w w' ∧ TierM w' w.heap.size m f (newC a b c)) := by
  obtain ⟨a1, a2⟩ := ha
  obtain ⟨b1, b2⟩ := hb
  obtain ⟨c1, c2⟩ := hc
  refine ret_T (n := 36) Try.func10 rfl rfl ?_
  repeat (first | refine T_seq ?_ | refine T_region ?_ | refine T_cond_false rfl ?_ | refine T_skip ?_ | refine TL_lt_f (hk := ?_) | refine TL_gt_f (hk := ?_) | refine TL_nil ?_ | refine TL_move (hk := ?_) | refine TL_assign (hk := ?_) | refine TL_yes (hk := ?_) | refine TL_pick_f (hk := ?_))
  refine TL_makeMap .string tK pV (hk := ?_); intro b1 w1 e1 h1 h1' mp1
  repeat (refine TL_build TE (hk := ?_))
  refine TL_box (hk := ?_); intro b2 w2 e2 h2 h2' k2
  repeat (first | refine TL_nil ?_ | refine TL_assign (hk := ?_))
  have z1 := e1.size
  have z2 := e2.size
  have mp2 := mp1.be e2
  have hne : ¬ b1 = b2 := by omega
  refine T_ret2 rfl rfl rfl ⟨⟨b2, b1, [], (none, 0, 0), [], (none, 0, 0)⟩, fun x => if x = b2 then (1, [], 0) else if x = b1 then (2, [], 0) else (0, [], 0), rfl, e1.ext e2, { blk := k2, mp := mp2, kk := rfl, kn := by simp [newC], kl := fun k l q => by simp [newC, mget] at q, ho := Own.nil _ _ _ _, hl := rfl, hm := fun i hi => by simp [newC] at hi, hn := by simp [newC], wo := Seg.nil _ _ _ _, fp := by simp, fk := by simp [hne], fh := fun x hx => by simp [blkL] at hx, fw := fun x hx => by simp [blkL] at hx, old := fun x q => ?_ }⟩
  unfold oo at q
  by_cases q1 : x = b2
  · omega
  · by_cases q2 : x = b1
    · omega
    · simp only [q1, q2, if_false] at q; exact absurd rfl q
end
end Go.Proofs.Ythiacmmkfngpbaa

namespace Go.Proofs.Ythiacmmkfngpbaa
open Go.RowKit Go.Proofs.Eng Go.Proofs.Foot Go.Proofs.Cold
set_option linter.unusedSimpArgs false
set_option linter.unusedVariables false set_option maxRecDepth 10000
attribute [local irreducible] T TL LV TH TA
set_option maxHeartbeats 3200000
section
variable {w w' : World} {base : Nat} {m : CM} {f : Nat → Oo} {t : CS}
theorem sv_take (l : List Tx) (k : Nat) : (sv l).take k = sv (l.take k) := by simp [sv]
theorem own_c (A : Option Addr) (n c : Nat) (l : List Tx) (w : World) (h : Rd w A n 1 (sv l)) (hn : n ≤ 1000000) :
    Ret Try.prog 13 [.slice A n c] w (fun v w' => ∃ x : SL, v = sL x ∧ Ext w w' ∧ Rd w' x.1 x.2.1 1 (sv l) ∧ x.2.1 = n) := by
  have hl : l.length = n := by have := h.1; rw [sv_length] at this; omega
  refine ret_T (n := 11) Try.func13 rfl rfl ?_
  repeat (first | refine T_seq ?_ | refine T_region ?_ | refine TL_nil ?_ | refine TL_assign (hk := ?_))
  refine TL_buildSlice0 TE (hk := ?_); intro b1 w1 e1 h1 h1' k1
  have o1 : Own w1 w.heap.size 9 1 (some ⟨b1, 0, none⟩) 0 0 [] := Own.of_blk k1 h1 rfl (by decide)
  have z1 := e1.size
  repeat (refine TL_move (hk := ?_))
  refine TL_append TE (ho := o1) (hr := h.be e1) (h1 := sv_one _) (hk := ?_); intro A2 c2 w2 o2 m2 n2
  rw [List.nil_append] at o2
  have E2 : Ext w w2 := Mod.own e1 m2 o1.hi
  have z2 := E2.size
  --
  refine TL_buildSlice TE (hk := ?_); intro b3 w3 e3 h3 h3' k3
  obtain ⟨bh, hbh⟩ : ∃ bh : Tx, Blk w3 b3 9 (sv [bh]) := ⟨[98, 101, 104, 105, 110, 100], k3⟩
  have r3 : Rd w3 (some ⟨b3, 0, none⟩) 1 1 (sv [bh]) := Rd.blk hbh rfl
  have z3 := e3.size
  --
  refine TL_append TE (ho := o2.be e3) (hr := r3) (h1 := sv_one _) (hk := ?_); intro A4 c4 w4 o4 m4 n4
  rw [← sv_append] at o4
  have E4 : Ext w w4 := Mod.own (E2.ext e3) m4 (o2.be e3).hi
  have hc4 := o4.cap
  have r4 := Own.rd (o4.shrink (n' := n) (by omega))
  repeat (first | refine TL_nil ?_ | refine TL_move (hk := ?_) | refine TL_assign (hk := ?_) | refine TL_len TE (hk := ?_) | refine TL_slice_hi TE (hk := ?_))
  refine T_ret1 rfl rfl ⟨(A4, n, c4), by simp [sL], E4, ?_, rfl⟩
  have ht : (sv (l ++ [bh])).take (n * 1) = sv l := by rw [Nat.mul_one, sv_take, List.take_append_of_le_length (by omega), List.take_of_length_le (by omega)]
  rw [ht] at r4
  exact r4
end
end Go.Proofs.Ythiacmmkfngpbaa

/- Two keys, one line, two ticks each: what a tier tells. -/
namespace Go.Proofs.Cold
open Go.Proofs.Eng Go.Proofs.Foot
set_option linter.unusedSimpArgs false
set_option linter.unusedVariables false
set_option maxRecDepth 100000
def lv0 : CS := newC 2 1 2
def lv1 : CS := (holdE lv0 1 [[97], [98]]).1
def lv2 : CS := (holdE lv1 2 [[97], [99]]).1
def lv3 : CS := tickC lv2
def lv4 : CS := tickC lv3
def lv5 : CS := tickC lv4
def lv6 : CS := tickC lv5
def lv7 : CS := (relE lv6 1).1
theorem lv_a : (holdE lv0 1 [[97], [98]]).2 = 0 := by rfl
theorem lv_b : (holdE lv1 2 [[97], [99]]).2 = 0 := by rfl
theorem lv_c : doneK lv3.K = [[97]] := by rfl
theorem lv_d : stateE lv5 1 = 2 := by rfl
theorem lv_e : readyC lv6 = [1] := by rfl
theorem lv_f : stateE lv6 2 = 1 := by rfl
theorem lv_g : (relE lv6 1).2 = 0 := by rfl
theorem lv_h : stateE lv7 2 = 2 := by rfl
theorem lv_i : pinsE lv7 [97] = 1 := by rfl
theorem lv_j : lv7.fet = 3 := by rfl
theorem lv_k : lv7.now = 4 := by rfl
theorem lv_l : lv0.H.length = 0 ∧ lv1.H.length = 1 ∧ lv2.H.length = 2 ∧ lv6.H.length = 2 := by refine ⟨?_, ?_, ?_, ?_⟩ <;> rfl
theorem lv_m : lv1.fet = 1 ∧ lv2.fet = 1 ∧ lv3.fet = 1 ∧ lv4.fet = 2 ∧ lv5.fet = 2 ∧ lv6.fet = 2 := by refine ⟨?_, ?_, ?_, ?_, ?_, ?_⟩ <;> rfl
theorem lv_n : lv2.num = 0 ∧ lv3.num = 1 ∧ lv4.num = 2 ∧ lv5.num = 3 ∧ lv6.num = 4 ∧ lv2.now = 0 ∧ lv3.now = 1 ∧ lv4.now = 2 ∧ lv5.now = 3 := by refine ⟨?_, ?_, ?_, ?_, ?_, ?_, ?_, ?_, ?_⟩ <;> rfl
theorem lv_ci : CI lv0 ∧ CI lv1 ∧ CI lv2 ∧ CI lv3 ∧ CI lv4 ∧ CI lv5 ∧ CI lv6 ∧ CI lv7 := by
  have c0 : CI lv0 := new_ci (by omega) (by omega) (by omega)
  have c1 : CI lv1 := (hold_ci c0 _ _).1
  have c2 : CI lv2 := (hold_ci c1 _ _).1
  have c3 : CI lv3 := (tick_ci c2).1
  have c4 : CI lv4 := (tick_ci c3).1
  have c5 : CI lv5 := (tick_ci c4).1
  have c6 : CI lv6 := (tick_ci c5).1
  exact ⟨c0, c1, c2, c3, c4, c5, c6, (rel_ci c6 1).1⟩
end Go.Proofs.Cold

namespace Go.Proofs.Ythiacmmkfngpbaa
open Go.RowKit Go.Proofs.Eng Go.Proofs.Foot Go.Proofs.Cold
set_option linter.unusedSimpArgs false
set_option linter.unusedVariables false set_option maxRecDepth 10000
attribute [local irreducible] T TL LV TH TA
set_option maxHeartbeats 3200000
section
variable {w w' : World} {base : Nat} {m : CM} {f : Nat → Oo} {t : CS}
theorem num_c (z : Int) (w : World) : Ret Try.prog 11 [.int .i64 z] w (fun v w' => v = .int .i64 z ∧ Ext w w') := by
  refine ret_T (n := 4) Try.func11 rfl rfl ?_
  repeat (first | refine T_seq ?_ | refine T_region ?_ | refine TL_nil ?_ | refine TL_move (hk := ?_) | refine TL_assign (hk := ?_))
  exact T_ret1 rfl rfl ⟨rfl, Mod.refl _ _⟩
theorem tn_all {o o' : Nat → Nat} {w0 w1 w2 : World} (e : Ext w0 w1) (tn : Tn o o' w1 w2) (h : ∀ b, o b ≠ 0 → w0.heap.size ≤ b) : Ext w0 w2 ∧ ∀ b, o' b ≠ 0 → w0.heap.size ≤ b :=
  ⟨tn.ext0 e h, fun b q => (tn.2.1 b q).elim (h b) (fun a => Nat.le_trans e.size a)⟩
theorem live_c (w : World) : Ret Try.prog 9 [] w (fun v w' => v = .bool true ∧ Ext w w') := by
  obtain ⟨c0, c1, c2, c3, c4, c5, c6, c7⟩ := lv_ci
  obtain ⟨l0, l1, l2, l6⟩ := lv_l
  obtain ⟨p1, p2, p3, p4, p5, p6⟩ := lv_m
  obtain ⟨n2, n3, n4, n5, n6, w2', w3', w4', w5'⟩ := lv_n
  refine ret_T (n := 106) Try.func9 rfl rfl ?_
  repeat (first | refine T_seq ?_ | refine T_region ?_ | refine TL_nil ?_ | refine TL_assign (hk := ?_))
  refine TL_call TE (hc := New_c 2 1 2 w (by omega) (by omega) (by omega)) (hk := ?_)
  rintro _ w1 ⟨m0, f0, rfl, e1, h0⟩
  have b0 : ∀ b, oo f0 b ≠ 0 → w.heap.size ≤ b := fun b q => (h0.old b q).1
  repeat (first | refine T_seq ?_ | refine T_region ?_ | refine TL_nil ?_ | refine TL_move (hk := ?_) | refine TL_assign (hk := ?_) | refine TL_extract (hk := ?_))
  refine TL_call TE (hc := num_c 0 w1) (hk := ?_)
  rintro _ w2 ⟨rfl, e2⟩
  have h0 := h0.ext e2
  have E2 := e1.ext e2
  repeat (first | refine T_seq ?_ | refine T_region ?_ | refine T_cond_false rfl ?_ | refine T_skip ?_ | refine TL_ne_f (hk := ?_) | refine TL_pnil_f TE (hk := ?_) | refine TL_nil ?_ | refine TL_move (hk := ?_) | refine TL_yes (hk := ?_) | refine TL_pick_f (hk := ?_))
  refine TL_buildSlice TE (hk := ?_); intro b3 w3 e3 g3 g3' k3
  replace k3 : Blk w3 b3 9 (sv [[97], [98]]) := k3
  have r3 : Rd w3 (some ⟨b3, 0, none⟩) 2 1 (sv [[97], [98]]) := Rd.blk k3 rfl
  have h0 := h0.ext e3
  have E3 := E2.ext e3
  --
  refine TL_call TE (hc := Hold_c 1 (some ⟨b3, 0, none⟩) 2 2 [[97], [98]] w3 h0 c0.toCI0 r3 (by omega) (by simp) (by show lv0.H.length ≤ _; omega) (by show lv0.fet ≤ _; exact Nat.zero_le _)) (hk := ?_)
  rintro _ w4 ⟨m4, f4, rfl, q4, h4, t4⟩
  obtain ⟨E4, b4⟩ := tn_all E3 t4 b0
  have k4 : TierM w4 w1.heap.size m4 f4 lv1 ∨ True := .inr trivial
  have v4 : ((holdE (newC 2 1 2) 1 [[97], [98]]).2 : Int) = 0 := by rw [show (holdE (newC 2 1 2) 1 [[97], [98]]).2 = 0 from lv_a]; rfl
  rw [v4]
  clear k4 v4
  repeat (first | refine T_seq ?_ | refine T_region ?_ | refine TL_nil ?_ | refine TL_move (hk := ?_) | refine TL_assign (hk := ?_))
  refine TL_buildSlice TE (hk := ?_); intro b5 w5 e5 g5 g5' k5
  replace k5 : Blk w5 b5 9 (sv [[97], [99]]) := k5
  have r5 : Rd w5 (some ⟨b5, 0, none⟩) 2 1 (sv [[97], [99]]) := Rd.blk k5 rfl
  have h4 := h4.ext e5
  have E5 := E4.ext e5
  have cH := Hold_c 2 (some ⟨b5, 0, none⟩) 2 2 [[97], [99]] w5 h4 c1.toCI0 r5 (by omega) (by simp) (by show lv1.H.length ≤ _; omega) (by show lv1.fet ≤ _; omega)
  rw [q4] at cH
  --
  refine TL_call TE (hc := cH) (hk := ?_)
  rintro _ w6 ⟨m6, f6, rfl, q6, h6, t6⟩
  obtain ⟨E6, b6⟩ := tn_all E5 t6 b4
  have v6 : ((holdE (holdE (newC 2 1 2) 1 [[97], [98]]).1 2 [[97], [99]]).2 : Int) = 0 := by rw [show (holdE (holdE (newC 2 1 2) 1 [[97], [98]]).1 2 [[97], [99]]).2 = 0 from lv_b]; rfl
  rw [v6]
  clear v6
  have cT := Tick_c w6 h6 c2.toCI0 (by show lv2.now ≤ _; omega) (by show lv2.num ≤ _; omega) (by show lv2.fet ≤ _; omega)
  rw [q6] at cT
  repeat (first | refine T_seq ?_ | refine T_region ?_ | refine TL_nil ?_ | refine TL_move (hk := ?_) | refine TL_assign (hk := ?_))
  refine TL_call TE (hc := cT) (hk := ?_)
  rintro _ w7 ⟨m7, f7, x7, rfl, q7, h7, t7, _, _⟩
  obtain ⟨E7, b7⟩ := tn_all E6 t7 b6
  have cT := Tick_c w7 h7 c3.toCI0 (by show lv3.now ≤ _; omega) (by show lv3.num ≤ _; omega) (by show lv3.fet ≤ _; omega)
  rw [q7] at cT
  repeat (first | refine T_seq ?_ | refine T_region ?_ | refine TL_nil ?_ | refine TL_move (hk := ?_))
  refine TL_call TE (hc := cT) (hk := ?_)
  rintro _ w8 ⟨m8, f8, x8, rfl, q8, h8, t8, o8, y8⟩
  obtain ⟨E8, b8⟩ := tn_all E7 t8 b7
  have hd8 : sortT (doneK lv3.K) = [[97]] := by rw [lv_c]; exact List.mergeSort_singleton _
  have o8 : TxRow w8 w7.heap.size x8 [[97]] := by rw [← hd8]; exact o8
  have hx8 : x8.2.1 = 1 := by have := o8.len; simpa [sv] using this.symm
  have r8 := o8.rd
  have y8 := fun b q => (⟨y8 b q, (o8.bl b q).2⟩ : _ ∧ _)
  clear o8
  have cT := Tick_c w8 h8 c4.toCI0 (by show lv4.now ≤ _; omega) (by show lv4.num ≤ _; omega) (by show lv4.fet ≤ _; omega)
  rw [q8] at cT
  repeat (first | refine T_seq ?_ | refine T_region ?_ | refine TL_nil ?_ | refine TL_move (hk := ?_) | refine TL_assign (hk := ?_))
  refine TL_call TE (hc := cT) (hk := ?_)
  rintro _ w9 ⟨m9, f9, x9, rfl, q9, h9, t9, _, _⟩
  obtain ⟨E9, b9⟩ := tn_all E8 t9 b8
  obtain ⟨r9, y9⟩ := rd_tn r8 t9 y8
  have cS := State_c 1 w9 h9
  rw [q9] at cS
  repeat (first | refine T_seq ?_ | refine T_region ?_ | refine TL_nil ?_ | refine TL_move (hk := ?_))
  refine TL_call TE (hc := cS) (hk := ?_)
  rintro _ w10 ⟨rfl, e10⟩
  have h10 := h9.ext e10
  have E10 := E9.ext e10
  have vS : ((stateE lv5 1 : Nat) : Int) = 2 := by rw [lv_d]; rfl
  obtain ⟨r10, y10⟩ := rd_tn r9 (Tn.ext e10) y9
  have cT := Tick_c w10 h10 c5.toCI0 (by show lv5.now ≤ _; omega) (by show lv5.num ≤ _; omega) (by show lv5.fet ≤ _; omega)
  rw [q9] at cT
  repeat (first | refine T_seq ?_ | refine T_region ?_ | refine TL_nil ?_ | refine TL_move (hk := ?_) | refine TL_assign (hk := ?_))
  refine TL_call TE (hc := cT) (hk := ?_)
  rintro _ w11 ⟨m11, f11, x11, rfl, q11, h11, t11, _, _⟩
  obtain ⟨E11, b11⟩ := tn_all E10 t11 b9
  obtain ⟨r11, y11⟩ := rd_tn r10 t11 y10
  have cR := Ready_c w11 h11 (by show lv6.H.length ≤ _; omega)
  rw [q11] at cR
  repeat (first | refine T_seq ?_ | refine T_region ?_ | refine TL_nil ?_ | refine TL_move (hk := ?_))
  refine TL_call TE (hc := cR) (hk := ?_)
  rintro _ w12 ⟨x12, rfl, e12, o12⟩
  have hd12 : readyC lv6 = [1] := lv_e
  replace o12 : Own w12 w11.heap.size 2 1 x12.1 x12.2.1 x12.2.2 (zv [1]) := by rw [← hd12]; exact o12
  have hx12 : x12.2.1 = 1 := by have := o12.len; simpa [zv] using this.symm
  have h12 := h11.ext e12
  have E12 := E11.ext e12
  obtain ⟨r12, y12⟩ := rd_tn r11 (Tn.ext e12) y11
  have b12 : ∀ b ∈ blkL x12.1, oo f11 b = 0 ∧ b < w12.heap.size := fun b q => ⟨h11.new0 (o12.bl b q).1, (o12.bl b q).2⟩
  have s12 := o12.rd
  clear o12
  have cS := State_c 2 w12 h12
  rw [q11] at cS
  repeat (first | refine T_seq ?_ | refine T_region ?_ | refine TL_nil ?_ | refine TL_move (hk := ?_) | refine TL_assign (hk := ?_))
  refine TL_call TE (hc := cS) (hk := ?_)
  rintro _ w13 ⟨rfl, e13⟩
  have h13 := h12.ext e13
  have E13 := E12.ext e13
  obtain ⟨r13, y13⟩ := rd_tn r12 (Tn.ext e13) y12
  obtain ⟨s13, b13⟩ := rd_tn s12 (Tn.ext e13) b12
  have cL := Release_c 1 w13 h13 c6.toCI0 (by show lv6.H.length ≤ _; omega) (by show lv6.num ≤ _; omega) (by show lv6.fet ≤ _; omega)
  rw [q11] at cL
  repeat (first | refine T_seq ?_ | refine T_region ?_ | refine TL_nil ?_ | refine TL_move (hk := ?_) | refine TL_assign (hk := ?_))
  refine TL_call TE (hc := cL) (hk := ?_)
  rintro _ w14 ⟨m14, f14, rfl, q14, h14, t14⟩
  obtain ⟨E14, _⟩ := tn_all E13 t14 b11
  obtain ⟨r14, y14⟩ := rd_tn r13 t14 y13
  obtain ⟨s14, b14⟩ := rd_tn s13 t14 b13
  rw [show (relE (tickC (tickC (tickC (tickC (holdE (holdE (newC 2 1 2) 1 [[97], [98]]).1 2 [[97], [99]]).1)))) 1).2 = 0 from lv_g, show stateE (tickC (tickC (tickC (tickC (holdE (holdE (newC 2 1 2) 1 [[97], [98]]).1 2 [[97], [99]]).1)))) 2 = 1 from lv_f, show stateE (tickC (tickC (tickC (holdE (holdE (newC 2 1 2) 1 [[97], [98]]).1 2 [[97], [99]]).1))) 1 = 2 from lv_d]
  repeat (first | refine T_seq ?_ | refine T_region ?_ | refine TL_nil ?_ | refine TL_move (hk := ?_) | refine TL_assign (hk := ?_))
  refine TL_call TE (hc := num_c 0 w14) (hk := ?_)
  rintro _ w15 ⟨rfl, e15⟩
  have h15 := h14.ext e15
  have E15 := E14.ext e15
  obtain ⟨r15, y15⟩ := rd_tn r14 (Tn.ext e15) y14
  obtain ⟨s15, b15⟩ := rd_tn s14 (Tn.ext e15) b14
  repeat (first | refine TL_eq_t (hk := ?_) | refine TL_move (hk := ?_) | refine TL_yes (hk := ?_))
  refine TL_call TE (hc := num_c 0 w15) (hk := ?_)
  rintro _ w16 ⟨rfl, e16⟩
  have h16 := h15.ext e16
  have E16 := E15.ext e16
  obtain ⟨r16, y16⟩ := rd_tn r15 (Tn.ext e16) y15
  obtain ⟨s16, b16⟩ := rd_tn s15 (Tn.ext e16) b15
  have hs : ofL (([[97]] : List Tx).getD 0 []) = (⟨#[97]⟩ : ByteArray) := rfl
  have hv : (sv [[97]])[0]? = some (.string (⟨#[97]⟩ : ByteArray)) := rfl
  have hu : (zv [1])[0]? = some (.int .i64 1) := rfl
  repeat (first | refine TL_eq_t (hk := ?_) | refine TL_seq_t (hk := ?_) | refine TL_move (hk := ?_) | refine TL_load_rd TE (hk := ?_) | refine TL_indexAddr1n TE (hk := ?_) | refine TL_len TE (hk := ?_) | refine TL_yes (hk := ?_) | refine TL_pick_t (hk := ?_))
  refine TL_call TE (hc := num_c 0 w16) (hk := ?_)
  rintro _ w17 ⟨rfl, e17⟩
  have h17 := h16.ext e17
  have E17 := E16.ext e17
  obtain ⟨r17, y17⟩ := rd_tn r16 (Tn.ext e17) y16
  obtain ⟨s17, b17⟩ := rd_tn s16 (Tn.ext e17) b16
  have cG := State_c 2 w17 h17
  rw [q14] at cG
  repeat (first | refine TL_eq_t (hk := ?_) | refine TL_move (hk := ?_) | refine TL_yes (hk := ?_) | refine TL_pick_t (hk := ?_))
  refine TL_call TE (hc := cG) (hk := ?_)
  rintro _ w18 ⟨rfl, e18⟩
  have h18 := h17.ext e18
  have E18 := E17.ext e18
  rw [show stateE (relE (tickC (tickC (tickC (tickC (holdE (holdE (newC 2 1 2) 1 [[97], [98]]).1 2 [[97], [99]]).1)))) 1).1 2 = 2 from lv_h]
  have cG := Pins_c [97] w18 h18
  rw [q14] at cG
  repeat (first | refine TL_eq_t (hk := ?_) | refine TL_move (hk := ?_) | refine TL_yes (hk := ?_) | refine TL_pick_t (hk := ?_))
  refine TL_call TE (hc := cG) (hk := ?_)
  rintro _ w19 ⟨rfl, e19⟩
  have h19 := h18.ext e19
  have E19 := E18.ext e19
  rw [show pinsE (relE (tickC (tickC (tickC (tickC (holdE (holdE (newC 2 1 2) 1 [[97], [98]]).1 2 [[97], [99]]).1)))) 1).1 [97] = 1 from lv_i]
  have cG := Fetches_c w19 h19
  rw [q14] at cG
  repeat (first | refine TL_eq_t (hk := ?_) | refine TL_move (hk := ?_) | refine TL_yes (hk := ?_) | refine TL_pick_t (hk := ?_))
  refine TL_call TE (hc := cG) (hk := ?_)
  rintro _ w20 ⟨rfl, e20⟩
  have h20 := h19.ext e20
  have E20 := E19.ext e20
  rw [show (relE (tickC (tickC (tickC (tickC (holdE (holdE (newC 2 1 2) 1 [[97], [98]]).1 2 [[97], [99]]).1)))) 1).1.fet = 3 from lv_j]
  have cG := Now_c w20 h20
  rw [q14] at cG
  repeat (first | refine TL_eq_t (hk := ?_) | refine TL_move (hk := ?_) | refine TL_yes (hk := ?_) | refine TL_pick_t (hk := ?_))
  refine TL_call TE (hc := cG) (hk := ?_)
  rintro _ w21 ⟨rfl, e21⟩
  have h21 := h20.ext e21
  have E21 := E20.ext e21
  rw [show (relE (tickC (tickC (tickC (tickC (holdE (holdE (newC 2 1 2) 1 [[97], [98]]).1 2 [[97], [99]]).1)))) 1).1.now = 4 from lv_k]
  repeat (first | refine TL_eq_t (hk := ?_) | refine TL_nil ?_ | refine TL_assign (hk := ?_) | refine TL_yes (hk := ?_) | refine TL_pick_t (hk := ?_))
  exact T_ret1 rfl rfl ⟨rfl, E21⟩
end
end Go.Proofs.Ythiacmmkfngpbaa

/- What the laws of a tier rest on. -/
namespace Go.Proofs.Ythiacmmkfngpbaa
open Go.RowKit Go.Proofs.Eng Go.Proofs.Foot Go.Proofs.Cold
set_option linter.unusedSimpArgs false
set_option linter.unusedVariables false set_option maxRecDepth 10000
attribute [local irreducible] T TL LV TH TA
section
variable {t : CS}
theorem nodup_eq : ∀ {l : List HdE}, (l.map (·.id)).Nodup → ∀ {x y : HdE}, x ∈ l → y ∈ l → x.id = y.id → x = y
  | [], _, x, y, hx, _, _ => by cases hx
  | a :: l, hn, x, y, hx, hy, e => by
    rw [List.map_cons, List.nodup_cons] at hn
    obtain ⟨n1, n2⟩ := hn
    rcases List.mem_cons.1 hx with q | hx1
    · rcases List.mem_cons.1 hy with q2 | hy1
      · rw [q, q2]
      · exact absurd (List.mem_map.2 ⟨y, hy1, by rw [← e, q]⟩) n1
    · rcases List.mem_cons.1 hy with q2 | hy1
      · exact absurd (List.mem_map.2 ⟨x, hx1, by rw [e, q2]⟩) n1
      · exact nodup_eq n2 hx1 hy1 e
theorem state_mem (hn : (t.H.map (·.id)).Nodup) {x : HdE} (hx : x ∈ t.H) : stateE t x.id = x.st := by
  cases hf : findE t x.id with
  | none => exact absurd rfl (find_none hf x hx)
  | some i =>
    obtain ⟨h1, h2⟩ := find_some hf
    have := nodup_eq hn (getD_mem (d := hd0) h1) hx h2
    unfold stateE
    rw [hf]
    simp only
    rw [this]
theorem state_at (hn : (t.H.map (·.id)).Nodup) {i : Nat} (hi : i < t.H.length) : stateE t (t.H.getD i hd0).id = (t.H.getD i hd0).st := state_mem hn (getD_mem hi)
theorem takeL_H : ∀ (f : Nat) (t : CS), (takeL f t).H = t.H
  | 0, t => rfl
  | f + 1, t => by
    unfold takeL
    split
    · rfl
    · split
      · split
        · split
          · rfl
          · rw [takeL_H f]; rfl
        · rw [takeL_H f]; rfl
      · rfl
theorem take_H (t : CS) : (takeE t).H = t.H := takeL_H _ _
theorem enter_keep {i : Nat} {x : HdE} (hi : waitI t = some i) (hx : x ∈ t.H) (hs : x.st ≠ 1) : x ∈ (enterE t i).H := by
  obtain ⟨j, hj, e⟩ := List.mem_iff_getElem.1 hx
  have hne : ¬ i = j := fun q => by
    subst q
    have := (waitI_some hi).2.1
    rw [List.getD_eq_getElem?_getD, List.getElem?_eq_getElem hj, e] at this
    exact hs this
  unfold enterE
  simp only
  exact List.mem_iff_getElem.2 ⟨j, by simpa using hj, by rw [List.getElem_set_ne hne]; exact e⟩
theorem letL_keep : ∀ (f : Nat) (t : CS) {x : HdE}, x ∈ t.H → x.st ≠ 1 → x ∈ (letL f t).H
  | 0, t, x, hx, _ => hx
  | f + 1, t, x, hx, hs => by
    unfold letL
    cases hw : waitI t with
    | none => exact hx
    | some i =>
      simp only
      split
      · exact letL_keep f _ (enter_keep hw hx hs) hs
      · exact hx
theorem let_keep {x : HdE} (hx : x ∈ t.H) (hs : x.st ≠ 1) : x ∈ (letE t).H := by
  unfold letE
  rw [take_H]
  exact letL_keep _ _ hx hs
theorem hold_keep {x : HdE} (id : Int) (ks : List Tx) (hx : x ∈ t.H) (hs : x.st ≠ 1) : x ∈ (holdE t id ks).1.H := by
  unfold holdE
  split
  · exact hx
  split
  · exact hx
  split
  · exact hx
  split
  · exact hx
  · exact let_keep (by simp only; exact List.mem_append_left _ hx) hs
theorem rel_keep {x : HdE} {id : Int} (hx : x ∈ t.H) (hs : x.st ≠ 1) (hne : x.id ≠ id) : x ∈ (relE t id).1.H := by
  unfold relE
  cases hf : findE t id with
  | none => exact hx
  | some i =>
    simp only
    refine let_keep ?_ hs
    simp only
    obtain ⟨h1, h2⟩ := find_some hf
    obtain ⟨j, hj, e⟩ := List.mem_iff_getElem.1 hx
    refine List.mem_eraseIdx_iff_getElem.2 ⟨j, hj, ?_, e⟩
    intro q
    subst q
    rw [List.getD_eq_getElem?_getD, List.getElem?_eq_getElem hj, e] at h2
    exact hne h2
/-- How far a tier's numbers have gone. -/
structure Bnd (N B : Nat) (t : CS) : Prop where
  h : t.H.length ≤ N
  n : t.now ≤ B
  m : t.num ≤ B
  f : t.fet ≤ 4096 * B
variable {N B : Nat}
theorem Bnd.mono (h : Bnd N B t) {N' B' : Nat} (h1 : N ≤ N') (h2 : B ≤ B') : Bnd N' B' t := ⟨Nat.le_trans h.h h1, Nat.le_trans h.n h2, Nat.le_trans h.m h2, by have := h.f; omega⟩
theorem let_fet (h : CI0 t) : (letE t).fet ≤ t.fet + 4096 := by
  have hn : waitN t ≤ t.H.length := List.length_filter_le _ _
  obtain ⟨k1, k2, k3, k4, k5, k6, k7, k8, k9⟩ := let_good t.H.length t h hn
  obtain ⟨g1, g2, g3⟩ := take_ci k1 (let_first k1 k3)
  have h1 := g3.fe
  have h2 := kok_wlen k1.k
  have h3 := k1.rm
  show (takeE (letL t.H.length t)).fet ≤ _
  omega
theorem who_len (t : CS) : (whoH t).length = t.H.length := by simp [whoH]
theorem hold_bnd (h : CI t) (hb : Bnd N B t) (id : Int) (ks : List Tx) : Bnd (N + 1) (B + 1) (holdE t id ks).1 := by
  have hb1 := hb.mono (Nat.le_succ N) (Nat.le_succ B)
  have hw := (hold_ci h id ks).2.1
  unfold holdE at hw ⊢
  by_cases h1 : (findE t id).isSome = true
  · rw [if_pos h1]; exact hb1
  rw [if_neg h1] at hw ⊢
  by_cases h2 : id < 0
  · rw [if_pos h2]; exact hb1
  rw [if_neg h2] at hw ⊢
  by_cases h3 : chkK none ks ≠ 0
  · rw [if_pos h3]; exact hb1
  rw [if_neg h3] at hw ⊢
  by_cases h4 : t.room < ks.length
  · rw [if_pos h4]; exact hb1
  rw [if_neg h4] at hw ⊢
  have h0 := hold_ci0 h.toCI0 (id := id) (ks := ks) (by simpa using h1) h2 h3 h4
  obtain ⟨g1, g2, g3, g4, g5, g6, g7⟩ := letE_good h0
  have g8 := let_fet h0
  have hl := congrArg List.length (hw rfl)
  rw [who_len, List.length_append, who_len] at hl
  refine ⟨?_, ?_, ?_, ?_⟩
  · simp only at hl ⊢; rw [hl]; have := hb.h; simp; omega
  · simp only at g6 ⊢; rw [g6]; exact hb1.n
  · simp only at g7 ⊢; rw [g7]; exact hb1.m
  · simp only at g8 ⊢; have := hb.f; omega
theorem rel_bnd (h : CI t) (hb : Bnd N B t) (id : Int) : Bnd N (B + 1) (relE t id).1 := by
  have hb1 := hb.mono (Nat.le_refl N) (Nat.le_succ B)
  have hw := (rel_ci h id).2.1
  unfold relE at hw ⊢
  cases hf : findE t id with
  | none => exact hb1
  | some i =>
    rw [hf] at hw
    simp only at hw ⊢
    have h0 := rel_ci0 h.toCI0 (find_some hf).1
    obtain ⟨g1, g2, g3, g4, g5, g6, g7⟩ := letE_good h0
    have g8 := let_fet h0
    refine ⟨?_, ?_, ?_, ?_⟩
    · have hl := congrArg List.length hw
      rw [who_len] at hl
      rw [hl]
      exact Nat.le_trans (List.length_filter_le _ _) (by rw [who_len]; exact hb.h)
    · simp only at g6 ⊢; rw [g6]; exact hb1.n
    · simp only at g7 ⊢; rw [g7]; have := hb.m; omega
    · simp only at g8 ⊢; have := hb.f; omega
theorem tick_nums (h : CI t) : (tickC t).now = t.now + 1 ∧ (tickC t).num = t.num + 1 ∧ (tickC t).fet ≤ t.fet + 4096 := by
  obtain ⟨k1, k2, k3⟩ := h.k.tick (t.num + 1)
  obtain ⟨g, _⟩ := take_good (pc := pcH t.H) t.wt.length { t with now := t.now + 1, num := t.num + 1, K := tickK (t.num + 1) t.K, H := t.H.map (settleE (tickK (t.num + 1) t.K)) } k1 (Nat.le_refl _) h.dl.1
  change TakeI _ (tickC t) _ at g
  have h1 := g.fe
  have h2 := kok_wlen h.k
  have h3 := h.rm
  refine ⟨g.en, g.em, ?_⟩
  simp only at h1
  omega
theorem tick_bnd (h : CI t) (hb : Bnd N B t) : Bnd N (B + 1) (tickC t) := by
  obtain ⟨g1, g2, g3⟩ := tick_nums h
  have hl := congrArg List.length (tick_ci h).2.1
  rw [who_len, who_len] at hl
  exact ⟨by rw [hl]; exact hb.h, by rw [g1]; have := hb.n; omega, by rw [g2]; have := hb.m; omega, by have := hb.f; omega⟩
theorem new_bnd (r l d : Nat) : Bnd 0 0 (newC r l d) := ⟨Nat.le_refl _, Nat.le_refl _, Nat.le_refl _, Nat.le_refl _⟩
theorem mem_with (hn : (t.K.map (·.1)).Nodup) {k : Tx} {s : Nat} : k ∈ withE t s ↔ ∃ l, mget t.K k = some l ∧ l.st = s := by
  unfold withE
  constructor
  · intro h
    obtain ⟨x, hx, rfl⟩ := List.mem_map.1 h
    obtain ⟨h1, h2⟩ := List.mem_filter.1 hx
    exact ⟨x.2, mget_of hn h1, by simpa using h2⟩
  · rintro ⟨l, h1, h2⟩
    exact List.mem_map.2 ⟨(k, l), List.mem_filter.2 ⟨mget_in h1, by simpa using h2⟩, rfl⟩
theorem mem_sortT {k : Tx} {l : List Tx} : k ∈ sortT l ↔ k ∈ l := (List.mergeSort_perm l le2).mem_iff
theorem len_sortT (l : List Tx) : (sortT l).length = l.length := (List.mergeSort_perm l le2).length_eq
/-- What is warm, fetching or wanted. -/
def nearE (t : CS) : List Tx := sortT (withE t 3) ++ sortT (withE t 2) ++ t.wt
theorem mem_near (h : CI0 t) {k : Tx} : k ∈ nearE t ↔ mget t.K k ≠ none := by
  unfold nearE
  rw [List.mem_append, List.mem_append, mem_sortT, mem_sortT, mem_with h.k.nd, mem_with h.k.nd, h.k.wk]
  constructor
  · rintro ((⟨l, h1, _⟩ | ⟨l, h1, _⟩) | ⟨l, h1, _⟩) <;> rw [h1] <;> simp
  · intro q
    obtain ⟨l, hl⟩ := Option.ne_none_iff_exists'.1 q
    rcases (h.k.sg k l hl).1 with e | e | e
    · exact .inr ⟨l, hl, e⟩
    · exact .inl (.inr ⟨l, hl, e⟩)
    · exact .inl (.inl ⟨l, hl, e⟩)
theorem with_len (t : CS) (s : Nat) : (withE t s).length = cntE (fun l => decide (l.st = s)) t.K := by simp [withE, cntE]
theorem warm_room (h : CI0 t) : (sortT (withE t 3)).length + (sortT (withE t 2)).length ≤ t.room ∧ (sortT (withE t 2)).length ≤ t.lines := by
  rw [len_sortT, len_sortT, with_len, with_len]
  refine ⟨Nat.le_trans ?_ h.k.nw, h.k.fl⟩
  have : ∀ K : List (Tx × LnE), cntE (fun l => decide (l.st = 3)) K + cntE (fun l => decide (l.st = 2)) K ≤ cntE isNW K := fun K => by
    unfold cntE
    induction K with
    | nil => simp
    | cons x K ih =>
      simp only [List.filter_cons, isNW] at ih ⊢
      by_cases e3 : x.2.st = 3
      · simp [e3]; omega
      · by_cases e2 : x.2.st = 2
        · simp [e2]; omega
        · by_cases e1 : x.2.st = 1
          · simp [e1]; omega
          · simp [e1, e2, e3]; omega
  exact this _
/-- A key's pins are those of whoever is let in. -/
theorem pins_pc (h : CI0 t) (k : Tx) : pinsE t k = pcH t.H k := h.k.pn k
theorem pins_near (h : CI0 t) {k : Tx} (hp : 1 ≤ pinsE t k) : k ∈ nearE t := by
  rw [pins_pc h] at hp
  obtain ⟨l, h1, _⟩ := h.k.in_ hp
  rw [mem_near h, h1]; simp
theorem ready_warm (h : CI0 t) {x : HdE} (hx : x ∈ t.H) (hs : x.st = 3) {k : Tx} (hk : k ∈ x.ks) : k ∈ sortT (withE t 3) := by
  have := h.rdy x hx hs
  unfold warmE at this
  have := List.all_eq_true.1 this k hk
  rw [mem_sortT, mem_with h.k.nd]
  unfold warmK at this
  cases hq : mget t.K k with
  | none => rw [hq] at this; cases this
  | some l => rw [hq] at this; exact ⟨l, rfl, by simpa using this⟩
theorem in_pins (h : CI0 t) {x : HdE} (hx : x ∈ t.H) (hs : x.st ≠ 1) {k : Tx} (hk : k ∈ x.ks) : 1 ≤ pinsE t k := by
  rw [pins_pc h]
  exact pc_pos hx hs hk
/-- Whoever finds everything warm, and room, and nobody waiting, is ready at once. -/
theorem hold_free (h : CI t) {id : Int} {ks : List Tx} (h0 : (holdE t id ks).2 = 0) (hw : ∀ x ∈ t.H, x.st ≠ 1) (hk : ∀ k ∈ ks, k ∈ sortT (withE t 3)) (hr : ks.length + ((nearE t).filter (fun k => decide (0 < pinsE t k) && !decide (k ∈ ks))).length ≤ t.room) : stateE (holdE t id ks).1 id = 3 := by
  have hci := (hold_ci h id ks).1
  unfold holdE at h0 hci ⊢
  by_cases h1 : (findE t id).isSome = true
  · rw [if_pos h1] at h0; cases h0
  rw [if_neg h1] at h0 hci ⊢
  by_cases h2 : id < 0
  · rw [if_pos h2] at h0; cases h0
  rw [if_neg h2] at h0 hci ⊢
  by_cases h3 : chkK none ks ≠ 0
  · rw [if_pos h3] at h0; exact absurd h0 h3
  rw [if_neg h3] at h0 hci ⊢
  by_cases h4 : t.room < ks.length
  · rw [if_pos h4] at h0; cases h0
  rw [if_neg h4] at h0 hci ⊢
  have hc0 := hold_ci0 h.toCI0 (id := id) (ks := ks) (by simpa using h1) h2 h3 h4
  have hget : (t.H ++ [(⟨id, ks, 1⟩ : HdE)]).getD t.H.length hd0 = ⟨id, ks, 1⟩ := by simp [List.getD_eq_getElem?_getD]
  have hwi : waitI { t with H := t.H ++ [⟨id, ks, 1⟩] } = some t.H.length := by
    unfold waitI
    rw [List.findIdx?_eq_some_iff_getElem]
    refine ⟨by simp, by simp, fun j hj => ?_⟩
    simp only
    rw [List.getElem_append_left hj]
    simp [hw _ (List.getElem_mem hj)]
  have hpin : ∀ k, freeK t.K k = decide (pinsE t k = 0) := fun k => by
    unfold freeK pinsE
    cases mget t.K k with
    | none => rfl
    | some l => rfl
  have hfit : fitsE { t with H := t.H ++ [⟨id, ks, 1⟩] } (({ t with H := t.H ++ [⟨id, ks, 1⟩] } : CS).H.getD t.H.length hd0).ks = true := by
    simp only
    rw [hget]
    unfold fitsE
    simp only [decide_eq_true_eq]
    have hcnt : cntE pinned t.K ≤ ((nearE t).filter (fun k => decide (0 < pinsE t k) && !decide (k ∈ ks))).length + (ks.filter (fun k => decide (0 < pinsE t k))).length := by
      rw [← List.length_append]
      unfold cntE
      have hlm : (t.K.filter fun x => pinned x.2).length = ((t.K.filter fun x => pinned x.2).map (·.1)).length := by simp
      rw [hlm]
      refine sub_len _ _ ((List.Sublist.map _ List.filter_sublist).nodup h.k.nd) fun k hk2 => ?_
      obtain ⟨x, hx, rfl⟩ := List.mem_map.1 hk2
      obtain ⟨x1, x2⟩ := List.mem_filter.1 hx
      have hx3 := mget_of h.k.nd x1
      have hp : 0 < pinsE t x.1 := by unfold pinsE; rw [hx3]; unfold pinned at x2; simpa using x2
      by_cases q : x.1 ∈ ks
      · exact List.mem_append_right _ (List.mem_filter.2 ⟨q, by simpa using hp⟩)
      · exact List.mem_append_left _ (List.mem_filter.2 ⟨pins_near h.toCI0 hp, by simp [hp, q]⟩)
    have hks : (ks.filter (freeK t.K)).length + (ks.filter (fun k => decide (0 < pinsE t k))).length = ks.length := by
      clear hr hcnt hk h0 h3 h4 hci hc0 hget hwi
      induction ks with
      | nil => rfl
      | cons k ks ih =>
        simp only [List.filter_cons, hpin]
        by_cases q : pinsE t k = 0
        · simp [q]; omega
        · have : 0 < pinsE t k := by omega
          simp [q, this]; omega
    omega
  have hl : ({ t with H := t.H ++ [⟨id, ks, 1⟩] } : CS).H.length = t.H.length + 1 := by simp
  obtain ⟨e1, e2, e3, e4, e5⟩ := enter_good hc0 hwi hfit
  have hn1 : waitN { t with H := t.H ++ [⟨id, ks, 1⟩] } = 1 := by
    unfold waitN
    simp only [List.filter_append, List.length_append]
    rw [List.filter_eq_nil_iff.2 (fun x hx => by simp [hw x hx])]
    rfl
  have hno : waitI (enterE { t with H := t.H ++ [⟨id, ks, 1⟩] } t.H.length) = none := by
    have h0' : waitN (enterE { t with H := t.H ++ [⟨id, ks, 1⟩] } t.H.length) = 0 := by omega
    unfold waitN at h0'
    unfold waitI
    rw [List.findIdx?_eq_none_iff]
    intro x hx
    have := List.filter_eq_nil_iff.1 (List.eq_nil_of_length_eq_zero h0') x hx
    simpa using this
  have hlet : (letE { t with H := t.H ++ [⟨id, ks, 1⟩] }).H = (enterE { t with H := t.H ++ [⟨id, ks, 1⟩] } t.H.length).H := by
    unfold letE
    rw [take_H, hl, letL_go hwi hfit, letL_stop hno]
  obtain ⟨s1, s2, s3, s4⟩ := hc0.hs _ (getD_mem (d := hd0) (waitI_some hwi).1)
  have hks0 : ∀ k ∈ ks, k ≠ [] := fun k hk2 => valid_ne ((chk_rise (by simpa using h3)).2.1 k hk2)
  have hg2 := (hc0.k.pins ks (chk_nodup (by simpa using h3)) hks0 (by
    have := hfit
    simp only at this
    rw [hget] at this
    unfold fitsE at this
    simpa using this)).2
  simp only at hg2
  have hmem : (⟨id, ks, 3⟩ : HdE) ∈ (letE { t with H := t.H ++ [⟨id, ks, 1⟩] }).H := by
    rw [hlet]
    unfold enterE
    simp only
    rw [hget]
    simp only
    have hws : warmE (ks.foldl pinE (t.K, t.wt)).1 ks = true := by
      unfold warmE
      rw [List.all_eq_true]
      intro k hk2
      rw [hg2 k]
      have := hk k hk2
      rw [mem_sortT, mem_with h.k.nd] at this
      obtain ⟨l, a1, a2⟩ := this
      unfold warmK
      rw [a1]
      simp [a2]
    have hse : settleE (ks.foldl pinE (t.K, t.wt)).1 ⟨id, ks, 2⟩ = ⟨id, ks, 3⟩ := by
      unfold settleE
      rw [if_pos ⟨rfl, hws⟩]
    rw [hse]
    exact List.mem_iff_getElem.2 ⟨t.H.length, by simp, by simp⟩
  exact state_mem hci.ids hmem
end
end Go.Proofs.Ythiacmmkfngpbaa

/- A story of a tier, as an argument; rows of who is held. -/
namespace Go.Proofs.Ythiacmmkfngpbaa
open Go.RowKit Go.Proofs.Eng Go.Proofs.Foot Go.Proofs.Cold
set_option linter.unusedSimpArgs false
set_option linter.unusedVariables false set_option maxRecDepth 10000
attribute [local irreducible] T TL LV TH TA
structure AC where
  kd : Int
  idn : Int
  A : Option Addr
  n : Nat
  c : Nat
  ks : List Tx
def ac0 : AC := ⟨0, 0, none, 0, 0, []⟩
def acV (x : AC) : List Value := [.int .i64 x.kd, .int .i64 x.idn, .slice x.A x.n x.c]
theorem acV_len (x : AC) : (acV x).length = 3 := rfl
def i64ok (z : Int) : Prop := -9223372036854775808 ≤ z ∧ z ≤ 9223372036854775807
structure AcOk (w : World) (x : AC) : Prop where
  rd : Rd w x.A x.n 1 (sv x.ks)
  nc : x.n ≤ x.c
  cm : x.c ≤ 9223372036854775807
  nb : x.n ≤ 1048576
  kd : i64ok x.kd
  idr : i64ok x.idn
  kl : ∀ y ∈ x.ks, y.length ≤ 1048576
theorem AcOk.be {w w' : World} {x : AC} (h : AcOk w x) (e : Ext w w') : AcOk w' x := { h with rd := h.rd.be e }
abbrev tyAct28 : Ty := .struct (.cons (.int .i64) (.cons (.int .i64) (.cons (.slice .str) .unit)))
abbrev tyStory28 : Ty := .struct (.cons (.int .i64) (.cons (.int .i64) (.cons (.int .i64) (.cons (.slice tyAct28) .unit))))
theorem rowV_sv (l : List Tx) : rowV (fun t : Tx => [Value.string (ofL t)]) l = sv l := by simp [rowV, sv, List.flatten_eq_flatMap, List.flatMap_map, ← List.map_eq_flatMap]
theorem strs_of {w : World} {M k : Nat} {x : List Value} (hk : k ≤ M) (h : FitB w (.slice .str) x k) : ∃ A n c l, x = [.slice A n c] ∧ Rd w A n 1 (sv l) ∧ l.length = n ∧ n ≤ c ∧ c ≤ 9223372036854775807 ∧ n + 1 ≤ k ∧ ∀ y ∈ l, y.length ≤ M := by
  obtain ⟨_, A', n', c', l, hv, g1, g2, g3, g4, g5, g6⟩ := FitB.row (g := fun t : Tx => [Value.string (ofL t)]) (Q := fun t => t.length ≤ M) (M := M) (fun x k hk hx => by
    obtain ⟨S, rfl, h1, h2⟩ := hx
    have : S.data.toList.length = S.size := Array.length_toList
    exact ⟨by omega, S.data.toList, rfl, by omega⟩) h hk
  unfold maxLen at g2
  rw [rowV_sv] at g5
  exact ⟨A', n', c', l, hv, g5, g4, g1, g2, by omega, g6⟩
theorem act28_of {w : World} (x : List Value) (k : Nat) (hk : k ≤ 1048576) (h : FitB w tyAct28 x k) : 1 ≤ k ∧ ∃ a : AC, x = acV a ∧ AcOk w a := by
  obtain ⟨x1, y1, p, q, rfl, h1, h2, ⟨h3, kd, rfl, f1⟩, x2, y2, p2, q2, rfl, h4, h5, ⟨h6, idn, rfl, f2⟩, x3, y3, p3, q3, rfl, h8, h9, h10, hz⟩ := h
  have hz : y3 = [] := hz
  subst hz
  obtain ⟨A, n, c, l, rfl, g1, g2, g3, g4, g5, g6⟩ := strs_of (M := 1048576) (by omega) h10
  exact ⟨by omega, ⟨kd, idn, A, n, c, l⟩, rfl, g1, g3, g4, by simp only; omega, f1, f2, g6⟩
theorem agg_four {v a b c d : Value} (h : v.cells.toList = [a, b, c, d]) : v = .agg #[a, b, c, d] := by
  cases v with
  | agg cs =>
    have e : cs.toList = [a, b, c, d] := h
    congr
    exact Array.toList_inj.1 (by simpa using e)
  | _ => simp [Value.cells] at h
theorem story_in {w : World} {base : Nat} {v : Value} (h : ReadsB Try.prog w base 24 v 1048576) :
    ∃ (a b d : Int) (A : Option Addr) (n c : Nat) (l : List AC), v = .agg #[.int .i64 a, .int .i64 b, .int .i64 d, .slice A n c] ∧ i64ok a ∧ i64ok b ∧ i64ok d ∧ Rd w A n 3 (rowV acV l) ∧ l.length = n ∧ n ≤ c ∧ c ≤ 9223372036854775807 ∧ (∀ x ∈ l, AcOk w x) ∧ n ≤ 1048576 := by
  obtain ⟨x1, y1, p1, q1, h1, -, h2, ⟨_, a, rfl, fa⟩, x2, y2, p2, q2, rfl, -, h5, ⟨_, b, rfl, fb⟩, x3, y3, p3, q3, rfl, -, h8, ⟨_, d, rfl, fd⟩, x4, y4, p4, q4, rfl, -, h9, hs, hz⟩ := h.fit TE tyStory28 (by decide +kernel)
  have hz : y4 = [] := hz
  subst hz
  obtain ⟨_, A, n, c, l, rfl, g1, g2, g3, g4, g5, g6⟩ := FitB.row (g := acV) (Q := AcOk w) (M := 1048576) act28_of hs (by omega)
  unfold maxLen at g2
  exact ⟨a, b, d, A, n, c, l, agg_four h1, fa, fb, fd, g5, g4, g1, g2, g6, by omega⟩
def totC (l : List AC) (i : Nat) : Nat := ((l.take i).map fun x => x.n).sum
theorem totC_succ (l : List AC) (i : Nat) (hi : i < l.length) : totC l (i + 1) = totC l i + (l.getD i ac0).n := by
  unfold totC
  rw [List.take_succ_eq_append_getElem hi, List.map_append, List.sum_append]
  simp only [List.map_cons, List.map_nil, List.sum_cons, List.sum_nil, Nat.add_zero]
  rw [List.getD_eq_getElem?_getD, List.getElem?_eq_getElem hi]
  rfl
theorem sum_mem (l : List AC) : ∀ x ∈ l, x.n ≤ (l.map fun x => x.n).sum := by
  induction l with
  | nil => intro x hx; cases hx
  | cons y l ih =>
    intro x hx
    rw [List.map_cons, List.sum_cons]
    rcases List.mem_cons.1 hx with rfl | hx
    · omega
    · have := ih x hx; omega
theorem totC_mem {l : List AC} {n : Nat} (hl : l.length = n) : ∀ x ∈ l, x.n ≤ totC l n := by
  unfold totC
  rw [List.take_of_length_le (by omega)]
  exact sum_mem l
/-- One that is held, in a row. -/
structure RV where
  idn : Int
  A : Option Addr
  n : Nat
  c : Nat
  ks : List Tx
  rdy : Bool
def rv0 : RV := ⟨0, none, 0, 0, [], false⟩
def rvV (x : RV) : List Value := [.int .i64 x.idn, .slice x.A x.n x.c, .bool x.rdy]
theorem rvV_len (x : RV) : (rvV x).length = 3 := rfl
theorem rvV_one : ∀ x, ∀ u ∈ rvV x, u.oneCell' = true := by
  intro x u hu
  simp [rvV] at hu
  rcases hu with rfl | rfl | rfl <;> rfl
def whoR (l : List RV) : List (Int × List Tx) := l.map fun r => (r.idn, r.ks)
structure RowsM (w0 w : World) (base : Nat) (f : Nat → Oo) (y : SL) (l : List RV) : Prop where
  o : Own w base 39 3 y.1 y.2.1 y.2.2 (rowV rvV l)
  z : ∀ b ∈ blkL y.1, oo f b = 0
  g : ∀ r ∈ l, Rd w0 r.A r.n 1 (sv r.ks) ∧ r.n ≤ 1500
section
variable {w0 w w' : World} {base : Nat} {f f' : Nat → Oo} {y : SL} {l : List RV}
theorem RowsM.len (h : RowsM w0 w base f y l) : l.length = y.2.1 := by
  have := h.o.len
  rw [rowV_len rvV_len] at this
  omega
theorem RowsM.tn (h : RowsM w0 w base f y l) (t : Tn (oo f) (oo f') w w') : RowsM w0 w' base f' y l := by
  obtain ⟨h1, h2⟩ := h.o.tn t h.z
  exact ⟨h1, h2, h.g⟩
theorem RowsM.ext (h : RowsM w0 w base f y l) (e : Ext w w') : RowsM w0 w' base f y l := ⟨h.o.be e, h.z, h.g⟩
theorem row_mem {l : List RV} {i : Nat} (h : i < l.length) : l.getD i rv0 ∈ l := by
  rw [List.getD_eq_getElem?_getD, List.getElem?_eq_getElem h]
  exact List.getElem_mem _
end
/-- A tier that a law plays with: what lay ahead of it is as it was. -/
structure TS (w0 w : World) (base p N B : Nat) (m : CM) (f : Nat → Oo) (t : CS) : Prop where
  e : Ext w0 w
  hp : m.p = p
  h : TierM w base m f t
  ci : CI t
  bd : Bnd N B t
  hb : w0.heap.size ≤ base
section
variable {w0 w w' : World} {base p N B N' B' : Nat} {m m' : CM} {f f' : Nat → Oo} {t t' : CS}
theorem TS.ext (T0 : TS w0 w base p N B m f t) (e : Ext w w') : TS w0 w' base p N B m f t := ⟨T0.e.ext e, T0.hp, T0.h.ext e, T0.ci, T0.bd, T0.hb⟩
theorem TS.own (T0 : TS w0 w base p N B m f t) {b : Nat} (hb : oo f b ≠ 0) : w0.heap.size ≤ b := by have := (T0.h.old b hb).1; have := T0.hb; omega
theorem TS.turn (T0 : TS w0 w base p N B m f t) (hp : m'.p = m.p) (h : TierM w' base m' f' t') (tn : Tn (oo f) (oo f') w w') (ci : CI t') (bd : Bnd N' B' t') : TS w0 w' base p N' B' m' f' t' :=
  ⟨tn.ext0 T0.e (fun b q => T0.own q), hp.trans T0.hp, h, ci, bd, T0.hb⟩
theorem TS.mono (T0 : TS w0 w base p N B m f t) (h1 : N ≤ N') (h2 : B ≤ B') : TS w0 w base p N' B' m f t := { T0 with bd := T0.bd.mono h1 h2 }
/-- Who stands in which place. -/
theorem who_at {t : CS} {l : List RV} (h : whoH t = whoR l) {i : Nat} (hi : i < l.length) : i < t.H.length ∧ (t.H.getD i hd0).id = (l.getD i rv0).idn ∧ (t.H.getD i hd0).ks = (l.getD i rv0).ks := by
  have hl := congrArg List.length h
  rw [who_len] at hl
  unfold whoR at hl
  rw [List.length_map] at hl
  have hi2 : i < t.H.length := by omega
  have := congrArg (fun x => x[i]?) h
  unfold whoH whoR at this
  simp only [List.getElem?_map, List.getElem?_eq_getElem hi, List.getElem?_eq_getElem hi2, Option.map_some] at this
  have this := Option.some.inj this
  rw [List.getD_eq_getElem?_getD, List.getD_eq_getElem?_getD, List.getElem?_eq_getElem hi, List.getElem?_eq_getElem hi2]
  exact ⟨hi2, (Prod.mk.inj this).1, (Prod.mk.inj this).2⟩
theorem who_state {t : CS} {l : List RV} (hc : CI t) (h : whoH t = whoR l) {i : Nat} (hi : i < l.length) : stateE t (l.getD i rv0).idn = (t.H.getD i hd0).st := by
  obtain ⟨h1, h2, _⟩ := who_at h hi
  rw [← h2]
  exact state_at hc.ids h1
theorem whoR_len (l : List RV) : (whoR l).length = l.length := by simp [whoR]
theorem whoR_append (l : List RV) (r : RV) : whoR (l ++ [r]) = whoR l ++ [(r.idn, r.ks)] := by simp [whoR]
theorem whoR_without (l : List RV) (z : Int) : whoR (l.filter fun r => !decide (r.idn = z)) = (whoR l).filter fun x => !decide (x.1 = z) := by
  unfold whoR
  rw [List.filter_map]
  rfl
theorem RowsM.push {y : SL} {l : List RV} (T0 : TS w0 w base p N B m f t) (R : RowsM w0 w w0.heap.size f y l) (r : RV) (hg : Rd w0 r.A r.n 1 (sv r.ks) ∧ r.n ≤ 1500) {A9 : Option Addr} {c9 : Nat} {w9 : World} (o9 : Own w9 w0.heap.size 39 3 A9 (y.2.1 + 1) c9 (rowV rvV (l ++ [r]))) (m9 : Eng.Mod (blkL y.1) w w9) (n9 : Near y.1 A9 w) :
    TS w0 w9 base p N B m f t ∧ RowsM w0 w9 w0.heap.size f (A9, y.2.1 + 1, c9) (l ++ [r]) := by
  refine ⟨⟨T0.e.step m9 (fun b q => .inr (R.o.bl b q).1), T0.hp, T0.h.mod m9 R.z, T0.ci, T0.bd, T0.hb⟩, o9, fun b q => ?_, fun x hx => ?_⟩
  · rcases Near.mem n9 b q with q | q
    · exact R.z b q
    · exact T0.h.new0 q
  · rcases List.mem_append.1 hx with hx | hx
    · exact R.g x hx
    · rw [List.mem_singleton.1 hx]; exact hg
theorem RowsM.fresh {y y' : SL} {l l' : List RV} (T0 : TS w0 w base p N B m f t) (R : RowsM w0 w w0.heap.size f y l) (o : Own w' w.heap.size 39 3 y'.1 y'.2.1 y'.2.2 (rowV rvV l')) (hs : ∀ x ∈ l', x ∈ l) : RowsM w0 w' w0.heap.size f y' l' :=
  ⟨o.weaken T0.e.size, fun b q => T0.h.new0 (o.bl b q).1, fun x hx => R.g x (hs x hx)⟩
end
end Go.Proofs.Ythiacmmkfngpbaa

namespace Go.Proofs.Ythiacmmkfngpbaa
open Go.RowKit Go.Proofs.Eng Go.Proofs.Foot Go.Proofs.Cold
set_option linter.unusedSimpArgs false
set_option linter.unusedVariables false set_option maxRecDepth 10000
attribute [local irreducible] T TL LV TH TA
set_option maxHeartbeats 3200000
theorem long_c28 (a b d : Int) (A : Option Addr) (n c : Nat) (l : List AC) (w : World) (hr : Rd w A n 3 (rowV acV l)) (hl : l.length = n) (hm : ∀ x ∈ l, AcOk w x) (hn : n ≤ 1048576) :
    Ret Try.prog 8 [.agg #[.int .i64 a, .int .i64 b, .int .i64 d, .slice A n c]] w (fun v w' => (v = .bool true ∨ v = .bool false ∧ n ≤ 250 ∧ ∀ x ∈ l, x.n ≤ 1500) ∧ Ext w w') := by
  refine ret_T (n := 33) Try.func8 rfl rfl ?_
  repeat (first | refine T_seq ?_ | refine T_region ?_)
  refine TL_box (hk := ?_); intro b1 w1 e1 h1 h1' k1
  replace k1 : Blk w1 b1 24 [.int .i64 a, .int .i64 b, .int .i64 d, .slice A n c] := k1
  have hr1 := hr.be e1
  repeat (first | refine T_seq ?_ | refine T_region ?_ | refine T_block ?_ | refine TL_nil ?_ | refine TL_assign (hk := ?_))
  refine T_loop (ι := Nat) (fun i => [(4, .int .i64 (i : Int)), (3, .int .i64 ((totC l i : Nat) : Int)), (1, pB b1)]) (fun i w' => Ext w1 w' ∧ i ≤ n ∧ i ≤ 251 ∧ totC l i ≤ i * 1048576) (fun i => n - i) 0 (.c rfl (.c rfl (.c rfl (.n)))) ⟨Mod.refl _ _, Nat.zero_le _, Nat.zero_le _, by simp [totC]⟩ ?_
  rintro i w2 ⟨e2, hi, hi2, ht⟩ ih
  have k2 := k1.be e2
  have hr2 := hr1.be e2
  by_cases hlt : i < n
  · by_cases hlt2 : i ≤ 250
    · have hA : A ≠ none := by obtain ⟨_, _, hq, _⟩ := hr2.2 (by omega); rw [hq]; simp
      have hv : (rowV acV l)[i * 3 + 2]? = some (.slice (l.getD i ac0).A (l.getD i ac0).n (l.getD i ac0).c) := rowV_at acV_len l i 2 ac0 (by omega) (by omega)
      have hsu := totC_succ l i (by omega)
      have hb := (hm _ (show l.getD i ac0 ∈ l by rw [List.getD_eq_getElem?_getD, List.getElem?_eq_getElem (by omega)]; exact List.getElem_mem _)).nb
      generalize l.getD i ac0 = x at hv hsu hb
      have hc : ((totC l i : Nat) : Int) + (x.n : Int) = ((totC l (i + 1) : Nat) : Int) := by omega
      repeat (first | refine T_seq ?_ | refine T_region ?_ | refine T_cond_true rfl ?_ | refine T_block ?_ | refine T_inBlock ?_ | refine T_skip ?_ | refine TL_add (hk := ?_) | refine TL_lt_t (hk := ?_) | refine TL_le_t (hk := ?_) | refine TL_nil ?_ | refine TL_move (hk := ?_) | refine TL_assign (hk := ?_) | refine TL_load TE (hk := ?_) | refine TL_load_rd TE (hk := ?_) | refine TL_fieldAddr TE (hk := ?_) | refine TL_fieldAddr_e TE (hk := ?_) | refine TL_indexAddrn TE (hk := ?_) | refine TL_len TE (hk := ?_) | refine TL_yes (hk := ?_) | refine TL_pick_t (hk := ?_))
      rw [hc]
      --
      exact ih (i + 1) _ _ (by omega) ⟨e2, by omega, by omega, by omega⟩ (.c rfl (.c rfl (.c rfl (.n))))
    · have : 250 < n := by omega
      clear ih
      repeat (first | refine T_seq ?_ | refine T_region ?_ | refine T_cond_false rfl ?_ | refine T_exit rfl ?_ | refine TL_lt_t (hk := ?_) | refine TL_le_f (hk := ?_) | refine TL_gt_t (hk := ?_) | refine TL_nil ?_ | refine TL_move (hk := ?_) | refine TL_assign (hk := ?_) | refine TL_load TE (hk := ?_) | refine TL_fieldAddr TE (hk := ?_) | refine TL_len TE (hk := ?_) | refine TL_yes (hk := ?_) | refine TL_no (hk := ?_) | refine TL_pick_t (hk := ?_))
      exact T_ret1 rfl rfl ⟨.inl rfl, e1.ext e2⟩
  · have : n = i := by omega
    subst this
    clear ih
    by_cases h40 : 250 < n
    · repeat (first | refine T_seq ?_ | refine T_region ?_ | refine T_cond_false rfl ?_ | refine T_exit rfl ?_ | refine TL_lt_f (hk := ?_) | refine TL_gt_t (hk := ?_) | refine TL_nil ?_ | refine TL_move (hk := ?_) | refine TL_assign (hk := ?_) | refine TL_load TE (hk := ?_) | refine TL_fieldAddr TE (hk := ?_) | refine TL_len TE (hk := ?_) | refine TL_no (hk := ?_) | refine TL_pick_t (hk := ?_) | refine TL_pick_f (hk := ?_))
      exact T_ret1 rfl rfl ⟨.inl rfl, e1.ext e2⟩
    · by_cases h15 : 1500 < totC l n
      · repeat (first | refine T_seq ?_ | refine T_region ?_ | refine T_cond_false rfl ?_ | refine T_exit rfl ?_ | refine TL_lt_f (hk := ?_) | refine TL_gt_t (hk := ?_) | refine TL_gt_f (hk := ?_) | refine TL_nil ?_ | refine TL_move (hk := ?_) | refine TL_assign (hk := ?_) | refine TL_load TE (hk := ?_) | refine TL_fieldAddr TE (hk := ?_) | refine TL_len TE (hk := ?_) | refine TL_yes (hk := ?_) | refine TL_no (hk := ?_) | refine TL_pick_f (hk := ?_))
        exact T_ret1 rfl rfl ⟨.inl rfl, e1.ext e2⟩
      · repeat (first | refine T_seq ?_ | refine T_region ?_ | refine T_cond_false rfl ?_ | refine T_exit rfl ?_ | refine TL_lt_f (hk := ?_) | refine TL_gt_f (hk := ?_) | refine TL_nil ?_ | refine TL_move (hk := ?_) | refine TL_assign (hk := ?_) | refine TL_load TE (hk := ?_) | refine TL_fieldAddr TE (hk := ?_) | refine TL_len TE (hk := ?_) | refine TL_yes (hk := ?_) | refine TL_no (hk := ?_) | refine TL_pick_f (hk := ?_))
        exact T_ret1 rfl rfl ⟨.inr ⟨rfl, by omega, fun x hx => Nat.le_trans (totC_mem hl x hx) (by omega)⟩, e1.ext e2⟩
theorem filtR_succ (p : RV → Bool) (l : List RV) (i : Nat) (hi : i < l.length) : (l.take (i + 1)).filter p = (l.take i).filter p ++ (if p (l.getD i rv0) = true then [l.getD i rv0] else []) := by
  rw [List.take_succ_eq_append_getElem hi, List.filter_append, List.getD_eq_getElem?_getD, List.getElem?_eq_getElem hi]
  simp only [Option.getD_some]
  split
  · rename_i q; simp [q]
  · rename_i q; simp [q]
theorem without_c (A : Option Addr) (n c : Nat) (l : List RV) (z : Int) (w : World) (h : Rd w A n 3 (rowV rvV l)) (hn : n ≤ 1000000) :
    Ret Try.prog 15 [.slice A n c, .int .i64 z] w (fun v w' => ∃ y : SL, v = sL y ∧ Ext w w' ∧ Own w' w.heap.size 39 3 y.1 y.2.1 y.2.2 (rowV rvV (l.filter fun r => !decide (r.idn = z)))) := by
  have hl : l.length = n := by have := h.1; rw [rowV_len rvV_len] at this; omega
  refine ret_T (n := 28) Try.func15 rfl rfl ?_
  repeat (first | refine T_seq ?_ | refine T_region ?_ | refine T_block ?_ | refine TL_nil ?_ | refine TL_assign (hk := ?_))
  refine T_loop (ι := Nat × SL) (fun j => [(6, .int .i64 (j.1 : Int)), (5, sL j.2), (0, .slice A n c), (1, .int .i64 z)]) (fun j w' => j.1 ≤ n ∧ Ext w w' ∧ Own w' w.heap.size 39 3 j.2.1 j.2.2.1 j.2.2.2 (rowV rvV ((l.take j.1).filter fun r => !decide (r.idn = z)))) (fun j => n - j.1) (0, (none, 0, 0)) (.c rfl (.c rfl (.c rfl (.c rfl (.n))))) ⟨Nat.zero_le _, Mod.refl _ _, Own.nil _ _ _ _⟩ ?_
  rintro ⟨j, y⟩ w1 ⟨hj, e1, o1⟩ ih
  simp only at hj e1 o1 ih ⊢
  have h1 := h.be e1
  have hol := o1.len
  have hfl : ((l.take j).filter fun r => !decide (r.idn = z)).length ≤ j := Nat.le_trans (List.length_filter_le _ _) (by rw [List.length_take]; exact Nat.min_le_left _ _)
  rw [rowV_len rvV_len] at hol
  have hbw : w.heap.size ≤ w1.heap.size := e1.size
  by_cases hlt : j < n
  · have hA : A ≠ none := by obtain ⟨_, _, hq, _⟩ := h1.2 (by omega); rw [hq]; simp
    have hv0 : (rowV rvV l)[j * 3 + 0]? = some (.int .i64 (l.getD j rv0).idn) := rowV_at rvV_len l j 0 rv0 (by omega) (by omega)
    have t1 := rowV_elem rvV_len l j rv0 (by omega)
    have hsu := filtR_succ (fun r => !decide (r.idn = z)) l j (by omega)
    obtain ⟨r, hr⟩ : ∃ r, l.getD j rv0 = r := ⟨_, rfl⟩
    rw [hr] at hv0 t1 hsu
    by_cases hz : r.idn = z
    · simp only [hz, decide_true, Bool.not_true, Bool.false_eq_true, if_false, List.append_nil] at hsu
      repeat (first | refine T_seq ?_ | refine T_region ?_ | refine T_cond_true rfl ?_ | refine T_cond_false rfl ?_ | refine T_block ?_ | refine T_inBlock ?_ | refine T_skip ?_ | refine TL_add (hk := ?_) | refine TL_lt_t (hk := ?_) | refine TL_ne_f (hk := ?_) | refine TL_nil ?_ | refine TL_move (hk := ?_) | refine TL_assign (hk := ?_) | refine TL_load_rd TE (hk := ?_) | refine TL_fieldAddr_e TE (hk := ?_) | refine TL_indexAddrn TE (hk := ?_) | refine TL_len TE (hk := ?_))
      exact ih (j + 1, y) w1 _ (by simp only; omega) ⟨by simp only; omega, e1, by simp only; rw [hsu]; exact o1⟩ (.c rfl (.c rfl (.c rfl (.c rfl (.n)))))
    · simp only [hz, decide_false, Bool.not_false, if_true] at hsu
      repeat (first | refine T_seq ?_ | refine T_region ?_ | refine T_cond_true rfl ?_ | refine T_block ?_ | refine T_skip ?_ | refine TL_lt_t (hk := ?_) | refine TL_ne_t (hk := ?_) | refine TL_nil ?_ | refine TL_move (hk := ?_) | refine TL_load_rd TE (hk := ?_) | refine TL_fieldAddr_e TE (hk := ?_) | refine TL_indexAddrn TE (hk := ?_) | refine TL_len TE (hk := ?_))
      refine TL_loada TE (cs := rvV r) (hx := rfl) (ht := rfl) (hi := rfl) (hr := h1) (hc := t1) (h0 := Nat.succ_pos _) (hk := ?_)
      --
      refine TL_buildSliceA TE (hk := ?_); intro b4 w4 e4 h4 h4' k4
      replace k4 : Blk w4 b4 39 (rowV rvV [r]) := k4
      have r4 : Rd w4 (some ⟨b4, 0, none⟩) 1 3 (rowV rvV [r]) := Rd.blk k4 rfl
      have o4 := Own.be e4 o1
      have z4 := e4.size
      --
      refine TL_append TE (ho := o4) (hr := r4) (h1 := rowV_one rvV_one _) (hk := ?_); intro A6 c6 w6 o6 m6 n6
      rw [← rowV_append, ← hsu] at o6
      repeat (first | refine T_region ?_ | refine T_inBlock ?_ | refine TL_add (hk := ?_) | refine TL_nil ?_ | refine TL_move (hk := ?_) | refine TL_assign (hk := ?_))
      exact ih (j + 1, A6, y.2.1 + 1, c6) w6 _ (by simp only; omega) ⟨by simp only; omega, (e1.ext e4).own m6 o1.hi, o6⟩ (.c rfl (.c rfl (.c rfl (.c rfl (.n)))))
  · clear ih
    have hj2 : j = n := by omega
    subst hj2
    rw [List.take_of_length_le (by omega)] at o1
    repeat (first | refine T_seq ?_ | refine T_region ?_ | refine T_cond_false rfl ?_ | refine T_exit rfl ?_ | refine TL_lt_f (hk := ?_) | refine TL_nil ?_ | refine TL_move (hk := ?_) | refine TL_assign (hk := ?_) | refine TL_len TE (hk := ?_))
    exact T_ret1 rfl rfl ⟨y, rfl, e1, o1⟩
section
variable {w w' : World} {base : Nat} {m : CM} {f : Nat → Oo} {t : CS}
theorem waits_c28 (A : Option Addr) (n c : Nat) (l : List RV) (w : World) (h : TierM w base m f t) (hr : Rd w A n 3 (rowV rvV l)) (hn : n ≤ 1000000) :
    Ret Try.prog 22 [pB m.p, .slice A n c] w (fun v w' => v = .bool (decide (∃ i, i < n ∧ stateE t (l.getD i rv0).idn = 1)) ∧ Ext w w') := by
  have hl : l.length = n := by have := hr.1; rw [rowV_len rvV_len] at this; omega
  refine ret_T (n := 20) Try.func22 rfl rfl ?_
  repeat (first | refine T_seq ?_ | refine T_region ?_ | refine T_block ?_ | refine TL_nil ?_ | refine TL_assign (hk := ?_))
  refine T_loop (ι := Nat) (fun i => [(5, .int .i64 (i : Int)), (0, pB m.p), (1, .slice A n c)]) (fun i w' => Ext w w' ∧ i ≤ n ∧ ∀ j, j < i → stateE t (l.getD j rv0).idn ≠ 1) (fun i => n - i) 0 (.c rfl (.c rfl (.c rfl (.n)))) ⟨Mod.refl _ _, Nat.zero_le _, fun j h => absurd h (by omega)⟩ ?_
  rintro i w1 ⟨e1, hi, hu⟩ ih
  have h1 := hr.be e1
  have t1 := h.ext e1
  by_cases hlt : i < n
  · have hA : A ≠ none := by obtain ⟨_, _, hq, _⟩ := h1.2 (by omega); rw [hq]; simp
    have hv0 : (rowV rvV l)[i * 3 + 0]? = some (.int .i64 (l.getD i rv0).idn) := rowV_at rvV_len l i 0 rv0 (by omega) (by omega)
    obtain ⟨r, hr⟩ : ∃ r, l.getD i rv0 = r := ⟨_, rfl⟩
    rw [hr] at hv0
    repeat (first | refine T_seq ?_ | refine T_region ?_ | refine T_cond_true rfl ?_ | refine T_block ?_ | refine T_skip ?_ | refine TL_lt_t (hk := ?_) | refine TL_nil ?_ | refine TL_move (hk := ?_) | refine TL_load_rd TE (hk := ?_) | refine TL_fieldAddr_e TE (hk := ?_) | refine TL_indexAddrn TE (hk := ?_) | refine TL_len TE (hk := ?_))
    refine TL_call TE (hc := State_c r.idn w1 t1) (hk := ?_)
    rintro _ w2 ⟨rfl, e2⟩
    by_cases hs : stateE t r.idn = 1
    · have hsi : ((stateE t r.idn : Nat) : Int) = 1 := by omega
      repeat (first | refine T_seq ?_ | refine T_region ?_ | refine T_cond_true rfl ?_ | refine TL_eq_t (hk := ?_) | refine TL_nil ?_ | refine TL_assign (hk := ?_))
      refine T_ret1 rfl rfl ⟨?_, e1.ext e2⟩
      rw [decide_eq_true]
      exact ⟨i, hlt, by rw [hr]; exact hs⟩
    · have hsi : ¬ ((stateE t r.idn : Nat) : Int) = 1 := by omega
      repeat (first | refine T_region ?_ | refine T_cond_false rfl ?_ | refine T_inBlock ?_ | refine T_skip ?_ | refine TL_add (hk := ?_) | refine TL_eq_f (hk := ?_) | refine TL_nil ?_ | refine TL_move (hk := ?_) | refine TL_assign (hk := ?_))
      exact ih (i + 1) _ _ (by omega) ⟨e1.ext e2, by omega, fun j hj => by
        by_cases q : j = i
        · rw [q, hr]; exact hs
        · exact hu j (by omega)⟩ (.c rfl (.c rfl (.c rfl (.n))))
  · clear ih
    have hi2 : i = n := by omega
    subst hi2
    repeat (first | refine T_seq ?_ | refine T_region ?_ | refine T_cond_false rfl ?_ | refine T_exit rfl ?_ | refine TL_lt_f (hk := ?_) | refine TL_nil ?_ | refine TL_move (hk := ?_) | refine TL_assign (hk := ?_) | refine TL_len TE (hk := ?_))
    refine T_ret1 rfl rfl ⟨?_, e1⟩
    rw [decide_eq_false]
    rintro ⟨j, h1, h2⟩
    exact hu j h1 h2
end
end Go.Proofs.Ythiacmmkfngpbaa

namespace Go.Proofs.Ythiacmmkfngpbaa
open Go.RowKit Go.Proofs.Eng Go.Proofs.Foot Go.Proofs.Cold
set_option linter.unusedSimpArgs false
set_option linter.unusedVariables false set_option maxRecDepth 10000
attribute [local irreducible] T TL LV TH TA
set_option maxHeartbeats 3200000
/-- What stands at an act's end. -/
def PlayI (w0 w' : World) (base p N B : Nat) (y : SL) : Prop := ∃ m f t l, TS w0 w' base p N B m f t ∧ RowsM w0 w' w0.heap.size f y l ∧ whoH t = whoR l
end Go.Proofs.Ythiacmmkfngpbaa

/- More of what the laws of a tier rest on. -/
namespace Go.Proofs.Ythiacmmkfngpbaa
open Go.RowKit Go.Proofs.Eng Go.Proofs.Foot Go.Proofs.Cold
set_option linter.unusedSimpArgs false
set_option linter.unusedVariables false set_option maxRecDepth 10000
attribute [local irreducible] T TL LV TH TA
section
variable {t : CS}
def Same (t t' : CS) : Prop := t'.room = t.room ∧ t'.lines = t.lines ∧ t'.delay = t.delay
theorem Same.trans {a b c : CS} (h : Same a b) (g : Same b c) : Same a c := ⟨g.1.trans h.1, g.2.1.trans h.2.1, g.2.2.trans h.2.2⟩
theorem hold_same (h : CI t) (id : Int) (ks : List Tx) : Same t (holdE t id ks).1 := by
  unfold holdE
  by_cases h1 : (findE t id).isSome = true
  · rw [if_pos h1]; exact ⟨rfl, rfl, rfl⟩
  rw [if_neg h1]
  by_cases h2 : id < 0
  · rw [if_pos h2]; exact ⟨rfl, rfl, rfl⟩
  rw [if_neg h2]
  by_cases h3 : chkK none ks ≠ 0
  · rw [if_pos h3]; exact ⟨rfl, rfl, rfl⟩
  rw [if_neg h3]
  by_cases h4 : t.room < ks.length
  · rw [if_pos h4]; exact ⟨rfl, rfl, rfl⟩
  rw [if_neg h4]
  have h0 := hold_ci0 h.toCI0 (id := id) (ks := ks) (by simpa using h1) h2 h3 h4
  obtain ⟨g1, g2, g3, g4, g5, _⟩ := letE_good h0
  exact ⟨g3, g4, g5⟩
theorem rel_same (h : CI t) (id : Int) : Same t (relE t id).1 := by
  unfold relE
  cases hf : findE t id with
  | none => exact ⟨rfl, rfl, rfl⟩
  | some i =>
    have h0 := rel_ci0 h.toCI0 (find_some hf).1
    obtain ⟨g1, g2, g3, g4, g5, _⟩ := letE_good h0
    exact ⟨g3, g4, g5⟩
theorem tick_same (h : CI t) : Same t (tickC t) := by
  obtain ⟨_, _, _, _, g1, g2, g3⟩ := tick_ci h
  exact ⟨g3, g2, g1⟩
theorem find_state {id : Int} (h : stateE t id ≠ 0) : (findE t id).isSome = true := by
  unfold stateE at h
  cases hf : findE t id with
  | none => rw [hf] at h; exact absurd rfl h
  | some i => rfl
theorem rel_zero (h : CI t) (id : Int) : (relE t id).2 = 0 ↔ stateE t id ≠ 0 := by
  rw [(rel_ci h id).2.2.1]
  constructor
  · intro q
    cases hf : findE t id with
    | none => rw [hf] at q; cases q
    | some i =>
      obtain ⟨h1, h2⟩ := find_some hf
      have h3 := (h.hs _ (getD_mem (d := hd0) h1)).1
      unfold stateE
      rw [hf]
      simp only
      omega
  · exact find_state
/-- Whoever is ready stays so. -/
theorem stay_hold (h : CI t) (id : Int) (ks : List Tx) {z : Int} (hz : stateE t z = 3) : stateE (holdE t id ks).1 z = 3 := by
  have hs := find_state (by rw [hz]; decide : stateE t z ≠ 0)
  obtain ⟨i, hi⟩ := Option.isSome_iff_exists.1 hs
  obtain ⟨h1, h2⟩ := find_some hi
  have h3 : (t.H.getD i hd0).st = 3 := by unfold stateE at hz; rw [hi] at hz; exact hz
  have := hold_keep id ks (getD_mem (d := hd0) h1) (by omega)
  rw [← h2, state_mem (hold_ci h id ks).1.ids this, h3]
theorem stay_rel (h : CI t) (id : Int) {z : Int} (hz : stateE t z = 3) (hne : z ≠ id) : stateE (relE t id).1 z = 3 := by
  have hs := find_state (by rw [hz]; decide : stateE t z ≠ 0)
  obtain ⟨i, hi⟩ := Option.isSome_iff_exists.1 hs
  obtain ⟨h1, h2⟩ := find_some hi
  have h3 : (t.H.getD i hd0).st = 3 := by unfold stateE at hz; rw [hi] at hz; exact hz
  have := rel_keep (id := id) (getD_mem (d := hd0) h1) (by omega) (by rw [h2]; exact hne)
  rw [← h2, state_mem (rel_ci h id).1.ids this, h3]
theorem stay_tick (h : CI t) {z : Int} (hz : stateE t z = 3) : stateE (tickC t) z = 3 := by
  have hs := find_state (by rw [hz]; decide : stateE t z ≠ 0)
  obtain ⟨i, hi⟩ := Option.isSome_iff_exists.1 hs
  obtain ⟨h1, h2⟩ := find_some hi
  have h3 : (t.H.getD i hd0).st = 3 := by unfold stateE at hz; rw [hi] at hz; exact hz
  obtain ⟨y, hy, h4, h5⟩ := (tick_ci h).2.2.2.1 _ (getD_mem h1) h3
  rw [← h2, ← h4, state_mem (tick_ci h).1.ids hy, h5]
end
/-- A row of who is held that is only read. -/
structure RowsR (w0 w : World) (f : Nat → Oo) (y : SL) (l : List RV) : Prop where
  rd : Rd w y.1 y.2.1 3 (rowV rvV l)
  z : ∀ b ∈ blkL y.1, oo f b = 0 ∧ b < w.heap.size
  cp : y.2.1 ≤ y.2.2 ∧ y.2.2 ≤ maxLen
section
variable {w0 w w' : World} {base : Nat} {f f' : Nat → Oo} {y : SL} {l : List RV}
theorem RowsM.r (h : RowsM w0 w base f y l) : RowsR w0 w f y l := ⟨h.o.rd, fun b q => ⟨h.z b q, (h.o.bl b q).2⟩, h.o.cap⟩
theorem RowsR.tn (h : RowsR w0 w f y l) (t : Tn (oo f) (oo f') w w') : RowsR w0 w' f' y l := by
  obtain ⟨h1, h2⟩ := rd_tn h.rd t h.z
  exact ⟨h1, h2, h.cp⟩
theorem RowsR.ext (h : RowsR w0 w f y l) (e : Ext w w') : RowsR w0 w' f y l := h.tn (Tn.ext e)
theorem RowsR.len (h : RowsR w0 w f y l) : l.length = y.2.1 := by
  have := h.rd.1
  rw [rowV_len rvV_len] at this
  omega
end
end Go.Proofs.Ythiacmmkfngpbaa

namespace Go.Proofs.Ythiacmmkfngpbaa
open Go.RowKit Go.Proofs.Eng Go.Proofs.Foot
set_option linter.unusedSimpArgs false
set_option linter.unusedVariables false set_option maxRecDepth 10000
attribute [local irreducible] T TL LV TH TA
end Go.Proofs.Ythiacmmkfngpbaa

namespace Go.Proofs.Ythiacmmkfngpbaa
open Go.RowKit Go.Proofs.Eng Go.Proofs.Foot
set_option linter.unusedSimpArgs false
set_option linter.unusedVariables false set_option maxRecDepth 10000
attribute [local irreducible] T TL LV TH TA
theorem getD_mem {l : List Tx} {i : Nat} (hi : i < l.length) : l.getD i [] ∈ l := by
  rw [List.getD_eq_getElem?_getD, List.getElem?_eq_getElem hi]
  exact List.getElem_mem hi
theorem mem_getD {l : List Tx} {s : Tx} (h : s ∈ l) : ∃ i, i < l.length ∧ l.getD i [] = s := by
  obtain ⟨i, hi, rfl⟩ := List.mem_iff_getElem.1 h
  exact ⟨i, hi, by rw [List.getD_eq_getElem?_getD, List.getElem?_eq_getElem hi]; rfl⟩
theorem Has_c (A : Option Addr) (n c : Nat) (l : List Tx) (s : Tx) (w : World) (h : Rd w A n 1 (sv l)) (hn : n ≤ 70368744177000) :
    Ret Try.prog 25 [.slice A n c, .string (ofL s)] w (fun v w' => v = .bool (decide (s ∈ l)) ∧ w' = w) := by
  have hl : l.length = n := by simpa using h.1
  refine ret_T (n := 18) Try.func25 rfl rfl ?_
  repeat (first | refine T_seq ?_ | refine T_region ?_ | refine T_block ?_ | refine TL_nil ?_ | refine TL_assign (hk := ?_))
  refine T_loop (ι := Nat) (fun i => [(5, .int .i64 (i : Int)), (0, .slice A n c), (1, .string (ofL s))]) (fun i w' => w' = w ∧ i ≤ n ∧ ∀ j, j < i → l.getD j [] ≠ s) (fun i => n - i) 0 (.c rfl (.c rfl (.c rfl (.n)))) ⟨rfl, Nat.zero_le _, fun j h => absurd h (by omega)⟩ ?_
  rintro i _ ⟨rfl, hi, hu⟩ ih
  by_cases hlt : i < n
  · by_cases e : l.getD i [] = s
    · have e' : ofL (l.getD i []) = ofL s := by rw [e]
      repeat (first | refine T_seq ?_ | refine T_region ?_ | refine T_cond_true rfl ?_ | refine T_block ?_ | refine T_skip ?_ | refine TL_lt_t (hk := ?_) | refine TL_seq_t (hk := ?_) | refine TL_nil ?_ | refine TL_move (hk := ?_) | refine TL_assign (hk := ?_) | refine TL_indexAddr1n TE (hk := ?_) | refine TL_len TE (hk := ?_) | refine TL_load_s TE (hk := ?_))
      refine T_ret1 rfl rfl ⟨?_, rfl⟩
      have : s ∈ l := by rw [← e]; exact getD_mem (by omega)
      simp [this]
    · have e' : ¬ ofL (l.getD i []) = ofL s := fun h => e (ofL_inj h)
      repeat (first | refine T_seq ?_ | refine T_region ?_ | refine T_cond_true rfl ?_ | refine T_cond_false rfl ?_ | refine T_block ?_ | refine T_inBlock ?_ | refine T_skip ?_ | refine TL_add (hk := ?_) | refine TL_lt_t (hk := ?_) | refine TL_seq_f (hk := ?_) | refine TL_nil ?_ | refine TL_move (hk := ?_) | refine TL_assign (hk := ?_) | refine TL_indexAddr1n TE (hk := ?_) | refine TL_len TE (hk := ?_) | refine TL_load_s TE (hk := ?_))
      exact ih (i + 1) _ _ (by omega) ⟨rfl, by omega, fun j hj => by
        by_cases q : j = i
        · rw [q]; exact e
        · exact hu j (by omega)⟩ (.c rfl (.c rfl (.c rfl (.n))))
  · have hno : ¬ s ∈ l := fun hm => by
      obtain ⟨j, hj, e⟩ := mem_getD hm
      exact hu j (by omega) e
    repeat (first | refine T_seq ?_ | refine T_region ?_ | refine T_cond_false rfl ?_ | refine T_exit rfl ?_ | refine TL_lt_f (hk := ?_) | refine TL_nil ?_ | refine TL_move (hk := ?_) | refine TL_assign (hk := ?_) | refine TL_len TE (hk := ?_))
    refine T_ret1 rfl rfl ⟨?_, rfl⟩
    simp [hno]





























































































end Go.Proofs.Ythiacmmkfngpbaa

namespace Go.Proofs.Ythiacmmkfngpbaa
open Go.RowKit Go.Proofs.Eng Go.Proofs.Foot Go.Proofs.Cold
set_option linter.unusedSimpArgs false
set_option linter.unusedVariables false set_option maxRecDepth 10000
attribute [local irreducible] T TL LV TH TA
set_option maxHeartbeats 3200000
def outP (t : CS) (ks : List Tx) (k : Tx) : Bool := decide (0 < pinsE t k) && !decide (k ∈ ks)
def covE (t : CS) (ks : List Tx) (room : Nat) : Bool := decide (∀ k ∈ ks, k ∈ sortT (withE t 3)) && decide (ks.length + ((nearE t).filter (outP t ks)).length ≤ room)
theorem filtT_succ (p : Tx → Bool) (l : List Tx) (i : Nat) (hi : i < l.length) : ((l.take (i + 1)).filter p).length = ((l.take i).filter p).length + (if p (l.getD i []) = true then 1 else 0) := by
  rw [List.take_succ_eq_append_getElem hi, List.filter_append, List.length_append, List.getD_eq_getElem?_getD, List.getElem?_eq_getElem hi]
  simp only [Option.getD_some]
  split
  · rename_i q; simp [q]
  · rename_i q; simp [q]
section
variable {w w' : World} {base : Nat} {m : CM} {f : Nat → Oo} {t : CS}
theorem covered_c28 (A : Option Addr) (n c room : Nat) (ks : List Tx) (w : World) (h : TierM w base m f t) (hc : CI t) (hr : Rd w A n 1 (sv ks)) (hn : n ≤ 1000000) (hro : room ≤ 1000000) :
    Ret Try.prog 21 [pB m.p, .slice A n c, .int .i64 (room : Int)] w (fun v w' => v = .bool (covE t ks room) ∧ Ext w w') := by
  have hl : ks.length = n := by have := hr.1; rw [sv_length] at this; omega
  have hkl8 := kok_klen hc.k
  have hwl8 := kok_wlen hc.k
  have hrm8 := hc.rm
  have hwr8 := warm_room hc.toCI0
  have hpb : ∀ k, pinsE t k ≤ t.H.length := fun k => by rw [pins_pc hc.toCI0]; exact List.length_filter_le _ _
  refine ret_T (n := 65) Try.func21 rfl rfl ?_
  repeat (first | refine T_seq ?_ | refine T_region ?_ | refine TL_nil ?_ | refine TL_move (hk := ?_) | refine TL_assign (hk := ?_))
  refine TL_call TE (hc := Warm_c w h (by omega)) (hk := ?_)
  rintro _ w1 ⟨x1, rfl, e1, o1⟩
  have h1 := h.ext e1
  have hr1 := hr.be e1
  have z1 := e1.size
  have hx1 : x1.2.1 = (sortT (withE t 3)).length := by have := o1.len; simp only [sv_length] at this; omega
  repeat (first | refine T_seq ?_ | refine T_region ?_ | refine T_block ?_ | refine TL_nil ?_ | refine TL_move (hk := ?_) | refine TL_assign (hk := ?_) | refine TL_len TE (hk := ?_))
  refine T_loop (ι := Nat) (fun i => [(9, .int .i64 (i : Int)), (8, .int .i64 (n : Int)), (7, sL x1), (0, pB m.p), (1, .slice A n c), (2, .int .i64 (room : Int))]) (fun i w' => Ext w1 w' ∧ i ≤ n ∧ ∀ j, j < i → ks.getD j [] ∈ sortT (withE t 3)) (fun i => n - i) 0 (.c rfl (.c rfl (.c rfl (.c rfl (.c rfl (.c rfl (.n))))))) ⟨Mod.refl _ _, Nat.zero_le _, fun j h => absurd h (by omega)⟩ ?_
  rintro i w2 ⟨e2, hi, hu⟩ ih
  have hr2 := hr1.be e2
  have o2 := o1.be e2
  by_cases hlt : i < n
  · have hA : A ≠ none := by obtain ⟨_, _, hq, _⟩ := hr2.2 (by omega); rw [hq]; simp
    obtain ⟨key, hkey⟩ : ∃ key, ks.getD i [] = key := ⟨_, rfl⟩
    repeat (first | refine T_seq ?_ | refine T_region ?_ | refine T_cond_true rfl ?_ | refine T_block ?_ | refine T_skip ?_ | refine TL_lt_t (hk := ?_) | refine TL_nil ?_ | refine TL_move (hk := ?_) | refine TL_indexAddr1n TE (hk := ?_) | refine TL_len TE (hk := ?_) | refine TL_load_s TE (hk := ?_))
    rw [hkey]
    --
    refine TL_call TE (hc := Has_c x1.1 x1.2.1 x1.2.2 _ key w2 o2.rd (by omega)) (hk := ?_)
    rintro _ w3 ⟨rfl, rfl⟩
    by_cases hm : key ∈ sortT (withE t 3)
    · rw [decide_eq_true hm]
      repeat (first | refine T_region ?_ | refine T_cond_false rfl ?_ | refine T_inBlock ?_ | refine T_skip ?_ | refine TL_add (hk := ?_) | refine TL_nil ?_ | refine TL_move (hk := ?_) | refine TL_assign (hk := ?_) | refine TL_not (hk := ?_))
      exact ih (i + 1) _ _ (by omega) ⟨e2, by omega, fun j hj => by
        by_cases q : j = i
        · rw [q, hkey]; exact hm
        · exact hu j (by omega)⟩ (.c rfl (.c rfl (.c rfl (.c rfl (.c rfl (.c rfl (.n)))))))
    · rw [decide_eq_false hm]
      have hcv : covE t ks room = false := by
        unfold covE
        rw [decide_eq_false, Bool.false_and]
        intro q
        refine hm (q key ?_)
        rw [← hkey]
        rw [List.getD_eq_getElem?_getD, List.getElem?_eq_getElem (by omega : i < ks.length)]; exact List.getElem_mem _
      clear ih
      repeat (first | refine T_seq ?_ | refine T_region ?_ | refine T_cond_true rfl ?_ | refine TL_nil ?_ | refine TL_assign (hk := ?_) | refine TL_not (hk := ?_))
      exact T_ret1 rfl rfl ⟨by rw [hcv], e1.ext e2⟩
  clear ih
  have hin : i = n := by omega
  subst hin
  have hall : ∀ k ∈ ks, k ∈ sortT (withE t 3) := fun k hk => by
    obtain ⟨j, hj, rfl⟩ := mem_getD hk
    exact hu j (by omega)
  have hcv : covE t ks room = decide (ks.length + ((nearE t).filter (outP t ks)).length ≤ room) := by
    unfold covE
    rw [decide_eq_true hall, Bool.true_and]
  have h2 := h1.ext e2
  have E2 := e1.ext e2
  have z2 := E2.size
  have hc1 := o2.cap
  clear hu h1 hr1 o1 e1
  repeat (first | refine T_seq ?_ | refine T_region ?_ | refine T_cond_false rfl ?_ | refine T_exit rfl ?_ | refine TL_lt_f (hk := ?_) | refine TL_nil ?_ | refine TL_move (hk := ?_) | refine TL_len TE (hk := ?_))
  refine TL_buildSlice0 TE (hk := ?_); intro b3 w3 e3 h3 h3' k3
  have o3 : Own w3 w2.heap.size 9 1 (some ⟨b3, 0, none⟩) 0 0 [] := Own.of_blk k3 h3 rfl (by decide)
  have z3 := e3.size
  repeat (refine TL_move (hk := ?_))
  refine TL_append TE (ho := o3) (hr := (o2.be e3).rd) (h1 := sv_one _) (hk := ?_); intro A4 c4 w4 o4 m4 n4
  rw [List.nil_append] at o4
  have E4 : Ext w2 w4 := Mod.own e3 m4 o3.hi
  have z4 := E4.size
  have h4 := h2.ext E4
  clear e3 k3 o3 m4 n4
  repeat (refine TL_move (hk := ?_))
  refine TL_call TE (hc := Fetching_c w4 h4 (by omega)) (hk := ?_)
  rintro _ w5 ⟨x5, rfl, e5, o5⟩
  have hx5 : x5.2.1 = (sortT (withE t 2)).length := by have := o5.len; simp only [sv_length] at this; omega
  have z5 := e5.size
  have o45 := o4.be e5
  have hi45 := o45.hi
  have hc5 := o5.cap
  --
  refine TL_append TE (ho := o45) (hr := o5.rd) (h1 := sv_one _) (hk := ?_); intro A6 c6 w6 o6 m6 n6
  rw [← sv_append] at o6
  have E6 : Ext w2 w6 := (E4.ext e5).own m6 hi45
  have z6 := E6.size
  have h6 := h2.ext E6
  clear e5 o5 o45 m6 n6 o4 h4 E4
  repeat (refine TL_move (hk := ?_))
  refine TL_call TE (hc := Wanted_c w6 h6 (by omega)) (hk := ?_)
  rintro _ w7 ⟨x7, rfl, e7, o7⟩
  have hx7 : x7.2.1 = t.wt.length := by have := o7.len; simp only [sv_length] at this; omega
  have z7 := e7.size
  have o67 := o6.be e7
  have hi67 := o67.hi
  have hc7 := o7.cap
  --
  refine TL_append TE (ho := o67) (hr := o7.rd) (h1 := sv_one _) (hk := ?_); intro A8 c8 w8 o8 m8 n8
  rw [← sv_append] at o8
  replace o8 : Own w8 w2.heap.size 9 1 A8 (0 + x1.2.1 + x5.2.1 + x7.2.1) c8 (sv (nearE t)) := o8
  have E8 : Ext w2 w8 := (E6.ext e7).own m8 hi67
  have hnl : (nearE t).length = 0 + x1.2.1 + x5.2.1 + x7.2.1 := by have := o8.len; simp only [sv_length] at this; omega
  have hn8 := o8.rd
  obtain ⟨NN, hNN⟩ : ∃ NN, 0 + x1.2.1 + x5.2.1 + x7.2.1 = NN := ⟨_, rfl⟩
  have hNb : NN ≤ 100000 := by omega
  rw [hNN] at hn8 hnl
  have h8 := h2.ext E8
  have hr8 := hr2.be E8
  have E08 := E2.ext E8
  clear e7 o7 o67 m8 n8 o6 h6 E6 h2 hr2 o2
  repeat (first | refine T_seq ?_ | refine T_region ?_ | refine T_block ?_ | refine TL_nil ?_ | refine TL_assign (hk := ?_))
  rw [hNN]
  --
  refine T_loop (ι := Nat) (fun j => [(11, .int .i64 (j : Int)), (10, .slice A8 NN c8), (8, .int .i64 ((i + (((nearE t).take j).filter (outP t ks)).length : Nat) : Int)), (0, pB m.p), (1, .slice A i c), (2, .int .i64 (room : Int))]) (fun j w' => Ext w8 w' ∧ j ≤ NN) (fun j => NN - j) 0 (.c rfl (.c rfl (.c rfl (.c rfl (.c rfl (.c rfl (.n))))))) ⟨Mod.refl _ _, Nat.zero_le _⟩ ?_
  rintro j w9 ⟨e9, hj⟩ ih
  have hr9 := hr8.be e9
  have hn9 := hn8.be e9
  have h9 := h8.ext e9
  have hcl : (((nearE t).take j).filter (outP t ks)).length ≤ j := Nat.le_trans (List.length_filter_le _ _) (by rw [List.length_take]; exact Nat.min_le_left _ _)
  by_cases hlt : j < NN
  · have hA : A8 ≠ none := by obtain ⟨_, _, hq, _⟩ := hn9.2 (by omega); rw [hq]; simp
    have hsu := filtT_succ (outP t ks) (nearE t) j (by omega)
    obtain ⟨key, hkey⟩ : ∃ key, (nearE t).getD j [] = key := ⟨_, rfl⟩
    rw [hkey] at hsu
    repeat (first | refine T_seq ?_ | refine T_region ?_ | refine T_cond_true rfl ?_ | refine T_block ?_ | refine T_skip ?_ | refine TL_lt_t (hk := ?_) | refine TL_nil ?_ | refine TL_move (hk := ?_) | refine TL_indexAddr1n TE (hk := ?_) | refine TL_len TE (hk := ?_) | refine TL_load_s TE (hk := ?_))
    rw [hkey]
    --
    refine TL_call TE (hc := Pins_c key w9 h9) (hk := ?_)
    rintro _ w10 ⟨rfl, e10⟩
    have hr10 := hr9.be e10
    have hn10 := hn9.be e10
    clear hr9 hn9
    by_cases hp : 0 < pinsE t key
    · have hpi : (0 : Int) < ((pinsE t key : Nat) : Int) := by omega
      repeat (first | refine TL_gt_t (hk := ?_) | refine TL_move (hk := ?_) | refine TL_indexAddr1n TE (hk := ?_) | refine TL_yes (hk := ?_) | refine TL_load_s TE (hk := ?_))
      rw [hkey]
      --
      refine TL_call TE (hc := Has_c A i c ks key w10 hr10 (by omega)) (hk := ?_)
      rintro _ w11 ⟨rfl, rfl⟩
      by_cases hm : key ∈ ks
      · have ho : outP t ks key = false := by unfold outP; simp [hm]
        rw [ho, if_neg (by simp), Nat.add_zero] at hsu
        rw [decide_eq_true hm]
        repeat (first | refine T_region ?_ | refine T_cond_false rfl ?_ | refine T_inBlock ?_ | refine T_skip ?_ | refine TL_add (hk := ?_) | refine TL_nil ?_ | refine TL_move (hk := ?_) | refine TL_assign (hk := ?_) | refine TL_yes (hk := ?_) | refine TL_pick_t (hk := ?_) | refine TL_not (hk := ?_))
        exact ih (j + 1) _ _ (by omega) ⟨e9.ext e10, by omega⟩ (by rw [hsu]; exact (.c rfl (.c rfl (.c rfl (.c rfl (.c rfl (.c rfl (.n))))))))
      · have ho : outP t ks key = true := by unfold outP; simp [hm, hp]
        rw [ho, if_pos rfl] at hsu
        rw [decide_eq_false hm]
        have hci : ((i + (((nearE t).take j).filter (outP t ks)).length : Nat) : Int) + 1 = ((i + (((nearE t).take (j + 1)).filter (outP t ks)).length : Nat) : Int) := by omega
        repeat (first | refine T_region ?_ | refine T_cond_true rfl ?_ | refine T_inBlock ?_ | refine TL_add (hk := ?_) | refine TL_nil ?_ | refine TL_move (hk := ?_) | refine TL_assign (hk := ?_) | refine TL_yes (hk := ?_) | refine TL_pick_t (hk := ?_) | refine TL_not (hk := ?_))
        rw [hci]
        --
        exact ih (j + 1) _ _ (by omega) ⟨e9.ext e10, by omega⟩ (.c rfl (.c rfl (.c rfl (.c rfl (.c rfl (.c rfl (.n)))))))
    · have hpi : ¬ (0 : Int) < ((pinsE t key : Nat) : Int) := by omega
      have ho : outP t ks key = false := by unfold outP; simp [hp]
      rw [ho, if_neg (by simp), Nat.add_zero] at hsu
      repeat (first | refine T_region ?_ | refine T_cond_false rfl ?_ | refine T_inBlock ?_ | refine T_skip ?_ | refine TL_add (hk := ?_) | refine TL_gt_f (hk := ?_) | refine TL_nil ?_ | refine TL_move (hk := ?_) | refine TL_assign (hk := ?_) | refine TL_no (hk := ?_) | refine TL_pick_f (hk := ?_))
      exact ih (j + 1) _ _ (by omega) ⟨e9.ext e10, by omega⟩ (by rw [hsu]; exact (.c rfl (.c rfl (.c rfl (.c rfl (.c rfl (.c rfl (.n))))))))
  · clear ih
    have hjn : j = NN := by omega
    have htk : (nearE t).take j = nearE t := List.take_of_length_le (by omega)
    rw [htk] at hcl ⊢
    by_cases hle : i + ((nearE t).filter (outP t ks)).length ≤ room
    · repeat (first | refine T_seq ?_ | refine T_region ?_ | refine T_cond_false rfl ?_ | refine T_exit rfl ?_ | refine TL_lt_f (hk := ?_) | refine TL_le_t (hk := ?_) | refine TL_nil ?_ | refine TL_move (hk := ?_) | refine TL_assign (hk := ?_) | refine TL_len TE (hk := ?_))
      exact T_ret1 rfl rfl ⟨by rw [hcv, hl, decide_eq_true hle], E08.ext e9⟩
    · repeat (first | refine T_seq ?_ | refine T_region ?_ | refine T_cond_false rfl ?_ | refine T_exit rfl ?_ | refine TL_lt_f (hk := ?_) | refine TL_le_f (hk := ?_) | refine TL_nil ?_ | refine TL_move (hk := ?_) | refine TL_assign (hk := ?_) | refine TL_len TE (hk := ?_))
      exact T_ret1 rfl rfl ⟨by rw [hcv, hl, decide_eq_false hle], E08.ext e9⟩
end
end Go.Proofs.Ythiacmmkfngpbaa

namespace Go.Proofs.Ythiacmmkfngpbaa
open Go.RowKit Go.Proofs.Eng Go.Proofs.Foot Go.Proofs.Cold
set_option linter.unusedSimpArgs false
set_option linter.unusedVariables false set_option maxRecDepth 10000
attribute [local irreducible] T TL LV TH TA
set_option maxHeartbeats 3200000
theorem tx_mem {l : List Tx} {i : Nat} (h : i < l.length) : l.getD i [] ∈ l := by
  rw [List.getD_eq_getElem?_getD, List.getElem?_eq_getElem h]
  exact List.getElem_mem _
def updR (t : CS) (r : RV) : RV := { r with rdy := decide (stateE t r.idn = 3) }
def mixR (t : CS) (l : List RV) (i : Nat) : List RV := (l.take i).map (updR t) ++ l.drop i
def waitB (l : List RV) (t : CS) (i : Nat) : Bool := (l.take i).any fun r => decide (stateE t r.idn = 1)
theorem mix_all {α : Type} (F : α → α) (d : α) : ∀ (l : List α) (i : Nat), i < l.length → ((l.take i).map F ++ l.drop i).set i (F (l.getD i d)) = (l.take (i + 1)).map F ++ l.drop (i + 1) ∧ ((l.take i).map F ++ l.drop i).getD i d = l.getD i d
  | [], i, h => by simp at h
  | x :: l, 0, h => by simp
  | x :: l, i + 1, h => by
    obtain ⟨h1, h2⟩ := mix_all F d l i (by simpa using h)
    simp only [List.take_succ_cons, List.map_cons, List.drop_succ_cons, List.cons_append, List.set_cons_succ, List.getD_cons_succ]
    exact ⟨by rw [h1], h2⟩
theorem mix_len (t : CS) (l : List RV) (i : Nat) : (mixR t l i).length = l.length := by
  unfold mixR
  rw [List.length_append, List.length_map, List.length_take, List.length_drop]
  omega
theorem mix_end (t : CS) (l : List RV) : mixR t l l.length = l.map (updR t) := by
  unfold mixR
  simp
theorem mix_g {w0 : World} {t : CS} {l : List RV} (h : ∀ r ∈ l, Rd w0 r.A r.n 1 (sv r.ks) ∧ r.n ≤ 1500) (i : Nat) : ∀ r ∈ mixR t l i, Rd w0 r.A r.n 1 (sv r.ks) ∧ r.n ≤ 1500 := fun r hr => by
  rcases List.mem_append.1 hr with hr | hr
  · obtain ⟨x, hx, rfl⟩ := List.mem_map.1 hr
    exact h x (List.mem_of_mem_take hx)
  · exact h r (List.mem_of_mem_drop hr)
theorem wait_succ {l : List RV} {t : CS} {i : Nat} (hi : i < l.length) : waitB l t (i + 1) = (waitB l t i || decide (stateE t (l.getD i rv0).idn = 1)) := by
  unfold waitB
  rw [List.take_succ_eq_append_getElem hi, List.any_append, List.getD_eq_getElem?_getD, List.getElem?_eq_getElem hi]
  simp
theorem wait_yes {l : List RV} {t : CS} {i : Nat} (hi : i < l.length) (h : stateE t (l.getD i rv0).idn = 1) : waitB l t (i + 1) = true := by
  rw [wait_succ hi, decide_eq_true h, Bool.or_true]
theorem wait_no {l : List RV} {t : CS} {i : Nat} (hi : i < l.length) (h0 : waitB l t i = false) (h : stateE t (l.getD i rv0).idn ≠ 1) : waitB l t (i + 1) = false := by
  rw [wait_succ hi, decide_eq_false h, h0]
  rfl
theorem wait_none {l : List RV} {t : CS} {i : Nat} (hc : CI t) (hw : whoH t = whoR l) (hi : i < l.length) (h : stateE t (l.getD i rv0).idn ≠ 1) : waitB l t i = false := by
  unfold waitB
  rw [List.any_eq_false]
  intro r hr q
  simp only [decide_eq_true_eq] at q
  obtain ⟨j, hj, e⟩ := List.mem_iff_getElem.1 hr
  rw [List.length_take] at hj
  rw [List.getElem_take] at e
  have hj2 : j < l.length := by omega
  have e2 : l.getD j rv0 = r := by rw [List.getD_eq_getElem?_getD, List.getElem?_eq_getElem hj2]; exact e
  have s1 := who_state hc hw hi
  have s2 := who_state hc hw hj2
  rw [e2, q] at s2
  rw [s1] at h
  have a1 := (who_at hw hi).1
  have a2 := (who_at hw hj2).1
  apply h
  have := List.pairwise_iff_getElem.1 hc.ord j i a2 a1 (by omega)
  rw [List.getD_eq_getElem?_getD, List.getElem?_eq_getElem a1]
  rw [List.getD_eq_getElem?_getD, List.getElem?_eq_getElem a2] at s2
  exact this s2.symm
section
variable {w0 w : World} {base p N B : Nat} {m : CM} {f : Nat → Oo} {t : CS} {y : SL} {l : List RV}
theorem sound_c28 (T0 : TS w0 w base p N B m f t) (R : RowsM w0 w w0.heap.size f y l) (hw : whoH t = whoR l) (hrd : ∀ r ∈ l, r.rdy = true → stateE t r.idn = 3) (a b : Nat) (d : Int) (A : Option Addr) (n c : Nat) (hra : t.room = a) (hrb : t.lines = b) (hN : N ≤ 1000) :
    Ret Try.prog 23 [pB p, sL y, .agg #[.int .i64 (a : Int), .int .i64 (b : Int), .int .i64 d, .slice A n c]] w (fun v w' => v = .bool true ∧ TS w0 w' base p N B m f t ∧ RowsM w0 w' w0.heap.size f y (l.map (updR t))) := by
  have hkl8 := kok_klen T0.ci.k
  have hrm8 := T0.ci.rm
  have hwr8 := warm_room T0.ci.toCI0
  have hls8 := T0.ci.ls
  have hH := T0.bd.h
  have hpbb : ∀ k, pinsE t k ≤ t.H.length := fun k => by rw [pins_pc T0.ci.toCI0]; exact List.length_filter_le _ _
  have hll : l.length = t.H.length := by have := congrArg List.length hw; rw [who_len, whoR_len] at this; omega
  have hyl := R.len
  refine ret_T (n := 114) Try.func23 rfl rfl ?_
  repeat (first | refine T_seq ?_ | refine T_region ?_)
  refine TL_box (hk := ?_); intro b1 w1 e1 h1 h1' k1
  replace k1 : Blk w1 b1 24 [.int .i64 (a : Int), .int .i64 (b : Int), .int .i64 d, .slice A n c] := k1
  have T1 := T0.ext e1
  have z1 := e1.size
  have cW := Warm_c w1 T1.h (by omega)
  rw [T1.hp] at cW
  repeat (first | refine T_seq ?_ | refine T_region ?_ | refine TL_nil ?_ | refine TL_move (hk := ?_) | refine TL_assign (hk := ?_))
  refine TL_call TE (hc := cW) (hk := ?_)
  rintro _ w2 ⟨x, rfl, e2, o2⟩
  have hx2 : x.2.1 = (sortT (withE t 3)).length := by have := o2.len; simp only [sv_length] at this; omega
  have T2 := T1.ext e2
  have k2 := k1.be e2
  have hxy : ∀ b ∈ blkL x.1, b ∉ blkL y.1 := fun b q q' => by
    have h1 := (o2.bl b q).1
    have h2 := (R.o.bl b q').2
    omega
  have hbD : b1 ∉ ([] : List Nat) := by simp
  repeat (first | refine T_seq ?_ | refine TL_nil ?_ | refine TL_assign (hk := ?_))
  refine T_region_any TE.mixed ([] : List Nat) ?_; intro w3 e3 z3
  have T3 := T2.ext e3
  have k3 := k2.be e3
  have cF := Fetching_c w3 T3.h (by omega)
  rw [T3.hp] at cF
  (refine TA_take 0 rfl (by kernel_rfl) (by kernel_rfl) (by kernel_rfl) ?_; (repeat (first | refine TL_move (hk := ?_) | refine TLP_load TE (hk := ?_) | refine TL_fieldAddr TE (hk := ?_) | refine TL_len TE (hk := ?_))); refine TL_nil_p ?_); (refine TA_take 1 rfl (by kernel_rfl) (by kernel_rfl) (by kernel_rfl) ?_; (repeat (first | refine TL_move (hk := ?_) | refine TLP_load TE (hk := ?_) | refine TL_fieldAddr TE (hk := ?_) | refine TL_len TE (hk := ?_))); refine TL_nil_p ?_); (refine TA_take 2 rfl (by kernel_rfl) (by kernel_rfl) (by kernel_rfl) ?_; (repeat (first | refine TL_move (hk := ?_) | refine TLP_load TE (hk := ?_) | refine TL_fieldAddr TE (hk := ?_) | refine TL_len TE (hk := ?_))); refine TL_nil_p ?_); (refine TA_take 6 rfl (by kernel_rfl) (by kernel_rfl) (by kernel_rfl) ?_; (repeat (first | refine TL_move (hk := ?_) | refine TLP_load TE (hk := ?_) | refine TL_fieldAddr TE (hk := ?_) | refine TL_len TE (hk := ?_))); refine TL_nil_p ?_); (refine TA_take 7 rfl (by kernel_rfl) (by kernel_rfl) (by kernel_rfl) ?_; (repeat (first | refine TL_move (hk := ?_) | refine TLP_load TE (hk := ?_) | refine TL_fieldAddr TE (hk := ?_) | refine TL_len TE (hk := ?_))); refine TL_nil_p ?_)
  refine TA_one 3 rfl (by kernel_rfl) (by kernel_rfl) ?_; (try refine TL_yes (hk := ?_)); refine TL_call TE (hc := cF) (hq := (by rintro _ w' ⟨x, rfl, e, _⟩; exact Ext.un e)) (hk := ?_)
  rintro _ w4 ⟨x4, rfl, e4, o4⟩
  have hx4 : x4.2.1 = (sortT (withE t 2)).length := by have := o4.len; simp only [sv_length] at this; omega
  have T4 := T3.ext e4
  have k4 := k3.be e4
  have cF := Fetching_c w4 T4.h (by omega)
  rw [T4.hp] at cF
  refine TL_nil_p ?_
  (refine TA_one 4 rfl (by kernel_rfl) (by kernel_rfl) ?_; (repeat (first | refine TL_add (hk := ?_) | refine TL_gt_f (hk := ?_) | refine TL_move (hk := ?_) | refine TL_len TE (hk := ?_))); refine TL_nil_p ?_); (refine TA_one 5 rfl (by kernel_rfl) (by kernel_rfl) ?_; (repeat (first | refine TL_add (hk := ?_) | refine TL_gt_f (hk := ?_) | refine TL_move (hk := ?_) | refine TL_len TE (hk := ?_))); refine TL_nil_p ?_); (refine TA_one 8 rfl (by kernel_rfl) (by kernel_rfl) ?_; (repeat (first | refine TL_add (hk := ?_) | refine TL_gt_f (hk := ?_) | refine TL_move (hk := ?_) | refine TL_len TE (hk := ?_))); refine TL_nil_p ?_); (refine TA_one 9 rfl (by kernel_rfl) (by kernel_rfl) ?_; (repeat (first | refine TL_add (hk := ?_) | refine TL_gt_f (hk := ?_) | refine TL_move (hk := ?_) | refine TL_len TE (hk := ?_))); refine TL_nil_p ?_)
  (refine TA_take 10 rfl (by kernel_rfl) (by kernel_rfl) (by kernel_rfl) ?_; (repeat (first | refine TL_move (hk := ?_) | refine TLP_load TE (hk := ?_) | refine TL_fieldAddr TE (hk := ?_) | refine TL_yes (hk := ?_))); refine TL_nil_p ?_); (refine TA_take 13 rfl (by kernel_rfl) (by kernel_rfl) (by kernel_rfl) ?_; (repeat (first | refine TL_move (hk := ?_) | refine TLP_load TE (hk := ?_) | refine TL_fieldAddr TE (hk := ?_) | refine TL_yes (hk := ?_))); refine TL_nil_p ?_); (refine TA_take 14 rfl (by kernel_rfl) (by kernel_rfl) (by kernel_rfl) ?_; (repeat (first | refine TL_move (hk := ?_) | refine TLP_load TE (hk := ?_) | refine TL_fieldAddr TE (hk := ?_) | refine TL_yes (hk := ?_))); refine TL_nil_p ?_)
  refine TA_one 11 rfl (by kernel_rfl) (by kernel_rfl) ?_; (try refine TL_yes (hk := ?_)); refine TL_call TE (hc := cF) (hq := (by rintro _ w' ⟨x, rfl, e, _⟩; exact Ext.un (e4.ext e))) (hk := ?_)
  rintro _ w5 ⟨x5, rfl, e5, o5⟩
  have hx5 : x5.2.1 = (sortT (withE t 2)).length := by have := o5.len; simp only [sv_length] at this; omega
  refine TL_nil_p ?_
  (refine TA_one 12 rfl (by kernel_rfl) (by kernel_rfl) ?_; (repeat (first | refine TL_gt_f (hk := ?_) | refine TL_len TE (hk := ?_) | refine TL_yes (hk := ?_) | refine TL_pick_f (hk := ?_))); refine TL_nil_p ?_); (refine TA_one 15 rfl (by kernel_rfl) (by kernel_rfl) ?_; (repeat (first | refine TL_gt_f (hk := ?_) | refine TL_len TE (hk := ?_) | refine TL_yes (hk := ?_) | refine TL_pick_f (hk := ?_))); refine TL_nil_p ?_); (refine TA_one 16 rfl (by kernel_rfl) (by kernel_rfl) ?_; (repeat (first | refine TL_gt_f (hk := ?_) | refine TL_len TE (hk := ?_) | refine TL_yes (hk := ?_) | refine TL_pick_f (hk := ?_))); refine TL_nil_p ?_)
  refine TA_done (by kernel_rfl) ?_
  have T5 := T4.ext e5
  have E25 := (e3.ext e4).ext e5
  have R5 := (R.ext (e1.ext e2)).ext E25
  have hx5r := (o2.be E25).rd
  clear T1 T2 T3 T4 k1 k2 k3 k4 o2 o4 o5
  repeat (first | refine T_seq ?_ | refine T_region ?_ | refine T_cond_false rfl ?_ | refine T_block ?_ | refine T_skip ?_ | refine TL_nil ?_ | refine TL_assign (hk := ?_))
  refine T_loop (ι := Nat) (fun i => [(9, .int .i64 (i : Int)), (8, .bool (waitB l t i)), (7, sL x), (1, sL y), (0, pB p)]) (fun i w' => i ≤ l.length ∧ TS w0 w' base p N B m f t ∧ RowsM w0 w' w0.heap.size f y (mixR t l i) ∧ Rd w' x.1 x.2.1 1 (sv (sortT (withE t 3)))) (fun i => l.length - i) 0 (.c rfl (.c rfl (.c rfl (.c rfl (.c rfl (.n)))))) ⟨Nat.zero_le _, T5, R5, hx5r⟩ ?_
  clear T5 R5 hx5r
  rintro i w6 ⟨hi, T6, R6, hx6⟩ ih
  have hylen := R6.len
  rw [mix_len] at hylen
  by_cases hil : i < l.length
  · have hB : y.1 ≠ none := by obtain ⟨_, _, hq, _⟩ := R6.o.rd.2 (by omega); rw [hq]; simp
    have hmg := (mix_all (updR t) rv0 l i hil).2
    have hmem := row_mem hil
    have hrg := R.g _ hmem
    have hs0 := who_state T6.ci hw hil
    obtain ⟨hH1, hH2, hwk⟩ := who_at hw hil
    have hmH := Go.Proofs.Cold.getD_mem (d := hd0) hH1
    have hqr := hrd _ hmem
    have hst3 := (T6.ci.hs _ hmH).1
    rw [← hs0] at hst3
    obtain ⟨r, hr⟩ : ∃ r, l.getD i rv0 = r := ⟨_, rfl⟩
    change (mixR t l i).getD i rv0 = _ at hmg
    have hv0 : (rowV rvV (mixR t l i))[i * 3 + 0]? = some (.int .i64 ((mixR t l i).getD i rv0).idn) := rowV_at rvV_len _ i 0 rv0 (by rw [mix_len]; omega) (by omega)
    have hv1 : (rowV rvV (mixR t l i))[i * 3 + 1]? = some (.slice ((mixR t l i).getD i rv0).A ((mixR t l i).getD i rv0).n ((mixR t l i).getD i rv0).c) := rowV_at rvV_len _ i 1 rv0 (by rw [mix_len]; omega) (by omega)
    have hv2 : (rowV rvV (mixR t l i))[i * 3 + 2]? = some (.bool ((mixR t l i).getD i rv0).rdy) := rowV_at rvV_len _ i 2 rv0 (by rw [mix_len]; omega) (by omega)
    rw [hmg, hr] at hv0 hv1 hv2
    rw [hr] at hmg hrg hs0 hwk hqr hst3
    have hkl : r.ks.length = r.n := by have := hrg.1.1; rw [sv_length] at this; omega
    have hr6 := R6.o.rd
    have cS := State_c r.idn w6 T6.h
    rw [T6.hp] at cS
    repeat (first | refine T_seq ?_ | refine T_region ?_ | refine T_cond_true rfl ?_ | refine T_block ?_ | refine T_skip ?_ | refine TL_lt_t (hk := ?_) | refine TL_nil ?_ | refine TL_move (hk := ?_) | refine TL_load_rd TE (hk := ?_) | refine TL_fieldAddr_e TE (hk := ?_) | refine TL_indexAddrn TE (hk := ?_) | refine TL_len TE (hk := ?_))
    refine TL_call TE (hc := cS) (hk := ?_)
    rintro _ w8 ⟨rfl, e8⟩
    have T8 := T6.ext e8
    have R8 := R6.ext e8
    have hx8 := hx6.be e8
    have hr8 := R8.o.rd
    clear T6 R6 hx6 hr6
    have hcs : (stateE t r.idn = 1 ∧ r.rdy = false) ∨ (stateE t r.idn = 3 ∧ r.rdy = true) ∨ (stateE t r.idn = 3 ∧ r.rdy = false) ∨ (stateE t r.idn = 2 ∧ r.rdy = false) := by
      cases hq : r.rdy with
      | true => have := hqr hq; simp [this]
      | false => rcases hst3 with q | q | q <;> simp [q]
    rcases hcs with ⟨hs, hq⟩ | ⟨hs, hq⟩ | ⟨hs, hq⟩ | ⟨hs, hq⟩
    · -- state 1, ready before: false
      have hsi : ((stateE t r.idn : Nat) : Int) = 1 := by omega
      rw [hq] at hv2
      have hupd : updR t r = { r with rdy := false } := by unfold updR; rw [hs]; rfl
      have hset : (rowV rvV (mixR t l i)).set (i * 3 + 2) (.bool false) = rowV rvV (mixR t l (i + 1)) := by
        have hm := (mix_all (updR t) rv0 l i hil).1
        rw [hr, hupd] at hm
        have h1 := rowV_set rvV_len (mixR t l i) i 2 (.bool false) { r with rdy := false } rv0 (by rw [mix_len]; exact hil) (by omega) (by rw [hmg]; rfl)
        rw [h1]
        unfold mixR
        rw [hm]
      rw [hsi]
      repeat (first | refine T_seq ?_ | refine T_region ?_ | refine T_cond_true rfl ?_ | refine T_cond_false rfl ?_ | refine T_block ?_ | refine T_skip ?_ | refine TL_eq_t (hk := ?_) | refine TL_eq_f (hk := ?_) | refine TL_ne_f (hk := ?_) | refine TL_nil ?_ | refine TL_move (hk := ?_) | refine TL_assign (hk := ?_) | refine TL_load_rd TE (hk := ?_) | refine TL_fieldAddr_e TE (hk := ?_) | refine TL_indexAddrn TE (hk := ?_) | refine TL_yes (hk := ?_) | refine TL_no (hk := ?_) | refine TL_pick_t (hk := ?_) | refine TL_pick_f (hk := ?_))
      refine T_loop (ι := Nat) (fun k => [(11, .int .i64 (k : Int)), (10, .int .i64 1), (9, .int .i64 (i : Int)), (8, .bool true), (7, sL x), (1, sL y), (0, pB p)]) (fun k w' => Ext w8 w' ∧ k ≤ r.n) (fun k => r.n - k) 0 (.c rfl (.c rfl (.c rfl (.c rfl (.c rfl (.c rfl (.c rfl (.n)))))))) ⟨Mod.refl _ _, Nat.zero_le _⟩ ?_
      rintro k w9 ⟨e9, hk⟩ ih2
      have T9 := T8.ext e9
      have R9 := R8.ext e9
      have hx9 := hx8.be e9
      have hr9 := R9.o.rd
      have hk9 := hrg.1.be T9.e
      by_cases hkn : k < r.n
      · clear ih
        have hKn : r.A ≠ none := by obtain ⟨_, _, hq, _⟩ := hk9.2 (by omega); rw [hq]; simp
        obtain ⟨key, hkey⟩ : ∃ key, r.ks.getD k [] = key := ⟨_, rfl⟩
        have hpb := hpbb key
        repeat (first | refine T_seq ?_ | refine T_region ?_ | refine T_cond_true rfl ?_ | refine T_cond_false rfl ?_ | refine T_block ?_ | refine T_inBlock ?_ | refine T_skip ?_ | refine TL_add (hk := ?_) | refine TL_lt_t (hk := ?_) | refine TL_eq_f (hk := ?_) | refine TL_ne_f (hk := ?_) | refine TL_nil ?_ | refine TL_move (hk := ?_) | refine TL_assign (hk := ?_) | refine TL_load_rd TE (hk := ?_) | refine TL_fieldAddr_e TE (hk := ?_) | refine TL_indexAddrn TE (hk := ?_) | refine TL_len TE (hk := ?_) | refine TL_yes (hk := ?_) | refine TL_no (hk := ?_) | refine TL_pick_f (hk := ?_))
        exact ih2 (k + 1) _ _ (by omega) ⟨e9, by omega⟩ (.c rfl (.c rfl (.c rfl (.c rfl (.c rfl (.c rfl (.c rfl (.n))))))))
      · clear ih2
        have o9 := R9.o
        have hlw : (rowV rvV (mixR t l i)).length = l.length * 3 := by rw [rowV_len rvV_len, mix_len]
        repeat (first | refine T_seq ?_ | refine T_region ?_ | refine T_cond_false rfl ?_ | refine T_exit rfl ?_ | refine TL_lt_f (hk := ?_) | refine TL_eq_f (hk := ?_) | refine TL_nil ?_ | refine TL_move (hk := ?_) | refine TL_load_rd TE (hk := ?_) | refine TL_fieldAddr_e TE (hk := ?_) | refine TL_indexAddrn TE (hk := ?_) | refine TL_len TE (hk := ?_))
        refine TL_store_own TE (hk := ?_); intro w10 m10 z10 o10
        rw [hset] at o10
        have hT10 : TS w0 w10 base p N B m f t := ⟨T9.e.step m10 (fun b q => .inr (R9.o.bl b q).1), T9.hp, T9.h.mod m10 R9.z, T9.ci, T9.bd, T9.hb⟩
        repeat (first | refine T_region ?_ | refine T_inBlock ?_ | refine TL_add (hk := ?_) | refine TL_nil ?_ | refine TL_move (hk := ?_) | refine TL_assign (hk := ?_))
        exact ih (i + 1) w10 _ (by omega) ⟨by omega, hT10, ⟨o10, R9.z, mix_g R.g (i + 1)⟩, hx9.mod m10 (off_ofL fun b q q' => hxy b q q')⟩ (by rw [wait_yes hil (by rw [hr]; exact hs)]; exact (.c rfl (.c rfl (.c rfl (.c rfl (.c rfl (.n)))))))
    · -- state 3, ready before: true
      have hsi : ((stateE t r.idn : Nat) : Int) = 3 := by omega
      rw [hq] at hv2
      have hupd : updR t r = { r with rdy := true } := by unfold updR; rw [hs]; rfl
      have hset : (rowV rvV (mixR t l i)).set (i * 3 + 2) (.bool true) = rowV rvV (mixR t l (i + 1)) := by
        have hm := (mix_all (updR t) rv0 l i hil).1
        rw [hr, hupd] at hm
        have h1 := rowV_set rvV_len (mixR t l i) i 2 (.bool true) { r with rdy := true } rv0 (by rw [mix_len]; exact hil) (by omega) (by rw [hmg]; rfl)
        rw [h1]
        unfold mixR
        rw [hm]
      rw [hsi]
      have hwb : waitB l t i = false := wait_none T8.ci hw hil (by rw [hr]; omega)
      rw [hwb]
      repeat (first | refine T_seq ?_ | refine T_region ?_ | refine T_cond_false rfl ?_ | refine T_block ?_ | refine T_skip ?_ | refine TL_eq_f (hk := ?_) | refine TL_ne_f (hk := ?_) | refine TL_nil ?_ | refine TL_move (hk := ?_) | refine TL_assign (hk := ?_) | refine TL_load_rd TE (hk := ?_) | refine TL_fieldAddr_e TE (hk := ?_) | refine TL_indexAddrn TE (hk := ?_) | refine TL_yes (hk := ?_) | refine TL_no (hk := ?_) | refine TL_pick_t (hk := ?_) | refine TL_pick_f (hk := ?_))
      refine T_loop (ι := Nat) (fun k => [(11, .int .i64 (k : Int)), (10, .int .i64 3), (9, .int .i64 (i : Int)), (8, .bool false), (7, sL x), (1, sL y), (0, pB p)]) (fun k w' => Ext w8 w' ∧ k ≤ r.n) (fun k => r.n - k) 0 (.c rfl (.c rfl (.c rfl (.c rfl (.c rfl (.c rfl (.c rfl (.n)))))))) ⟨Mod.refl _ _, Nat.zero_le _⟩ ?_
      rintro k w9 ⟨e9, hk⟩ ih2
      have T9 := T8.ext e9
      have R9 := R8.ext e9
      have hx9 := hx8.be e9
      have hr9 := R9.o.rd
      have hk9 := hrg.1.be T9.e
      by_cases hkn : k < r.n
      · clear ih
        have hKn : r.A ≠ none := by obtain ⟨_, _, hq, _⟩ := hk9.2 (by omega); rw [hq]; simp
        obtain ⟨key, hkey⟩ : ∃ key, r.ks.getD k [] = key := ⟨_, rfl⟩
        have hpb := hpbb key
        have hp := in_pins T9.ci.toCI0 hmH (by omega) (k := key) (by rw [hwk, ← hkey]; exact tx_mem (by omega))
        have hwm := ready_warm T9.ci.toCI0 hmH (by omega) (k := key) (by rw [hwk, ← hkey]; exact tx_mem (by omega))
        have hpi : ¬ ((pinsE t key : Nat) : Int) < 1 := by omega
        repeat (first | refine T_seq ?_ | refine T_region ?_ | refine T_cond_true rfl ?_ | refine T_block ?_ | refine T_skip ?_ | refine TL_lt_t (hk := ?_) | refine TL_eq_t (hk := ?_) | refine TL_nil ?_ | refine TL_move (hk := ?_) | refine TL_load_rd TE (hk := ?_) | refine TL_fieldAddr_e TE (hk := ?_) | refine TL_indexAddr1n TE (hk := ?_) | refine TL_indexAddrn TE (hk := ?_) | refine TL_len TE (hk := ?_) | refine TL_yes (hk := ?_) | refine TL_load_s TE (hk := ?_))
        rw [hkey]
        --
        refine TL_call TE (hc := Has_c x.1 x.2.1 x.2.2 _ key w9 hx9 (by omega)) (hk := ?_)
        rintro _ w10 ⟨rfl, rfl⟩
        rw [decide_eq_true hwm]
        have cP := Pins_c key w10 T9.h
        rw [T9.hp] at cP
        repeat (first | refine TL_ne_t (hk := ?_) | refine TL_move (hk := ?_) | refine TL_load_rd TE (hk := ?_) | refine TL_fieldAddr_e TE (hk := ?_) | refine TL_indexAddr1n TE (hk := ?_) | refine TL_indexAddrn TE (hk := ?_) | refine TL_yes (hk := ?_) | refine TL_pick_t (hk := ?_) | refine TL_not (hk := ?_) | refine TL_load_s TE (hk := ?_))
        rw [hkey]
        --
        refine TL_call TE (hc := cP) (hk := ?_)
        rintro _ w11 ⟨rfl, e11⟩
        repeat (first | refine T_region ?_ | refine T_cond_false rfl ?_ | refine T_inBlock ?_ | refine T_skip ?_ | refine TL_add (hk := ?_) | refine TL_lt_f (hk := ?_) | refine TL_nil ?_ | refine TL_move (hk := ?_) | refine TL_assign (hk := ?_) | refine TL_yes (hk := ?_) | refine TL_pick_t (hk := ?_) | refine TL_pick_f (hk := ?_))
        exact ih2 (k + 1) _ _ (by omega) ⟨e9.ext e11, by omega⟩ (.c rfl (.c rfl (.c rfl (.c rfl (.c rfl (.c rfl (.c rfl (.n))))))))
      · clear ih2
        have o9 := R9.o
        have hlw : (rowV rvV (mixR t l i)).length = l.length * 3 := by rw [rowV_len rvV_len, mix_len]
        repeat (first | refine T_seq ?_ | refine T_region ?_ | refine T_cond_false rfl ?_ | refine T_exit rfl ?_ | refine TL_lt_f (hk := ?_) | refine TL_eq_t (hk := ?_) | refine TL_nil ?_ | refine TL_move (hk := ?_) | refine TL_load_rd TE (hk := ?_) | refine TL_fieldAddr_e TE (hk := ?_) | refine TL_indexAddrn TE (hk := ?_) | refine TL_len TE (hk := ?_))
        refine TL_store_own TE (hk := ?_); intro w10 m10 z10 o10
        rw [hset] at o10
        have hT10 : TS w0 w10 base p N B m f t := ⟨T9.e.step m10 (fun b q => .inr (R9.o.bl b q).1), T9.hp, T9.h.mod m10 R9.z, T9.ci, T9.bd, T9.hb⟩
        repeat (first | refine T_region ?_ | refine T_inBlock ?_ | refine TL_add (hk := ?_) | refine TL_nil ?_ | refine TL_move (hk := ?_) | refine TL_assign (hk := ?_))
        exact ih (i + 1) w10 _ (by omega) ⟨by omega, hT10, ⟨o10, R9.z, mix_g R.g (i + 1)⟩, hx9.mod m10 (off_ofL fun b q q' => hxy b q q')⟩ (by rw [wait_no hil hwb (by rw [hr]; omega)]; exact (.c rfl (.c rfl (.c rfl (.c rfl (.c rfl (.n)))))))
    · -- state 3, ready before: false
      have hsi : ((stateE t r.idn : Nat) : Int) = 3 := by omega
      rw [hq] at hv2
      have hupd : updR t r = { r with rdy := true } := by unfold updR; rw [hs]; rfl
      have hset : (rowV rvV (mixR t l i)).set (i * 3 + 2) (.bool true) = rowV rvV (mixR t l (i + 1)) := by
        have hm := (mix_all (updR t) rv0 l i hil).1
        rw [hr, hupd] at hm
        have h1 := rowV_set rvV_len (mixR t l i) i 2 (.bool true) { r with rdy := true } rv0 (by rw [mix_len]; exact hil) (by omega) (by rw [hmg]; rfl)
        rw [h1]
        unfold mixR
        rw [hm]
      rw [hsi]
      have hwb : waitB l t i = false := wait_none T8.ci hw hil (by rw [hr]; omega)
      rw [hwb]
      repeat (first | refine T_seq ?_ | refine T_region ?_ | refine T_cond_false rfl ?_ | refine T_block ?_ | refine T_skip ?_ | refine TL_eq_f (hk := ?_) | refine TL_nil ?_ | refine TL_move (hk := ?_) | refine TL_assign (hk := ?_) | refine TL_load_rd TE (hk := ?_) | refine TL_fieldAddr_e TE (hk := ?_) | refine TL_indexAddrn TE (hk := ?_) | refine TL_yes (hk := ?_) | refine TL_no (hk := ?_) | refine TL_pick_f (hk := ?_))
      refine T_loop (ι := Nat) (fun k => [(11, .int .i64 (k : Int)), (10, .int .i64 3), (9, .int .i64 (i : Int)), (8, .bool false), (7, sL x), (1, sL y), (0, pB p)]) (fun k w' => Ext w8 w' ∧ k ≤ r.n) (fun k => r.n - k) 0 (.c rfl (.c rfl (.c rfl (.c rfl (.c rfl (.c rfl (.c rfl (.n)))))))) ⟨Mod.refl _ _, Nat.zero_le _⟩ ?_
      rintro k w9 ⟨e9, hk⟩ ih2
      have T9 := T8.ext e9
      have R9 := R8.ext e9
      have hx9 := hx8.be e9
      have hr9 := R9.o.rd
      have hk9 := hrg.1.be T9.e
      by_cases hkn : k < r.n
      · clear ih
        have hKn : r.A ≠ none := by obtain ⟨_, _, hq, _⟩ := hk9.2 (by omega); rw [hq]; simp
        obtain ⟨key, hkey⟩ : ∃ key, r.ks.getD k [] = key := ⟨_, rfl⟩
        have hpb := hpbb key
        have hp := in_pins T9.ci.toCI0 hmH (by omega) (k := key) (by rw [hwk, ← hkey]; exact tx_mem (by omega))
        have hwm := ready_warm T9.ci.toCI0 hmH (by omega) (k := key) (by rw [hwk, ← hkey]; exact tx_mem (by omega))
        have hpi : ¬ ((pinsE t key : Nat) : Int) < 1 := by omega
        repeat (first | refine T_seq ?_ | refine T_region ?_ | refine T_cond_true rfl ?_ | refine T_block ?_ | refine T_skip ?_ | refine TL_lt_t (hk := ?_) | refine TL_eq_t (hk := ?_) | refine TL_nil ?_ | refine TL_move (hk := ?_) | refine TL_load_rd TE (hk := ?_) | refine TL_fieldAddr_e TE (hk := ?_) | refine TL_indexAddr1n TE (hk := ?_) | refine TL_indexAddrn TE (hk := ?_) | refine TL_len TE (hk := ?_) | refine TL_yes (hk := ?_) | refine TL_load_s TE (hk := ?_))
        rw [hkey]
        --
        refine TL_call TE (hc := Has_c x.1 x.2.1 x.2.2 _ key w9 hx9 (by omega)) (hk := ?_)
        rintro _ w10 ⟨rfl, rfl⟩
        rw [decide_eq_true hwm]
        have cP := Pins_c key w10 T9.h
        rw [T9.hp] at cP
        repeat (first | refine TL_ne_t (hk := ?_) | refine TL_move (hk := ?_) | refine TL_load_rd TE (hk := ?_) | refine TL_fieldAddr_e TE (hk := ?_) | refine TL_indexAddr1n TE (hk := ?_) | refine TL_indexAddrn TE (hk := ?_) | refine TL_yes (hk := ?_) | refine TL_pick_t (hk := ?_) | refine TL_not (hk := ?_) | refine TL_load_s TE (hk := ?_))
        rw [hkey]
        --
        refine TL_call TE (hc := cP) (hk := ?_)
        rintro _ w11 ⟨rfl, e11⟩
        repeat (first | refine T_region ?_ | refine T_cond_false rfl ?_ | refine T_inBlock ?_ | refine T_skip ?_ | refine TL_add (hk := ?_) | refine TL_lt_f (hk := ?_) | refine TL_nil ?_ | refine TL_move (hk := ?_) | refine TL_assign (hk := ?_) | refine TL_yes (hk := ?_) | refine TL_pick_t (hk := ?_) | refine TL_pick_f (hk := ?_))
        exact ih2 (k + 1) _ _ (by omega) ⟨e9.ext e11, by omega⟩ (.c rfl (.c rfl (.c rfl (.c rfl (.c rfl (.c rfl (.c rfl (.n))))))))
      · clear ih2
        have o9 := R9.o
        have hlw : (rowV rvV (mixR t l i)).length = l.length * 3 := by rw [rowV_len rvV_len, mix_len]
        repeat (first | refine T_seq ?_ | refine T_region ?_ | refine T_cond_false rfl ?_ | refine T_exit rfl ?_ | refine TL_lt_f (hk := ?_) | refine TL_eq_t (hk := ?_) | refine TL_nil ?_ | refine TL_move (hk := ?_) | refine TL_load_rd TE (hk := ?_) | refine TL_fieldAddr_e TE (hk := ?_) | refine TL_indexAddrn TE (hk := ?_) | refine TL_len TE (hk := ?_))
        refine TL_store_own TE (hk := ?_); intro w10 m10 z10 o10
        rw [hset] at o10
        have hT10 : TS w0 w10 base p N B m f t := ⟨T9.e.step m10 (fun b q => .inr (R9.o.bl b q).1), T9.hp, T9.h.mod m10 R9.z, T9.ci, T9.bd, T9.hb⟩
        repeat (first | refine T_region ?_ | refine T_inBlock ?_ | refine TL_add (hk := ?_) | refine TL_nil ?_ | refine TL_move (hk := ?_) | refine TL_assign (hk := ?_))
        exact ih (i + 1) w10 _ (by omega) ⟨by omega, hT10, ⟨o10, R9.z, mix_g R.g (i + 1)⟩, hx9.mod m10 (off_ofL fun b q q' => hxy b q q')⟩ (by rw [wait_no hil hwb (by rw [hr]; omega)]; exact (.c rfl (.c rfl (.c rfl (.c rfl (.c rfl (.n)))))))
    · -- state 2, ready before: false
      have hsi : ((stateE t r.idn : Nat) : Int) = 2 := by omega
      rw [hq] at hv2
      have hupd : updR t r = { r with rdy := false } := by unfold updR; rw [hs]; rfl
      have hset : (rowV rvV (mixR t l i)).set (i * 3 + 2) (.bool false) = rowV rvV (mixR t l (i + 1)) := by
        have hm := (mix_all (updR t) rv0 l i hil).1
        rw [hr, hupd] at hm
        have h1 := rowV_set rvV_len (mixR t l i) i 2 (.bool false) { r with rdy := false } rv0 (by rw [mix_len]; exact hil) (by omega) (by rw [hmg]; rfl)
        rw [h1]
        unfold mixR
        rw [hm]
      rw [hsi]
      have hwb : waitB l t i = false := wait_none T8.ci hw hil (by rw [hr]; omega)
      rw [hwb]
      repeat (first | refine T_seq ?_ | refine T_region ?_ | refine T_cond_false rfl ?_ | refine T_block ?_ | refine T_skip ?_ | refine TL_eq_f (hk := ?_) | refine TL_nil ?_ | refine TL_move (hk := ?_) | refine TL_assign (hk := ?_) | refine TL_load_rd TE (hk := ?_) | refine TL_fieldAddr_e TE (hk := ?_) | refine TL_indexAddrn TE (hk := ?_) | refine TL_yes (hk := ?_) | refine TL_no (hk := ?_) | refine TL_pick_f (hk := ?_))
      refine T_loop (ι := Nat) (fun k => [(11, .int .i64 (k : Int)), (10, .int .i64 2), (9, .int .i64 (i : Int)), (8, .bool false), (7, sL x), (1, sL y), (0, pB p)]) (fun k w' => Ext w8 w' ∧ k ≤ r.n) (fun k => r.n - k) 0 (.c rfl (.c rfl (.c rfl (.c rfl (.c rfl (.c rfl (.c rfl (.n)))))))) ⟨Mod.refl _ _, Nat.zero_le _⟩ ?_
      rintro k w9 ⟨e9, hk⟩ ih2
      have T9 := T8.ext e9
      have R9 := R8.ext e9
      have hx9 := hx8.be e9
      have hr9 := R9.o.rd
      have hk9 := hrg.1.be T9.e
      by_cases hkn : k < r.n
      · clear ih
        have hKn : r.A ≠ none := by obtain ⟨_, _, hq, _⟩ := hk9.2 (by omega); rw [hq]; simp
        obtain ⟨key, hkey⟩ : ∃ key, r.ks.getD k [] = key := ⟨_, rfl⟩
        have hpb := hpbb key
        have hp := in_pins T9.ci.toCI0 hmH (by omega) (k := key) (by rw [hwk, ← hkey]; exact tx_mem (by omega))
        have hpi : ¬ ((pinsE t key : Nat) : Int) < 1 := by omega
        have cP := Pins_c key w9 T9.h
        rw [T9.hp] at cP
        repeat (first | refine T_seq ?_ | refine T_region ?_ | refine T_cond_true rfl ?_ | refine T_block ?_ | refine T_skip ?_ | refine TL_lt_t (hk := ?_) | refine TL_eq_f (hk := ?_) | refine TL_ne_t (hk := ?_) | refine TL_nil ?_ | refine TL_move (hk := ?_) | refine TL_load_rd TE (hk := ?_) | refine TL_fieldAddr_e TE (hk := ?_) | refine TL_indexAddr1n TE (hk := ?_) | refine TL_indexAddrn TE (hk := ?_) | refine TL_len TE (hk := ?_) | refine TL_yes (hk := ?_) | refine TL_no (hk := ?_) | refine TL_pick_f (hk := ?_) | refine TL_load_s TE (hk := ?_))
        rw [hkey]
        --
        refine TL_call TE (hc := cP) (hk := ?_)
        rintro _ w10 ⟨rfl, e10⟩
        repeat (first | refine T_region ?_ | refine T_cond_false rfl ?_ | refine T_inBlock ?_ | refine T_skip ?_ | refine TL_add (hk := ?_) | refine TL_lt_f (hk := ?_) | refine TL_nil ?_ | refine TL_move (hk := ?_) | refine TL_assign (hk := ?_) | refine TL_yes (hk := ?_) | refine TL_pick_t (hk := ?_) | refine TL_pick_f (hk := ?_))
        exact ih2 (k + 1) _ _ (by omega) ⟨e9.ext e10, by omega⟩ (.c rfl (.c rfl (.c rfl (.c rfl (.c rfl (.c rfl (.c rfl (.n))))))))
      · clear ih2
        have o9 := R9.o
        have hlw : (rowV rvV (mixR t l i)).length = l.length * 3 := by rw [rowV_len rvV_len, mix_len]
        repeat (first | refine T_seq ?_ | refine T_region ?_ | refine T_cond_false rfl ?_ | refine T_exit rfl ?_ | refine TL_lt_f (hk := ?_) | refine TL_eq_f (hk := ?_) | refine TL_nil ?_ | refine TL_move (hk := ?_) | refine TL_load_rd TE (hk := ?_) | refine TL_fieldAddr_e TE (hk := ?_) | refine TL_indexAddrn TE (hk := ?_) | refine TL_len TE (hk := ?_))
        refine TL_store_own TE (hk := ?_); intro w10 m10 z10 o10
        rw [hset] at o10
        have hT10 : TS w0 w10 base p N B m f t := ⟨T9.e.step m10 (fun b q => .inr (R9.o.bl b q).1), T9.hp, T9.h.mod m10 R9.z, T9.ci, T9.bd, T9.hb⟩
        repeat (first | refine T_region ?_ | refine T_inBlock ?_ | refine TL_add (hk := ?_) | refine TL_nil ?_ | refine TL_move (hk := ?_) | refine TL_assign (hk := ?_))
        exact ih (i + 1) w10 _ (by omega) ⟨by omega, hT10, ⟨o10, R9.z, mix_g R.g (i + 1)⟩, hx9.mod m10 (off_ofL fun b q q' => hxy b q q')⟩ (by rw [wait_no hil hwb (by rw [hr]; omega)]; exact (.c rfl (.c rfl (.c rfl (.c rfl (.c rfl (.n)))))))
  · clear ih
    have hie : i = l.length := by omega
    subst hie
    rw [mix_end] at R6
    repeat (first | refine T_seq ?_ | refine T_region ?_ | refine T_cond_false rfl ?_ | refine T_exit rfl ?_ | refine TL_lt_f (hk := ?_) | refine TL_nil ?_ | refine TL_move (hk := ?_) | refine TL_assign (hk := ?_) | refine TL_len TE (hk := ?_))
    exact T_ret1 rfl rfl ⟨rfl, T6, R6⟩
theorem upd_who (t : CS) (l : List RV) : whoR (l.map (updR t)) = whoR l := by
  unfold whoR
  rw [List.map_map]
  rfl
end
end Go.Proofs.Ythiacmmkfngpbaa

namespace Go.Proofs.Ythiacmmkfngpbaa
open Go.RowKit Go.Proofs.Eng Go.Proofs.Foot Go.Proofs.Cold
set_option linter.unusedSimpArgs false
set_option linter.unusedVariables false set_option maxRecDepth 10000
attribute [local irreducible] T TL LV TH TA
set_option maxHeartbeats 3200000
/-- What stands at an act's end; who was ready is. -/
def PlayH (t0 : CS) (w0 w' : World) (base p N B : Nat) (y : SL) : Prop := ∃ m f t l, TS w0 w' base p N B m f t ∧ RowsM w0 w' w0.heap.size f y l ∧ whoH t = whoR l ∧ Same t0 t ∧ ∀ r ∈ l, r.rdy = true → stateE t r.idn = 3
theorem ColdHolds_c (v0 : Value) (w : World) {base : Nat} (hM : 1048576 ≤ 1048576) (hv : ReadsB Try.prog w base 24 v0 1048576) :
    Ret Try.prog 5 [v0] w (fun v w' => v = .bool true ∧ Ext w w') := by
  obtain ⟨a, b, d, A, n, c, l, rfl, ha, hb, hd, hA, hl, hnc, hcm, hall, hnm⟩ := story_in hv
  clear hv hM
  refine ret_T (n := 123) Try.func5 rfl rfl ?_
  repeat (first | refine T_seq ?_ | refine T_region ?_)
  refine TL_box (hk := ?_); intro b1 w1 e1 h1 h1' k1
  replace k1 : Blk w1 b1 24 [.int .i64 a, .int .i64 b, .int .i64 d, .slice A n c] := k1
  have hA1 := hA.be e1
  have hall1 : ∀ x ∈ l, AcOk w1 x := fun x hx => (hall x hx).be e1
  repeat (first | refine T_seq ?_ | refine T_region ?_ | refine TL_nil ?_ | refine TL_assign (hk := ?_))
  refine TL_loadb TE (cs := [.int .i64 a, .int .i64 b, .int .i64 d, .slice A n c]) (o := 0) rfl rfl k1 rfl rfl (Nat.succ_pos _) (hk := ?_)
  --
  refine TL_call TE (hc := long_c28 a b d A n c l _ hA1 hl hall1 hnm) (hk := ?_)
  rintro _ w2 ⟨rfl | ⟨rfl, hn, hx2⟩, e2⟩
  · repeat (first | refine T_seq ?_ | refine T_region ?_ | refine T_cond_true rfl ?_ | refine TL_nil ?_)
    refine TL_call TE (hc := live_c _) (hk := ?_)
    rintro _ w3 ⟨rfl, e3⟩
    repeat (first | refine TL_nil ?_ | refine TL_assign (hk := ?_))
    exact T_ret1 rfl rfl ⟨rfl, (e1.ext e2).ext e3⟩
  have k2 := k1.be e2
  have E2 := e1.ext e2
  have hA2 := hA1.be e2
  have hall2 : ∀ x ∈ l, AcOk w2 x := fun x hx => (hall1 x hx).be e2
  clear hA hall hA1 hall1 k1
  by_cases hg : (1 ≤ a ∧ a ≤ 4096) ∧ (1 ≤ b ∧ b ≤ 64) ∧ 1 ≤ d ∧ d ≤ 1000
  case neg =>
    repeat (first | refine T_seq ?_ | refine T_region ?_ | refine T_cond_false rfl ?_ | refine T_skip ?_ | refine TL_nil ?_ | refine TL_load TE (hk := ?_) | refine TL_fieldAddr TE (hk := ?_))
    refine TL_call TE (hc := New_bad a b d w2 hg) (hk := ?_)
    rintro _ w3 ⟨rfl, e3⟩
    repeat (first | refine T_seq ?_ | refine T_region ?_ | refine TL_nil ?_ | refine TL_move (hk := ?_) | refine TL_assign (hk := ?_) | refine TL_extract (hk := ?_))
    refine TL_call TE (hc := num_c 2 w3) (hk := ?_)
    rintro _ w4 ⟨rfl, e4⟩
    repeat (first | refine T_seq ?_ | refine T_region ?_ | refine T_cond_true rfl ?_ | refine TL_ne_t (hk := ?_) | refine TL_nil ?_ | refine TL_move (hk := ?_) | refine TL_no (hk := ?_) | refine TL_pick_t (hk := ?_))
    refine TL_call TE (hc := num_c 2 w4) (hk := ?_)
    rintro _ w5 ⟨rfl, e5⟩
    repeat (first | refine TL_ne_t (hk := ?_) | refine TL_pnil_t TE (hk := ?_) | refine TL_beq TE (hk := ?_) | refine TL_move (hk := ?_) | refine TL_yes (hk := ?_))
    refine TL_call TE (hc := live_c _) (hk := ?_)
    rintro _ w6 ⟨rfl, e6⟩
    repeat (first | refine TL_nil ?_ | refine TL_assign (hk := ?_) | refine TL_pick_t (hk := ?_))
    exact T_ret1 rfl rfl ⟨rfl, (((E2.ext e3).ext e4).ext e5).ext e6⟩
  obtain ⟨an, rfl⟩ := Int.eq_ofNat_of_zero_le (show 0 ≤ a by omega)
  obtain ⟨bn, rfl⟩ := Int.eq_ofNat_of_zero_le (show 0 ≤ b by omega)
  obtain ⟨dn, rfl⟩ := Int.eq_ofNat_of_zero_le (show 0 ≤ d by omega)
  have ha' : 1 ≤ an ∧ an ≤ 4096 := by omega
  have hb' : 1 ≤ bn ∧ bn ≤ 64 := by omega
  have hd' : 1 ≤ dn ∧ dn ≤ 1000 := by omega
  repeat (first | refine T_seq ?_ | refine T_region ?_ | refine T_cond_false rfl ?_ | refine T_skip ?_ | refine TL_nil ?_ | refine TL_load TE (hk := ?_) | refine TL_fieldAddr TE (hk := ?_))
  refine TL_call TE (hc := New_c an bn dn w2 ha' hb' hd') (hk := ?_)
  rintro _ w3 ⟨m3, f3, rfl, e3, h3⟩
  have T3 : TS w2 w3 w2.heap.size m3.p 0 0 m3 f3 (newC an bn dn) := ⟨e3, rfl, h3, new_ci ha' hb' hd', new_bnd _ _ _, Nat.le_refl _⟩
  generalize m3.p = p at T3
  repeat (first | refine T_seq ?_ | refine T_region ?_ | refine TL_nil ?_ | refine TL_move (hk := ?_) | refine TL_assign (hk := ?_) | refine TL_extract (hk := ?_))
  refine TL_call TE (hc := num_c 0 w3) (hk := ?_)
  rintro _ w4 ⟨rfl, e4⟩
  have T4 := T3.ext e4
  clear T3 h3 e3 e4 hg
  repeat (first | refine T_seq ?_ | refine T_region ?_ | refine T_cond_false rfl ?_ | refine T_block ?_ | refine T_skip ?_ | refine TL_ne_f (hk := ?_) | refine TL_pnil_f TE (hk := ?_) | refine TL_nil ?_ | refine TL_move (hk := ?_) | refine TL_assign (hk := ?_) | refine TL_yes (hk := ?_) | refine TL_pick_f (hk := ?_))
  refine T_loop (ι := Nat × SL) (fun j => [(6, .int .i64 (j.1 : Int)), (5, sL j.2), (3, pB p), (1, pB b1)]) (fun j w' => j.1 ≤ n ∧ PlayH (newC an bn dn) w2 w' w2.heap.size p j.1 j.1 j.2) (fun j => n - j.1) (0, (none, 0, 0)) (.c rfl (.c rfl (.c rfl (.c rfl (.n))))) ⟨Nat.zero_le _, m3, f3, _, [], T4, ⟨Own.nil _ _ _ _, (fun b q => by cases q), (fun r q => by cases q)⟩, rfl, ⟨rfl, rfl, rfl⟩, (fun r q => by cases q)⟩ ?_
  clear T4
  rintro ⟨i, y⟩ w5 ⟨hi, m5, f5, t5, rl, T5, R5, hw5, S5, D5⟩ ih
  simp only at hi T5 R5 S5 D5 ih ⊢
  have k5 := k2.be T5.e
  by_cases hlt : i < n
  · have h1 := hA2.be T5.e
    have hAn : A ≠ none := by obtain ⟨_, _, hq, _⟩ := h1.2 (by omega); rw [hq]; simp
    have t1 := rowV_elem acV_len l i ac0 (by omega)
    have hmem : l.getD i ac0 ∈ l := by rw [List.getD_eq_getElem?_getD, List.getElem?_eq_getElem (by omega)]; exact List.getElem_mem _
    have hxo := hall2 _ hmem
    have hxn := hx2 _ hmem
    obtain ⟨x, hx⟩ : ∃ x, l.getD i ac0 = x := ⟨_, rfl⟩
    rw [hx] at t1 hxo hxn
    repeat (first | refine T_seq ?_ | refine T_region ?_ | refine T_cond_true rfl ?_ | refine T_block ?_ | refine T_skip ?_ | refine TL_lt_t (hk := ?_) | refine TL_nil ?_ | refine TL_move (hk := ?_) | refine TL_load TE (hk := ?_) | refine TL_fieldAddr TE (hk := ?_) | refine TL_indexAddrn TE (hk := ?_) | refine TL_len TE (hk := ?_))
    refine TL_loada TE (cs := acV x) (hx := rfl) (ht := rfl) (hi := rfl) (hr := h1) (hc := t1) (h0 := Nat.succ_pos _) (hk := ?_)
    --
    refine TL_alloc TE (hk := ?_); intro b6 w6 e6 h6 h6' k6
    --
    refine TL_storea TE (hk := ?_); intro w7 m7 z7 k7
    have z6 := e6.size
    have e57 : Ext w5 w7 := Mod.step e6 m7 (by simp; omega)
    replace k7 : Blk w7 b6 35 (acV x) := k7
    unfold acV at k7
    have T7 := T5.ext e57
    have R7 := R5.ext e57
    have hRy : ∀ b ∈ blkL y.1, b < w5.heap.size := fun b q => (R5.o.bl b q).2
    have hb6 : oo f5 b6 = 0 := T5.h.new0 (by omega)
    have hp7 := T7.hp
    have hH := T7.bd.h
    have hfet := T7.bd.f
    have hnum := T7.bd.m
    have hnow := T7.bd.n
    have hrl : rl.length = t5.H.length := by have := congrArg List.length hw5; rw [who_len, whoR_len] at this; omega
    have hylen := R7.len
    have hkd1 := hxo.kd.1
    have hkd2 := hxo.kd.2
    have k57 := k5.be e57
    clear k5 h1 T5 R5 k6 e6 m7
    repeat (refine TL_nil ?_)
    refine T_seq ?_
    refine T_join (ι := SL) (fun y' => [(6, .int .i64 (i : Int)), (5, sL y'), (3, pB p), (1, pB b1)]) (fun y' w' => PlayH (newC an bn dn) w2 w' w2.heap.size p (i + 1) (i + 1) y') (fun kk join => ?_) ?_
    · clear ih
      by_cases k1 : x.kd = 1
      · have hb6y : b6 ∉ blkL y.1 := fun q => by
          have := (hRy b6 q)
          omega
        have cC := covered_c28 x.A x.n x.c an x.ks w7 T7.h T7.ci (hxo.be T7.e).rd (by omega) (by omega)
        rw [hp7] at cC
        repeat (first | refine T_seq ?_ | refine T_region ?_ | refine T_cond_true rfl ?_ | refine T_block ?_ | refine TL_eq_t (hk := ?_) | refine TL_nil ?_ | refine TL_move (hk := ?_) | refine TL_assign (hk := ?_) | refine TL_load TE (hk := ?_) | refine TL_fieldAddr TE (hk := ?_))
        refine TL_call TE (hc := cC) (hk := ?_)
        rintro _ w8 ⟨rfl, e8⟩
        have Tq := T7.ext e8
        have Rq := R7.ext e8
        have kq := k7.be e8
        have kb := k57.be e8
        clear T7 R7 k7 k57
        cases hcv : covE t5 x.ks an with
        | false =>
          repeat (first | refine T_seq ?_ | refine TL_nil ?_ | refine TL_move (hk := ?_) | refine TL_assign (hk := ?_) | refine TL_no (hk := ?_) | refine TL_pick_f (hk := ?_))
          generalize w8 = wq at *
          have hbD : b6 ∉ ownB wq (oo f5) := fun q => ownB_mem q hb6
          --
          refine T_region_any TE.mixed (ownB wq (oo f5)) ?_; intro w8 e8 z8
          have T8 := Tq.ext e8
          have hin := ownB_in (o := oo f5) z8
          (refine TA_take 0 rfl (by kernel_rfl) (by kernel_rfl) (by kernel_rfl) ?_; (repeat (first | refine TL_move (hk := ?_) | refine TLP_load TE (hk := ?_) | refine TL_fieldAddr TE (hk := ?_))); refine TL_nil_p ?_); (refine TA_take 1 rfl (by kernel_rfl) (by kernel_rfl) (by kernel_rfl) ?_; (repeat (first | refine TL_move (hk := ?_) | refine TLP_load TE (hk := ?_) | refine TL_fieldAddr TE (hk := ?_))); refine TL_nil_p ?_); (refine TA_take 2 rfl (by kernel_rfl) (by kernel_rfl) (by kernel_rfl) ?_; (repeat (first | refine TL_move (hk := ?_) | refine TLP_load TE (hk := ?_) | refine TL_fieldAddr TE (hk := ?_))); refine TL_nil_p ?_); (refine TA_take 3 rfl (by kernel_rfl) (by kernel_rfl) (by kernel_rfl) ?_; (repeat (first | refine TL_move (hk := ?_) | refine TLP_load TE (hk := ?_) | refine TL_fieldAddr TE (hk := ?_))); refine TL_nil_p ?_); (refine TA_take 4 rfl (by kernel_rfl) (by kernel_rfl) (by kernel_rfl) ?_; (repeat (first | refine TL_move (hk := ?_) | refine TLP_load TE (hk := ?_) | refine TL_fieldAddr TE (hk := ?_))); refine TL_nil_p ?_)
          refine TA_one 5 rfl (by kernel_rfl) (by kernel_rfl) ?_; (try refine TL_yes (hk := ?_)); refine TL_call TE (hc := (own_c x.A x.n x.c x.ks _ (hxo.be T8.e).rd (by omega))) (hq := (by rintro _ w9 ⟨y, rfl, e, _⟩; exact Ext.un e)) (hk := ?_)
          rintro _ w9 ⟨z9, rfl, e9, r9, hz9⟩
          have T9 := T8.ext e9
          have hold := Hold_c x.idn z9.1 z9.2.1 z9.2.2 x.ks w9 T9.h T9.ci.toCI0 r9 (by omega) (fun u hu => by have := hxo.kl u hu; omega) (by omega) (by omega)
          rw [T9.hp] at hold
          refine TL_nil_p ?_
          refine TA_one 6 rfl (by kernel_rfl) (by kernel_rfl) ?_; (try refine TL_yes (hk := ?_)); refine TL_call TE (hc := hold) (hq := (by rintro _ w10 ⟨m', f', rfl, _, _, t'⟩; exact t'.inD (Ext.un e9) hin)) (hk := ?_)
          rintro _ w10 ⟨m10, f10, rfl, hp10, h10, t10⟩
          have hci := hold_ci T9.ci x.idn x.ks
          have T10 : TS w2 w10 w2.heap.size p (i + 1) (i + 1) m10 f10 (holdE t5 x.idn x.ks).1 := T9.turn (hp10.trans T9.hp.symm) h10 t10 hci.1 (hold_bnd T9.ci T9.bd _ _)
          have R10 := ((Rq.ext e8).ext e9).tn t10
          have M10 : Eng.Mod (ownB wq (oo f5)) w8 w10 := t10.inD (Ext.un e9) hin
          have k10 := ((kq.be e8).mod M10 hbD)
          clear kq
          refine TL_nil_p ?_
          refine TA_one 7 rfl (by kernel_rfl) (by kernel_rfl) ?_; (try refine TL_yes (hk := ?_)); refine TL_call TE (hc := (num_c ((holdE t5 x.idn x.ks).2 : Int) w10)) (hq := (by rintro _ w11 ⟨rfl, e⟩; exact M10.trans (Ext.un e))) (hk := ?_)
          rintro _ w11 ⟨rfl, e11⟩
          have T11 := T10.ext e11
          have R11 := R10.ext e11
          have k11 := k10.be e11
          clear k10
          have hzl : R11.o.len = R11.o.len := rfl
          have hcap := R11.o.cap
          by_cases h0 : (holdE t5 x.idn x.ks).2 = 0
          · have h0' : (((holdE t5 x.idn x.ks).2 : Nat) : Int) = 0 := by omega
            rw [h0']
            refine TL_nil_p ?_
            (refine TA_one 8 rfl (by kernel_rfl) (by kernel_rfl) ?_; (repeat (refine TL_eq_t (hk := ?_))); refine TL_nil_p ?_)
            refine TA_done (by kernel_rfl) ?_
            repeat (first | refine T_seq ?_ | refine T_region ?_ | refine T_cond_true rfl ?_ | refine TL_move (hk := ?_) | refine TL_load TE (hk := ?_) | refine TL_fieldAddr TE (hk := ?_) | refine TL_build TE (hk := ?_))
            refine TL_buildSliceA TE (hk := ?_); intro b12 w12 e12 h12 h12' k12
            replace k12 : Blk w12 b12 39 (rowV rvV [⟨x.idn, x.A, x.n, x.c, x.ks, false⟩]) := k12
            have r12 : Rd w12 (some ⟨b12, 0, none⟩) 1 3 (rowV rvV [⟨x.idn, x.A, x.n, x.c, x.ks, false⟩]) := Rd.blk k12 rfl
            have T12 := T11.ext e12
            have R12 := R11.ext e12
            have hbz := T12.e.size
            --
            refine TL_append TE (ho := R12.o) (hr := r12) (h1 := rowV_one rvV_one _) (hk := ?_); intro A13 c13 w13 o13 m13 n13
            rw [← rowV_append] at o13
            obtain ⟨T13, R13⟩ := RowsM.push T12 R12 ⟨x.idn, x.A, x.n, x.c, x.ks, false⟩ ⟨hxo.rd, by simp only; omega⟩ o13 m13 n13
            repeat (first | refine T_seq ?_ | refine T_region ?_ | refine T_cond_false rfl ?_ | refine T_inBlock ?_ | refine T_skip ?_ | refine TL_nil ?_ | refine TL_move (hk := ?_) | refine TL_assign (hk := ?_) | refine TL_no (hk := ?_) | refine TL_pick_f (hk := ?_))
            exact T.sub (join (A13, y.2.1 + 1, c13) w13 ⟨m10, f10, _, _, T13, R13, by rw [hci.2.1 h0, whoR_append, hw5], S5.trans (hold_same T9.ci _ _), fun r hr hq => by
              rcases List.mem_append.1 hr with hr | hr
              · exact stay_hold T9.ci _ _ (D5 r hr hq)
              · rw [List.mem_singleton.1 hr] at hq; cases hq⟩) (.c rfl (.c rfl (.c rfl (.c rfl (.n)))))
          · have h0' : ¬ (((holdE t5 x.idn x.ks).2 : Nat) : Int) = 0 := by omega
            refine TL_nil_p ?_
            (refine TA_one 8 rfl (by kernel_rfl) (by kernel_rfl) ?_; (repeat (refine TL_eq_f (hk := ?_))); refine TL_nil_p ?_)
            refine TA_done (by kernel_rfl) ?_
            repeat (first | refine T_cond_false rfl ?_ | refine T_inBlock ?_ | refine T_skip ?_)
            exact T.sub (join y w11 ⟨m10, f10, _, _, T11, R11, by rw [hci.2.2 h0]; exact hw5, S5.trans (hold_same T9.ci _ _), fun r hr hq => by rw [hci.2.2 h0]; exact D5 r hr hq⟩) (.c rfl (.c rfl (.c rfl (.c rfl (.n)))))
        | true =>
          have hcv2 := hcv
          unfold covE at hcv2
          rw [Bool.and_eq_true, decide_eq_true_eq, decide_eq_true_eq] at hcv2
          obtain ⟨hcvA, hcvB⟩ := hcv2
          have cX := waits_c28 y.1 y.2.1 y.2.2 rl w8 Tq.h Rq.o.rd (by omega)
          rw [Tq.hp] at cX
          repeat (first | refine TL_move (hk := ?_) | refine TL_yes (hk := ?_))
          refine TL_call TE (hc := cX) (hk := ?_)
          rintro _ w9 ⟨rfl, e9⟩
          replace Tq := Tq.ext e9
          replace Rq := Rq.ext e9
          replace kq := kq.be e9
          clear kb
          generalize w9 = wq at *
          have hnw : ¬ (∃ i, i < y.2.1 ∧ stateE t5 (rl.getD i rv0).idn = 1) → ∀ x ∈ t5.H, x.st ≠ 1 := fun q x hx hs => by
            obtain ⟨j, hj, e⟩ := List.mem_iff_getElem.1 hx
            refine q ⟨j, by omega, ?_⟩
            rw [who_state Tq.ci hw5 (i := j) (by omega), List.getD_eq_getElem?_getD, List.getElem?_eq_getElem hj]
            exact (congrArg HdE.st e).trans hs
          by_cases hwt : ∃ i, i < y.2.1 ∧ stateE t5 (rl.getD i rv0).idn = 1
          · rw [decide_eq_true hwt]
            repeat (first | refine T_seq ?_ | refine TL_nil ?_ | refine TL_assign (hk := ?_) | refine TL_yes (hk := ?_) | refine TL_pick_t (hk := ?_) | refine TL_not (hk := ?_))
            have hbD : b6 ∉ ownB wq (oo f5) := fun q => ownB_mem q hb6
            --
            refine T_region_any TE.mixed (ownB wq (oo f5)) ?_; intro w8 e8 z8
            have T8 := Tq.ext e8
            have hin := ownB_in (o := oo f5) z8
            (refine TA_take 0 rfl (by kernel_rfl) (by kernel_rfl) (by kernel_rfl) ?_; (repeat (first | refine TL_move (hk := ?_) | refine TLP_load TE (hk := ?_) | refine TL_fieldAddr TE (hk := ?_))); refine TL_nil_p ?_); (refine TA_take 1 rfl (by kernel_rfl) (by kernel_rfl) (by kernel_rfl) ?_; (repeat (first | refine TL_move (hk := ?_) | refine TLP_load TE (hk := ?_) | refine TL_fieldAddr TE (hk := ?_))); refine TL_nil_p ?_); (refine TA_take 2 rfl (by kernel_rfl) (by kernel_rfl) (by kernel_rfl) ?_; (repeat (first | refine TL_move (hk := ?_) | refine TLP_load TE (hk := ?_) | refine TL_fieldAddr TE (hk := ?_))); refine TL_nil_p ?_); (refine TA_take 3 rfl (by kernel_rfl) (by kernel_rfl) (by kernel_rfl) ?_; (repeat (first | refine TL_move (hk := ?_) | refine TLP_load TE (hk := ?_) | refine TL_fieldAddr TE (hk := ?_))); refine TL_nil_p ?_); (refine TA_take 4 rfl (by kernel_rfl) (by kernel_rfl) (by kernel_rfl) ?_; (repeat (first | refine TL_move (hk := ?_) | refine TLP_load TE (hk := ?_) | refine TL_fieldAddr TE (hk := ?_))); refine TL_nil_p ?_)
            refine TA_one 5 rfl (by kernel_rfl) (by kernel_rfl) ?_; (try refine TL_yes (hk := ?_)); refine TL_call TE (hc := (own_c x.A x.n x.c x.ks _ (hxo.be T8.e).rd (by omega))) (hq := (by rintro _ w9 ⟨y, rfl, e, _⟩; exact Ext.un e)) (hk := ?_)
            rintro _ w9 ⟨z9, rfl, e9, r9, hz9⟩
            have T9 := T8.ext e9
            have hold := Hold_c x.idn z9.1 z9.2.1 z9.2.2 x.ks w9 T9.h T9.ci.toCI0 r9 (by omega) (fun u hu => by have := hxo.kl u hu; omega) (by omega) (by omega)
            rw [T9.hp] at hold
            refine TL_nil_p ?_
            refine TA_one 6 rfl (by kernel_rfl) (by kernel_rfl) ?_; (try refine TL_yes (hk := ?_)); refine TL_call TE (hc := hold) (hq := (by rintro _ w10 ⟨m', f', rfl, _, _, t'⟩; exact t'.inD (Ext.un e9) hin)) (hk := ?_)
            rintro _ w10 ⟨m10, f10, rfl, hp10, h10, t10⟩
            have hci := hold_ci T9.ci x.idn x.ks
            have T10 : TS w2 w10 w2.heap.size p (i + 1) (i + 1) m10 f10 (holdE t5 x.idn x.ks).1 := T9.turn (hp10.trans T9.hp.symm) h10 t10 hci.1 (hold_bnd T9.ci T9.bd _ _)
            have R10 := ((Rq.ext e8).ext e9).tn t10
            have M10 : Eng.Mod (ownB wq (oo f5)) w8 w10 := t10.inD (Ext.un e9) hin
            have k10 := ((kq.be e8).mod M10 hbD)
            clear kq
            refine TL_nil_p ?_
            refine TA_one 7 rfl (by kernel_rfl) (by kernel_rfl) ?_; (try refine TL_yes (hk := ?_)); refine TL_call TE (hc := (num_c ((holdE t5 x.idn x.ks).2 : Int) w10)) (hq := (by rintro _ w11 ⟨rfl, e⟩; exact M10.trans (Ext.un e))) (hk := ?_)
            rintro _ w11 ⟨rfl, e11⟩
            have T11 := T10.ext e11
            have R11 := R10.ext e11
            have k11 := k10.be e11
            clear k10
            have hzl : R11.o.len = R11.o.len := rfl
            have hcap := R11.o.cap
            by_cases h0 : (holdE t5 x.idn x.ks).2 = 0
            · have h0' : (((holdE t5 x.idn x.ks).2 : Nat) : Int) = 0 := by omega
              rw [h0']
              refine TL_nil_p ?_
              (refine TA_one 8 rfl (by kernel_rfl) (by kernel_rfl) ?_; (repeat (refine TL_eq_t (hk := ?_))); refine TL_nil_p ?_)
              refine TA_done (by kernel_rfl) ?_
              repeat (first | refine T_seq ?_ | refine T_region ?_ | refine T_cond_true rfl ?_ | refine TL_move (hk := ?_) | refine TL_load TE (hk := ?_) | refine TL_fieldAddr TE (hk := ?_) | refine TL_build TE (hk := ?_))
              refine TL_buildSliceA TE (hk := ?_); intro b12 w12 e12 h12 h12' k12
              replace k12 : Blk w12 b12 39 (rowV rvV [⟨x.idn, x.A, x.n, x.c, x.ks, false⟩]) := k12
              have r12 : Rd w12 (some ⟨b12, 0, none⟩) 1 3 (rowV rvV [⟨x.idn, x.A, x.n, x.c, x.ks, false⟩]) := Rd.blk k12 rfl
              have T12 := T11.ext e12
              have R12 := R11.ext e12
              have hbz := T12.e.size
              --
              refine TL_append TE (ho := R12.o) (hr := r12) (h1 := rowV_one rvV_one _) (hk := ?_); intro A13 c13 w13 o13 m13 n13
              rw [← rowV_append] at o13
              obtain ⟨T13, R13⟩ := RowsM.push T12 R12 ⟨x.idn, x.A, x.n, x.c, x.ks, false⟩ ⟨hxo.rd, by simp only; omega⟩ o13 m13 n13
              repeat (first | refine T_seq ?_ | refine T_region ?_ | refine T_cond_false rfl ?_ | refine T_inBlock ?_ | refine T_skip ?_ | refine TL_nil ?_ | refine TL_move (hk := ?_) | refine TL_assign (hk := ?_) | refine TL_no (hk := ?_) | refine TL_pick_f (hk := ?_))
              exact T.sub (join (A13, y.2.1 + 1, c13) w13 ⟨m10, f10, _, _, T13, R13, by rw [hci.2.1 h0, whoR_append, hw5], S5.trans (hold_same T9.ci _ _), fun r hr hq => by
                rcases List.mem_append.1 hr with hr | hr
                · exact stay_hold T9.ci _ _ (D5 r hr hq)
                · rw [List.mem_singleton.1 hr] at hq; cases hq⟩) (.c rfl (.c rfl (.c rfl (.c rfl (.n)))))
            · have h0' : ¬ (((holdE t5 x.idn x.ks).2 : Nat) : Int) = 0 := by omega
              refine TL_nil_p ?_
              (refine TA_one 8 rfl (by kernel_rfl) (by kernel_rfl) ?_; (repeat (refine TL_eq_f (hk := ?_))); refine TL_nil_p ?_)
              refine TA_done (by kernel_rfl) ?_
              repeat (first | refine T_cond_false rfl ?_ | refine T_inBlock ?_ | refine T_skip ?_)
              exact T.sub (join y w11 ⟨m10, f10, _, _, T11, R11, by rw [hci.2.2 h0]; exact hw5, S5.trans (hold_same T9.ci _ _), fun r hr hq => by rw [hci.2.2 h0]; exact D5 r hr hq⟩) (.c rfl (.c rfl (.c rfl (.c rfl (.n)))))
          · rw [decide_eq_false hwt]
            repeat (first | refine T_seq ?_ | refine TL_nil ?_ | refine TL_assign (hk := ?_) | refine TL_yes (hk := ?_) | refine TL_pick_t (hk := ?_) | refine TL_not (hk := ?_))
            have hbD : b6 ∉ ownB wq (oo f5) := fun q => ownB_mem q hb6
            --
            refine T_region_any TE.mixed (ownB wq (oo f5)) ?_; intro w8 e8 z8
            have T8 := Tq.ext e8
            have hin := ownB_in (o := oo f5) z8
            (refine TA_take 0 rfl (by kernel_rfl) (by kernel_rfl) (by kernel_rfl) ?_; (repeat (first | refine TL_move (hk := ?_) | refine TLP_load TE (hk := ?_) | refine TL_fieldAddr TE (hk := ?_))); refine TL_nil_p ?_); (refine TA_take 1 rfl (by kernel_rfl) (by kernel_rfl) (by kernel_rfl) ?_; (repeat (first | refine TL_move (hk := ?_) | refine TLP_load TE (hk := ?_) | refine TL_fieldAddr TE (hk := ?_))); refine TL_nil_p ?_); (refine TA_take 2 rfl (by kernel_rfl) (by kernel_rfl) (by kernel_rfl) ?_; (repeat (first | refine TL_move (hk := ?_) | refine TLP_load TE (hk := ?_) | refine TL_fieldAddr TE (hk := ?_))); refine TL_nil_p ?_); (refine TA_take 3 rfl (by kernel_rfl) (by kernel_rfl) (by kernel_rfl) ?_; (repeat (first | refine TL_move (hk := ?_) | refine TLP_load TE (hk := ?_) | refine TL_fieldAddr TE (hk := ?_))); refine TL_nil_p ?_); (refine TA_take 4 rfl (by kernel_rfl) (by kernel_rfl) (by kernel_rfl) ?_; (repeat (first | refine TL_move (hk := ?_) | refine TLP_load TE (hk := ?_) | refine TL_fieldAddr TE (hk := ?_))); refine TL_nil_p ?_)
            refine TA_one 5 rfl (by kernel_rfl) (by kernel_rfl) ?_; (try refine TL_yes (hk := ?_)); refine TL_call TE (hc := (own_c x.A x.n x.c x.ks _ (hxo.be T8.e).rd (by omega))) (hq := (by rintro _ w9 ⟨y, rfl, e, _⟩; exact Ext.un e)) (hk := ?_)
            rintro _ w9 ⟨z9, rfl, e9, r9, hz9⟩
            have T9 := T8.ext e9
            have hold := Hold_c x.idn z9.1 z9.2.1 z9.2.2 x.ks w9 T9.h T9.ci.toCI0 r9 (by omega) (fun u hu => by have := hxo.kl u hu; omega) (by omega) (by omega)
            rw [T9.hp] at hold
            refine TL_nil_p ?_
            refine TA_one 6 rfl (by kernel_rfl) (by kernel_rfl) ?_; (try refine TL_yes (hk := ?_)); refine TL_call TE (hc := hold) (hq := (by rintro _ w10 ⟨m', f', rfl, _, _, t'⟩; exact t'.inD (Ext.un e9) hin)) (hk := ?_)
            rintro _ w10 ⟨m10, f10, rfl, hp10, h10, t10⟩
            have hci := hold_ci T9.ci x.idn x.ks
            have T10 : TS w2 w10 w2.heap.size p (i + 1) (i + 1) m10 f10 (holdE t5 x.idn x.ks).1 := T9.turn (hp10.trans T9.hp.symm) h10 t10 hci.1 (hold_bnd T9.ci T9.bd _ _)
            have R10 := ((Rq.ext e8).ext e9).tn t10
            have M10 : Eng.Mod (ownB wq (oo f5)) w8 w10 := t10.inD (Ext.un e9) hin
            have k10 := ((kq.be e8).mod M10 hbD)
            clear kq
            refine TL_nil_p ?_
            refine TA_one 7 rfl (by kernel_rfl) (by kernel_rfl) ?_; (try refine TL_yes (hk := ?_)); refine TL_call TE (hc := (num_c ((holdE t5 x.idn x.ks).2 : Int) w10)) (hq := (by rintro _ w11 ⟨rfl, e⟩; exact M10.trans (Ext.un e))) (hk := ?_)
            rintro _ w11 ⟨rfl, e11⟩
            have T11 := T10.ext e11
            have R11 := R10.ext e11
            have k11 := k10.be e11
            clear k10
            have hzl : R11.o.len = R11.o.len := rfl
            have hcap := R11.o.cap
            by_cases h0 : (holdE t5 x.idn x.ks).2 = 0
            · have h0' : (((holdE t5 x.idn x.ks).2 : Nat) : Int) = 0 := by omega
              rw [h0']
              refine TL_nil_p ?_
              (refine TA_one 8 rfl (by kernel_rfl) (by kernel_rfl) ?_; (repeat (refine TL_eq_t (hk := ?_))); refine TL_nil_p ?_)
              refine TA_done (by kernel_rfl) ?_
              repeat (first | refine T_seq ?_ | refine T_region ?_ | refine T_cond_true rfl ?_ | refine TL_move (hk := ?_) | refine TL_load TE (hk := ?_) | refine TL_fieldAddr TE (hk := ?_) | refine TL_build TE (hk := ?_))
              refine TL_buildSliceA TE (hk := ?_); intro b12 w12 e12 h12 h12' k12
              replace k12 : Blk w12 b12 39 (rowV rvV [⟨x.idn, x.A, x.n, x.c, x.ks, false⟩]) := k12
              have r12 : Rd w12 (some ⟨b12, 0, none⟩) 1 3 (rowV rvV [⟨x.idn, x.A, x.n, x.c, x.ks, false⟩]) := Rd.blk k12 rfl
              have T12 := T11.ext e12
              have R12 := R11.ext e12
              have hbz := T12.e.size
              --
              refine TL_append TE (ho := R12.o) (hr := r12) (h1 := rowV_one rvV_one _) (hk := ?_); intro A13 c13 w13 o13 m13 n13
              rw [← rowV_append] at o13
              obtain ⟨T13, R13⟩ := RowsM.push T12 R12 ⟨x.idn, x.A, x.n, x.c, x.ks, false⟩ ⟨hxo.rd, by simp only; omega⟩ o13 m13 n13
              have k13 : Blk w13 b6 35 [.int .i64 x.kd, .int .i64 x.idn, .slice x.A x.n x.c] := (k11.be e12).mod m13 (fun q => by have := R12.o.bl b6 q; have := R12.z b6 q; exact hb6y q)
              have hfr := hold_free T9.ci h0 (hnw hwt) hcvA (by rw [S5.1]; exact hcvB)
              have hfi : ((stateE (holdE t5 x.idn x.ks).1 x.idn : Nat) : Int) = 3 := by omega
              have cS := State_c x.idn w13 T13.h
              rw [T13.hp] at cS
              clear k11
              repeat (first | refine T_seq ?_ | refine T_region ?_ | refine TL_nil ?_ | refine TL_move (hk := ?_) | refine TL_assign (hk := ?_) | refine TL_load TE (hk := ?_) | refine TL_fieldAddr TE (hk := ?_) | refine TL_yes (hk := ?_))
              refine TL_call TE (hc := cS) (hk := ?_)
              rintro _ w14 ⟨rfl, e14⟩
              have T14 := T13.ext e14
              have R14 := R13.ext e14
              repeat (first | refine T_cond_false rfl ?_ | refine T_inBlock ?_ | refine T_skip ?_ | refine TL_ne_f (hk := ?_) | refine TL_nil ?_ | refine TL_yes (hk := ?_) | refine TL_pick_t (hk := ?_))
              exact T.sub (join (A13, y.2.1 + 1, c13) w14 ⟨m10, f10, _, _, T14, R14, by rw [hci.2.1 h0, whoR_append, hw5], S5.trans (hold_same T9.ci _ _), fun r hr hq => by
                rcases List.mem_append.1 hr with hr | hr
                · exact stay_hold T9.ci _ _ (D5 r hr hq)
                · rw [List.mem_singleton.1 hr] at hq; cases hq⟩) (.c rfl (.c rfl (.c rfl (.c rfl (.n)))))
            · have h0' : ¬ (((holdE t5 x.idn x.ks).2 : Nat) : Int) = 0 := by omega
              refine TL_nil_p ?_
              (refine TA_one 8 rfl (by kernel_rfl) (by kernel_rfl) ?_; (repeat (refine TL_eq_f (hk := ?_))); refine TL_nil_p ?_)
              refine TA_done (by kernel_rfl) ?_
              repeat (first | refine T_cond_false rfl ?_ | refine T_inBlock ?_ | refine T_skip ?_)
              exact T.sub (join y w11 ⟨m10, f10, _, _, T11, R11, by rw [hci.2.2 h0]; exact hw5, S5.trans (hold_same T9.ci _ _), fun r hr hq => by rw [hci.2.2 h0]; exact D5 r hr hq⟩) (.c rfl (.c rfl (.c rfl (.c rfl (.n)))))
      by_cases k2 : x.kd = 2
      · have cS := State_c x.idn w7 T7.h
        rw [hp7] at cS
        repeat (first | refine T_seq ?_ | refine T_region ?_ | refine T_cond_true rfl ?_ | refine T_cond_false rfl ?_ | refine T_block ?_ | refine TL_eq_t (hk := ?_) | refine TL_eq_f (hk := ?_) | refine TL_nil ?_ | refine TL_move (hk := ?_) | refine TL_assign (hk := ?_) | refine TL_load TE (hk := ?_) | refine TL_fieldAddr TE (hk := ?_))
        refine TL_call TE (hc := cS) (hk := ?_)
        rintro _ w8 ⟨rfl, e8⟩
        have T8 := T7.ext e8
        have R8 := R7.ext e8
        have k8 := k7.be e8
        have rel := Release_c x.idn w8 T8.h T8.ci.toCI0 (by omega) (by omega) (by omega)
        rw [T8.hp] at rel
        clear T7 R7 k7 k57
        repeat (first | refine T_seq ?_ | refine T_region ?_ | refine TL_nil ?_ | refine TL_move (hk := ?_) | refine TL_assign (hk := ?_) | refine TL_load TE (hk := ?_) | refine TL_fieldAddr TE (hk := ?_))
        refine TL_call TE (hc := rel) (hk := ?_)
        rintro _ w9 ⟨m9, f9, rfl, hp9, h9, t9⟩
        have hci := rel_ci T8.ci x.idn
        have hrz := rel_zero T8.ci x.idn
        have T9 : TS w2 w9 w2.heap.size p i (i + 1) m9 f9 (relE t5 x.idn).1 := T8.turn (hp9.trans T8.hp.symm) h9 t9 hci.1 (rel_bnd T8.ci T8.bd _)
        have R9 := R8.tn t9
        have k9 : Blk w9 b6 35 [.int .i64 x.kd, .int .i64 x.idn, .slice x.A x.n x.c] := by
          obtain ⟨⟨S, q1, q2⟩, _, _⟩ := t9
          exact k8.mod q1 (fun q => q2 _ q hb6)
        clear k8
        repeat (first | refine T_seq ?_ | refine T_region ?_ | refine TL_nil ?_ | refine TL_move (hk := ?_) | refine TL_assign (hk := ?_))
        refine TL_call TE (hc := num_c ((relE t5 x.idn).2 : Int) w9) (hk := ?_)
        rintro _ w10 ⟨rfl, e10⟩
        have T10 := T9.ext e10
        have R10 := R9.ext e10
        have k10 := k9.be e10
        clear k9
        by_cases hs0 : stateE t5 x.idn = 0
        · have hsi : ((stateE t5 x.idn : Nat) : Int) = 0 := by omega
          have hri : ¬ (((relE t5 x.idn).2 : Nat) : Int) = 0 := fun q => absurd hs0 (hrz.1 (by omega))
          repeat (first | refine T_region ?_ | refine T_cond_false rfl ?_ | refine T_skip ?_ | refine TL_eq_f (hk := ?_) | refine TL_ne_f (hk := ?_) | refine TL_bne TE (hk := ?_) | refine TL_nil ?_ | refine TL_move (hk := ?_) | refine TL_load TE (hk := ?_) | refine TL_fieldAddr TE (hk := ?_))
          refine TL_call TE (hc := without_c y.1 y.2.1 y.2.2 rl x.idn w10 R10.o.rd (by omega)) (hk := ?_)
          rintro _ w11 ⟨y11, rfl, e11, o11⟩
          repeat (first | refine T_inBlock ?_ | refine TL_nil ?_ | refine TL_assign (hk := ?_))
          exact T.sub (join y11 w11 ⟨m9, f9, _, _, (T10.ext e11).mono (by omega) (Nat.le_refl _), RowsM.fresh T10 R10 o11 (fun r hr => (List.mem_filter.1 hr).1), by rw [hci.2.1, hw5, whoR_without], S5.trans (rel_same T8.ci _), fun r hr hq => stay_rel T8.ci _ (D5 r (List.mem_filter.1 hr).1 hq) (by simpa using (List.mem_filter.1 hr).2)⟩) (.c rfl (.c rfl (.c rfl (.c rfl (.n)))))
        · have hsi : ¬ ((stateE t5 x.idn : Nat) : Int) = 0 := by omega
          have hri : (((relE t5 x.idn).2 : Nat) : Int) = 0 := by have := hrz.2 hs0; omega
          repeat (first | refine T_region ?_ | refine T_cond_false rfl ?_ | refine T_skip ?_ | refine TL_eq_t (hk := ?_) | refine TL_ne_t (hk := ?_) | refine TL_bne TE (hk := ?_) | refine TL_nil ?_ | refine TL_move (hk := ?_) | refine TL_load TE (hk := ?_) | refine TL_fieldAddr TE (hk := ?_))
          refine TL_call TE (hc := without_c y.1 y.2.1 y.2.2 rl x.idn w10 R10.o.rd (by omega)) (hk := ?_)
          rintro _ w11 ⟨y11, rfl, e11, o11⟩
          repeat (first | refine T_inBlock ?_ | refine TL_nil ?_ | refine TL_assign (hk := ?_))
          exact T.sub (join y11 w11 ⟨m9, f9, _, _, (T10.ext e11).mono (by omega) (Nat.le_refl _), RowsM.fresh T10 R10 o11 (fun r hr => (List.mem_filter.1 hr).1), by rw [hci.2.1, hw5, whoR_without], S5.trans (rel_same T8.ci _), fun r hr hq => stay_rel T8.ci _ (D5 r (List.mem_filter.1 hr).1 hq) (by simpa using (List.mem_filter.1 hr).2)⟩) (.c rfl (.c rfl (.c rfl (.c rfl (.n)))))
      by_cases k3 : x.kd = 3
      · have tick := Tick_c w7 T7.h T7.ci.toCI0 (by omega) (by omega) (by omega)
        rw [hp7] at tick
        repeat (first | refine T_seq ?_ | refine T_region ?_ | refine T_cond_true rfl ?_ | refine T_cond_false rfl ?_ | refine T_block ?_ | refine TL_eq_t (hk := ?_) | refine TL_eq_f (hk := ?_) | refine TL_nil ?_ | refine TL_move (hk := ?_) | refine TL_assign (hk := ?_) | refine TL_load TE (hk := ?_) | refine TL_fieldAddr TE (hk := ?_))
        refine TL_call TE (hc := tick) (hk := ?_)
        rintro _ w8 ⟨m8, f8, x8, rfl, hp8, h8, t8, _, _⟩
        have hci := tick_ci T7.ci
        have T8 : TS w2 w8 w2.heap.size p i (i + 1) m8 f8 (tickC t5) := T7.turn (hp8.trans hp7.symm) h8 t8 hci.1 (tick_bnd T7.ci T7.bd)
        repeat (first | refine T_inBlock ?_ | refine TL_nil ?_)
        exact T.sub (join y w8 ⟨m8, f8, _, _, T8.mono (by omega) (Nat.le_refl _), R7.tn t8, by rw [hci.2.1, hw5], S5.trans (tick_same T7.ci), fun r hr hq => stay_tick T7.ci (D5 r hr hq)⟩) (.c rfl (.c rfl (.c rfl (.c rfl (.n)))))
      · repeat (first | refine T_seq ?_ | refine T_region ?_ | refine T_cond_false rfl ?_ | refine T_block ?_ | refine T_inBlock ?_ | refine T_skip ?_ | refine TL_eq_f (hk := ?_) | refine TL_nil ?_ | refine TL_assign (hk := ?_) | refine TL_load TE (hk := ?_) | refine TL_fieldAddr TE (hk := ?_))
        exact T.sub (join y w7 ⟨m5, f5, _, _, T7.mono (by omega) (by omega), R7, hw5, S5, D5⟩) (.c rfl (.c rfl (.c rfl (.c rfl (.n)))))
    clear T7 R7 k7 hH hfet hnum hnow hrl hylen hw5 hb6 S5 D5 k57
    rintro y8 w8 ⟨m8, f8, t8, l8, T8, R8, hw8, S8, D8⟩
    have k8 := k2.be T8.e
    have cQ := fun w' (e : Ext w8 w') => sound_c28 (T8.ext e) (R8.ext e) hw8 D8 an bn (dn : Int) A n c S8.1 S8.2.1 (by omega)
    repeat (first | refine T_seq ?_ | refine T_region ?_ | refine TL_move (hk := ?_))
    refine TL_loadb TE (cs := [.int .i64 (an : Int), .int .i64 (bn : Int), .int .i64 (dn : Int), .slice A n c]) (o := 0) rfl rfl k8 rfl rfl (Nat.succ_pos _) (hk := ?_)
    --
    refine TL_call TE (hc := cQ w8 (Mod.refl _ _)) (hk := ?_)
    rintro _ w9 ⟨rfl, T9, R9⟩
    repeat (first | refine T_region ?_ | refine T_cond_false rfl ?_ | refine T_inBlock ?_ | refine T_skip ?_ | refine TL_add (hk := ?_) | refine TL_nil ?_ | refine TL_move (hk := ?_) | refine TL_assign (hk := ?_) | refine TL_not (hk := ?_))
    exact ih (i + 1, y8) w9 _ (by simp only; omega) ⟨by simp only; omega, m8, f8, t8, _, T9, R9, by rw [upd_who]; exact hw8, S8, fun r hr hq => by
      obtain ⟨x, _, rfl⟩ := List.mem_map.1 hr
      unfold updR at hq ⊢
      simpa using hq⟩ (.c rfl (.c rfl (.c rfl (.c rfl (.n)))))
  · clear ih
    have : n = i := by omega
    subst this
    have e5 := T5.e
    repeat (first | refine T_seq ?_ | refine T_region ?_ | refine T_cond_false rfl ?_ | refine T_exit rfl ?_ | refine TL_lt_f (hk := ?_) | refine TL_nil ?_ | refine TL_move (hk := ?_) | refine TL_load TE (hk := ?_) | refine TL_fieldAddr TE (hk := ?_) | refine TL_len TE (hk := ?_))
    refine TL_call TE (hc := live_c _) (hk := ?_)
    rintro _ w6 ⟨rfl, e6⟩
    repeat (first | refine TL_nil ?_ | refine TL_assign (hk := ?_))
    exact T_ret1 rfl rfl ⟨rfl, (E2.ext e5).ext e6⟩
end Go.Proofs.Ythiacmmkfngpbaa
