import Derived.Test.YtjjgojgahibpgaaMends3
/- Parts: LW16 LW17 LW18 Eng32 LW19. -/
namespace Go.Proofs.Ytjjgojgahibpgaa
open Go.RowKit Go.Proofs.Eng Go.Proofs.Codec Go.Proofs.Link
set_option linter.unusedSimpArgs false
set_option linter.unusedVariables false set_option maxRecDepth 10000
attribute [local irreducible] T TL LV TH TA
set_option maxHeartbeats 6400000
theorem Blk.turn {w w' : World} {b : Nat} {t : TypeId} {cs : List Value} {f f' : Nat → Nat} (k : Blk w b t cs) (tn : Turns f f' w w') (h : f b = 0) : Blk w' b t cs := by
  obtain ⟨⟨S, m1, s1⟩, n1, z1⟩ := tn
  exact k.mod m1 (fun q => s1 b q h)
/-- A pair as it stands behind i moves. -/
def MP (w0 w : World) (W P V Q ba pa bb pb bp pp i : Nat) : Prop :=
  ∃ ma fa ea mb fb eb M Fr L g, P3 w0 w ba pa ma fa ea bb pb mb fb eb bp pp M Fr L g ∧ Meet W P V Q (L 0) (L 1) (M.T 0) (M.T 1) (Fr 0) (Fr 1) ea eb ∧ (L 0).length ≤ i ∧ (L 1).length ≤ i ∧ (Fr 0).length ≤ i * 300 ∧ (Fr 1).length ≤ i * 300
theorem send_same {es : ES} {b : Bs} (h : ¬ (sendE es b).2 = 0) : (sendE es b).1 = es := by
  unfold sendE at h ⊢
  by_cases q1 : 4096 < b.length
  · rw [if_pos q1]
  · rw [if_neg q1] at h ⊢
    by_cases q2 : es.new.length = 1024
    · rw [if_pos q2]
    · rw [if_neg q2] at h; exact absurd rfl h
theorem GoodF.short {L : List Bs} {nx ex : Nat} {fr : Bs} (h : GoodF L nx ex fr) (hb : ∀ x ∈ L, x.length ≤ 4096) (hn : nx ≤ 2 ^ 62) (he : ex ≤ 2 ^ 62) : fr.length ≤ 70000 := by
  rcases h with ⟨q, a, b, rfl, g1, g2, g3⟩ | ⟨a, rfl, g2⟩
  · have h1 := hb b (List.mem_of_getElem? g3)
    have h2 := dataL_len (seq := q) (ack := a) (body := b) (by omega) (by omega)
    rw [frame_len]; omega
  · have h2 := encU_len64 (show a < 2 ^ 64 by omega)
    rw [frame_len]
    simp only [ackL, List.length_append, List.length_cons, List.length_nil]
    omega
theorem zero_of {f : Nat → Nat} {b B : Nat} (h : ∀ b, f b ≠ 0 → b < B) (hb : B ≤ b) : f b = 0 := by
  by_cases q : f b = 0
  · exact q
  · have := h b q; omega
theorem moves_c (x : MV) (al : Bool) (W P V Q ba pa bb pb bp pp i : Nat) (w0 w : World) (hal : al = true → W = V) (hi : i < 600) (hx : MvOk w0 x) (D : MP w0 w W P V Q ba pa bb pb bp pp i) (hW : 1 ≤ W ∧ W ≤ 256) (hV : 1 ≤ V ∧ V ≤ 256) (hP : 1 ≤ P ∧ P ≤ 1000) (hQ : 1 ≤ Q ∧ Q ≤ 1000) :
    Ret Try.prog 22 [ptr pp, .agg #[.int .i64 x.who, .int .i64 x.kd, .slice x.A x.n x.c, .int .i64 x.pl], .bool al] w (fun v w' => v = .bool true ∧ w.heap.size ≤ w'.heap.size ∧ MP w0 w' W P V Q ba pa bb pb bp pp (i + 1)) := by
  obtain ⟨ma, fa, ea, mb, fb, eb, M, Fr, L, g, D, H, l0, l1, f0, f1⟩ := D
  obtain ⟨who, kd, A, n, c, pl, bs⟩ := x
  obtain ⟨rd, nc, cm, nb, wh, hpl⟩ := hx
  simp only at rd nc cm nb wh hpl ⊢
  refine ret_T (n := 115) Try.func22 rfl rfl ?_
  repeat (first | refine T_seq ?_ | refine T_region ?_)
  refine TL_box (hk := ?_); intro b1 w1 e1 h1 h1' k1
  replace k1 : Blk w1 b1 51 [.int .i64 who, .int .i64 kd, .slice A n c, .int .i64 pl] := k1
  have D1 := D.ext e1
  have hba : fa b1 = 0 := zero_of (fun b q => (D.A.ki.old b q).2) h1
  have hbb : fb b1 = 0 := zero_of (fun b q => (D.B.ki.old b q).2) h1
  have hbg : g b1 = 0 := zero_of (fun b q => (D.C.old b q).2) h1
  have hk := D1.C.blk
  simp only [pairV] at hk
  have hmp : ∀ w', P3 w0 w' ba pa ma fa ea bb pb mb fb eb bp pp M Fr L g → MP w0 w' W P V Q ba pa bb pb bp pp (i + 1) := fun w' D' => ⟨_, _, _, _, _, _, _, _, _, _, D', H, by omega, by omega, by omega, by omega⟩
  have hmul : (i + 1) * 300 = i * 300 + 300 := Nat.succ_mul _ _
  clear D e1
  have hw : who % 2 = 0 ∨ who % 2 = 1 := by omega
  repeat (first | refine T_seq ?_ | refine T_region ?_ | refine TL_nil ?_ | refine TL_assign (hk := ?_) | refine TL_load TE (hk := ?_) | refine TL_fieldAddr TE (hk := ?_))
  refine TL_and1 (hk := ?_)
  rcases hw with hw | hw
  · rw [hw]
    have ok := (Meet.wa H).ok hW hP (by omega)
    have hnl := (Meet.wa H).nl
    have hfw := (Meet.wa H).fw
    by_cases k1' : kd = 1
    · repeat (first | refine T_seq ?_ | refine T_region ?_ | refine T_cond_true rfl ?_ | refine T_block ?_ | refine TL_eq_t (hk := ?_) | refine TL_nil ?_ | refine TL_move (hk := ?_) | refine TL_assign (hk := ?_) | refine TL_load TE (hk := ?_) | refine TL_fieldAddr TE (hk := ?_) | refine TL_nilCheck (hk := ?_) | refine TL_indexArr TE (hk := ?_))
      refine TL_buildSlice0 TE (hk := ?_); intro b2 w2 e2 h2 h2' k2
      have o2 : Own w2 w1.heap.size 5 1 (some ⟨b2, 0, none⟩) 0 0 [] := Own.of_blk k2 h2 rfl (by decide)
      have hr2 := rd.be (D1.e.ext e2)
      have k12 := k1.be e2
      have hone := bv_one bs
      repeat (first | refine TL_load TE (hk := ?_) | refine TL_fieldAddr TE (hk := ?_))
      refine TL_append TE (hk := ?_); intro A3 c3 w3 o3 m3 n3
      rw [List.nil_append] at o3
      have e13 : Ext w1 w3 := Mod.own e2 m3 o2.hi
      have D3 := D1.ext e13
      have k13 := k1.be e13
      --
      refine TL_call TE (hc := Send_c A3 (0 + n) c3 bs _ D3.A D3.A.bw (by omega) o3.rd (by omega)) (hk := ?_)
      rintro _ w4 ⟨rfl, m4, f4, h4, t4⟩
      have D4 := D3.a h4 t4
      have y3 := e13.size
      have y4 := t4.2.2
      have k14 := Blk.turn k13 t4 hba
      clear k12 o2 o3 hr2
      --
      refine TL_call TE (hc := num_c26 _ _) (hk := ?_)
      rintro _ w4 ⟨rfl, rfl⟩
      by_cases hc : (sendE ea bs).2 = 0
      · rw [hc]
        have H4 := (Meet.send H hW.2 (by omega) bs hc)
        have hk4 := D4.C.blk
        simp only [pairV] at hk4
        have hpS : pp ∉ blkL (M.S 0).1 := fun q => by have := D4.C.gS 0 pp q; rw [D4.C.gp] at this; omega
        have hbS : b1 ∉ blkL (M.S 0).1 := fun q => by have := D4.C.gS 0 b1 q; rw [hbg] at this; omega
        have hys := D4.C.bl 0
        have hsl : (M.ys 0).length = (M.S 0).2.1 := by have := (D4.C.sn 0).len; simpa using this
        have hbp := D4.C.old pp (by rw [D4.C.gp]; decide)
        repeat (first | refine T_cond_true rfl ?_ | refine TL_eq_t (hk := ?_) | refine TL_nil ?_)
        refine T_region_anyz TE.mixed (blkL (M.S 0).1) (some 15) ?_; intro w5 e5 z5
        have k5 := hk4.be e5
        have k15 := k14.be e5
        have D5 := D4.ext e5
        have y5 := e5.size
        (refine TA_take 0 rfl (by kernel_rfl) (by kernel_rfl) (by kernel_rfl) ?_; (repeat (first | refine TL_move (hk := ?_) | refine TLP_load TE (hk := ?_) | refine TL_fieldAddr TE (hk := ?_) | refine TL_nilCheck (hk := ?_) | refine TL_indexArr TE (hk := ?_))); refine TL_nil_p ?_); (refine TA_take 1 rfl (by kernel_rfl) (by kernel_rfl) (by kernel_rfl) ?_; (repeat (first | refine TL_move (hk := ?_) | refine TLP_load TE (hk := ?_) | refine TL_fieldAddr TE (hk := ?_) | refine TL_nilCheck (hk := ?_) | refine TL_indexArr TE (hk := ?_))); refine TL_nil_p ?_); (refine TA_take 2 rfl (by kernel_rfl) (by kernel_rfl) (by kernel_rfl) ?_; (repeat (first | refine TL_move (hk := ?_) | refine TLP_load TE (hk := ?_) | refine TL_fieldAddr TE (hk := ?_) | refine TL_nilCheck (hk := ?_) | refine TL_indexArr TE (hk := ?_))); refine TL_nil_p ?_); (refine TA_take 3 rfl (by kernel_rfl) (by kernel_rfl) (by kernel_rfl) ?_; (repeat (first | refine TL_move (hk := ?_) | refine TLP_load TE (hk := ?_) | refine TL_fieldAddr TE (hk := ?_) | refine TL_nilCheck (hk := ?_) | refine TL_indexArr TE (hk := ?_))); refine TL_nil_p ?_); (refine TA_take 4 rfl (by kernel_rfl) (by kernel_rfl) (by kernel_rfl) ?_; (repeat (first | refine TL_move (hk := ?_) | refine TLP_load TE (hk := ?_) | refine TL_fieldAddr TE (hk := ?_) | refine TL_nilCheck (hk := ?_) | refine TL_indexArr TE (hk := ?_))); refine TL_nil_p ?_); (refine TA_take 5 rfl (by kernel_rfl) (by kernel_rfl) (by kernel_rfl) ?_; (repeat (first | refine TL_move (hk := ?_) | refine TLP_load TE (hk := ?_) | refine TL_fieldAddr TE (hk := ?_) | refine TL_nilCheck (hk := ?_) | refine TL_indexArr TE (hk := ?_))); refine TL_nil_p ?_); (refine TA_take 6 rfl (by kernel_rfl) (by kernel_rfl) (by kernel_rfl) ?_; (repeat (first | refine TL_move (hk := ?_) | refine TLP_load TE (hk := ?_) | refine TL_fieldAddr TE (hk := ?_) | refine TL_nilCheck (hk := ?_) | refine TL_indexArr TE (hk := ?_))); refine TL_nil_p ?_); (refine TA_take 7 rfl (by kernel_rfl) (by kernel_rfl) (by kernel_rfl) ?_; (repeat (first | refine TL_move (hk := ?_) | refine TLP_load TE (hk := ?_) | refine TL_fieldAddr TE (hk := ?_) | refine TL_nilCheck (hk := ?_) | refine TL_indexArr TE (hk := ?_))); refine TL_nil_p ?_); (refine TA_take 8 rfl (by kernel_rfl) (by kernel_rfl) (by kernel_rfl) ?_; (repeat (first | refine TL_move (hk := ?_) | refine TLP_load TE (hk := ?_) | refine TL_fieldAddr TE (hk := ?_) | refine TL_nilCheck (hk := ?_) | refine TL_indexArr TE (hk := ?_))); refine TL_nil_p ?_); (refine TA_take 9 rfl (by kernel_rfl) (by kernel_rfl) (by kernel_rfl) ?_; (repeat (first | refine TL_move (hk := ?_) | refine TLP_load TE (hk := ?_) | refine TL_fieldAddr TE (hk := ?_) | refine TL_nilCheck (hk := ?_) | refine TL_indexArr TE (hk := ?_))); refine TL_nil_p ?_); (refine TA_take 12 rfl (by kernel_rfl) (by kernel_rfl) (by kernel_rfl) ?_; (repeat (first | refine TL_move (hk := ?_) | refine TLP_load TE (hk := ?_) | refine TL_fieldAddr TE (hk := ?_) | refine TL_nilCheck (hk := ?_) | refine TL_indexArr TE (hk := ?_))); refine TL_nil_p ?_); (refine TA_take 13 rfl (by kernel_rfl) (by kernel_rfl) (by kernel_rfl) ?_; (repeat (first | refine TL_move (hk := ?_) | refine TLP_load TE (hk := ?_) | refine TL_fieldAddr TE (hk := ?_) | refine TL_nilCheck (hk := ?_) | refine TL_indexArr TE (hk := ?_))); refine TL_nil_p ?_)
        refine TA_one 10 rfl (by kernel_rfl) (by kernel_rfl) ?_
        refine TL_buildSlice TE (hf := rfl) (hq := fun w' h => Ext.un h) (hk := ?_); intro b6 w6 e6 h6 h6' k6
        replace k6 : Blk w6 b6 23 (slVs [(A, n, c)]) := k6
        have r6 : Rd w6 (some ⟨b6, 0, none⟩) 1 1 (slVs [(A, n, c)]) := Rd.blk k6 rfl
        have o6 := Own.be e6 (D5.C.sn 0)
        have z6 := e6.size
        refine TL_nil_p ?_
        refine TA_one 11 rfl (by kernel_rfl) (by kernel_rfl) ?_
        refine TL_append TE (ho := o6) (hr := r6) (h1 := slVs_one _) (hf := rfl) (hq := fun w' m => (Ext.un e6).trans m) (hk := ?_); intro A7 c7 w7 o7 m7 n7
        rw [← slVs_append] at o7
        have k7 := (k5.be e6).mod m7 hpS
        have z7 := m7.size
        refine TL_nil_p ?_
        (refine TA_one 14 rfl (by kernel_rfl) (by kernel_rfl) ?_; (repeat (refine TL_indexArr TE (hk := ?_))); refine TL_nil_p ?_)
        refine TA_one 15 rfl (by kernel_rfl) (by kernel_rfl) ?_
        refine TL_store TE (hk := ?_); intro w8 m8 z8 k8
        refine TL_nil_z (by kernel_rfl) ?_
        obtain ⟨g8, C8, t8⟩ := D5.C.send 0 (x := (A, n, c)) (y := (A7, (M.S 0).2.1 + 1, c7)) (l := bs) e6 m7 o7 n7 m8 k8 rd
        have D8 := D5.c C8 t8
        repeat (first | refine T_seq ?_ | refine T_region ?_ | refine T_inBlock ?_ | refine TL_nil ?_ | refine TL_assign (hk := ?_))
        exact T_ret1 rfl rfl ⟨rfl, by omega, _, _, _, _, _, _, _, _, _, _, D8, H4, by simp [upd]; omega, by simp [upd]; omega, by omega, by omega⟩
      · have hsame := send_same hc
        rw [hsame] at D4
        have hc' : ¬ (((sendE ea bs).2 : Nat) : Int) = 0 := by omega
        repeat (first | refine T_seq ?_ | refine T_region ?_ | refine T_cond_false rfl ?_ | refine T_inBlock ?_ | refine T_skip ?_ | refine TL_eq_f (hk := ?_) | refine TL_nil ?_ | refine TL_assign (hk := ?_))
        exact T_ret1 rfl rfl ⟨rfl, by omega, _, _, _, _, _, _, _, _, _, _, D4, H, by omega, by omega, by omega, by omega⟩
    by_cases k2' : kd = 2
    · have hk4 := hk
      have hpD : pp ∉ ownB w1 fa ++ blkL (M.N 0).1 := fun q => by
        rcases List.mem_append.1 q with q | q
        · exact ownB_mem q ((D1.da pp).resolve_right (by rw [D1.C.gp]; decide))
        · have := D1.C.gN 0 pp q; rw [D1.C.gp] at this; omega
      have hol := outE_len ea
      have hfl' := ((Meet.wa H).out hP.1).fw
      have hnl' : (M.xs 0).length = (M.N 0).2.1 := by have := (D1.C.nw 0).len; simpa using this
      have hxl := D1.C.fl 0
      have hbp := D1.C.old pp (by rw [D1.C.gp]; decide)
      repeat (first | refine T_seq ?_ | refine T_region ?_ | refine T_cond_true rfl ?_ | refine T_cond_false rfl ?_ | refine T_block ?_ | refine TL_eq_t (hk := ?_) | refine TL_eq_f (hk := ?_) | refine TL_nil ?_ | refine TL_move (hk := ?_) | refine TL_assign (hk := ?_) | refine TL_load TE (hk := ?_) | refine TL_fieldAddr TE (hk := ?_) | refine TL_nilCheck (hk := ?_) | refine TL_indexArr TE (hk := ?_))
      refine T_region_anyz TE.mixed (ownB w1 fa ++ blkL (M.N 0).1) (some 14) ?_; intro w5 e5 z5
      have k5 := hk4.be e5
      have D5 := D1.ext e5
      have y5 := e5.size
      have inA : ∀ b, b < w5.heap.size → fa b ≠ 0 → b ∈ ownB w1 fa ++ blkL (M.N 0).1 := fun b q1 q2 => List.mem_append_left _ (ownB_in z5 b q1 q2)
      (refine TA_take 0 rfl (by kernel_rfl) (by kernel_rfl) (by kernel_rfl) ?_; (repeat (first | refine TL_move (hk := ?_) | refine TLP_load TE (hk := ?_) | refine TL_fieldAddr TE (hk := ?_) | refine TL_nilCheck (hk := ?_) | refine TL_indexArr TE (hk := ?_))); refine TL_nil_p ?_); (refine TA_take 1 rfl (by kernel_rfl) (by kernel_rfl) (by kernel_rfl) ?_; (repeat (first | refine TL_move (hk := ?_) | refine TLP_load TE (hk := ?_) | refine TL_fieldAddr TE (hk := ?_) | refine TL_nilCheck (hk := ?_) | refine TL_indexArr TE (hk := ?_))); refine TL_nil_p ?_); (refine TA_take 2 rfl (by kernel_rfl) (by kernel_rfl) (by kernel_rfl) ?_; (repeat (first | refine TL_move (hk := ?_) | refine TLP_load TE (hk := ?_) | refine TL_fieldAddr TE (hk := ?_) | refine TL_nilCheck (hk := ?_) | refine TL_indexArr TE (hk := ?_))); refine TL_nil_p ?_); (refine TA_take 3 rfl (by kernel_rfl) (by kernel_rfl) (by kernel_rfl) ?_; (repeat (first | refine TL_move (hk := ?_) | refine TLP_load TE (hk := ?_) | refine TL_fieldAddr TE (hk := ?_) | refine TL_nilCheck (hk := ?_) | refine TL_indexArr TE (hk := ?_))); refine TL_nil_p ?_); (refine TA_take 4 rfl (by kernel_rfl) (by kernel_rfl) (by kernel_rfl) ?_; (repeat (first | refine TL_move (hk := ?_) | refine TLP_load TE (hk := ?_) | refine TL_fieldAddr TE (hk := ?_) | refine TL_nilCheck (hk := ?_) | refine TL_indexArr TE (hk := ?_))); refine TL_nil_p ?_); (refine TA_take 5 rfl (by kernel_rfl) (by kernel_rfl) (by kernel_rfl) ?_; (repeat (first | refine TL_move (hk := ?_) | refine TLP_load TE (hk := ?_) | refine TL_fieldAddr TE (hk := ?_) | refine TL_nilCheck (hk := ?_) | refine TL_indexArr TE (hk := ?_))); refine TL_nil_p ?_); (refine TA_take 6 rfl (by kernel_rfl) (by kernel_rfl) (by kernel_rfl) ?_; (repeat (first | refine TL_move (hk := ?_) | refine TLP_load TE (hk := ?_) | refine TL_fieldAddr TE (hk := ?_) | refine TL_nilCheck (hk := ?_) | refine TL_indexArr TE (hk := ?_))); refine TL_nil_p ?_); (refine TA_take 7 rfl (by kernel_rfl) (by kernel_rfl) (by kernel_rfl) ?_; (repeat (first | refine TL_move (hk := ?_) | refine TLP_load TE (hk := ?_) | refine TL_fieldAddr TE (hk := ?_) | refine TL_nilCheck (hk := ?_) | refine TL_indexArr TE (hk := ?_))); refine TL_nil_p ?_); (refine TA_take 8 rfl (by kernel_rfl) (by kernel_rfl) (by kernel_rfl) ?_; (repeat (first | refine TL_move (hk := ?_) | refine TLP_load TE (hk := ?_) | refine TL_fieldAddr TE (hk := ?_) | refine TL_nilCheck (hk := ?_) | refine TL_indexArr TE (hk := ?_))); refine TL_nil_p ?_); (refine TA_take 11 rfl (by kernel_rfl) (by kernel_rfl) (by kernel_rfl) ?_; (repeat (first | refine TL_move (hk := ?_) | refine TLP_load TE (hk := ?_) | refine TL_fieldAddr TE (hk := ?_) | refine TL_nilCheck (hk := ?_) | refine TL_indexArr TE (hk := ?_))); refine TL_nil_p ?_); (refine TA_take 12 rfl (by kernel_rfl) (by kernel_rfl) (by kernel_rfl) ?_; (repeat (first | refine TL_move (hk := ?_) | refine TLP_load TE (hk := ?_) | refine TL_fieldAddr TE (hk := ?_) | refine TL_nilCheck (hk := ?_) | refine TL_indexArr TE (hk := ?_))); refine TL_nil_p ?_)
      refine TA_one 9 rfl (by kernel_rfl) (by kernel_rfl) ?_; (try refine TL_yes (hk := ?_)); refine TL_call TE (hc := (Out_c w5 D5.A D5.A.bw ok)) (hq := (by rintro _ w6 ⟨O, zs, m', f', rfl, h', t', _⟩; exact Turns.inD t' (Mod.refl _ _) inA)) (hk := ?_)
      rintro _ w6 ⟨O, zs, m6, f6, rfl, h6, t6, o6, fo6, fx6⟩
      have M6 := Turns.inD t6 (Mod.refl _ _) inA
      have D6 := D5.a h6 t6
      have k6 := Blk.turn k5 t6 ((D1.da pp).resolve_right (by rw [D1.C.gp]; decide))
      have hO1 := o6.own.len
      rw [slVs_length, Nat.mul_one] at hO1
      have hO2 := o6.bod.len
      have z6 := t6.2.2
      refine TL_nil_p ?_
      refine TA_one 10 rfl (by kernel_rfl) (by kernel_rfl) ?_
      refine TL_append TE (ho := D6.C.nw 0) (hr := o6.own.rd) (h1 := slVs_one _) (hf := rfl) (hq := fun w' m => M6.trans (m.mono (fun b q => .inl (List.mem_append_right _ q)))) (hk := ?_); intro A7 c7 w7 o7 m7 n7
      rw [← slVs_append] at o7
      have k7 := k6.mod m7 (fun q => hpD (List.mem_append_right _ q))
      have z7 := m7.size
      refine TL_nil_p ?_
      (refine TA_one 13 rfl (by kernel_rfl) (by kernel_rfl) ?_; (repeat (refine TL_indexArr TE (hk := ?_))); refine TL_nil_p ?_)
      refine TA_one 14 rfl (by kernel_rfl) (by kernel_rfl) ?_
      refine TL_store TE (hk := ?_); intro w8 m8 z8 k8
      refine TL_nil_z (by kernel_rfl) ?_
      have hzg : ∀ b ∈ blkS zs, g b = 0 := fun b q => zero_of (fun b q => (D5.C.old b q).2) (o6.bod.lt b q).1
      have hzb : ∀ b ∈ blkS zs, fb b = 0 := fun b q => zero_of (fun b q => (D5.B.ki.old b q).2) (o6.bod.lt b q).1
      obtain ⟨g8, C8, n8, S8, hm8, hs8⟩ := D6.C.out 0 (zs := zs) (fs := (outE ea).2) (y := (A7, (M.N 0).2.1 + O.2.1, c7)) (Mod.refl _ _) m7 o7 n7 m8 k8 o6.bod (by have := D1.C.old pp (by rw [D1.C.gp]; decide); omega) hzg
      have H4 := (Meet.out H hP.1)
      repeat (first | refine T_seq ?_ | refine T_region ?_ | refine T_inBlock ?_ | refine TL_nil ?_ | refine TL_assign (hk := ?_))
      exact T_ret1 rfl rfl ⟨rfl, by omega, _, _, _, _, _, _, _, _, _, _, D6.cx C8 hm8 hs8 n8 (by first | exact fx6 | exact hzb) (by first | exact hzb | exact fx6), H4, by omega, by omega, by simp [upd]; omega, by simp [upd]; omega⟩
    by_cases k3' : kd = 3
    · have hk4 := hk
      have hnl' : (M.xs 1).length = (M.N 1).2.1 := by have := (D1.C.nw 1).len; simpa using this
      have hxl := D1.C.fl 1
      by_cases p0 : 0 ≤ pl
      · obtain ⟨j, rfl⟩ := Int.eq_ofNat_of_zero_le p0
        by_cases p1 : j < (M.N 1).2.1
        · have hge : (j : Int) ≥ 0 := by omega
          have hlt : (j : Int) < ((M.N 1).2.1 : Int) := by omega
          repeat (first | refine T_seq ?_ | refine T_region ?_ | refine T_region_q TE.mixed (by kernel_rfl) ?_ | refine T_cond_true rfl ?_ | refine T_cond_false rfl ?_ | refine T_block ?_ | refine TL_sub (hk := ?_) | refine TL_lt_t (hk := ?_) | refine TL_ge_t (hk := ?_) | refine TL_eq_t (hk := ?_) | refine TL_eq_f (hk := ?_) | refine TL_nil ?_ | refine TL_move (hk := ?_) | refine TL_assign (hk := ?_) | refine TL_load TE (hk := ?_) | refine TL_fieldAddr TE (hk := ?_) | refine TL_len TE (hk := ?_) | refine TL_yes (hk := ?_) | refine TL_pick_t (hk := ?_) | refine TL_nilCheck (hk := ?_) | refine TL_indexArr TE (hk := ?_))
          refine TL_nil_q ?_; intro w4 e4
          have y4 := e4.size
          have D4 := D1.ext e4
          have k14 := k1.be e4
          have k4 := hk4.be e4
          have nw4 := (D4.C.nw 1).rd
          have hbd := D4.C.fr 1 j (by omega)
          have hfr : (Fr 1).getD j [] ∈ Fr 1 := getMem (by omega)
          obtain ⟨H4, r4, r4'⟩ := Meet.recv H hW.2 hfr
          have hv := slVs_get (M.xs 1) j (by omega)
          have hgF := D4.C.gF 1 j (by omega)
          have hNn : (M.N 1).1 ≠ none := by obtain ⟨_, _, hq, _⟩ := nw4.2 (by omega); rw [hq]; simp
          have hul : ((Fr 1).getD j []).length = ((M.xs 1).getD j (none, 0, 0)).2.1 := by have := hbd.1; simpa using this
          have hgood : ((Fr 1).getD j []).length ≤ 70000 := by
            obtain ⟨_, e⟩ := Meet.e H
            have e2 := e.nl
            have e3 := (Meet.d H).choose_spec.ex
            have e4 := Meet.left H
            exact GoodF.short (Meet.g H _ hfr) e.len (by have := Meet.hM H; omega) (by have := (Meet.d H).choose_spec.exl; have := Meet.hL H; omega)
          generalize (M.xs 1).getD j (none, 0, 0) = u at hv hbd hgF hul
          generalize (Fr 1).getD j [] = fr at H4 r4 r4' hbd hul hgood
          have hpD : pp ∉ ownB w4 fa := fun q => ownB_mem q ((D1.da pp).resolve_right (by rw [D1.C.gp]; decide))
          have hbD : b1 ∉ ownB w4 fa := fun q => ownB_mem q hba
          have hND : Off (M.N 1).1 (ownB w4 fa) := off_of fun b q q' => ownB_mem q' ((D1.da b).resolve_right (by rw [D1.C.gN 1 b q]; omega))
          have huD : Off u.1 (ownB w4 fa) := off_of fun b q q' => ownB_mem q' ((D1.da b).resolve_right (by rw [hgF b q]; omega))
          have hone := bv_one fr
          repeat (first | refine T_seq ?_ | refine T_cond_true rfl ?_)
          refine T_region_any TE.mixed (ownB w4 fa) ?_; intro w5 e5 z5
          have k5 := k4.be e5
          have k15 := k14.be e5
          have nw5 := nw4.be e5
          have D5 := D4.ext e5
          have hb5 := hbd.be e5
          (refine TA_take 0 rfl (by kernel_rfl) (by kernel_rfl) (by kernel_rfl) ?_; (repeat (first | refine TL_sub (hk := ?_) | refine TL_move (hk := ?_) | refine TLP_load TE (hk := ?_) | refine TLP_load_rd TE (hk := ?_) | refine TL_fieldAddr TE (hk := ?_) | refine TL_indexAddr1n TE (hk := ?_) | refine TL_nilCheck (hk := ?_) | refine TL_indexArr TE (hk := ?_))); refine TL_nil_p ?_); (refine TA_take 2 rfl (by kernel_rfl) (by kernel_rfl) (by kernel_rfl) ?_; (repeat (first | refine TL_sub (hk := ?_) | refine TL_move (hk := ?_) | refine TLP_load TE (hk := ?_) | refine TLP_load_rd TE (hk := ?_) | refine TL_fieldAddr TE (hk := ?_) | refine TL_indexAddr1n TE (hk := ?_) | refine TL_nilCheck (hk := ?_) | refine TL_indexArr TE (hk := ?_))); refine TL_nil_p ?_); (refine TA_take 3 rfl (by kernel_rfl) (by kernel_rfl) (by kernel_rfl) ?_; (repeat (first | refine TL_sub (hk := ?_) | refine TL_move (hk := ?_) | refine TLP_load TE (hk := ?_) | refine TLP_load_rd TE (hk := ?_) | refine TL_fieldAddr TE (hk := ?_) | refine TL_indexAddr1n TE (hk := ?_) | refine TL_nilCheck (hk := ?_) | refine TL_indexArr TE (hk := ?_))); refine TL_nil_p ?_); (refine TA_take 4 rfl (by kernel_rfl) (by kernel_rfl) (by kernel_rfl) ?_; (repeat (first | refine TL_sub (hk := ?_) | refine TL_move (hk := ?_) | refine TLP_load TE (hk := ?_) | refine TLP_load_rd TE (hk := ?_) | refine TL_fieldAddr TE (hk := ?_) | refine TL_indexAddr1n TE (hk := ?_) | refine TL_nilCheck (hk := ?_) | refine TL_indexArr TE (hk := ?_))); refine TL_nil_p ?_); (refine TA_take 5 rfl (by kernel_rfl) (by kernel_rfl) (by kernel_rfl) ?_; (repeat (first | refine TL_sub (hk := ?_) | refine TL_move (hk := ?_) | refine TLP_load TE (hk := ?_) | refine TLP_load_rd TE (hk := ?_) | refine TL_fieldAddr TE (hk := ?_) | refine TL_indexAddr1n TE (hk := ?_) | refine TL_nilCheck (hk := ?_) | refine TL_indexArr TE (hk := ?_))); refine TL_nil_p ?_); (refine TA_take 6 rfl (by kernel_rfl) (by kernel_rfl) (by kernel_rfl) ?_; (repeat (first | refine TL_sub (hk := ?_) | refine TL_move (hk := ?_) | refine TLP_load TE (hk := ?_) | refine TLP_load_rd TE (hk := ?_) | refine TL_fieldAddr TE (hk := ?_) | refine TL_indexAddr1n TE (hk := ?_) | refine TL_nilCheck (hk := ?_) | refine TL_indexArr TE (hk := ?_))); refine TL_nil_p ?_); (refine TA_take 7 rfl (by kernel_rfl) (by kernel_rfl) (by kernel_rfl) ?_; (repeat (first | refine TL_sub (hk := ?_) | refine TL_move (hk := ?_) | refine TLP_load TE (hk := ?_) | refine TLP_load_rd TE (hk := ?_) | refine TL_fieldAddr TE (hk := ?_) | refine TL_indexAddr1n TE (hk := ?_) | refine TL_nilCheck (hk := ?_) | refine TL_indexArr TE (hk := ?_))); refine TL_nil_p ?_); (refine TA_take 8 rfl (by kernel_rfl) (by kernel_rfl) (by kernel_rfl) ?_; (repeat (first | refine TL_sub (hk := ?_) | refine TL_move (hk := ?_) | refine TLP_load TE (hk := ?_) | refine TLP_load_rd TE (hk := ?_) | refine TL_fieldAddr TE (hk := ?_) | refine TL_indexAddr1n TE (hk := ?_) | refine TL_nilCheck (hk := ?_) | refine TL_indexArr TE (hk := ?_))); refine TL_nil_p ?_); (refine TA_take 9 rfl (by kernel_rfl) (by kernel_rfl) (by kernel_rfl) ?_; (repeat (first | refine TL_sub (hk := ?_) | refine TL_move (hk := ?_) | refine TLP_load TE (hk := ?_) | refine TLP_load_rd TE (hk := ?_) | refine TL_fieldAddr TE (hk := ?_) | refine TL_indexAddr1n TE (hk := ?_) | refine TL_nilCheck (hk := ?_) | refine TL_indexArr TE (hk := ?_))); refine TL_nil_p ?_); (refine TA_take 10 rfl (by kernel_rfl) (by kernel_rfl) (by kernel_rfl) ?_; (repeat (first | refine TL_sub (hk := ?_) | refine TL_move (hk := ?_) | refine TLP_load TE (hk := ?_) | refine TLP_load_rd TE (hk := ?_) | refine TL_fieldAddr TE (hk := ?_) | refine TL_indexAddr1n TE (hk := ?_) | refine TL_nilCheck (hk := ?_) | refine TL_indexArr TE (hk := ?_))); refine TL_nil_p ?_); (refine TA_take 11 rfl (by kernel_rfl) (by kernel_rfl) (by kernel_rfl) ?_; (repeat (first | refine TL_sub (hk := ?_) | refine TL_move (hk := ?_) | refine TLP_load TE (hk := ?_) | refine TLP_load_rd TE (hk := ?_) | refine TL_fieldAddr TE (hk := ?_) | refine TL_indexAddr1n TE (hk := ?_) | refine TL_nilCheck (hk := ?_) | refine TL_indexArr TE (hk := ?_))); refine TL_nil_p ?_); (refine TA_take 12 rfl (by kernel_rfl) (by kernel_rfl) (by kernel_rfl) ?_; (repeat (first | refine TL_sub (hk := ?_) | refine TL_move (hk := ?_) | refine TLP_load TE (hk := ?_) | refine TLP_load_rd TE (hk := ?_) | refine TL_fieldAddr TE (hk := ?_) | refine TL_indexAddr1n TE (hk := ?_) | refine TL_nilCheck (hk := ?_) | refine TL_indexArr TE (hk := ?_))); refine TL_nil_p ?_)
          refine TA_one 1 rfl (by kernel_rfl) (by kernel_rfl) ?_
          refine TL_buildSlice0 TE (hf := rfl) (hq := fun w' h => Ext.un h) (hk := ?_); intro b6 w6 e6 h6 h6' k6
          have o6 : Own w6 w5.heap.size 5 1 (some ⟨b6, 0, none⟩) 0 0 [] := Own.of_blk k6 h6 rfl (by decide)
          have hb6 := hb5.be e6
          have z6 := e6.size
          refine TL_nil_p ?_
          refine TA_one 13 rfl (by kernel_rfl) (by kernel_rfl) ?_
          refine TL_append TE (ho := o6) (hr := hb6) (h1 := hone) (hf := rfl) (hq := fun w' m => Ext.un (Mod.own e6 m o6.hi)) (hk := ?_); intro A7 c7 w7 o7 m7 n7
          rw [List.nil_append] at o7
          have e57 : Ext w5 w7 := Mod.own e6 m7 o6.hi
          have D7 := D5.ext e57
          have y5 := e5.size
          have y7 := e57.size
          have hcap := o7.cap.1
          refine TL_nil_p ?_
          refine TA_one 14 rfl (by kernel_rfl) (by kernel_rfl) ?_; (try refine TL_yes (hk := ?_)); refine TL_call TE (hc := (Receive_c A7 (0 + u.2.1) c7 fr _ D7.A D7.A.bw ok o7.rd (by omega) hcap)) (hq := (by rintro _ w8 ⟨rfl, m', f', h', t'⟩; exact Turns.inD t' (Ext.un e57) (ownB_in z5))) (hk := ?_)
          rintro _ w8 ⟨rfl, m8, f8, h8, t8⟩
          have D8 := D7.a h8 t8
          have y8 := t8.2.2
          refine TL_nil_p ?_
          (refine TA_one 15 rfl (by kernel_rfl) (by kernel_rfl) ?_; (repeat (refine TL_assign (hk := ?_))); refine TL_nil_p ?_)
          refine TA_done (by kernel_rfl) ?_
          rcases r4 with r4 | r4
          · rw [r4]
            repeat (first | refine T_seq ?_ | refine T_region ?_ | refine TL_move (hk := ?_))
            refine TL_call TE (hc := num_c26 _ _) (hk := ?_)
            rintro _ w8 ⟨rfl, rfl⟩
            repeat (first | refine T_seq ?_ | refine T_region ?_ | refine T_cond_false rfl ?_ | refine T_inBlock ?_ | refine T_skip ?_ | refine TL_ne_f (hk := ?_) | refine TL_nil ?_ | refine TL_move (hk := ?_) | refine TL_assign (hk := ?_) | refine TL_no (hk := ?_) | refine TL_pick_f (hk := ?_))
            exact T_ret1 rfl rfl ⟨rfl, by omega, _, _, _, _, _, _, _, _, _, _, D8, H4, by omega, by omega, by omega, by omega⟩
          · have hal' : al = false := by
              cases al with
              | false => rfl
              | true => have := r4' (by have := hal rfl; omega); omega
            rw [r4, hal']
            repeat (first | refine T_seq ?_ | refine T_region ?_ | refine TL_move (hk := ?_))
            refine TL_call TE (hc := num_c26 _ _) (hk := ?_)
            rintro _ w8 ⟨rfl, rfl⟩
            repeat (first | refine TL_ne_t (hk := ?_) | refine TL_move (hk := ?_) | refine TL_yes (hk := ?_))
            refine TL_call TE (hc := num_c26 _ _) (hk := ?_)
            rintro _ w8 ⟨rfl, rfl⟩
            repeat (first | refine T_seq ?_ | refine T_region ?_ | refine T_cond_false rfl ?_ | refine T_inBlock ?_ | refine T_skip ?_ | refine TL_ne_f (hk := ?_) | refine TL_nil ?_ | refine TL_assign (hk := ?_) | refine TL_yes (hk := ?_) | refine TL_pick_t (hk := ?_) | refine TL_pick_f (hk := ?_))
            exact T_ret1 rfl rfl ⟨rfl, by omega, _, _, _, _, _, _, _, _, _, _, D8, H4, by omega, by omega, by omega, by omega⟩
        · have hge : (j : Int) ≥ 0 := by omega
          have hlt : ¬ (j : Int) < ((M.N 1).2.1 : Int) := by omega
          repeat (first | refine T_seq ?_ | refine T_region ?_ | refine T_region_q TE.mixed (by kernel_rfl) ?_ | refine T_cond_true rfl ?_ | refine T_cond_false rfl ?_ | refine T_block ?_ | refine TL_sub (hk := ?_) | refine TL_lt_f (hk := ?_) | refine TL_ge_t (hk := ?_) | refine TL_eq_t (hk := ?_) | refine TL_eq_f (hk := ?_) | refine TL_nil ?_ | refine TL_move (hk := ?_) | refine TL_assign (hk := ?_) | refine TL_load TE (hk := ?_) | refine TL_fieldAddr TE (hk := ?_) | refine TL_len TE (hk := ?_) | refine TL_yes (hk := ?_) | refine TL_pick_t (hk := ?_) | refine TL_nilCheck (hk := ?_) | refine TL_indexArr TE (hk := ?_))
          refine TL_nil_q ?_; intro w4 e4
          have y4 := e4.size
          repeat (first | refine T_seq ?_ | refine T_region ?_ | refine T_cond_false rfl ?_ | refine T_inBlock ?_ | refine T_skip ?_ | refine TL_nil ?_ | refine TL_assign (hk := ?_))
          exact T_ret1 rfl rfl ⟨rfl, by omega, hmp _ (D1.ext e4)⟩
      · have hge : ¬ pl ≥ 0 := by omega
        repeat (first | refine T_seq ?_ | refine T_region ?_ | refine T_region_q TE.mixed (by kernel_rfl) ?_ | refine T_cond_true rfl ?_ | refine T_cond_false rfl ?_ | refine T_block ?_ | refine TL_ge_f (hk := ?_) | refine TL_eq_t (hk := ?_) | refine TL_eq_f (hk := ?_) | refine TL_nil ?_ | refine TL_move (hk := ?_) | refine TL_assign (hk := ?_) | refine TL_load TE (hk := ?_) | refine TL_fieldAddr TE (hk := ?_) | refine TL_no (hk := ?_) | refine TL_pick_f (hk := ?_) | refine TL_nilCheck (hk := ?_) | refine TL_indexArr TE (hk := ?_))
        refine TL_nil_q ?_; intro w4 e4
        have y4 := e4.size
        repeat (first | refine T_seq ?_ | refine T_region ?_ | refine T_cond_false rfl ?_ | refine T_inBlock ?_ | refine T_skip ?_ | refine TL_nil ?_ | refine TL_assign (hk := ?_))
        exact T_ret1 rfl rfl ⟨rfl, by omega, hmp _ (D1.ext e4)⟩
    by_cases k4' : kd = 4
    · repeat (first | refine T_seq ?_ | refine T_region ?_ | refine T_cond_true rfl ?_ | refine T_cond_false rfl ?_ | refine T_block ?_ | refine TL_eq_t (hk := ?_) | refine TL_eq_f (hk := ?_) | refine TL_nil ?_ | refine TL_move (hk := ?_) | refine TL_assign (hk := ?_) | refine TL_load TE (hk := ?_) | refine TL_fieldAddr TE (hk := ?_) | refine TL_nilCheck (hk := ?_) | refine TL_indexArr TE (hk := ?_))
      refine TL_call TE (hc := told0_c _ D1 H) (hk := ?_)
      rintro _ w2 ⟨rfl, y2, m2, f2, T2, D2, H2, -, -⟩
      repeat (first | refine TL_nil ?_ | refine TL_assign (hk := ?_))
      exact T_ret1 rfl rfl ⟨rfl, by omega, _, _, _, _, _, _, _, _, _, _, D2, H2, by omega, by omega, by omega, by omega⟩
    by_cases k5' : kd = 5
    · repeat (first | refine T_seq ?_ | refine T_region ?_ | refine T_cond_true rfl ?_ | refine T_cond_false rfl ?_ | refine T_block ?_ | refine TL_eq_t (hk := ?_) | refine TL_eq_f (hk := ?_) | refine TL_nil ?_ | refine TL_move (hk := ?_) | refine TL_assign (hk := ?_) | refine TL_load TE (hk := ?_) | refine TL_fieldAddr TE (hk := ?_) | refine TL_nilCheck (hk := ?_) | refine TL_indexArr TE (hk := ?_))
      refine TL_call TE (hc := Tick_c _ D1.A (by omega) (fun q hq => (ok.fb q hq).2.2)) (hk := ?_)
      rintro _ w2 ⟨m2, h2, t2⟩
      have y2 := t2.2.2
      have H4 := (Meet.tick H hP.1)
      repeat (first | refine T_seq ?_ | refine T_region ?_ | refine T_inBlock ?_ | refine TL_nil ?_ | refine TL_assign (hk := ?_))
      exact T_ret1 rfl rfl ⟨rfl, by omega, _, _, _, _, _, _, _, _, _, _, D1.a h2 t2, H4, by omega, by omega, by omega, by omega⟩
    repeat (first | refine T_seq ?_ | refine T_region ?_ | refine T_cond_false rfl ?_ | refine T_block ?_ | refine T_inBlock ?_ | refine T_skip ?_ | refine TL_eq_f (hk := ?_) | refine TL_nil ?_ | refine TL_move (hk := ?_) | refine TL_assign (hk := ?_) | refine TL_load TE (hk := ?_) | refine TL_fieldAddr TE (hk := ?_) | refine TL_nilCheck (hk := ?_) | refine TL_indexArr TE (hk := ?_))
    exact T_ret1 rfl rfl ⟨rfl, by omega, hmp _ D1⟩
  · rw [hw]
    have ok := (Meet.wa H.swap).ok hV hQ (by omega)
    have hnl := (Meet.wa H.swap).nl
    have hfw := (Meet.wa H.swap).fw
    by_cases k1' : kd = 1
    · repeat (first | refine T_seq ?_ | refine T_region ?_ | refine T_cond_true rfl ?_ | refine T_block ?_ | refine TL_eq_t (hk := ?_) | refine TL_nil ?_ | refine TL_move (hk := ?_) | refine TL_assign (hk := ?_) | refine TL_load TE (hk := ?_) | refine TL_fieldAddr TE (hk := ?_) | refine TL_nilCheck (hk := ?_) | refine TL_indexArr TE (hk := ?_))
      refine TL_buildSlice0 TE (hk := ?_); intro b2 w2 e2 h2 h2' k2
      have o2 : Own w2 w1.heap.size 5 1 (some ⟨b2, 0, none⟩) 0 0 [] := Own.of_blk k2 h2 rfl (by decide)
      have hr2 := rd.be (D1.e.ext e2)
      have k12 := k1.be e2
      have hone := bv_one bs
      repeat (first | refine TL_load TE (hk := ?_) | refine TL_fieldAddr TE (hk := ?_))
      refine TL_append TE (hk := ?_); intro A3 c3 w3 o3 m3 n3
      rw [List.nil_append] at o3
      have e13 : Ext w1 w3 := Mod.own e2 m3 o2.hi
      have D3 := D1.ext e13
      have k13 := k1.be e13
      --
      refine TL_call TE (hc := Send_c A3 (0 + n) c3 bs _ D3.B D3.B.bw (by omega) o3.rd (by omega)) (hk := ?_)
      rintro _ w4 ⟨rfl, m4, f4, h4, t4⟩
      have D4 := D3.b h4 t4
      have y3 := e13.size
      have y4 := t4.2.2
      have k14 := Blk.turn k13 t4 hbb
      clear k12 o2 o3 hr2
      --
      refine TL_call TE (hc := num_c26 _ _) (hk := ?_)
      rintro _ w4 ⟨rfl, rfl⟩
      by_cases hc : (sendE eb bs).2 = 0
      · rw [hc]
        have H4 := (Meet.send H.swap hV.2 (by omega) bs hc).swap
        have hk4 := D4.C.blk
        simp only [pairV] at hk4
        have hpS : pp ∉ blkL (M.S 1).1 := fun q => by have := D4.C.gS 1 pp q; rw [D4.C.gp] at this; omega
        have hbS : b1 ∉ blkL (M.S 1).1 := fun q => by have := D4.C.gS 1 b1 q; rw [hbg] at this; omega
        have hys := D4.C.bl 1
        have hsl : (M.ys 1).length = (M.S 1).2.1 := by have := (D4.C.sn 1).len; simpa using this
        have hbp := D4.C.old pp (by rw [D4.C.gp]; decide)
        repeat (first | refine T_cond_true rfl ?_ | refine TL_eq_t (hk := ?_) | refine TL_nil ?_)
        refine T_region_anyz TE.mixed (blkL (M.S 1).1) (some 15) ?_; intro w5 e5 z5
        have k5 := hk4.be e5
        have k15 := k14.be e5
        have D5 := D4.ext e5
        have y5 := e5.size
        (refine TA_take 0 rfl (by kernel_rfl) (by kernel_rfl) (by kernel_rfl) ?_; (repeat (first | refine TL_move (hk := ?_) | refine TLP_load TE (hk := ?_) | refine TL_fieldAddr TE (hk := ?_) | refine TL_nilCheck (hk := ?_) | refine TL_indexArr TE (hk := ?_))); refine TL_nil_p ?_); (refine TA_take 1 rfl (by kernel_rfl) (by kernel_rfl) (by kernel_rfl) ?_; (repeat (first | refine TL_move (hk := ?_) | refine TLP_load TE (hk := ?_) | refine TL_fieldAddr TE (hk := ?_) | refine TL_nilCheck (hk := ?_) | refine TL_indexArr TE (hk := ?_))); refine TL_nil_p ?_); (refine TA_take 2 rfl (by kernel_rfl) (by kernel_rfl) (by kernel_rfl) ?_; (repeat (first | refine TL_move (hk := ?_) | refine TLP_load TE (hk := ?_) | refine TL_fieldAddr TE (hk := ?_) | refine TL_nilCheck (hk := ?_) | refine TL_indexArr TE (hk := ?_))); refine TL_nil_p ?_); (refine TA_take 3 rfl (by kernel_rfl) (by kernel_rfl) (by kernel_rfl) ?_; (repeat (first | refine TL_move (hk := ?_) | refine TLP_load TE (hk := ?_) | refine TL_fieldAddr TE (hk := ?_) | refine TL_nilCheck (hk := ?_) | refine TL_indexArr TE (hk := ?_))); refine TL_nil_p ?_); (refine TA_take 4 rfl (by kernel_rfl) (by kernel_rfl) (by kernel_rfl) ?_; (repeat (first | refine TL_move (hk := ?_) | refine TLP_load TE (hk := ?_) | refine TL_fieldAddr TE (hk := ?_) | refine TL_nilCheck (hk := ?_) | refine TL_indexArr TE (hk := ?_))); refine TL_nil_p ?_); (refine TA_take 5 rfl (by kernel_rfl) (by kernel_rfl) (by kernel_rfl) ?_; (repeat (first | refine TL_move (hk := ?_) | refine TLP_load TE (hk := ?_) | refine TL_fieldAddr TE (hk := ?_) | refine TL_nilCheck (hk := ?_) | refine TL_indexArr TE (hk := ?_))); refine TL_nil_p ?_); (refine TA_take 6 rfl (by kernel_rfl) (by kernel_rfl) (by kernel_rfl) ?_; (repeat (first | refine TL_move (hk := ?_) | refine TLP_load TE (hk := ?_) | refine TL_fieldAddr TE (hk := ?_) | refine TL_nilCheck (hk := ?_) | refine TL_indexArr TE (hk := ?_))); refine TL_nil_p ?_); (refine TA_take 7 rfl (by kernel_rfl) (by kernel_rfl) (by kernel_rfl) ?_; (repeat (first | refine TL_move (hk := ?_) | refine TLP_load TE (hk := ?_) | refine TL_fieldAddr TE (hk := ?_) | refine TL_nilCheck (hk := ?_) | refine TL_indexArr TE (hk := ?_))); refine TL_nil_p ?_); (refine TA_take 8 rfl (by kernel_rfl) (by kernel_rfl) (by kernel_rfl) ?_; (repeat (first | refine TL_move (hk := ?_) | refine TLP_load TE (hk := ?_) | refine TL_fieldAddr TE (hk := ?_) | refine TL_nilCheck (hk := ?_) | refine TL_indexArr TE (hk := ?_))); refine TL_nil_p ?_); (refine TA_take 9 rfl (by kernel_rfl) (by kernel_rfl) (by kernel_rfl) ?_; (repeat (first | refine TL_move (hk := ?_) | refine TLP_load TE (hk := ?_) | refine TL_fieldAddr TE (hk := ?_) | refine TL_nilCheck (hk := ?_) | refine TL_indexArr TE (hk := ?_))); refine TL_nil_p ?_); (refine TA_take 12 rfl (by kernel_rfl) (by kernel_rfl) (by kernel_rfl) ?_; (repeat (first | refine TL_move (hk := ?_) | refine TLP_load TE (hk := ?_) | refine TL_fieldAddr TE (hk := ?_) | refine TL_nilCheck (hk := ?_) | refine TL_indexArr TE (hk := ?_))); refine TL_nil_p ?_); (refine TA_take 13 rfl (by kernel_rfl) (by kernel_rfl) (by kernel_rfl) ?_; (repeat (first | refine TL_move (hk := ?_) | refine TLP_load TE (hk := ?_) | refine TL_fieldAddr TE (hk := ?_) | refine TL_nilCheck (hk := ?_) | refine TL_indexArr TE (hk := ?_))); refine TL_nil_p ?_)
        refine TA_one 10 rfl (by kernel_rfl) (by kernel_rfl) ?_
        refine TL_buildSlice TE (hf := rfl) (hq := fun w' h => Ext.un h) (hk := ?_); intro b6 w6 e6 h6 h6' k6
        replace k6 : Blk w6 b6 23 (slVs [(A, n, c)]) := k6
        have r6 : Rd w6 (some ⟨b6, 0, none⟩) 1 1 (slVs [(A, n, c)]) := Rd.blk k6 rfl
        have o6 := Own.be e6 (D5.C.sn 1)
        have z6 := e6.size
        refine TL_nil_p ?_
        refine TA_one 11 rfl (by kernel_rfl) (by kernel_rfl) ?_
        refine TL_append TE (ho := o6) (hr := r6) (h1 := slVs_one _) (hf := rfl) (hq := fun w' m => (Ext.un e6).trans m) (hk := ?_); intro A7 c7 w7 o7 m7 n7
        rw [← slVs_append] at o7
        have k7 := (k5.be e6).mod m7 hpS
        have z7 := m7.size
        refine TL_nil_p ?_
        (refine TA_one 14 rfl (by kernel_rfl) (by kernel_rfl) ?_; (repeat (refine TL_indexArr TE (hk := ?_))); refine TL_nil_p ?_)
        refine TA_one 15 rfl (by kernel_rfl) (by kernel_rfl) ?_
        refine TL_store TE (hk := ?_); intro w8 m8 z8 k8
        refine TL_nil_z (by kernel_rfl) ?_
        obtain ⟨g8, C8, t8⟩ := D5.C.send 1 (x := (A, n, c)) (y := (A7, (M.S 1).2.1 + 1, c7)) (l := bs) e6 m7 o7 n7 m8 k8 rd
        have D8 := D5.c C8 t8
        repeat (first | refine T_seq ?_ | refine T_region ?_ | refine T_inBlock ?_ | refine TL_nil ?_ | refine TL_assign (hk := ?_))
        exact T_ret1 rfl rfl ⟨rfl, by omega, _, _, _, _, _, _, _, _, _, _, D8, H4, by simp [upd]; omega, by simp [upd]; omega, by omega, by omega⟩
      · have hsame := send_same hc
        rw [hsame] at D4
        have hc' : ¬ (((sendE eb bs).2 : Nat) : Int) = 0 := by omega
        repeat (first | refine T_seq ?_ | refine T_region ?_ | refine T_cond_false rfl ?_ | refine T_inBlock ?_ | refine T_skip ?_ | refine TL_eq_f (hk := ?_) | refine TL_nil ?_ | refine TL_assign (hk := ?_))
        exact T_ret1 rfl rfl ⟨rfl, by omega, _, _, _, _, _, _, _, _, _, _, D4, H, by omega, by omega, by omega, by omega⟩
    by_cases k2' : kd = 2
    · have hk4 := hk
      have hpD : pp ∉ ownB w1 fb ++ blkL (M.N 1).1 := fun q => by
        rcases List.mem_append.1 q with q | q
        · exact ownB_mem q ((D1.db pp).resolve_right (by rw [D1.C.gp]; decide))
        · have := D1.C.gN 1 pp q; rw [D1.C.gp] at this; omega
      have hol := outE_len eb
      have hfl' := ((Meet.wa H.swap).out hQ.1).fw
      have hnl' : (M.xs 1).length = (M.N 1).2.1 := by have := (D1.C.nw 1).len; simpa using this
      have hxl := D1.C.fl 1
      have hbp := D1.C.old pp (by rw [D1.C.gp]; decide)
      repeat (first | refine T_seq ?_ | refine T_region ?_ | refine T_cond_true rfl ?_ | refine T_cond_false rfl ?_ | refine T_block ?_ | refine TL_eq_t (hk := ?_) | refine TL_eq_f (hk := ?_) | refine TL_nil ?_ | refine TL_move (hk := ?_) | refine TL_assign (hk := ?_) | refine TL_load TE (hk := ?_) | refine TL_fieldAddr TE (hk := ?_) | refine TL_nilCheck (hk := ?_) | refine TL_indexArr TE (hk := ?_))
      refine T_region_anyz TE.mixed (ownB w1 fb ++ blkL (M.N 1).1) (some 14) ?_; intro w5 e5 z5
      have k5 := hk4.be e5
      have D5 := D1.ext e5
      have y5 := e5.size
      have inA : ∀ b, b < w5.heap.size → fb b ≠ 0 → b ∈ ownB w1 fb ++ blkL (M.N 1).1 := fun b q1 q2 => List.mem_append_left _ (ownB_in z5 b q1 q2)
      (refine TA_take 0 rfl (by kernel_rfl) (by kernel_rfl) (by kernel_rfl) ?_; (repeat (first | refine TL_move (hk := ?_) | refine TLP_load TE (hk := ?_) | refine TL_fieldAddr TE (hk := ?_) | refine TL_nilCheck (hk := ?_) | refine TL_indexArr TE (hk := ?_))); refine TL_nil_p ?_); (refine TA_take 1 rfl (by kernel_rfl) (by kernel_rfl) (by kernel_rfl) ?_; (repeat (first | refine TL_move (hk := ?_) | refine TLP_load TE (hk := ?_) | refine TL_fieldAddr TE (hk := ?_) | refine TL_nilCheck (hk := ?_) | refine TL_indexArr TE (hk := ?_))); refine TL_nil_p ?_); (refine TA_take 2 rfl (by kernel_rfl) (by kernel_rfl) (by kernel_rfl) ?_; (repeat (first | refine TL_move (hk := ?_) | refine TLP_load TE (hk := ?_) | refine TL_fieldAddr TE (hk := ?_) | refine TL_nilCheck (hk := ?_) | refine TL_indexArr TE (hk := ?_))); refine TL_nil_p ?_); (refine TA_take 3 rfl (by kernel_rfl) (by kernel_rfl) (by kernel_rfl) ?_; (repeat (first | refine TL_move (hk := ?_) | refine TLP_load TE (hk := ?_) | refine TL_fieldAddr TE (hk := ?_) | refine TL_nilCheck (hk := ?_) | refine TL_indexArr TE (hk := ?_))); refine TL_nil_p ?_); (refine TA_take 4 rfl (by kernel_rfl) (by kernel_rfl) (by kernel_rfl) ?_; (repeat (first | refine TL_move (hk := ?_) | refine TLP_load TE (hk := ?_) | refine TL_fieldAddr TE (hk := ?_) | refine TL_nilCheck (hk := ?_) | refine TL_indexArr TE (hk := ?_))); refine TL_nil_p ?_); (refine TA_take 5 rfl (by kernel_rfl) (by kernel_rfl) (by kernel_rfl) ?_; (repeat (first | refine TL_move (hk := ?_) | refine TLP_load TE (hk := ?_) | refine TL_fieldAddr TE (hk := ?_) | refine TL_nilCheck (hk := ?_) | refine TL_indexArr TE (hk := ?_))); refine TL_nil_p ?_); (refine TA_take 6 rfl (by kernel_rfl) (by kernel_rfl) (by kernel_rfl) ?_; (repeat (first | refine TL_move (hk := ?_) | refine TLP_load TE (hk := ?_) | refine TL_fieldAddr TE (hk := ?_) | refine TL_nilCheck (hk := ?_) | refine TL_indexArr TE (hk := ?_))); refine TL_nil_p ?_); (refine TA_take 7 rfl (by kernel_rfl) (by kernel_rfl) (by kernel_rfl) ?_; (repeat (first | refine TL_move (hk := ?_) | refine TLP_load TE (hk := ?_) | refine TL_fieldAddr TE (hk := ?_) | refine TL_nilCheck (hk := ?_) | refine TL_indexArr TE (hk := ?_))); refine TL_nil_p ?_); (refine TA_take 8 rfl (by kernel_rfl) (by kernel_rfl) (by kernel_rfl) ?_; (repeat (first | refine TL_move (hk := ?_) | refine TLP_load TE (hk := ?_) | refine TL_fieldAddr TE (hk := ?_) | refine TL_nilCheck (hk := ?_) | refine TL_indexArr TE (hk := ?_))); refine TL_nil_p ?_); (refine TA_take 11 rfl (by kernel_rfl) (by kernel_rfl) (by kernel_rfl) ?_; (repeat (first | refine TL_move (hk := ?_) | refine TLP_load TE (hk := ?_) | refine TL_fieldAddr TE (hk := ?_) | refine TL_nilCheck (hk := ?_) | refine TL_indexArr TE (hk := ?_))); refine TL_nil_p ?_); (refine TA_take 12 rfl (by kernel_rfl) (by kernel_rfl) (by kernel_rfl) ?_; (repeat (first | refine TL_move (hk := ?_) | refine TLP_load TE (hk := ?_) | refine TL_fieldAddr TE (hk := ?_) | refine TL_nilCheck (hk := ?_) | refine TL_indexArr TE (hk := ?_))); refine TL_nil_p ?_)
      refine TA_one 9 rfl (by kernel_rfl) (by kernel_rfl) ?_; (try refine TL_yes (hk := ?_)); refine TL_call TE (hc := (Out_c w5 D5.B D5.B.bw ok)) (hq := (by rintro _ w6 ⟨O, zs, m', f', rfl, h', t', _⟩; exact Turns.inD t' (Mod.refl _ _) inA)) (hk := ?_)
      rintro _ w6 ⟨O, zs, m6, f6, rfl, h6, t6, o6, fo6, fx6⟩
      have M6 := Turns.inD t6 (Mod.refl _ _) inA
      have D6 := D5.b h6 t6
      have k6 := Blk.turn k5 t6 ((D1.db pp).resolve_right (by rw [D1.C.gp]; decide))
      have hO1 := o6.own.len
      rw [slVs_length, Nat.mul_one] at hO1
      have hO2 := o6.bod.len
      have z6 := t6.2.2
      refine TL_nil_p ?_
      refine TA_one 10 rfl (by kernel_rfl) (by kernel_rfl) ?_
      refine TL_append TE (ho := D6.C.nw 1) (hr := o6.own.rd) (h1 := slVs_one _) (hf := rfl) (hq := fun w' m => M6.trans (m.mono (fun b q => .inl (List.mem_append_right _ q)))) (hk := ?_); intro A7 c7 w7 o7 m7 n7
      rw [← slVs_append] at o7
      have k7 := k6.mod m7 (fun q => hpD (List.mem_append_right _ q))
      have z7 := m7.size
      refine TL_nil_p ?_
      (refine TA_one 13 rfl (by kernel_rfl) (by kernel_rfl) ?_; (repeat (refine TL_indexArr TE (hk := ?_))); refine TL_nil_p ?_)
      refine TA_one 14 rfl (by kernel_rfl) (by kernel_rfl) ?_
      refine TL_store TE (hk := ?_); intro w8 m8 z8 k8
      refine TL_nil_z (by kernel_rfl) ?_
      have hzg : ∀ b ∈ blkS zs, g b = 0 := fun b q => zero_of (fun b q => (D5.C.old b q).2) (o6.bod.lt b q).1
      have hzb : ∀ b ∈ blkS zs, fa b = 0 := fun b q => zero_of (fun b q => (D5.A.ki.old b q).2) (o6.bod.lt b q).1
      obtain ⟨g8, C8, n8, S8, hm8, hs8⟩ := D6.C.out 1 (zs := zs) (fs := (outE eb).2) (y := (A7, (M.N 1).2.1 + O.2.1, c7)) (Mod.refl _ _) m7 o7 n7 m8 k8 o6.bod (by have := D1.C.old pp (by rw [D1.C.gp]; decide); omega) hzg
      have H4 := (Meet.out H.swap hQ.1).swap
      repeat (first | refine T_seq ?_ | refine T_region ?_ | refine T_inBlock ?_ | refine TL_nil ?_ | refine TL_assign (hk := ?_))
      exact T_ret1 rfl rfl ⟨rfl, by omega, _, _, _, _, _, _, _, _, _, _, D6.cx C8 hm8 hs8 n8 (by first | exact fx6 | exact hzb) (by first | exact hzb | exact fx6), H4, by omega, by omega, by simp [upd]; omega, by simp [upd]; omega⟩
    by_cases k3' : kd = 3
    · have hk4 := hk
      have hnl' : (M.xs 0).length = (M.N 0).2.1 := by have := (D1.C.nw 0).len; simpa using this
      have hxl := D1.C.fl 0
      by_cases p0 : 0 ≤ pl
      · obtain ⟨j, rfl⟩ := Int.eq_ofNat_of_zero_le p0
        by_cases p1 : j < (M.N 0).2.1
        · have hge : (j : Int) ≥ 0 := by omega
          have hlt : (j : Int) < ((M.N 0).2.1 : Int) := by omega
          repeat (first | refine T_seq ?_ | refine T_region ?_ | refine T_region_q TE.mixed (by kernel_rfl) ?_ | refine T_cond_true rfl ?_ | refine T_cond_false rfl ?_ | refine T_block ?_ | refine TL_sub (hk := ?_) | refine TL_lt_t (hk := ?_) | refine TL_ge_t (hk := ?_) | refine TL_eq_t (hk := ?_) | refine TL_eq_f (hk := ?_) | refine TL_nil ?_ | refine TL_move (hk := ?_) | refine TL_assign (hk := ?_) | refine TL_load TE (hk := ?_) | refine TL_fieldAddr TE (hk := ?_) | refine TL_len TE (hk := ?_) | refine TL_yes (hk := ?_) | refine TL_pick_t (hk := ?_) | refine TL_nilCheck (hk := ?_) | refine TL_indexArr TE (hk := ?_))
          refine TL_nil_q ?_; intro w4 e4
          have y4 := e4.size
          have D4 := D1.ext e4
          have k14 := k1.be e4
          have k4 := hk4.be e4
          have nw4 := (D4.C.nw 0).rd
          have hbd := D4.C.fr 0 j (by omega)
          have hfr : (Fr 0).getD j [] ∈ Fr 0 := getMem (by omega)
          obtain ⟨H4, r4, r4'⟩ := Meet.recv H.swap hV.2 hfr
          have hv := slVs_get (M.xs 0) j (by omega)
          have hgF := D4.C.gF 0 j (by omega)
          have hNn : (M.N 0).1 ≠ none := by obtain ⟨_, _, hq, _⟩ := nw4.2 (by omega); rw [hq]; simp
          have hul : ((Fr 0).getD j []).length = ((M.xs 0).getD j (none, 0, 0)).2.1 := by have := hbd.1; simpa using this
          have hgood : ((Fr 0).getD j []).length ≤ 70000 := by
            obtain ⟨_, e⟩ := Meet.e H.swap
            have e2 := e.nl
            have e3 := (Meet.d H.swap).choose_spec.ex
            have e4 := Meet.left H.swap
            exact GoodF.short (Meet.g H.swap _ hfr) e.len (by have := Meet.hM H.swap; omega) (by have := (Meet.d H.swap).choose_spec.exl; have := Meet.hL H.swap; omega)
          generalize (M.xs 0).getD j (none, 0, 0) = u at hv hbd hgF hul
          generalize (Fr 0).getD j [] = fr at H4 r4 r4' hbd hul hgood
          have hpD : pp ∉ ownB w4 fb := fun q => ownB_mem q ((D1.db pp).resolve_right (by rw [D1.C.gp]; decide))
          have hbD : b1 ∉ ownB w4 fb := fun q => ownB_mem q hbb
          have hND : Off (M.N 0).1 (ownB w4 fb) := off_of fun b q q' => ownB_mem q' ((D1.db b).resolve_right (by rw [D1.C.gN 0 b q]; omega))
          have huD : Off u.1 (ownB w4 fb) := off_of fun b q q' => ownB_mem q' ((D1.db b).resolve_right (by rw [hgF b q]; omega))
          have hone := bv_one fr
          repeat (first | refine T_seq ?_ | refine T_cond_true rfl ?_)
          refine T_region_any TE.mixed (ownB w4 fb) ?_; intro w5 e5 z5
          have k5 := k4.be e5
          have k15 := k14.be e5
          have nw5 := nw4.be e5
          have D5 := D4.ext e5
          have hb5 := hbd.be e5
          (refine TA_take 0 rfl (by kernel_rfl) (by kernel_rfl) (by kernel_rfl) ?_; (repeat (first | refine TL_sub (hk := ?_) | refine TL_move (hk := ?_) | refine TLP_load TE (hk := ?_) | refine TLP_load_rd TE (hk := ?_) | refine TL_fieldAddr TE (hk := ?_) | refine TL_indexAddr1n TE (hk := ?_) | refine TL_nilCheck (hk := ?_) | refine TL_indexArr TE (hk := ?_))); refine TL_nil_p ?_); (refine TA_take 2 rfl (by kernel_rfl) (by kernel_rfl) (by kernel_rfl) ?_; (repeat (first | refine TL_sub (hk := ?_) | refine TL_move (hk := ?_) | refine TLP_load TE (hk := ?_) | refine TLP_load_rd TE (hk := ?_) | refine TL_fieldAddr TE (hk := ?_) | refine TL_indexAddr1n TE (hk := ?_) | refine TL_nilCheck (hk := ?_) | refine TL_indexArr TE (hk := ?_))); refine TL_nil_p ?_); (refine TA_take 3 rfl (by kernel_rfl) (by kernel_rfl) (by kernel_rfl) ?_; (repeat (first | refine TL_sub (hk := ?_) | refine TL_move (hk := ?_) | refine TLP_load TE (hk := ?_) | refine TLP_load_rd TE (hk := ?_) | refine TL_fieldAddr TE (hk := ?_) | refine TL_indexAddr1n TE (hk := ?_) | refine TL_nilCheck (hk := ?_) | refine TL_indexArr TE (hk := ?_))); refine TL_nil_p ?_); (refine TA_take 4 rfl (by kernel_rfl) (by kernel_rfl) (by kernel_rfl) ?_; (repeat (first | refine TL_sub (hk := ?_) | refine TL_move (hk := ?_) | refine TLP_load TE (hk := ?_) | refine TLP_load_rd TE (hk := ?_) | refine TL_fieldAddr TE (hk := ?_) | refine TL_indexAddr1n TE (hk := ?_) | refine TL_nilCheck (hk := ?_) | refine TL_indexArr TE (hk := ?_))); refine TL_nil_p ?_); (refine TA_take 5 rfl (by kernel_rfl) (by kernel_rfl) (by kernel_rfl) ?_; (repeat (first | refine TL_sub (hk := ?_) | refine TL_move (hk := ?_) | refine TLP_load TE (hk := ?_) | refine TLP_load_rd TE (hk := ?_) | refine TL_fieldAddr TE (hk := ?_) | refine TL_indexAddr1n TE (hk := ?_) | refine TL_nilCheck (hk := ?_) | refine TL_indexArr TE (hk := ?_))); refine TL_nil_p ?_); (refine TA_take 6 rfl (by kernel_rfl) (by kernel_rfl) (by kernel_rfl) ?_; (repeat (first | refine TL_sub (hk := ?_) | refine TL_move (hk := ?_) | refine TLP_load TE (hk := ?_) | refine TLP_load_rd TE (hk := ?_) | refine TL_fieldAddr TE (hk := ?_) | refine TL_indexAddr1n TE (hk := ?_) | refine TL_nilCheck (hk := ?_) | refine TL_indexArr TE (hk := ?_))); refine TL_nil_p ?_); (refine TA_take 7 rfl (by kernel_rfl) (by kernel_rfl) (by kernel_rfl) ?_; (repeat (first | refine TL_sub (hk := ?_) | refine TL_move (hk := ?_) | refine TLP_load TE (hk := ?_) | refine TLP_load_rd TE (hk := ?_) | refine TL_fieldAddr TE (hk := ?_) | refine TL_indexAddr1n TE (hk := ?_) | refine TL_nilCheck (hk := ?_) | refine TL_indexArr TE (hk := ?_))); refine TL_nil_p ?_); (refine TA_take 8 rfl (by kernel_rfl) (by kernel_rfl) (by kernel_rfl) ?_; (repeat (first | refine TL_sub (hk := ?_) | refine TL_move (hk := ?_) | refine TLP_load TE (hk := ?_) | refine TLP_load_rd TE (hk := ?_) | refine TL_fieldAddr TE (hk := ?_) | refine TL_indexAddr1n TE (hk := ?_) | refine TL_nilCheck (hk := ?_) | refine TL_indexArr TE (hk := ?_))); refine TL_nil_p ?_); (refine TA_take 9 rfl (by kernel_rfl) (by kernel_rfl) (by kernel_rfl) ?_; (repeat (first | refine TL_sub (hk := ?_) | refine TL_move (hk := ?_) | refine TLP_load TE (hk := ?_) | refine TLP_load_rd TE (hk := ?_) | refine TL_fieldAddr TE (hk := ?_) | refine TL_indexAddr1n TE (hk := ?_) | refine TL_nilCheck (hk := ?_) | refine TL_indexArr TE (hk := ?_))); refine TL_nil_p ?_); (refine TA_take 10 rfl (by kernel_rfl) (by kernel_rfl) (by kernel_rfl) ?_; (repeat (first | refine TL_sub (hk := ?_) | refine TL_move (hk := ?_) | refine TLP_load TE (hk := ?_) | refine TLP_load_rd TE (hk := ?_) | refine TL_fieldAddr TE (hk := ?_) | refine TL_indexAddr1n TE (hk := ?_) | refine TL_nilCheck (hk := ?_) | refine TL_indexArr TE (hk := ?_))); refine TL_nil_p ?_); (refine TA_take 11 rfl (by kernel_rfl) (by kernel_rfl) (by kernel_rfl) ?_; (repeat (first | refine TL_sub (hk := ?_) | refine TL_move (hk := ?_) | refine TLP_load TE (hk := ?_) | refine TLP_load_rd TE (hk := ?_) | refine TL_fieldAddr TE (hk := ?_) | refine TL_indexAddr1n TE (hk := ?_) | refine TL_nilCheck (hk := ?_) | refine TL_indexArr TE (hk := ?_))); refine TL_nil_p ?_); (refine TA_take 12 rfl (by kernel_rfl) (by kernel_rfl) (by kernel_rfl) ?_; (repeat (first | refine TL_sub (hk := ?_) | refine TL_move (hk := ?_) | refine TLP_load TE (hk := ?_) | refine TLP_load_rd TE (hk := ?_) | refine TL_fieldAddr TE (hk := ?_) | refine TL_indexAddr1n TE (hk := ?_) | refine TL_nilCheck (hk := ?_) | refine TL_indexArr TE (hk := ?_))); refine TL_nil_p ?_)
          refine TA_one 1 rfl (by kernel_rfl) (by kernel_rfl) ?_
          refine TL_buildSlice0 TE (hf := rfl) (hq := fun w' h => Ext.un h) (hk := ?_); intro b6 w6 e6 h6 h6' k6
          have o6 : Own w6 w5.heap.size 5 1 (some ⟨b6, 0, none⟩) 0 0 [] := Own.of_blk k6 h6 rfl (by decide)
          have hb6 := hb5.be e6
          have z6 := e6.size
          refine TL_nil_p ?_
          refine TA_one 13 rfl (by kernel_rfl) (by kernel_rfl) ?_
          refine TL_append TE (ho := o6) (hr := hb6) (h1 := hone) (hf := rfl) (hq := fun w' m => Ext.un (Mod.own e6 m o6.hi)) (hk := ?_); intro A7 c7 w7 o7 m7 n7
          rw [List.nil_append] at o7
          have e57 : Ext w5 w7 := Mod.own e6 m7 o6.hi
          have D7 := D5.ext e57
          have y5 := e5.size
          have y7 := e57.size
          have hcap := o7.cap.1
          refine TL_nil_p ?_
          refine TA_one 14 rfl (by kernel_rfl) (by kernel_rfl) ?_; (try refine TL_yes (hk := ?_)); refine TL_call TE (hc := (Receive_c A7 (0 + u.2.1) c7 fr _ D7.B D7.B.bw ok o7.rd (by omega) hcap)) (hq := (by rintro _ w8 ⟨rfl, m', f', h', t'⟩; exact Turns.inD t' (Ext.un e57) (ownB_in z5))) (hk := ?_)
          rintro _ w8 ⟨rfl, m8, f8, h8, t8⟩
          have D8 := D7.b h8 t8
          have y8 := t8.2.2
          refine TL_nil_p ?_
          (refine TA_one 15 rfl (by kernel_rfl) (by kernel_rfl) ?_; (repeat (refine TL_assign (hk := ?_))); refine TL_nil_p ?_)
          refine TA_done (by kernel_rfl) ?_
          rcases r4 with r4 | r4
          · rw [r4]
            repeat (first | refine T_seq ?_ | refine T_region ?_ | refine TL_move (hk := ?_))
            refine TL_call TE (hc := num_c26 _ _) (hk := ?_)
            rintro _ w8 ⟨rfl, rfl⟩
            repeat (first | refine T_seq ?_ | refine T_region ?_ | refine T_cond_false rfl ?_ | refine T_inBlock ?_ | refine T_skip ?_ | refine TL_ne_f (hk := ?_) | refine TL_nil ?_ | refine TL_move (hk := ?_) | refine TL_assign (hk := ?_) | refine TL_no (hk := ?_) | refine TL_pick_f (hk := ?_))
            exact T_ret1 rfl rfl ⟨rfl, by omega, _, _, _, _, _, _, _, _, _, _, D8, H4.swap, by omega, by omega, by omega, by omega⟩
          · have hal' : al = false := by
              cases al with
              | false => rfl
              | true => have := r4' (by have := hal rfl; omega); omega
            rw [r4, hal']
            repeat (first | refine T_seq ?_ | refine T_region ?_ | refine TL_move (hk := ?_))
            refine TL_call TE (hc := num_c26 _ _) (hk := ?_)
            rintro _ w8 ⟨rfl, rfl⟩
            repeat (first | refine TL_ne_t (hk := ?_) | refine TL_move (hk := ?_) | refine TL_yes (hk := ?_))
            refine TL_call TE (hc := num_c26 _ _) (hk := ?_)
            rintro _ w8 ⟨rfl, rfl⟩
            repeat (first | refine T_seq ?_ | refine T_region ?_ | refine T_cond_false rfl ?_ | refine T_inBlock ?_ | refine T_skip ?_ | refine TL_ne_f (hk := ?_) | refine TL_nil ?_ | refine TL_assign (hk := ?_) | refine TL_yes (hk := ?_) | refine TL_pick_t (hk := ?_) | refine TL_pick_f (hk := ?_))
            exact T_ret1 rfl rfl ⟨rfl, by omega, _, _, _, _, _, _, _, _, _, _, D8, H4.swap, by omega, by omega, by omega, by omega⟩
        · have hge : (j : Int) ≥ 0 := by omega
          have hlt : ¬ (j : Int) < ((M.N 0).2.1 : Int) := by omega
          repeat (first | refine T_seq ?_ | refine T_region ?_ | refine T_region_q TE.mixed (by kernel_rfl) ?_ | refine T_cond_true rfl ?_ | refine T_cond_false rfl ?_ | refine T_block ?_ | refine TL_sub (hk := ?_) | refine TL_lt_f (hk := ?_) | refine TL_ge_t (hk := ?_) | refine TL_eq_t (hk := ?_) | refine TL_eq_f (hk := ?_) | refine TL_nil ?_ | refine TL_move (hk := ?_) | refine TL_assign (hk := ?_) | refine TL_load TE (hk := ?_) | refine TL_fieldAddr TE (hk := ?_) | refine TL_len TE (hk := ?_) | refine TL_yes (hk := ?_) | refine TL_pick_t (hk := ?_) | refine TL_nilCheck (hk := ?_) | refine TL_indexArr TE (hk := ?_))
          refine TL_nil_q ?_; intro w4 e4
          have y4 := e4.size
          repeat (first | refine T_seq ?_ | refine T_region ?_ | refine T_cond_false rfl ?_ | refine T_inBlock ?_ | refine T_skip ?_ | refine TL_nil ?_ | refine TL_assign (hk := ?_))
          exact T_ret1 rfl rfl ⟨rfl, by omega, hmp _ (D1.ext e4)⟩
      · have hge : ¬ pl ≥ 0 := by omega
        repeat (first | refine T_seq ?_ | refine T_region ?_ | refine T_region_q TE.mixed (by kernel_rfl) ?_ | refine T_cond_true rfl ?_ | refine T_cond_false rfl ?_ | refine T_block ?_ | refine TL_ge_f (hk := ?_) | refine TL_eq_t (hk := ?_) | refine TL_eq_f (hk := ?_) | refine TL_nil ?_ | refine TL_move (hk := ?_) | refine TL_assign (hk := ?_) | refine TL_load TE (hk := ?_) | refine TL_fieldAddr TE (hk := ?_) | refine TL_no (hk := ?_) | refine TL_pick_f (hk := ?_) | refine TL_nilCheck (hk := ?_) | refine TL_indexArr TE (hk := ?_))
        refine TL_nil_q ?_; intro w4 e4
        have y4 := e4.size
        repeat (first | refine T_seq ?_ | refine T_region ?_ | refine T_cond_false rfl ?_ | refine T_inBlock ?_ | refine T_skip ?_ | refine TL_nil ?_ | refine TL_assign (hk := ?_))
        exact T_ret1 rfl rfl ⟨rfl, by omega, hmp _ (D1.ext e4)⟩
    by_cases k4' : kd = 4
    · repeat (first | refine T_seq ?_ | refine T_region ?_ | refine T_cond_true rfl ?_ | refine T_cond_false rfl ?_ | refine T_block ?_ | refine TL_eq_t (hk := ?_) | refine TL_eq_f (hk := ?_) | refine TL_nil ?_ | refine TL_move (hk := ?_) | refine TL_assign (hk := ?_) | refine TL_load TE (hk := ?_) | refine TL_fieldAddr TE (hk := ?_) | refine TL_nilCheck (hk := ?_) | refine TL_indexArr TE (hk := ?_))
      refine TL_call TE (hc := told1_c _ D1 H) (hk := ?_)
      rintro _ w2 ⟨rfl, y2, m2, f2, T2, D2, H2, -, -⟩
      repeat (first | refine TL_nil ?_ | refine TL_assign (hk := ?_))
      exact T_ret1 rfl rfl ⟨rfl, by omega, _, _, _, _, _, _, _, _, _, _, D2, H2, by omega, by omega, by omega, by omega⟩
    by_cases k5' : kd = 5
    · repeat (first | refine T_seq ?_ | refine T_region ?_ | refine T_cond_true rfl ?_ | refine T_cond_false rfl ?_ | refine T_block ?_ | refine TL_eq_t (hk := ?_) | refine TL_eq_f (hk := ?_) | refine TL_nil ?_ | refine TL_move (hk := ?_) | refine TL_assign (hk := ?_) | refine TL_load TE (hk := ?_) | refine TL_fieldAddr TE (hk := ?_) | refine TL_nilCheck (hk := ?_) | refine TL_indexArr TE (hk := ?_))
      refine TL_call TE (hc := Tick_c _ D1.B (by omega) (fun q hq => (ok.fb q hq).2.2)) (hk := ?_)
      rintro _ w2 ⟨m2, h2, t2⟩
      have y2 := t2.2.2
      have H4 := (Meet.tick H.swap hQ.1).swap
      repeat (first | refine T_seq ?_ | refine T_region ?_ | refine T_inBlock ?_ | refine TL_nil ?_ | refine TL_assign (hk := ?_))
      exact T_ret1 rfl rfl ⟨rfl, by omega, _, _, _, _, _, _, _, _, _, _, D1.b h2 t2, H4, by omega, by omega, by omega, by omega⟩
    repeat (first | refine T_seq ?_ | refine T_region ?_ | refine T_cond_false rfl ?_ | refine T_block ?_ | refine T_inBlock ?_ | refine T_skip ?_ | refine TL_eq_f (hk := ?_) | refine TL_nil ?_ | refine TL_move (hk := ?_) | refine TL_assign (hk := ?_) | refine TL_load TE (hk := ?_) | refine TL_fieldAddr TE (hk := ?_) | refine TL_nilCheck (hk := ?_) | refine TL_indexArr TE (hk := ?_))
    exact T_ret1 rfl rfl ⟨rfl, by omega, hmp _ D1⟩
end Go.Proofs.Ytjjgojgahibpgaa

namespace Go.Proofs.Ytjjgojgahibpgaa
open Go.RowKit Go.Proofs.Eng Go.Proofs.Codec Go.Proofs.Link
set_option linter.unusedSimpArgs false
set_option linter.unusedVariables false set_option maxRecDepth 10000
attribute [local irreducible] T TL LV TH TA
set_option maxHeartbeats 3200000
/-- What is new since w0. -/
def newB (w0 w : World) : List Nat := (List.range w.heap.size).filter fun b => decide (w0.heap.size ≤ b)
theorem Mod.fresh {w0 w4 w5 w' : World} (e1 : Ext w0 w5) (e2 : Ext w0 w') (z4 : w5.heap.size = w4.heap.size) (z : w5.heap.size ≤ w'.heap.size) : Eng.Mod (newB w0 w4) w5 w' :=
  ⟨e2.os.trans e1.os.symm, e2.tape.trans e1.tape.symm, e2.output.trans e1.output.symm, z, fun k hk hn => by
    have hlt : k < w0.heap.size := by
      rcases Nat.lt_or_ge k w0.heap.size with q | q
      · exact q
      · exact absurd (List.mem_filter.2 ⟨List.mem_range.2 (by omega), by simpa using q⟩) hn
    rw [e2.block k hlt (by simp), e1.block k hlt (by simp)]⟩
theorem MP.e {w0 w : World} {W P V Q ba pa bb pb bp pp i : Nat} (h : MP w0 w W P V Q ba pa bb pb bp pp i) : Ext w0 w := by
  obtain ⟨ma, fa, ea, mb, fb, eb, M, Fr, L, g, D, _⟩ := h
  exact D.e
theorem MP.ext {w0 w w' : World} {W P V Q ba pa bb pb bp pp i : Nat} (h : MP w0 w W P V Q ba pa bb pb bp pp i) (e : Ext w w') : MP w0 w' W P V Q ba pa bb pb bp pp i := by
  obtain ⟨ma, fa, ea, mb, fb, eb, M, Fr, L, g, D, r⟩ := h
  exact ⟨ma, fa, ea, mb, fb, eb, M, Fr, L, g, D.ext e, r⟩
theorem MP.start {w0 w : World} {W P V Q ba pa bb pb bp pp : Nat} {ma mb : EM} {fa fb g : Nat → Nat} (h : P3 w0 w ba pa ma fa (nE W P) bb pb mb fb (nE V Q) bp pp PM0 (fun _ => []) (fun _ => []) g) : MP w0 w W P V Q ba pa bb pb bp pp 0 :=
  ⟨_, _, _, _, _, _, _, _, _, _, h, Meet.start, by simp, by simp, by simp, by simp⟩
end Go.Proofs.Ytjjgojgahibpgaa

namespace Go.Proofs.Ytjjgojgahibpgaa
open Go.RowKit Go.Proofs.Eng Go.Proofs.Codec Go.Proofs.Link
set_option linter.unusedSimpArgs false
set_option linter.unusedVariables false set_option maxRecDepth 10000
attribute [local irreducible] T TL LV TH TA
set_option maxHeartbeats 6400000
theorem recvs_take (s : ES) (l : List Bs) (i : Nat) (h : i < l.length) : recvs s (l.take (i + 1)) = (recvE (recvs s (l.take i)) (l.getD i [])).1 := by
  rw [List.take_succ_eq_append_getElem h, recvs_snoc, List.getD_eq_getElem?_getD, List.getElem?_eq_getElem h]
  rfl
theorem Meet.recvs {W P V Q : Nat} {L M : List Bs} {T U : Nat} {F G : List Bs} {a b : ES} (hV : V ≤ 256) : ∀ (l : List Bs), (∀ x ∈ l, x ∈ F) → Meet W P V Q L M T U F G a b → Meet W P V Q L M T U F G a (Go.Proofs.Ytjjgojgahibpgaa.recvs b l)
  | [], _, h => h
  | x :: l, hx, h => Meet.recvs hV l (fun y hy => hx y (List.mem_cons_of_mem _ hy)) (h.swap.recv hV (hx x List.mem_cons_self)).1.swap
theorem OutP.get {w : World} {B : Nat} {O : SV} {xs : List SV} {bs : List Bs} (h : OutP w B O xs bs) {i : Nat} (hi : i < bs.length) : Body w B (xs.getD i (none, 0, 0)) (bs.getD i []) ∧ i < xs.length := by
  have hl := h.bod.len
  exact ⟨Bods.get i h.bod (by omega), by omega⟩
section
variable {w0 : World} {W P V Q ba pa bb pb bp pp : Nat} {ma mb : EM} {fa fb : Nat → Nat} {ea eb : ES} {M : PM} {Fr L : Nat → List Bs} {g : Nat → Nat}
theorem round_c {F G : List Bs} (w : World) (D : P3 w0 w ba pa ma fa ea bb pb mb fb eb bp pp M Fr L g) (H : Meet W P V Q (L 0) (L 1) (M.T 0) (M.T 1) F G ea eb) (hW : 1 ≤ W ∧ W ≤ 256) (hV : 1 ≤ V ∧ V ≤ 256) (hP : 1 ≤ P ∧ P ≤ 1000) (hQ : 1 ≤ Q ∧ Q ≤ 1000) :
    Ret Try.prog 42 [ptr pp, .agg #[.int .i64 (P : Int), .int .i64 (Q : Int)]] w (fun v w' => ∃ ma' fa' mb' fb', P3 w0 w' ba pa ma' fa' (roundE P Q ea eb).1 bb pb mb' fb' (roundE P Q ea eb).2 bp pp M Fr L g) := by
  have HR := round_good hP.1 hQ.1 hW hV H
  have Ha := H.ticks hP.1 P
  have Hb := (Ha.swap.ticks hQ.1 Q).swap
  have Hda := ticks_due (P := P) H.wa.pa (fun q hq => (H.wa.fb q hq).2.2)
  have Hdb := ticks_due (P := Q) H.wb.pa (fun q hq => (H.wb.fb q hq).2.2)
  refine ret_T (n := 56) Try.func42 rfl rfl ?_
  repeat (first | refine T_seq ?_ | refine T_region ?_)
  refine TL_box (hk := ?_); intro b1 w1 e1 h1 h1' k1
  replace k1 : Blk w1 b1 41 [.int .i64 (P : Int), .int .i64 (Q : Int)] := k1
  have D1 := D.ext e1
  have hba : fa b1 = 0 := zero_of (fun b q => (D.A.ki.old b q).2) h1
  have hbb : fb b1 = 0 := zero_of (fun b q => (D.B.ki.old b q).2) h1
  clear D e1
  repeat (first | refine T_seq ?_ | refine T_region ?_ | refine T_block ?_ | refine TL_nil ?_ | refine TL_assign (hk := ?_))
  refine T_loop (ι := Nat × ES × ES) (fun i => [(4, .int .i64 (i.1 : Int)), (0, ptr pp), (3, ptr b1)]) (fun i w' => i.1 ≤ 2 ∧ i.2.1 = (if i.1 = 0 then ea else ticks P ea) ∧ i.2.2 = (if i.1 ≤ 1 then eb else ticks Q eb) ∧ ∃ ma fa mb fb, P3 w0 w' ba pa ma fa i.2.1 bb pb mb fb i.2.2 bp pp M Fr L g ∧ fa b1 = 0 ∧ fb b1 = 0 ∧ Blk w' b1 41 [.int .i64 (P : Int), .int .i64 (Q : Int)]) (fun i => 2 - i.1) (0, ea, eb) (.c rfl (.c rfl (.c rfl (.n)))) ⟨by omega, rfl, rfl, ma, fa, mb, fb, D1, hba, hbb, k1⟩ ?_
  clear D1 hba hbb k1
  rintro ⟨i, xa, xb⟩ w2 ⟨hi, hxa, hxb, ma2, fa2, mb2, fb2, D2, hba2, hbb2, k2⟩ ih
  simp only at hi hxa hxb D2 ih ⊢
  by_cases hlt : i < 2
  · repeat (first | refine T_seq ?_ | refine T_region ?_ | refine T_cond_true rfl ?_ | refine T_block ?_ | refine T_skip ?_ | refine TL_lt_t (hk := ?_) | refine TL_nil ?_ | refine TL_move (hk := ?_) | refine TL_assign (hk := ?_))
    obtain rfl | rfl : i = 0 ∨ i = 1 := by omega
    · simp at hxa hxb
      rw [hxa, hxb] at D2
      clear hxa hxb
      refine T_loop (ι := Nat) (fun j => [(5, .int .i64 (j : Int)), (4, .int .i64 ((0 : Nat) : Int)), (0, ptr pp), (3, ptr b1)]) (fun j w' => j ≤ P ∧ ∃ x ma fa mb fb, x = ticks j ea ∧ P3 w0 w' ba pa ma fa x bb pb mb fb eb bp pp M Fr L g ∧ fa b1 = 0 ∧ fb b1 = 0 ∧ Blk w' b1 41 [.int .i64 (P : Int), .int .i64 (Q : Int)]) (fun j => P - j) 0 (.c rfl (.c rfl (.c rfl (.c rfl (.n))))) ⟨Nat.zero_le _, _, ma2, fa2, mb2, fb2, rfl, D2, hba2, hbb2, k2⟩ ?_
      clear D2 hba2 hbb2 k2
      rintro j w3 ⟨hj, x, ma3, fa3, mb3, fb3, hx, D3, hba3, hbb3, k3⟩ ih2
      have hk := D3.C.blk
      simp only [pairV] at hk
      by_cases hjp : j < P
      · have hH := Meet.ticks (by omega) H j
        have hfl := hH.wa.fw
        have hfb := hH.wa.fb
        rw [← hx] at hfl hfb
        repeat (first | refine T_seq ?_ | refine T_region ?_ | refine T_cond_true rfl ?_ | refine T_block ?_ | refine T_skip ?_ | refine TL_lt_t (hk := ?_) | refine TL_nil ?_ | refine TL_move (hk := ?_) | refine TL_load TE (hk := ?_) | refine TL_fieldAddr TE (hk := ?_) | refine TL_nilCheck (hk := ?_) | refine TL_indexArr TE (hk := ?_))
        refine TL_call TE (hc := Tick_c _ D3.A (by omega) (fun q hq => by have := (hfb q hq).2.2; omega)) (hk := ?_)
        rintro _ w4 ⟨m4, h4, t4⟩
        have D4 := D3.a h4 t4
        have k4 := Blk.turn k3 t4 hba3
        repeat (first | refine T_region ?_ | refine T_inBlock ?_ | refine TL_add (hk := ?_) | refine TL_nil ?_ | refine TL_move (hk := ?_) | refine TL_assign (hk := ?_))
        exact ih2 (j + 1) w4 _ (by omega) ⟨by omega, _, _, _, _, _, by rw [hx]; rfl, D4, hba3, hbb3, k4⟩ (.c rfl (.c rfl (.c rfl (.c rfl (.n)))))
      · clear ih2
        have hjq : j = P := by omega
        rw [hjq] at hx
        subst hx
        repeat (first | refine T_seq ?_ | refine T_region ?_ | refine T_cond_false rfl ?_ | refine T_inBlock ?_ | refine T_exit rfl ?_ | refine TL_add (hk := ?_) | refine TL_lt_f (hk := ?_) | refine TL_nil ?_ | refine TL_move (hk := ?_) | refine TL_assign (hk := ?_) | refine TL_load TE (hk := ?_) | refine TL_indexArr TE (hk := ?_))
        exact ih (1, ticks P ea, eb) w3 _ (by simp) ⟨by simp, by simp, by simp, _, _, _, _, D3, hba3, hbb3, k3⟩ (.c rfl (.c rfl (.c rfl (.n))))
    · simp at hxa hxb
      rw [hxa, hxb] at D2
      clear hxa hxb
      refine T_loop (ι := Nat) (fun j => [(5, .int .i64 (j : Int)), (4, .int .i64 ((1 : Nat) : Int)), (0, ptr pp), (3, ptr b1)]) (fun j w' => j ≤ Q ∧ ∃ x ma fa mb fb, x = ticks j eb ∧ P3 w0 w' ba pa ma fa (ticks P ea) bb pb mb fb x bp pp M Fr L g ∧ fa b1 = 0 ∧ fb b1 = 0 ∧ Blk w' b1 41 [.int .i64 (P : Int), .int .i64 (Q : Int)]) (fun j => Q - j) 0 (.c rfl (.c rfl (.c rfl (.c rfl (.n))))) ⟨Nat.zero_le _, _, ma2, fa2, mb2, fb2, rfl, D2, hba2, hbb2, k2⟩ ?_
      clear D2 hba2 hbb2 k2
      rintro j w3 ⟨hj, x, ma3, fa3, mb3, fb3, hx, D3, hba3, hbb3, k3⟩ ih2
      have hk := D3.C.blk
      simp only [pairV] at hk
      by_cases hjp : j < Q
      · have hH := Meet.ticks (by omega) H.swap j
        have hfl := hH.wa.fw
        have hfb := hH.wa.fb
        rw [← hx] at hfl hfb
        repeat (first | refine T_seq ?_ | refine T_region ?_ | refine T_cond_true rfl ?_ | refine T_block ?_ | refine T_skip ?_ | refine TL_lt_t (hk := ?_) | refine TL_nil ?_ | refine TL_move (hk := ?_) | refine TL_load TE (hk := ?_) | refine TL_fieldAddr TE (hk := ?_) | refine TL_nilCheck (hk := ?_) | refine TL_indexArr TE (hk := ?_))
        refine TL_call TE (hc := Tick_c _ D3.B (by omega) (fun q hq => by have := (hfb q hq).2.2; omega)) (hk := ?_)
        rintro _ w4 ⟨m4, h4, t4⟩
        have D4 := D3.b h4 t4
        have k4 := Blk.turn k3 t4 hbb3
        repeat (first | refine T_region ?_ | refine T_inBlock ?_ | refine TL_add (hk := ?_) | refine TL_nil ?_ | refine TL_move (hk := ?_) | refine TL_assign (hk := ?_))
        exact ih2 (j + 1) w4 _ (by omega) ⟨by omega, _, _, _, _, _, by rw [hx]; rfl, D4, hba3, hbb3, k4⟩ (.c rfl (.c rfl (.c rfl (.c rfl (.n)))))
      · clear ih2
        have hjq : j = Q := by omega
        rw [hjq] at hx
        subst hx
        repeat (first | refine T_seq ?_ | refine T_region ?_ | refine T_cond_false rfl ?_ | refine T_inBlock ?_ | refine T_exit rfl ?_ | refine TL_add (hk := ?_) | refine TL_lt_f (hk := ?_) | refine TL_nil ?_ | refine TL_move (hk := ?_) | refine TL_assign (hk := ?_) | refine TL_load TE (hk := ?_) | refine TL_indexArr TE (hk := ?_))
        exact ih (2, ticks P ea, ticks Q eb) w3 _ (by simp) ⟨by simp, by simp, by simp, _, _, _, _, D3, hba3, hbb3, k3⟩ (.c rfl (.c rfl (.c rfl (.n))))
  · clear ih
    obtain rfl : i = 2 := by omega
    simp at hxa hxb
    rw [hxa, hxb] at D2
    clear hxa hxb hba2 hbb2 k2
    unfold roundE
    obtain ⟨H2, -⟩ := half hP.1 hV Hb Hda
    have H1o := Hb.out hP.1
    simp only
    generalize hA1 : ticks P ea = A1 at D2 Hda Hb H2 H1o
    generalize hB1 : ticks Q eb = B1 at D2 Hdb Hb H2 H1o
    have H2o := (H2.swap.out hQ.1).swap
    have k1 := Hb.wa.ok hW hP (by omega)
    have k2 := H2.wb.ok hV hQ (by omega)
    generalize hB2 : recvs B1 (outE A1).2 = B2 at H2 H2o k2
    clear Ha Hda Hdb H2 H HR
    repeat (first | refine T_seq ?_ | refine T_region ?_ | refine T_cond_false rfl ?_ | refine T_block ?_ | refine T_exit rfl ?_ | refine TL_lt_f (hk := ?_) | refine TL_nil ?_ | refine TL_move (hk := ?_) | refine TL_assign (hk := ?_))
    refine T_loop (ι := Nat × ES × ES) (fun i => [(6, .int .i64 (i.1 : Int)), (0, ptr pp)]) (fun i w' => i.1 ≤ 2 ∧ i.2 = (if i.1 = 0 then (A1, B1) else if i.1 = 1 then ((outE A1).1, B2) else (recvs (outE A1).1 (outE B2).2, (outE B2).1)) ∧ ∃ ma fa mb fb, P3 w0 w' ba pa ma fa i.2.1 bb pb mb fb i.2.2 bp pp M Fr L g) (fun i => 2 - i.1) (0, A1, B1) (.c rfl (.c rfl (.n))) ⟨by omega, rfl, ma2, fa2, mb2, fb2, D2⟩ ?_
    clear D2
    rintro ⟨i, ss⟩ w3 ⟨hi, hss, ma3, fa3, mb3, fb3, D3⟩ ih
    simp only at hi hss D3 ih ⊢
    by_cases hlt : i < 2
    · repeat (first | refine T_seq ?_ | refine T_region ?_ | refine T_cond_true rfl ?_ | refine T_block ?_ | refine T_skip ?_ | refine TL_lt_t (hk := ?_) | refine TL_nil ?_ | refine TL_move (hk := ?_) | refine TL_fieldAddr TE (hk := ?_) | refine TL_nilCheck (hk := ?_) | refine TL_indexArr TE (hk := ?_))
      obtain rfl | rfl : i = 0 ∨ i = 1 := by omega
      · simp at hss
        rw [hss] at D3
        simp only at D3
        clear hss
        have hk := D3.C.blk
        simp only [pairV] at hk
        repeat (refine TL_load TE (hk := ?_))
        refine TL_call TE (hc := Out_c w3 D3.A D3.A.bw k1) (hk := ?_)
        rintro _ w4 ⟨O, zs, ma4, fa4, rfl, h4, t4, o4, fo4, fx4⟩
        have D4 := D3.a h4 t4
        have gO : ∀ b ∈ blkL O.1, fb3 b = 0 := fun b q => zero_of (fun b q => (D3.B.ki.old b q).2) (Hi.blk o4.own.hi b q)
        have gZ : ∀ b ∈ blkS zs, fb3 b = 0 := fun b q => zero_of (fun b q => (D3.B.ki.old b q).2) (o4.bod.lt b q).1
        have hO1 := o4.own.len
        rw [slVs_length, Nat.mul_one] at hO1
        have hO2 := o4.bod.len
        have hO3 : (outE A1).2.length ≤ 1000 := by
          have := outE_len A1
          have h9 := H1o
          have := h9.wa.fw
          omega
        clear hk D3
        repeat (first | refine T_seq ?_ | refine T_region ?_ | refine T_block ?_ | refine TL_nil ?_ | refine TL_assign (hk := ?_))
        refine T_loop (ι := Nat) (fun j => [(8, .int .i64 (j : Int)), (7, slV O), (6, .int .i64 ((0 : Nat) : Int)), (0, ptr pp)]) (fun j w' => j ≤ O.2.1 ∧ ∃ x mb fb, x = recvs B1 ((outE A1).2.take j) ∧ P3 w0 w' ba pa ma4 fa4 (outE A1).1 bb pb mb fb x bp pp M Fr L g ∧ OutP w' w3.heap.size O zs (outE A1).2 ∧ (∀ b ∈ blkL O.1, fb b = 0) ∧ ∀ b ∈ blkS zs, fb b = 0) (fun j => O.2.1 - j) 0 (.c rfl (.c rfl (.c rfl (.c rfl (.n))))) ⟨Nat.zero_le _, _, mb3, fb3, rfl, D4, o4, gO, gZ⟩ ?_
        clear D4 o4 gO gZ
        rintro j w5 ⟨hj, x, mb, fb, hx, D5, o5, gO, gZ⟩ ih2
        by_cases hjl : j < O.2.1
        · have ok := (Meet.recvs hV.2 ((outE A1).2.take j) (fun x q => List.mem_append_right _ (List.mem_of_mem_take q)) H1o).wb.ok hV hQ (by omega)
          rw [← hx] at ok
          have hk := D5.C.blk
          simp only [pairV] at hk
          have ro := o5.own.rd
          have hv := slVs_get zs j (by omega)
          have hbz := (o5.get (show j < (outE A1).2.length by omega)).1
          have hOn : O.1 ≠ none := by obtain ⟨_, _, hq, _⟩ := ro.2 (by omega); rw [hq]; simp
          have hxs : (recvE x ((outE A1).2.getD j [])).1 = recvs B1 ((outE A1).2.take (j + 1)) := by rw [recvs_take _ _ _ (by omega), hx]
          have hgood : ((outE A1).2.getD j []).length ≤ 70000 := by
            have hm : (outE A1).2.getD j [] ∈ (outE A1).2 := getMem (by omega)
            have h9 := H1o
            have hL := h9.hL
            have hM := h9.hM
            obtain ⟨_, d9⟩ := h9.d
            obtain ⟨_, e9⟩ := h9.e
            first
              | exact GoodF.short (h9.f _ (List.mem_append_right _ hm)) d9.len (by have := d9.nl; omega) (by have := e9.exl; omega)
              | exact GoodF.short (h9.g _ (List.mem_append_right _ hm)) e9.len (by have := e9.nl; omega) (by have := d9.exl; omega)
          generalize (outE A1).2.getD j [] = fr at hbz hxs hgood
          generalize zs.getD j (none, 0, 0) = u at hv hbz
          have hul : fr.length = u.2.1 := hbz.len
          have hcap := hbz.cap.1
          have hpD : pp ∉ ownB w5 fb := fun q => ownB_mem q ((D5.db pp).resolve_right (by rw [D5.C.gp]; decide))
          have hOD : Off O.1 (ownB w5 fb) := off_of fun b q q' => ownB_mem q' (gO b q)
          repeat (first | refine T_seq ?_ | refine T_region ?_ | refine T_cond_true rfl ?_ | refine T_block ?_ | refine T_skip ?_ | refine TL_lt_t (hk := ?_) | refine TL_nil ?_ | refine TL_move (hk := ?_) | refine TL_len TE (hk := ?_))
          refine T_region_any TE.mixed (ownB w5 fb) ?_; intro w6 e6 z6
          have k6 := hk.be e6
          have ro6 := ro.be e6
          have D6 := D5.ext e6
          have b6 := hbz.mod e6 (fun b q => by simp)
          (refine TA_take 0 rfl (by kernel_rfl) (by kernel_rfl) (by kernel_rfl) ?_; (repeat (first | refine TL_sub (hk := ?_) | refine TL_move (hk := ?_) | refine TLP_load TE (hk := ?_) | refine TLP_load_rd TE (hk := ?_) | refine TL_fieldAddr TE (hk := ?_) | refine TL_indexAddr1n TE (hk := ?_) | refine TL_nilCheck (hk := ?_) | refine TL_indexArr TE (hk := ?_))); refine TL_nil_p ?_); (refine TA_take 1 rfl (by kernel_rfl) (by kernel_rfl) (by kernel_rfl) ?_; (repeat (first | refine TL_sub (hk := ?_) | refine TL_move (hk := ?_) | refine TLP_load TE (hk := ?_) | refine TLP_load_rd TE (hk := ?_) | refine TL_fieldAddr TE (hk := ?_) | refine TL_indexAddr1n TE (hk := ?_) | refine TL_nilCheck (hk := ?_) | refine TL_indexArr TE (hk := ?_))); refine TL_nil_p ?_); (refine TA_take 2 rfl (by kernel_rfl) (by kernel_rfl) (by kernel_rfl) ?_; (repeat (first | refine TL_sub (hk := ?_) | refine TL_move (hk := ?_) | refine TLP_load TE (hk := ?_) | refine TLP_load_rd TE (hk := ?_) | refine TL_fieldAddr TE (hk := ?_) | refine TL_indexAddr1n TE (hk := ?_) | refine TL_nilCheck (hk := ?_) | refine TL_indexArr TE (hk := ?_))); refine TL_nil_p ?_); (refine TA_take 3 rfl (by kernel_rfl) (by kernel_rfl) (by kernel_rfl) ?_; (repeat (first | refine TL_sub (hk := ?_) | refine TL_move (hk := ?_) | refine TLP_load TE (hk := ?_) | refine TLP_load_rd TE (hk := ?_) | refine TL_fieldAddr TE (hk := ?_) | refine TL_indexAddr1n TE (hk := ?_) | refine TL_nilCheck (hk := ?_) | refine TL_indexArr TE (hk := ?_))); refine TL_nil_p ?_); (refine TA_take 4 rfl (by kernel_rfl) (by kernel_rfl) (by kernel_rfl) ?_; (repeat (first | refine TL_sub (hk := ?_) | refine TL_move (hk := ?_) | refine TLP_load TE (hk := ?_) | refine TLP_load_rd TE (hk := ?_) | refine TL_fieldAddr TE (hk := ?_) | refine TL_indexAddr1n TE (hk := ?_) | refine TL_nilCheck (hk := ?_) | refine TL_indexArr TE (hk := ?_))); refine TL_nil_p ?_); (refine TA_take 5 rfl (by kernel_rfl) (by kernel_rfl) (by kernel_rfl) ?_; (repeat (first | refine TL_sub (hk := ?_) | refine TL_move (hk := ?_) | refine TLP_load TE (hk := ?_) | refine TLP_load_rd TE (hk := ?_) | refine TL_fieldAddr TE (hk := ?_) | refine TL_indexAddr1n TE (hk := ?_) | refine TL_nilCheck (hk := ?_) | refine TL_indexArr TE (hk := ?_))); refine TL_nil_p ?_); (refine TA_take 6 rfl (by kernel_rfl) (by kernel_rfl) (by kernel_rfl) ?_; (repeat (first | refine TL_sub (hk := ?_) | refine TL_move (hk := ?_) | refine TLP_load TE (hk := ?_) | refine TLP_load_rd TE (hk := ?_) | refine TL_fieldAddr TE (hk := ?_) | refine TL_indexAddr1n TE (hk := ?_) | refine TL_nilCheck (hk := ?_) | refine TL_indexArr TE (hk := ?_))); refine TL_nil_p ?_); (refine TA_take 7 rfl (by kernel_rfl) (by kernel_rfl) (by kernel_rfl) ?_; (repeat (first | refine TL_sub (hk := ?_) | refine TL_move (hk := ?_) | refine TLP_load TE (hk := ?_) | refine TLP_load_rd TE (hk := ?_) | refine TL_fieldAddr TE (hk := ?_) | refine TL_indexAddr1n TE (hk := ?_) | refine TL_nilCheck (hk := ?_) | refine TL_indexArr TE (hk := ?_))); refine TL_nil_p ?_); (refine TA_take 8 rfl (by kernel_rfl) (by kernel_rfl) (by kernel_rfl) ?_; (repeat (first | refine TL_sub (hk := ?_) | refine TL_move (hk := ?_) | refine TLP_load TE (hk := ?_) | refine TLP_load_rd TE (hk := ?_) | refine TL_fieldAddr TE (hk := ?_) | refine TL_indexAddr1n TE (hk := ?_) | refine TL_nilCheck (hk := ?_) | refine TL_indexArr TE (hk := ?_))); refine TL_nil_p ?_); (refine TA_take 9 rfl (by kernel_rfl) (by kernel_rfl) (by kernel_rfl) ?_; (repeat (first | refine TL_sub (hk := ?_) | refine TL_move (hk := ?_) | refine TLP_load TE (hk := ?_) | refine TLP_load_rd TE (hk := ?_) | refine TL_fieldAddr TE (hk := ?_) | refine TL_indexAddr1n TE (hk := ?_) | refine TL_nilCheck (hk := ?_) | refine TL_indexArr TE (hk := ?_))); refine TL_nil_p ?_); (refine TA_take 10 rfl (by kernel_rfl) (by kernel_rfl) (by kernel_rfl) ?_; (repeat (first | refine TL_sub (hk := ?_) | refine TL_move (hk := ?_) | refine TLP_load TE (hk := ?_) | refine TLP_load_rd TE (hk := ?_) | refine TL_fieldAddr TE (hk := ?_) | refine TL_indexAddr1n TE (hk := ?_) | refine TL_nilCheck (hk := ?_) | refine TL_indexArr TE (hk := ?_))); refine TL_nil_p ?_)
          refine TA_one 11 rfl (by kernel_rfl) (by kernel_rfl) ?_; (try refine TL_yes (hk := ?_)); refine TL_call TE (hc := (Receive_c u.1 u.2.1 u.2.2 fr _ D6.B D6.B.bw ok (Own.rd b6) (by omega) hcap)) (hq := (by rintro _ w8 ⟨rfl, m', f', h', t'⟩; exact Turns.inD t' (Mod.refl _ _) (ownB_in z6))) (hk := ?_)
          rintro _ w7 ⟨rfl, m7, f7, h7, t7⟩
          have D7 := D6.b h7 t7
          obtain ⟨o7, gO7, gZ7⟩ := OutP.turn (f := fb) (f' := f7) (o5.be e6) t7 gO gZ
          refine TL_nil_p ?_
          refine TA_done (by kernel_rfl) ?_
          repeat (first | refine T_region ?_ | refine T_inBlock ?_ | refine TL_add (hk := ?_) | refine TL_nil ?_ | refine TL_move (hk := ?_) | refine TL_assign (hk := ?_))
          exact ih2 (j + 1) w7 _ (by omega) ⟨by omega, _, _, _, hxs, D7, o7, gO7, gZ7⟩ (.c rfl (.c rfl (.c rfl (.c rfl (.n)))))
        · clear ih2
          have hje : j = (outE A1).2.length := by omega
          rw [hje, List.take_length] at hx
          rw [hx, hB2] at D5
          repeat (first | refine T_seq ?_ | refine T_region ?_ | refine T_cond_false rfl ?_ | refine T_inBlock ?_ | refine T_exit rfl ?_ | refine TL_add (hk := ?_) | refine TL_lt_f (hk := ?_) | refine TL_nil ?_ | refine TL_move (hk := ?_) | refine TL_assign (hk := ?_) | refine TL_len TE (hk := ?_))
          exact ih (1, (outE A1).1, B2) w5 _ (by simp) ⟨by simp, by simp, ma4, fa4, mb, fb, D5⟩ (.c rfl (.c rfl (.n)))
      · simp at hss
        rw [hss] at D3
        simp only at D3
        clear hss
        have hk := D3.C.blk
        simp only [pairV] at hk
        repeat (refine TL_load TE (hk := ?_))
        refine TL_call TE (hc := Out_c w3 D3.B D3.B.bw k2) (hk := ?_)
        rintro _ w4 ⟨O, zs, mb4, fb4, rfl, h4, t4, o4, fo4, fx4⟩
        have D4 := D3.b h4 t4
        have gO : ∀ b ∈ blkL O.1, fa3 b = 0 := fun b q => zero_of (fun b q => (D3.A.ki.old b q).2) (Hi.blk o4.own.hi b q)
        have gZ : ∀ b ∈ blkS zs, fa3 b = 0 := fun b q => zero_of (fun b q => (D3.A.ki.old b q).2) (o4.bod.lt b q).1
        have hO1 := o4.own.len
        rw [slVs_length, Nat.mul_one] at hO1
        have hO2 := o4.bod.len
        have hO3 : (outE B2).2.length ≤ 1000 := by
          have := outE_len B2
          have h9 := H2o
          have := h9.wb.fw
          omega
        clear hk D3
        repeat (first | refine T_seq ?_ | refine T_region ?_ | refine T_block ?_ | refine TL_nil ?_ | refine TL_assign (hk := ?_))
        refine T_loop (ι := Nat) (fun j => [(8, .int .i64 (j : Int)), (7, slV O), (6, .int .i64 ((1 : Nat) : Int)), (0, ptr pp)]) (fun j w' => j ≤ O.2.1 ∧ ∃ x ma fa, x = recvs (outE A1).1 ((outE B2).2.take j) ∧ P3 w0 w' ba pa ma fa x bb pb mb4 fb4 (outE B2).1 bp pp M Fr L g ∧ OutP w' w3.heap.size O zs (outE B2).2 ∧ (∀ b ∈ blkL O.1, fa b = 0) ∧ ∀ b ∈ blkS zs, fa b = 0) (fun j => O.2.1 - j) 0 (.c rfl (.c rfl (.c rfl (.c rfl (.n))))) ⟨Nat.zero_le _, _, ma3, fa3, rfl, D4, o4, gO, gZ⟩ ?_
        clear D4 o4 gO gZ
        rintro j w5 ⟨hj, x, ma, fa, hx, D5, o5, gO, gZ⟩ ih2
        by_cases hjl : j < O.2.1
        · have ok := (Meet.recvs hW.2 ((outE B2).2.take j) (fun x q => List.mem_append_right _ (List.mem_of_mem_take q)) H2o.swap).wb.ok hW hP (by omega)
          rw [← hx] at ok
          have hk := D5.C.blk
          simp only [pairV] at hk
          have ro := o5.own.rd
          have hv := slVs_get zs j (by omega)
          have hbz := (o5.get (show j < (outE B2).2.length by omega)).1
          have hOn : O.1 ≠ none := by obtain ⟨_, _, hq, _⟩ := ro.2 (by omega); rw [hq]; simp
          have hxs : (recvE x ((outE B2).2.getD j [])).1 = recvs (outE A1).1 ((outE B2).2.take (j + 1)) := by rw [recvs_take _ _ _ (by omega), hx]
          have hgood : ((outE B2).2.getD j []).length ≤ 70000 := by
            have hm : (outE B2).2.getD j [] ∈ (outE B2).2 := getMem (by omega)
            have h9 := H2o
            have hL := h9.hL
            have hM := h9.hM
            obtain ⟨_, d9⟩ := h9.d
            obtain ⟨_, e9⟩ := h9.e
            first
              | exact GoodF.short (h9.f _ (List.mem_append_right _ hm)) d9.len (by have := d9.nl; omega) (by have := e9.exl; omega)
              | exact GoodF.short (h9.g _ (List.mem_append_right _ hm)) e9.len (by have := e9.nl; omega) (by have := d9.exl; omega)
          generalize (outE B2).2.getD j [] = fr at hbz hxs hgood
          generalize zs.getD j (none, 0, 0) = u at hv hbz
          have hul : fr.length = u.2.1 := hbz.len
          have hcap := hbz.cap.1
          have hpD : pp ∉ ownB w5 fa := fun q => ownB_mem q ((D5.da pp).resolve_right (by rw [D5.C.gp]; decide))
          have hOD : Off O.1 (ownB w5 fa) := off_of fun b q q' => ownB_mem q' (gO b q)
          repeat (first | refine T_seq ?_ | refine T_region ?_ | refine T_cond_true rfl ?_ | refine T_block ?_ | refine T_skip ?_ | refine TL_lt_t (hk := ?_) | refine TL_nil ?_ | refine TL_move (hk := ?_) | refine TL_len TE (hk := ?_))
          refine T_region_any TE.mixed (ownB w5 fa) ?_; intro w6 e6 z6
          have k6 := hk.be e6
          have ro6 := ro.be e6
          have D6 := D5.ext e6
          have b6 := hbz.mod e6 (fun b q => by simp)
          (refine TA_take 0 rfl (by kernel_rfl) (by kernel_rfl) (by kernel_rfl) ?_; (repeat (first | refine TL_sub (hk := ?_) | refine TL_move (hk := ?_) | refine TLP_load TE (hk := ?_) | refine TLP_load_rd TE (hk := ?_) | refine TL_fieldAddr TE (hk := ?_) | refine TL_indexAddr1n TE (hk := ?_) | refine TL_nilCheck (hk := ?_) | refine TL_indexArr TE (hk := ?_))); refine TL_nil_p ?_); (refine TA_take 1 rfl (by kernel_rfl) (by kernel_rfl) (by kernel_rfl) ?_; (repeat (first | refine TL_sub (hk := ?_) | refine TL_move (hk := ?_) | refine TLP_load TE (hk := ?_) | refine TLP_load_rd TE (hk := ?_) | refine TL_fieldAddr TE (hk := ?_) | refine TL_indexAddr1n TE (hk := ?_) | refine TL_nilCheck (hk := ?_) | refine TL_indexArr TE (hk := ?_))); refine TL_nil_p ?_); (refine TA_take 2 rfl (by kernel_rfl) (by kernel_rfl) (by kernel_rfl) ?_; (repeat (first | refine TL_sub (hk := ?_) | refine TL_move (hk := ?_) | refine TLP_load TE (hk := ?_) | refine TLP_load_rd TE (hk := ?_) | refine TL_fieldAddr TE (hk := ?_) | refine TL_indexAddr1n TE (hk := ?_) | refine TL_nilCheck (hk := ?_) | refine TL_indexArr TE (hk := ?_))); refine TL_nil_p ?_); (refine TA_take 3 rfl (by kernel_rfl) (by kernel_rfl) (by kernel_rfl) ?_; (repeat (first | refine TL_sub (hk := ?_) | refine TL_move (hk := ?_) | refine TLP_load TE (hk := ?_) | refine TLP_load_rd TE (hk := ?_) | refine TL_fieldAddr TE (hk := ?_) | refine TL_indexAddr1n TE (hk := ?_) | refine TL_nilCheck (hk := ?_) | refine TL_indexArr TE (hk := ?_))); refine TL_nil_p ?_); (refine TA_take 4 rfl (by kernel_rfl) (by kernel_rfl) (by kernel_rfl) ?_; (repeat (first | refine TL_sub (hk := ?_) | refine TL_move (hk := ?_) | refine TLP_load TE (hk := ?_) | refine TLP_load_rd TE (hk := ?_) | refine TL_fieldAddr TE (hk := ?_) | refine TL_indexAddr1n TE (hk := ?_) | refine TL_nilCheck (hk := ?_) | refine TL_indexArr TE (hk := ?_))); refine TL_nil_p ?_); (refine TA_take 5 rfl (by kernel_rfl) (by kernel_rfl) (by kernel_rfl) ?_; (repeat (first | refine TL_sub (hk := ?_) | refine TL_move (hk := ?_) | refine TLP_load TE (hk := ?_) | refine TLP_load_rd TE (hk := ?_) | refine TL_fieldAddr TE (hk := ?_) | refine TL_indexAddr1n TE (hk := ?_) | refine TL_nilCheck (hk := ?_) | refine TL_indexArr TE (hk := ?_))); refine TL_nil_p ?_); (refine TA_take 6 rfl (by kernel_rfl) (by kernel_rfl) (by kernel_rfl) ?_; (repeat (first | refine TL_sub (hk := ?_) | refine TL_move (hk := ?_) | refine TLP_load TE (hk := ?_) | refine TLP_load_rd TE (hk := ?_) | refine TL_fieldAddr TE (hk := ?_) | refine TL_indexAddr1n TE (hk := ?_) | refine TL_nilCheck (hk := ?_) | refine TL_indexArr TE (hk := ?_))); refine TL_nil_p ?_); (refine TA_take 7 rfl (by kernel_rfl) (by kernel_rfl) (by kernel_rfl) ?_; (repeat (first | refine TL_sub (hk := ?_) | refine TL_move (hk := ?_) | refine TLP_load TE (hk := ?_) | refine TLP_load_rd TE (hk := ?_) | refine TL_fieldAddr TE (hk := ?_) | refine TL_indexAddr1n TE (hk := ?_) | refine TL_nilCheck (hk := ?_) | refine TL_indexArr TE (hk := ?_))); refine TL_nil_p ?_); (refine TA_take 8 rfl (by kernel_rfl) (by kernel_rfl) (by kernel_rfl) ?_; (repeat (first | refine TL_sub (hk := ?_) | refine TL_move (hk := ?_) | refine TLP_load TE (hk := ?_) | refine TLP_load_rd TE (hk := ?_) | refine TL_fieldAddr TE (hk := ?_) | refine TL_indexAddr1n TE (hk := ?_) | refine TL_nilCheck (hk := ?_) | refine TL_indexArr TE (hk := ?_))); refine TL_nil_p ?_); (refine TA_take 9 rfl (by kernel_rfl) (by kernel_rfl) (by kernel_rfl) ?_; (repeat (first | refine TL_sub (hk := ?_) | refine TL_move (hk := ?_) | refine TLP_load TE (hk := ?_) | refine TLP_load_rd TE (hk := ?_) | refine TL_fieldAddr TE (hk := ?_) | refine TL_indexAddr1n TE (hk := ?_) | refine TL_nilCheck (hk := ?_) | refine TL_indexArr TE (hk := ?_))); refine TL_nil_p ?_); (refine TA_take 10 rfl (by kernel_rfl) (by kernel_rfl) (by kernel_rfl) ?_; (repeat (first | refine TL_sub (hk := ?_) | refine TL_move (hk := ?_) | refine TLP_load TE (hk := ?_) | refine TLP_load_rd TE (hk := ?_) | refine TL_fieldAddr TE (hk := ?_) | refine TL_indexAddr1n TE (hk := ?_) | refine TL_nilCheck (hk := ?_) | refine TL_indexArr TE (hk := ?_))); refine TL_nil_p ?_)
          refine TA_one 11 rfl (by kernel_rfl) (by kernel_rfl) ?_; (try refine TL_yes (hk := ?_)); refine TL_call TE (hc := (Receive_c u.1 u.2.1 u.2.2 fr _ D6.A D6.A.bw ok (Own.rd b6) (by omega) hcap)) (hq := (by rintro _ w8 ⟨rfl, m', f', h', t'⟩; exact Turns.inD t' (Mod.refl _ _) (ownB_in z6))) (hk := ?_)
          rintro _ w7 ⟨rfl, m7, f7, h7, t7⟩
          have D7 := D6.a h7 t7
          obtain ⟨o7, gO7, gZ7⟩ := OutP.turn (f := fa) (f' := f7) (o5.be e6) t7 gO gZ
          refine TL_nil_p ?_
          refine TA_done (by kernel_rfl) ?_
          repeat (first | refine T_region ?_ | refine T_inBlock ?_ | refine TL_add (hk := ?_) | refine TL_nil ?_ | refine TL_move (hk := ?_) | refine TL_assign (hk := ?_))
          exact ih2 (j + 1) w7 _ (by omega) ⟨by omega, _, _, _, hxs, D7, o7, gO7, gZ7⟩ (.c rfl (.c rfl (.c rfl (.c rfl (.n)))))
        · clear ih2
          have hje : j = (outE B2).2.length := by omega
          rw [hje, List.take_length] at hx
          rw [hx, show recvs (outE A1).1 (outE B2).2 = recvs (outE A1).1 (outE B2).2 from rfl] at D5
          repeat (first | refine T_seq ?_ | refine T_region ?_ | refine T_cond_false rfl ?_ | refine T_inBlock ?_ | refine T_exit rfl ?_ | refine TL_add (hk := ?_) | refine TL_lt_f (hk := ?_) | refine TL_nil ?_ | refine TL_move (hk := ?_) | refine TL_assign (hk := ?_) | refine TL_len TE (hk := ?_))
          exact ih (2, recvs (outE A1).1 (outE B2).2, (outE B2).1) w5 _ (by simp) ⟨by simp, by simp, ma, fa, mb4, fb4, D5⟩ (.c rfl (.c rfl (.n)))
    · clear ih
      obtain rfl : i = 2 := by omega
      simp at hss
      rw [hss] at D3
      simp only at D3
      repeat (first | refine T_seq ?_ | refine T_region ?_ | refine T_cond_false rfl ?_ | refine T_exit rfl ?_ | refine TL_lt_f (hk := ?_) | refine TL_nil ?_ | refine TL_move (hk := ?_))
      exact T_end0 rfl ⟨ma3, fa3, mb3, fb3, D3⟩
end
end Go.Proofs.Ytjjgojgahibpgaa

/- A load in a region walked move by move, when nothing else may come up: out of the world as it is then. -/
namespace Go.Proofs.Eng
open Go.RowKit
set_option linter.unusedSimpArgs false
set_option linter.unusedVariables false
set_option linter.unusedSectionVars false
section
variable {q : Qm} {P : Program} {fn : Func} {R : Ending → World → Prop} {M : Md} {n : Nat} {st : Slots} {k : List Item} {w : World} {ops rest : List Oper}
  {d : Nat} {ty : TypeId} {ps : String} {af : Array Edge} {X : Operand} {t : TypeId} {dsc : TypeDesc} {v : Value}
theorem TLN_load {b o : Nat} {bt : TypeId} {cs : List Value} (E : Env P) (hx : ev st X = some (.pointer (some ⟨b, o, none⟩)) := by exact rfl) (ht : E.und t = some dsc := by exact rfl) (hn : nonAgg dsc = true := by exact rfl) (hd : Nat.blt d n = true := by exact rfl) (hb : Blk w b bt cs) (hv : cs[o]? = some v := by exact rfl)
    (hf : Fl q (rest.length + 1) := by first | exact trivial | exact rfl) (hq : Kp q w) (hk : TL q P fn R M n ((d, v) :: st) ops rest k w) : TL q P fn R M n st ops (⟨some d, .load t X, ty, ps, af, none⟩ :: rest) k w :=
  TL_new (w' := w) hd (fun ρ h => by
    have hc : w.cell? ⟨b, o, none⟩ = some v := by rw [hb.cell, hv]
    simp [execOp, Instr.loadAt, h _ _ hx, Instr.sureAddr, loadVar, run_isAgg_no (E.und_ok _ _ ht) hn, hc]) hf hq hk
theorem wpAnyZ_S {md : Region.Mode} {ops : Array Oper} {Q : Exit → Act → World → Prop} {S S' : World → Prop} {z : Option Nat} (h : ∀ w, S' w → S w) : ∀ (fuel : Nat) (listed : Array Bool) (a : Act) (w : World), wpAnyZ P md ops Q S' z fuel listed a w → wpAnyZ P md ops Q S z fuel listed a w
  | 0, _, _, _, g => g
  | fuel + 1, _, _, _, g => ⟨g.1, fun i hi => wpOp_mono (fun a' w' g' => ⟨fun q => h _ (g'.1 q), wpAnyZ_S h fuel _ a' w' g'.2⟩) (g.2 i hi)⟩
/-- From here on nothing old is turned. -/
theorem TA_again {w0 : World} {D : List Nat} {z : Option Nat} {b : Array Bool} {fuel : Nat} (h : TA w [] z P fn R M n st ops b fuel k w) : TA w0 D z P fn R M n st ops b fuel k w :=
  fun hD a ha => wpAnyZ_S (fun _ e => hD.ext e) fuel b a w (h (Mod.refl _ _) a ha)
/-- What has been taken, written out. -/
theorem TA_norm {w0 : World} {D : List Nat} {z : Option Nat} {b b2 : Array Bool} {fuel : Nat} (hb : (b == b2) = true) (h : TA w0 D z P fn R M n st ops b2 fuel k w) : TA w0 D z P fn R M n st ops b fuel k w := by
  have e : b = b2 := by simpa using hb
  rw [e]
  exact h
end
end Go.Proofs.Eng

namespace Go.Proofs.Ytjjgojgahibpgaa
open Go.RowKit Go.Proofs.Eng Go.Proofs.Codec Go.Proofs.Link
set_option linter.unusedSimpArgs false
set_option linter.unusedVariables false set_option maxRecDepth 10000
attribute [local irreducible] T TL LV TH TA
set_option maxHeartbeats 6400000
structure FinE (a b : ES) (n m : Nat) : Prop where
  an : a.new = []
  af : a.fly = []
  ah : a.held = []
  bn : b.new = []
  bf : b.fly = []
  bh : b.held = []
  ax : a.exp = m
  bx : b.exp = n
  at_ : a.next = n
  bt : b.next = m
theorem LinkEnds_c (v0 : Value) (w : World) {base : Nat} (hM : 1048576 ≤ 1048576) (hv : ReadsB Try.prog w base 44 v0 1048576) :
    Ret Try.prog 7 [v0] w (fun v w' => v = .bool true ∧ Ext w w') := by
  obtain ⟨W0, W1, P0, P1, A, n, c, l, rfl, hW0, hW1, hP0, hP1, hA, hl, hnc, hcm, hall, hnm⟩ := net_in hv
  clear hv hM
  refine ret_T (n := 180) Try.func7 rfl rfl ?_
  repeat (first | refine T_seq ?_ | refine T_region ?_)
  refine TL_box (hk := ?_); intro b1 w1 e1 h1 h1' k1
  replace k1 : Blk w1 b1 44 [.int .i64 W0, .int .i64 W1, .int .i64 P0, .int .i64 P1, .slice A n c] := k1
  have hA1 := hA.be e1
  have hall1 : ∀ x ∈ l, MvOk w1 x := fun x hx => (hall x hx).be e1
  repeat (first | refine T_seq ?_ | refine T_region ?_ | refine TL_nil ?_ | refine TL_assign (hk := ?_))
  refine TL_loadb TE (cs := [.int .i64 W0, .int .i64 W1, .int .i64 P0, .int .i64 P1, .slice A n c]) (o := 0) rfl rfl k1 rfl rfl (Nat.succ_pos _) (hk := ?_)
  --
  refine TL_call TE (hc := wide_c W0 W1 P0 P1 A n c l _ hA1 hl hall1 hnm) (hk := ?_)
  rintro _ w2 ⟨rfl | ⟨rfl, hn⟩, e2⟩
  · repeat (first | refine T_seq ?_ | refine T_region ?_ | refine T_cond_true rfl ?_ | refine TL_nil ?_ | refine TL_move (hk := ?_) | refine TL_no (hk := ?_) | refine TL_pick_t (hk := ?_))
    refine TL_call TE (hc := live_c26 _) (hk := ?_)
    rintro _ w3 ⟨rfl, e3⟩
    repeat (first | refine TL_nil ?_ | refine TL_assign (hk := ?_))
    exact T_ret1 rfl rfl ⟨rfl, (e1.ext e2).ext e3⟩
  have k2 := k1.be e2
  have E2 := e1.ext e2
  have hA2 := hA1.be e2
  have hall2 : ∀ x ∈ l, MvOk w2 x := fun x hx => (hall1 x hx).be e2
  clear hA hall hA1 hall1 k1
  by_cases p0 : P0 > 50
  · repeat (first | refine T_seq ?_ | refine T_region ?_ | refine T_cond_true rfl ?_ | refine TL_gt_t (hk := ?_) | refine TL_nil ?_ | refine TL_move (hk := ?_) | refine TL_load TE (hk := ?_) | refine TL_fieldAddr TE (hk := ?_) | refine TL_yes (hk := ?_) | refine TL_no (hk := ?_) | refine TL_pick_t (hk := ?_) | refine TL_pick_f (hk := ?_) | refine TL_indexArr TE (hk := ?_))
    refine TL_call TE (hc := live_c26 _) (hk := ?_)
    rintro _ w3 ⟨rfl, e3⟩
    repeat (first | refine TL_nil ?_ | refine TL_assign (hk := ?_))
    exact T_ret1 rfl rfl ⟨rfl, E2.ext e3⟩
  by_cases p1 : P1 > 50
  · repeat (first | refine T_seq ?_ | refine T_region ?_ | refine T_cond_true rfl ?_ | refine TL_gt_t (hk := ?_) | refine TL_gt_f (hk := ?_) | refine TL_nil ?_ | refine TL_move (hk := ?_) | refine TL_load TE (hk := ?_) | refine TL_fieldAddr TE (hk := ?_) | refine TL_yes (hk := ?_) | refine TL_pick_f (hk := ?_) | refine TL_indexArr TE (hk := ?_))
    refine TL_call TE (hc := live_c26 _) (hk := ?_)
    rintro _ w3 ⟨rfl, e3⟩
    repeat (first | refine TL_nil ?_ | refine TL_assign (hk := ?_))
    exact T_ret1 rfl rfl ⟨rfl, E2.ext e3⟩
  repeat (first | refine T_seq ?_ | refine T_region ?_ | refine T_cond_false rfl ?_ | refine T_skip ?_ | refine TL_gt_f (hk := ?_) | refine TL_nil ?_ | refine TL_move (hk := ?_) | refine TL_load TE (hk := ?_) | refine TL_fieldAddr TE (hk := ?_) | refine TL_yes (hk := ?_) | refine TL_pick_f (hk := ?_) | refine TL_indexArr TE (hk := ?_))
  refine TL_loadArr TE (cs := [.int .i64 W0, .int .i64 W1]) (hb := k2) (hc := rfl) (hk := ?_)
  repeat (refine TL_fieldAddr TE (hk := ?_))
  refine TL_loadArr TE (cs := [.int .i64 P0, .int .i64 P1]) (hb := k2) (hc := rfl) (hk := ?_)
  --
  refine TL_call TE (hc := pair_c W0 W1 P0 P1 w2 w2 (Mod.refl _ _) hW0 hW1 hP0 hP1) (hk := ?_)
  rintro _ w3 ⟨e3, rfl | ⟨a, b, c', d, rfl, rfl, rfl, rfl, ha, hb, hc, hd, ba, bb, bp, pa, pb, pp, ma, mb, fa, fb, g, rfl, D3⟩⟩
  · repeat (first | refine T_seq ?_ | refine T_region ?_ | refine T_cond_true rfl ?_ | refine TL_nil ?_ | refine TL_move (hk := ?_) | refine TL_assign (hk := ?_) | refine TL_extract (hk := ?_) | refine TL_not (hk := ?_))
    refine TL_call TE (hc := live_c26 _) (hk := ?_)
    rintro _ w4 ⟨rfl, e4⟩
    repeat (first | refine TL_nil ?_ | refine TL_assign (hk := ?_))
    exact T_ret1 rfl rfl ⟨rfl, (E2.ext e3).ext e4⟩
  replace D3 := MP.start D3
  have hb1 : b1 < w2.heap.size := k2.lt
  clear e3
  repeat (first | refine T_seq ?_ | refine T_region ?_ | refine T_cond_false rfl ?_ | refine T_block ?_ | refine T_skip ?_ | refine TL_nil ?_ | refine TL_move (hk := ?_) | refine TL_assign (hk := ?_) | refine TL_extract (hk := ?_) | refine TL_not (hk := ?_))
  refine T_loop (ι := Nat) (fun i => [(5, .int .i64 (i : Int)), (3, ptr pp), (1, ptr b1)]) (fun i w' => i ≤ n ∧ MP w2 w' a c' b d ba pa bb pb bp pp i) (fun i => n - i) 0 (.c rfl (.c rfl (.c rfl (.n)))) ⟨Nat.zero_le _, D3⟩ ?_
  clear D3
  rintro i w4 ⟨hi, D4⟩ ih
  have k4 := k2.be D4.e
  by_cases hlt : i < n
  · have hA4 := hA2.be D4.e
    have t1 := rowV_elem mvV_len l i mv0 (by omega)
    have hxo := hall2 _ (getMem (d := mv0) (show i < l.length by omega))
    generalize l.getD i mv0 = x at t1 hxo
    have hAn : A ≠ none := by obtain ⟨_, _, hq, _⟩ := hA4.2 (by omega); rw [hq]; simp
    repeat (first | refine T_seq ?_ | refine T_region ?_ | refine T_cond_true rfl ?_ | refine T_block ?_ | refine T_skip ?_ | refine TL_lt_t (hk := ?_) | refine TL_nil ?_ | refine TL_move (hk := ?_) | refine TL_load TE (hk := ?_) | refine TL_fieldAddr TE (hk := ?_) | refine TL_indexAddrn TE (hk := ?_) | refine TL_len TE (hk := ?_))
    refine TL_loada TE (cs := mvV x) (hx := rfl) (ht := rfl) (hi := rfl) (hr := hA4) (hc := t1) (h0 := Nat.succ_pos _) (hk := ?_)
    --
    refine TL_call TE (hc := moves_c x false a c' b d ba pa bb pb bp pp i w2 w4 (fun q => by cases q) (by omega) hxo D4 ha hb hc hd) (hk := ?_)
    rintro _ w6 ⟨rfl, y6, D6⟩
    repeat (first | refine T_region ?_ | refine T_cond_false rfl ?_ | refine T_inBlock ?_ | refine T_skip ?_ | refine TL_add (hk := ?_) | refine TL_nil ?_ | refine TL_move (hk := ?_) | refine TL_assign (hk := ?_) | refine TL_not (hk := ?_))
    exact ih (i + 1) w6 _ (by omega) ⟨by omega, D6⟩ (.c rfl (.c rfl (.c rfl (.n))))
  · clear ih
    obtain ⟨ma, fa, ea, mb, fb, eb, M, Fr, L, g, D, H, -⟩ := D4
    have hk := D.C.blk
    simp only [pairV] at hk
    have a1 := H.wa.nl
    have a2 := H.wb.nl
    have a3 := H.wa.fw
    have a4 := H.wb.fw
    have hrs : ((((ea.new.length : Int) + (ea.fly.length : Int)) + (eb.new.length : Int)) + (eb.fly.length : Int)) + 1 = ((ea.new.length + ea.fly.length + eb.new.length + eb.fly.length + 1 : Nat) : Int) := by omega
    repeat (first | refine T_seq ?_ | refine T_region ?_ | refine T_region_q TE.mixed (by kernel_rfl) ?_ | refine T_cond_false rfl ?_ | refine T_exit rfl ?_ | refine TL_lt_f (hk := ?_) | refine TL_nil ?_ | refine TL_move (hk := ?_) | refine TL_load TE (hk := ?_) | refine TL_fieldAddr TE (hk := ?_) | refine TL_len TE (hk := ?_) | refine TL_nilCheck (hk := ?_) | refine TL_indexArr TE (hk := ?_))
    refine TL_call_q TE rfl rfl rfl ((fun w' e => Eng.ret_q (Unsent_c w' (D.A.ext e)))) ?_
    repeat (first | refine TL_move (hk := ?_) | refine TL_load TE (hk := ?_) | refine TL_fieldAddr TE (hk := ?_) | refine TL_nilCheck (hk := ?_) | refine TL_indexArr TE (hk := ?_))
    refine TL_call_q TE rfl rfl rfl ((fun w' e => Eng.ret_q (Flying_c w' (D.A.ext e)))) ?_
    repeat (first | refine TL_add (hk := ?_) | refine TL_move (hk := ?_) | refine TL_load TE (hk := ?_) | refine TL_fieldAddr TE (hk := ?_) | refine TL_nilCheck (hk := ?_) | refine TL_indexArr TE (hk := ?_))
    refine TL_call_q TE rfl rfl rfl ((fun w' e => Eng.ret_q (Unsent_c w' (D.B.ext e)))) ?_
    repeat (first | refine TL_add (hk := ?_) | refine TL_move (hk := ?_) | refine TL_load TE (hk := ?_) | refine TL_fieldAddr TE (hk := ?_) | refine TL_nilCheck (hk := ?_) | refine TL_indexArr TE (hk := ?_))
    refine TL_call_q TE rfl rfl rfl ((fun w' e => Eng.ret_q (Flying_c w' (D.B.ext e)))) ?_
    repeat (first | refine TL_add (hk := ?_) | refine TL_assign (hk := ?_))
    rw [hrs]
    refine TL_nil_q ?_; intro w5 e5
    have D5 := D.ext e5
    have k5 := k4.be e5
    have RE := rounds_end hc.1 hd.1 ha hb H rfl
    have RG := rounds_good hc.1 hd.1 ha hb H
    generalize ea.new.length + ea.fly.length + eb.new.length + eb.fly.length + 1 = R at RE hrs
    have hR : R ≤ 5000 := by omega
    clear D hk k4
    repeat (first | refine T_seq ?_ | refine T_region ?_ | refine T_block ?_ | refine TL_nil ?_ | refine TL_assign (hk := ?_))
    refine T_loop (ι := Nat) (fun j => [(7, .int .i64 (j : Int)), (6, .int .i64 (R : Int)), (3, ptr pp), (1, ptr b1)]) (fun j w' => j ≤ R ∧ ∃ ma fa mb fb, P3 w2 w' ba pa ma fa (rounds c' d j ea eb).1 bb pb mb fb (rounds c' d j ea eb).2 bp pp M Fr L g) (fun j => R - j) 0 (.c rfl (.c rfl (.c rfl (.c rfl (.n))))) ⟨Nat.zero_le _, ma, fa, mb, fb, D5⟩ ?_
    clear D5 k5
    rintro j w6 ⟨hj, ma6, fa6, mb6, fb6, D6⟩ ih
    by_cases hjl : j < R
    · have k6 := k2.be D6.e
      repeat (first | refine T_seq ?_ | refine T_region ?_ | refine T_cond_true rfl ?_ | refine T_block ?_ | refine T_skip ?_ | refine TL_lt_t (hk := ?_) | refine TL_nil ?_ | refine TL_move (hk := ?_) | refine TL_fieldAddr TE (hk := ?_))
      refine TL_loadArr TE (cs := [.int .i64 (c' : Int), .int .i64 (d : Int)]) (hb := k6) (hc := rfl) (hk := ?_)
      --
      refine TL_call TE (hc := round_c w6 D6 (RG j).1 ha hb hc hd) (hk := ?_)
      rintro _ w7 ⟨ma7, fa7, mb7, fb7, D7⟩
      repeat (first | refine T_region ?_ | refine T_inBlock ?_ | refine TL_add (hk := ?_) | refine TL_nil ?_ | refine TL_move (hk := ?_) | refine TL_assign (hk := ?_))
      exact ih (j + 1) w7 _ (by omega) ⟨by omega, ma7, fa7, mb7, fb7, D7⟩ (.c rfl (.c rfl (.c rfl (.c rfl (.n)))))
    · clear ih
      obtain rfl : j = R := by omega
      obtain ⟨xa, xb, hx, HM, f1, f2, f3, f4, f5, f6, f7, f8, f9, f10⟩ := RE
      rw [hx] at D6
      simp only at D6
      have FE : FinE xa xb (L 0).length (L 1).length := ⟨f1, f2, f3, f4, f5, f6, f7, f8, f9, f10⟩
      clear hx RG f1 f2 f3 f4 f5 f6 f7 f8 f9 f10 H
      repeat (first | refine T_seq ?_ | refine T_region ?_ | refine T_cond_false rfl ?_ | refine T_block ?_ | refine T_exit rfl ?_ | refine TL_lt_f (hk := ?_) | refine TL_nil ?_ | refine TL_move (hk := ?_) | refine TL_assign (hk := ?_))
      refine T_loop (ι := Nat) (fun k => [(8, .int .i64 (k : Int)), (3, ptr pp)]) (fun k w' => k ≤ 2 ∧ ∃ ma fa mb fb xa xb T', P3 w2 w' ba pa ma fa xa bb pb mb fb xb bp pp { M with T := T' } Fr L g ∧ Meet a c' b d (L 0) (L 1) (T' 0) (T' 1) [] [] xa xb ∧ FinE xa xb (L 0).length (L 1).length) (fun k => 2 - k) 0 (.c rfl (.c rfl (.n))) ⟨by omega, ma6, fa6, mb6, fb6, xa, xb, M.T, D6, HM, FE⟩ ?_
      clear D6 HM FE
      rintro k w7 ⟨hk, ma7, fa7, mb7, fb7, xa, xb, T7, D7, H7, F7⟩ ih
      by_cases hk2 : k < 2
      · have hkp := D7.C.blk
        simp only [pairV] at hkp
        have s0 : (L 0).length = (M.S 0).2.1 := by have h1 := (D7.C.sn 0).len; have h2 := D7.C.bl 0; simp at h1 h2; omega
        have s1 : (L 1).length = (M.S 1).2.1 := by have h1 := (D7.C.sn 1).len; have h2 := D7.C.bl 1; simp at h1 h2; omega
        have hL0 := H7.hL
        have hL1 := H7.hM
        obtain ⟨q1, q2, q3, q4, q5, q6, q7, q8, q9, q10⟩ := F7
        obtain rfl | rfl : k = 0 ∨ k = 1 := by omega
        · repeat (first | refine T_seq ?_ | refine T_region ?_ | refine T_cond_true rfl ?_ | refine T_block ?_ | refine T_skip ?_ | refine TL_lt_t (hk := ?_) | refine TL_nil ?_ | refine TL_move (hk := ?_))
          refine T_region_any TE.mixed (newB w2 w7) ?_; intro w8 e8 z8
          have D8 := D7.ext e8
          have k8 := hkp.be e8
          have K0 : Eng.Mod (newB w2 w7) w8 w8 := Mod.refl _ _
          (refine TA_take 0 rfl (by as_aux_lemma => kernel_rfl) (by as_aux_lemma => kernel_rfl) (by as_aux_lemma => kernel_rfl) ?_; (repeat (first | refine TL_move (hk := ?_) | refine TL_fieldAddr TE (hk := ?_) | refine TL_nilCheck (hk := ?_) | refine TL_indexArr TE (hk := ?_))); refine TL_nil_p ?_); (refine TA_take 1 rfl (by as_aux_lemma => kernel_rfl) (by as_aux_lemma => kernel_rfl) (by as_aux_lemma => kernel_rfl) ?_; (repeat (first | refine TL_move (hk := ?_) | refine TL_fieldAddr TE (hk := ?_) | refine TL_nilCheck (hk := ?_) | refine TL_indexArr TE (hk := ?_))); refine TL_nil_p ?_); (refine TA_take 2 rfl (by as_aux_lemma => kernel_rfl) (by as_aux_lemma => kernel_rfl) (by as_aux_lemma => kernel_rfl) ?_; (repeat (first | refine TL_move (hk := ?_) | refine TL_fieldAddr TE (hk := ?_) | refine TL_nilCheck (hk := ?_) | refine TL_indexArr TE (hk := ?_))); refine TL_nil_p ?_); (refine TA_take 3 rfl (by as_aux_lemma => kernel_rfl) (by as_aux_lemma => kernel_rfl) (by as_aux_lemma => kernel_rfl) ?_; (repeat (first | refine TL_move (hk := ?_) | refine TL_fieldAddr TE (hk := ?_) | refine TL_nilCheck (hk := ?_) | refine TL_indexArr TE (hk := ?_))); refine TL_nil_p ?_); (refine TA_take 4 rfl (by as_aux_lemma => kernel_rfl) (by as_aux_lemma => kernel_rfl) (by as_aux_lemma => kernel_rfl) ?_; (repeat (first | refine TL_move (hk := ?_) | refine TL_fieldAddr TE (hk := ?_) | refine TL_nilCheck (hk := ?_) | refine TL_indexArr TE (hk := ?_))); refine TL_nil_p ?_)
          (refine TA_one 5 rfl (by as_aux_lemma => kernel_rfl) (by as_aux_lemma => kernel_rfl) ?_; (try refine TL_yes (hk := ?_)); refine TLN_load TE (hb := k8) (hq := K0) (hk := ?_); refine TL_nil_p ?_)
          refine TA_one 6 rfl (by as_aux_lemma => kernel_rfl) (by as_aux_lemma => kernel_rfl) ?_; (try refine TL_yes (hk := ?_)); refine TL_call TE (hc := (Unsent_c _ D8.A)) (hq := (by rintro _ w9 ⟨rfl, rfl⟩; exact K0)) (hk := ?_)
          rintro _ w8 ⟨rfl, rfl⟩
          simp only [q1, List.length_nil]
          refine TL_nil_p ?_
          (refine TA_one 7 rfl (by as_aux_lemma => kernel_rfl) (by as_aux_lemma => kernel_rfl) ?_; (repeat (first | refine TL_ne_f (hk := ?_) | refine TL_move (hk := ?_))); refine TL_nil_p ?_); (refine TA_one 8 rfl (by as_aux_lemma => kernel_rfl) (by as_aux_lemma => kernel_rfl) ?_; (repeat (first | refine TL_ne_f (hk := ?_) | refine TL_move (hk := ?_))); refine TL_nil_p ?_)
          refine TA_norm (b2 := #[true, true, true, true, true, true, true, true, true, false, false, false, false, false, false, false, false, false, false, false, false, false, false, false, false, false, false, false, false, false, false, false, false, false, false, false, false, false, false, false, false, false, false, false, false, false, false, false, false, false, false, false, false, false, false, false, false, false, false, false, false, false, false, false, false, false, false, false, false, false, false, false, false, false, false, false, false, false, false, false, false, false, false, false, false, false, false, false]) (by as_aux_lemma => kernel_rfl) ?_
          (refine TA_take 9 rfl (by as_aux_lemma => kernel_rfl) (by as_aux_lemma => kernel_rfl) (by as_aux_lemma => kernel_rfl) ?_; (repeat (first | refine TL_move (hk := ?_) | refine TL_fieldAddr TE (hk := ?_) | refine TL_yes (hk := ?_) | refine TL_nilCheck (hk := ?_) | refine TL_indexArr TE (hk := ?_))); refine TL_nil_p ?_); (refine TA_take 10 rfl (by as_aux_lemma => kernel_rfl) (by as_aux_lemma => kernel_rfl) (by as_aux_lemma => kernel_rfl) ?_; (repeat (first | refine TL_move (hk := ?_) | refine TL_fieldAddr TE (hk := ?_) | refine TL_yes (hk := ?_) | refine TL_nilCheck (hk := ?_) | refine TL_indexArr TE (hk := ?_))); refine TL_nil_p ?_); (refine TA_take 11 rfl (by as_aux_lemma => kernel_rfl) (by as_aux_lemma => kernel_rfl) (by as_aux_lemma => kernel_rfl) ?_; (repeat (first | refine TL_move (hk := ?_) | refine TL_fieldAddr TE (hk := ?_) | refine TL_yes (hk := ?_) | refine TL_nilCheck (hk := ?_) | refine TL_indexArr TE (hk := ?_))); refine TL_nil_p ?_); (refine TA_take 12 rfl (by as_aux_lemma => kernel_rfl) (by as_aux_lemma => kernel_rfl) (by as_aux_lemma => kernel_rfl) ?_; (repeat (first | refine TL_move (hk := ?_) | refine TL_fieldAddr TE (hk := ?_) | refine TL_yes (hk := ?_) | refine TL_nilCheck (hk := ?_) | refine TL_indexArr TE (hk := ?_))); refine TL_nil_p ?_); (refine TA_take 13 rfl (by as_aux_lemma => kernel_rfl) (by as_aux_lemma => kernel_rfl) (by as_aux_lemma => kernel_rfl) ?_; (repeat (first | refine TL_move (hk := ?_) | refine TL_fieldAddr TE (hk := ?_) | refine TL_yes (hk := ?_) | refine TL_nilCheck (hk := ?_) | refine TL_indexArr TE (hk := ?_))); refine TL_nil_p ?_)
          (refine TA_one 14 rfl (by as_aux_lemma => kernel_rfl) (by as_aux_lemma => kernel_rfl) ?_; (try refine TL_yes (hk := ?_)); refine TLN_load TE (hb := k8) (hq := K0) (hk := ?_); refine TL_nil_p ?_)
          refine TA_one 15 rfl (by as_aux_lemma => kernel_rfl) (by as_aux_lemma => kernel_rfl) ?_; (try refine TL_yes (hk := ?_)); refine TL_call TE (hc := (Flying_c _ D8.A)) (hq := (by rintro _ w9 ⟨rfl, rfl⟩; exact K0)) (hk := ?_)
          rintro _ w8 ⟨rfl, rfl⟩
          simp only [q2, List.length_nil]
          refine TL_nil_p ?_
          (refine TA_one 16 rfl (by as_aux_lemma => kernel_rfl) (by as_aux_lemma => kernel_rfl) ?_; (repeat (first | refine TL_ne_f (hk := ?_) | refine TL_move (hk := ?_) | refine TL_yes (hk := ?_) | refine TL_pick_f (hk := ?_))); refine TL_nil_p ?_); (refine TA_one 17 rfl (by as_aux_lemma => kernel_rfl) (by as_aux_lemma => kernel_rfl) ?_; (repeat (first | refine TL_ne_f (hk := ?_) | refine TL_move (hk := ?_) | refine TL_yes (hk := ?_) | refine TL_pick_f (hk := ?_))); refine TL_nil_p ?_); (refine TA_one 18 rfl (by as_aux_lemma => kernel_rfl) (by as_aux_lemma => kernel_rfl) ?_; (repeat (first | refine TL_ne_f (hk := ?_) | refine TL_move (hk := ?_) | refine TL_yes (hk := ?_) | refine TL_pick_f (hk := ?_))); refine TL_nil_p ?_)
          refine TA_norm (b2 := #[true, true, true, true, true, true, true, true, true, true, true, true, true, true, true, true, true, true, true, false, false, false, false, false, false, false, false, false, false, false, false, false, false, false, false, false, false, false, false, false, false, false, false, false, false, false, false, false, false, false, false, false, false, false, false, false, false, false, false, false, false, false, false, false, false, false, false, false, false, false, false, false, false, false, false, false, false, false, false, false, false, false, false, false, false, false, false, false]) (by as_aux_lemma => kernel_rfl) ?_
          (refine TA_take 19 rfl (by as_aux_lemma => kernel_rfl) (by as_aux_lemma => kernel_rfl) (by as_aux_lemma => kernel_rfl) ?_; (repeat (first | refine TL_move (hk := ?_) | refine TL_fieldAddr TE (hk := ?_) | refine TL_yes (hk := ?_) | refine TL_nilCheck (hk := ?_) | refine TL_indexArr TE (hk := ?_))); refine TL_nil_p ?_); (refine TA_take 20 rfl (by as_aux_lemma => kernel_rfl) (by as_aux_lemma => kernel_rfl) (by as_aux_lemma => kernel_rfl) ?_; (repeat (first | refine TL_move (hk := ?_) | refine TL_fieldAddr TE (hk := ?_) | refine TL_yes (hk := ?_) | refine TL_nilCheck (hk := ?_) | refine TL_indexArr TE (hk := ?_))); refine TL_nil_p ?_); (refine TA_take 21 rfl (by as_aux_lemma => kernel_rfl) (by as_aux_lemma => kernel_rfl) (by as_aux_lemma => kernel_rfl) ?_; (repeat (first | refine TL_move (hk := ?_) | refine TL_fieldAddr TE (hk := ?_) | refine TL_yes (hk := ?_) | refine TL_nilCheck (hk := ?_) | refine TL_indexArr TE (hk := ?_))); refine TL_nil_p ?_); (refine TA_take 22 rfl (by as_aux_lemma => kernel_rfl) (by as_aux_lemma => kernel_rfl) (by as_aux_lemma => kernel_rfl) ?_; (repeat (first | refine TL_move (hk := ?_) | refine TL_fieldAddr TE (hk := ?_) | refine TL_yes (hk := ?_) | refine TL_nilCheck (hk := ?_) | refine TL_indexArr TE (hk := ?_))); refine TL_nil_p ?_); (refine TA_take 23 rfl (by as_aux_lemma => kernel_rfl) (by as_aux_lemma => kernel_rfl) (by as_aux_lemma => kernel_rfl) ?_; (repeat (first | refine TL_move (hk := ?_) | refine TL_fieldAddr TE (hk := ?_) | refine TL_yes (hk := ?_) | refine TL_nilCheck (hk := ?_) | refine TL_indexArr TE (hk := ?_))); refine TL_nil_p ?_)
          (refine TA_one 24 rfl (by as_aux_lemma => kernel_rfl) (by as_aux_lemma => kernel_rfl) ?_; (try refine TL_yes (hk := ?_)); refine TLN_load TE (hb := k8) (hq := K0) (hk := ?_); refine TL_nil_p ?_)
          refine TA_one 25 rfl (by as_aux_lemma => kernel_rfl) (by as_aux_lemma => kernel_rfl) ?_; (try refine TL_yes (hk := ?_)); refine TL_call TE (hc := (Held_c _ D8.A)) (hq := (by rintro _ w9 ⟨rfl, rfl⟩; exact K0)) (hk := ?_)
          rintro _ w8 ⟨rfl, rfl⟩
          simp only [q3, List.length_nil]
          refine TL_nil_p ?_
          (refine TA_one 26 rfl (by as_aux_lemma => kernel_rfl) (by as_aux_lemma => kernel_rfl) ?_; (repeat (first | refine TL_ne_f (hk := ?_) | refine TL_move (hk := ?_) | refine TL_yes (hk := ?_) | refine TL_pick_f (hk := ?_))); refine TL_nil_p ?_); (refine TA_one 27 rfl (by as_aux_lemma => kernel_rfl) (by as_aux_lemma => kernel_rfl) ?_; (repeat (first | refine TL_ne_f (hk := ?_) | refine TL_move (hk := ?_) | refine TL_yes (hk := ?_) | refine TL_pick_f (hk := ?_))); refine TL_nil_p ?_); (refine TA_one 28 rfl (by as_aux_lemma => kernel_rfl) (by as_aux_lemma => kernel_rfl) ?_; (repeat (first | refine TL_ne_f (hk := ?_) | refine TL_move (hk := ?_) | refine TL_yes (hk := ?_) | refine TL_pick_f (hk := ?_))); refine TL_nil_p ?_)
          refine TA_norm (b2 := #[true, true, true, true, true, true, true, true, true, true, true, true, true, true, true, true, true, true, true, true, true, true, true, true, true, true, true, true, true, false, false, false, false, false, false, false, false, false, false, false, false, false, false, false, false, false, false, false, false, false, false, false, false, false, false, false, false, false, false, false, false, false, false, false, false, false, false, false, false, false, false, false, false, false, false, false, false, false, false, false, false, false, false, false, false, false, false, false]) (by as_aux_lemma => kernel_rfl) ?_
          (refine TA_take 29 rfl (by as_aux_lemma => kernel_rfl) (by as_aux_lemma => kernel_rfl) (by as_aux_lemma => kernel_rfl) ?_; (repeat (first | refine TL_move (hk := ?_) | refine TL_yes (hk := ?_))); refine TL_nil_p ?_); (refine TA_take 30 rfl (by as_aux_lemma => kernel_rfl) (by as_aux_lemma => kernel_rfl) (by as_aux_lemma => kernel_rfl) ?_; (repeat (first | refine TL_move (hk := ?_) | refine TL_yes (hk := ?_))); refine TL_nil_p ?_)
          refine TA_one 31 rfl (by as_aux_lemma => kernel_rfl) (by as_aux_lemma => kernel_rfl) ?_; (try refine TL_yes (hk := ?_)); refine TL_call TE (hc := (told0_c _ D8 H7)) (hq := (by rintro _ w9 ⟨rfl, y, m', f', T', D', _⟩; exact Mod.fresh D8.e D'.e z8 y)) (hk := ?_)
          rintro _ w9 ⟨rfl, y9, m8, fa8, T8, D9, H8, t1, t2⟩
          have k9 := D9.C.blk
          simp only [pairV] at k9
          have hT8 : T8 1 = (M.S 1).2.1 := by omega
          have hnx : (M.S 0).2.1 ≤ 600 := by omega
          have hT8' : (T8 1 : Int) = ((M.S 1).2.1 : Int) := by omega
          refine TL_nil_p ?_
          refine TA_again ?_
          have hpn : pp ∉ ([] : List Nat) := by simp
          have K9 : Eng.Mod [] w9 w9 := Mod.refl _ _
          refine TA_norm (b2 := #[true, true, true, true, true, true, true, true, true, true, true, true, true, true, true, true, true, true, true, true, true, true, true, true, true, true, true, true, true, true, true, true, false, false, false, false, false, false, false, false, false, false, false, false, false, false, false, false, false, false, false, false, false, false, false, false, false, false, false, false, false, false, false, false, false, false, false, false, false, false, false, false, false, false, false, false, false, false, false, false, false, false, false, false, false, false, false, false]) (by as_aux_lemma => kernel_rfl) ?_
          (refine TA_take 32 rfl (by as_aux_lemma => kernel_rfl) (by as_aux_lemma => kernel_rfl) (by as_aux_lemma => kernel_rfl) ?_; (repeat (first | refine TL_sub (hk := ?_) | refine TL_move (hk := ?_) | refine TL_fieldAddr TE (hk := ?_) | refine TL_yes (hk := ?_) | refine TL_pick_f (hk := ?_) | refine TL_nilCheck (hk := ?_) | refine TL_not (hk := ?_))); refine TL_nil_p ?_); (refine TA_take 33 rfl (by as_aux_lemma => kernel_rfl) (by as_aux_lemma => kernel_rfl) (by as_aux_lemma => kernel_rfl) ?_; (repeat (first | refine TL_sub (hk := ?_) | refine TL_move (hk := ?_) | refine TL_fieldAddr TE (hk := ?_) | refine TL_yes (hk := ?_) | refine TL_pick_f (hk := ?_) | refine TL_nilCheck (hk := ?_) | refine TL_not (hk := ?_))); refine TL_nil_p ?_); (refine TA_take 34 rfl (by as_aux_lemma => kernel_rfl) (by as_aux_lemma => kernel_rfl) (by as_aux_lemma => kernel_rfl) ?_; (repeat (first | refine TL_sub (hk := ?_) | refine TL_move (hk := ?_) | refine TL_fieldAddr TE (hk := ?_) | refine TL_yes (hk := ?_) | refine TL_pick_f (hk := ?_) | refine TL_nilCheck (hk := ?_) | refine TL_not (hk := ?_))); refine TL_nil_p ?_); (refine TA_take 35 rfl (by as_aux_lemma => kernel_rfl) (by as_aux_lemma => kernel_rfl) (by as_aux_lemma => kernel_rfl) ?_; (repeat (first | refine TL_sub (hk := ?_) | refine TL_move (hk := ?_) | refine TL_fieldAddr TE (hk := ?_) | refine TL_yes (hk := ?_) | refine TL_pick_f (hk := ?_) | refine TL_nilCheck (hk := ?_) | refine TL_not (hk := ?_))); refine TL_nil_p ?_); (refine TA_take 36 rfl (by as_aux_lemma => kernel_rfl) (by as_aux_lemma => kernel_rfl) (by as_aux_lemma => kernel_rfl) ?_; (repeat (first | refine TL_sub (hk := ?_) | refine TL_move (hk := ?_) | refine TL_fieldAddr TE (hk := ?_) | refine TL_yes (hk := ?_) | refine TL_pick_f (hk := ?_) | refine TL_nilCheck (hk := ?_) | refine TL_not (hk := ?_))); refine TL_nil_p ?_); (refine TA_take 37 rfl (by as_aux_lemma => kernel_rfl) (by as_aux_lemma => kernel_rfl) (by as_aux_lemma => kernel_rfl) ?_; (repeat (first | refine TL_sub (hk := ?_) | refine TL_move (hk := ?_) | refine TL_fieldAddr TE (hk := ?_) | refine TL_yes (hk := ?_) | refine TL_pick_f (hk := ?_) | refine TL_nilCheck (hk := ?_) | refine TL_not (hk := ?_))); refine TL_nil_p ?_); (refine TA_take 38 rfl (by as_aux_lemma => kernel_rfl) (by as_aux_lemma => kernel_rfl) (by as_aux_lemma => kernel_rfl) ?_; (repeat (first | refine TL_sub (hk := ?_) | refine TL_move (hk := ?_) | refine TL_fieldAddr TE (hk := ?_) | refine TL_yes (hk := ?_) | refine TL_pick_f (hk := ?_) | refine TL_nilCheck (hk := ?_) | refine TL_not (hk := ?_))); refine TL_nil_p ?_); (refine TA_take 39 rfl (by as_aux_lemma => kernel_rfl) (by as_aux_lemma => kernel_rfl) (by as_aux_lemma => kernel_rfl) ?_; (repeat (first | refine TL_sub (hk := ?_) | refine TL_move (hk := ?_) | refine TL_fieldAddr TE (hk := ?_) | refine TL_yes (hk := ?_) | refine TL_pick_f (hk := ?_) | refine TL_nilCheck (hk := ?_) | refine TL_not (hk := ?_))); refine TL_nil_p ?_)
          refine TA_norm (b2 := #[true, true, true, true, true, true, true, true, true, true, true, true, true, true, true, true, true, true, true, true, true, true, true, true, true, true, true, true, true, true, true, true, true, true, true, true, true, true, true, true, false, false, false, false, false, false, false, false, false, false, false, false, false, false, false, false, false, false, false, false, false, false, false, false, false, false, false, false, false, false, false, false, false, false, false, false, false, false, false, false, false, false, false, false, false, false, false, false]) (by as_aux_lemma => kernel_rfl) ?_
          (refine TA_take 40 rfl (by as_aux_lemma => kernel_rfl) (by as_aux_lemma => kernel_rfl) (by as_aux_lemma => kernel_rfl) ?_; (repeat (first | refine TL_sub (hk := ?_) | refine TL_move (hk := ?_) | refine TLP_load TE (hk := ?_) | refine TL_fieldAddr TE (hk := ?_) | refine TL_yes (hk := ?_) | refine TL_nilCheck (hk := ?_) | refine TL_indexArr TE (hk := ?_))); refine TL_nil_p ?_); (refine TA_take 41 rfl (by as_aux_lemma => kernel_rfl) (by as_aux_lemma => kernel_rfl) (by as_aux_lemma => kernel_rfl) ?_; (repeat (first | refine TL_sub (hk := ?_) | refine TL_move (hk := ?_) | refine TLP_load TE (hk := ?_) | refine TL_fieldAddr TE (hk := ?_) | refine TL_yes (hk := ?_) | refine TL_nilCheck (hk := ?_) | refine TL_indexArr TE (hk := ?_))); refine TL_nil_p ?_); (refine TA_take 42 rfl (by as_aux_lemma => kernel_rfl) (by as_aux_lemma => kernel_rfl) (by as_aux_lemma => kernel_rfl) ?_; (repeat (first | refine TL_sub (hk := ?_) | refine TL_move (hk := ?_) | refine TLP_load TE (hk := ?_) | refine TL_fieldAddr TE (hk := ?_) | refine TL_yes (hk := ?_) | refine TL_nilCheck (hk := ?_) | refine TL_indexArr TE (hk := ?_))); refine TL_nil_p ?_); (refine TA_take 43 rfl (by as_aux_lemma => kernel_rfl) (by as_aux_lemma => kernel_rfl) (by as_aux_lemma => kernel_rfl) ?_; (repeat (first | refine TL_sub (hk := ?_) | refine TL_move (hk := ?_) | refine TLP_load TE (hk := ?_) | refine TL_fieldAddr TE (hk := ?_) | refine TL_yes (hk := ?_) | refine TL_nilCheck (hk := ?_) | refine TL_indexArr TE (hk := ?_))); refine TL_nil_p ?_); (refine TA_take 44 rfl (by as_aux_lemma => kernel_rfl) (by as_aux_lemma => kernel_rfl) (by as_aux_lemma => kernel_rfl) ?_; (repeat (first | refine TL_sub (hk := ?_) | refine TL_move (hk := ?_) | refine TLP_load TE (hk := ?_) | refine TL_fieldAddr TE (hk := ?_) | refine TL_yes (hk := ?_) | refine TL_nilCheck (hk := ?_) | refine TL_indexArr TE (hk := ?_))); refine TL_nil_p ?_); (refine TA_take 45 rfl (by as_aux_lemma => kernel_rfl) (by as_aux_lemma => kernel_rfl) (by as_aux_lemma => kernel_rfl) ?_; (repeat (first | refine TL_sub (hk := ?_) | refine TL_move (hk := ?_) | refine TLP_load TE (hk := ?_) | refine TL_fieldAddr TE (hk := ?_) | refine TL_yes (hk := ?_) | refine TL_nilCheck (hk := ?_) | refine TL_indexArr TE (hk := ?_))); refine TL_nil_p ?_); (refine TA_take 46 rfl (by as_aux_lemma => kernel_rfl) (by as_aux_lemma => kernel_rfl) (by as_aux_lemma => kernel_rfl) ?_; (repeat (first | refine TL_sub (hk := ?_) | refine TL_move (hk := ?_) | refine TLP_load TE (hk := ?_) | refine TL_fieldAddr TE (hk := ?_) | refine TL_yes (hk := ?_) | refine TL_nilCheck (hk := ?_) | refine TL_indexArr TE (hk := ?_))); refine TL_nil_p ?_)
          refine TA_norm (b2 := #[true, true, true, true, true, true, true, true, true, true, true, true, true, true, true, true, true, true, true, true, true, true, true, true, true, true, true, true, true, true, true, true, true, true, true, true, true, true, true, true, true, true, true, true, true, true, true, false, false, false, false, false, false, false, false, false, false, false, false, false, false, false, false, false, false, false, false, false, false, false, false, false, false, false, false, false, false, false, false, false, false, false, false, false, false, false, false, false]) (by as_aux_lemma => kernel_rfl) ?_
          (refine TA_take 47 rfl (by as_aux_lemma => kernel_rfl) (by as_aux_lemma => kernel_rfl) (by as_aux_lemma => kernel_rfl) ?_; (repeat (first | refine TL_ne_f (hk := ?_) | refine TL_move (hk := ?_) | refine TLP_load TE (hk := ?_) | refine TL_len TE (hk := ?_) | refine TL_yes (hk := ?_) | refine TL_pick_f (hk := ?_) | refine TL_indexArr TE (hk := ?_))); refine TL_nil_p ?_); (refine TA_take 48 rfl (by as_aux_lemma => kernel_rfl) (by as_aux_lemma => kernel_rfl) (by as_aux_lemma => kernel_rfl) ?_; (repeat (first | refine TL_ne_f (hk := ?_) | refine TL_move (hk := ?_) | refine TLP_load TE (hk := ?_) | refine TL_len TE (hk := ?_) | refine TL_yes (hk := ?_) | refine TL_pick_f (hk := ?_) | refine TL_indexArr TE (hk := ?_))); refine TL_nil_p ?_); (refine TA_take 49 rfl (by as_aux_lemma => kernel_rfl) (by as_aux_lemma => kernel_rfl) (by as_aux_lemma => kernel_rfl) ?_; (repeat (first | refine TL_ne_f (hk := ?_) | refine TL_move (hk := ?_) | refine TLP_load TE (hk := ?_) | refine TL_len TE (hk := ?_) | refine TL_yes (hk := ?_) | refine TL_pick_f (hk := ?_) | refine TL_indexArr TE (hk := ?_))); refine TL_nil_p ?_); (refine TA_take 50 rfl (by as_aux_lemma => kernel_rfl) (by as_aux_lemma => kernel_rfl) (by as_aux_lemma => kernel_rfl) ?_; (repeat (first | refine TL_ne_f (hk := ?_) | refine TL_move (hk := ?_) | refine TLP_load TE (hk := ?_) | refine TL_len TE (hk := ?_) | refine TL_yes (hk := ?_) | refine TL_pick_f (hk := ?_) | refine TL_indexArr TE (hk := ?_))); refine TL_nil_p ?_); (refine TA_take 51 rfl (by as_aux_lemma => kernel_rfl) (by as_aux_lemma => kernel_rfl) (by as_aux_lemma => kernel_rfl) ?_; (repeat (first | refine TL_ne_f (hk := ?_) | refine TL_move (hk := ?_) | refine TLP_load TE (hk := ?_) | refine TL_len TE (hk := ?_) | refine TL_yes (hk := ?_) | refine TL_pick_f (hk := ?_) | refine TL_indexArr TE (hk := ?_))); refine TL_nil_p ?_); (refine TA_take 52 rfl (by as_aux_lemma => kernel_rfl) (by as_aux_lemma => kernel_rfl) (by as_aux_lemma => kernel_rfl) ?_; (repeat (first | refine TL_ne_f (hk := ?_) | refine TL_move (hk := ?_) | refine TLP_load TE (hk := ?_) | refine TL_len TE (hk := ?_) | refine TL_yes (hk := ?_) | refine TL_pick_f (hk := ?_) | refine TL_indexArr TE (hk := ?_))); refine TL_nil_p ?_); (refine TA_take 53 rfl (by as_aux_lemma => kernel_rfl) (by as_aux_lemma => kernel_rfl) (by as_aux_lemma => kernel_rfl) ?_; (repeat (first | refine TL_ne_f (hk := ?_) | refine TL_move (hk := ?_) | refine TLP_load TE (hk := ?_) | refine TL_len TE (hk := ?_) | refine TL_yes (hk := ?_) | refine TL_pick_f (hk := ?_) | refine TL_indexArr TE (hk := ?_))); refine TL_nil_p ?_)
          refine TA_norm (b2 := #[true, true, true, true, true, true, true, true, true, true, true, true, true, true, true, true, true, true, true, true, true, true, true, true, true, true, true, true, true, true, true, true, true, true, true, true, true, true, true, true, true, true, true, true, true, true, true, true, true, true, true, true, true, true, false, false, false, false, false, false, false, false, false, false, false, false, false, false, false, false, false, false, false, false, false, false, false, false, false, false, false, false, false, false, false, false, false, false]) (by as_aux_lemma => kernel_rfl) ?_
          (refine TA_take 54 rfl (by as_aux_lemma => kernel_rfl) (by as_aux_lemma => kernel_rfl) (by as_aux_lemma => kernel_rfl) ?_; (repeat (first | refine TL_move (hk := ?_) | refine TLP_load TE (hk := ?_) | refine TL_fieldAddr TE (hk := ?_) | refine TL_yes (hk := ?_) | refine TL_nilCheck (hk := ?_) | refine TL_indexArr TE (hk := ?_))); refine TL_nil_p ?_); (refine TA_take 55 rfl (by as_aux_lemma => kernel_rfl) (by as_aux_lemma => kernel_rfl) (by as_aux_lemma => kernel_rfl) ?_; (repeat (first | refine TL_move (hk := ?_) | refine TLP_load TE (hk := ?_) | refine TL_fieldAddr TE (hk := ?_) | refine TL_yes (hk := ?_) | refine TL_nilCheck (hk := ?_) | refine TL_indexArr TE (hk := ?_))); refine TL_nil_p ?_); (refine TA_take 56 rfl (by as_aux_lemma => kernel_rfl) (by as_aux_lemma => kernel_rfl) (by as_aux_lemma => kernel_rfl) ?_; (repeat (first | refine TL_move (hk := ?_) | refine TLP_load TE (hk := ?_) | refine TL_fieldAddr TE (hk := ?_) | refine TL_yes (hk := ?_) | refine TL_nilCheck (hk := ?_) | refine TL_indexArr TE (hk := ?_))); refine TL_nil_p ?_); (refine TA_take 57 rfl (by as_aux_lemma => kernel_rfl) (by as_aux_lemma => kernel_rfl) (by as_aux_lemma => kernel_rfl) ?_; (repeat (first | refine TL_move (hk := ?_) | refine TLP_load TE (hk := ?_) | refine TL_fieldAddr TE (hk := ?_) | refine TL_yes (hk := ?_) | refine TL_nilCheck (hk := ?_) | refine TL_indexArr TE (hk := ?_))); refine TL_nil_p ?_); (refine TA_take 58 rfl (by as_aux_lemma => kernel_rfl) (by as_aux_lemma => kernel_rfl) (by as_aux_lemma => kernel_rfl) ?_; (repeat (first | refine TL_move (hk := ?_) | refine TLP_load TE (hk := ?_) | refine TL_fieldAddr TE (hk := ?_) | refine TL_yes (hk := ?_) | refine TL_nilCheck (hk := ?_) | refine TL_indexArr TE (hk := ?_))); refine TL_nil_p ?_); (refine TA_take 60 rfl (by as_aux_lemma => kernel_rfl) (by as_aux_lemma => kernel_rfl) (by as_aux_lemma => kernel_rfl) ?_; (repeat (first | refine TL_move (hk := ?_) | refine TLP_load TE (hk := ?_) | refine TL_fieldAddr TE (hk := ?_) | refine TL_yes (hk := ?_) | refine TL_nilCheck (hk := ?_) | refine TL_indexArr TE (hk := ?_))); refine TL_nil_p ?_); (refine TA_take 61 rfl (by as_aux_lemma => kernel_rfl) (by as_aux_lemma => kernel_rfl) (by as_aux_lemma => kernel_rfl) ?_; (repeat (first | refine TL_move (hk := ?_) | refine TLP_load TE (hk := ?_) | refine TL_fieldAddr TE (hk := ?_) | refine TL_yes (hk := ?_) | refine TL_nilCheck (hk := ?_) | refine TL_indexArr TE (hk := ?_))); refine TL_nil_p ?_)
          refine TA_norm (b2 := #[true, true, true, true, true, true, true, true, true, true, true, true, true, true, true, true, true, true, true, true, true, true, true, true, true, true, true, true, true, true, true, true, true, true, true, true, true, true, true, true, true, true, true, true, true, true, true, true, true, true, true, true, true, true, true, true, true, true, true, false, true, true, false, false, false, false, false, false, false, false, false, false, false, false, false, false, false, false, false, false, false, false, false, false, false, false, false, false]) (by as_aux_lemma => kernel_rfl) ?_
          (refine TA_take 62 rfl (by as_aux_lemma => kernel_rfl) (by as_aux_lemma => kernel_rfl) (by as_aux_lemma => kernel_rfl) ?_; (repeat (first | refine TLP_load TE (hk := ?_) | refine TL_fieldAddr TE (hk := ?_) | refine TL_len TE (hk := ?_) | refine TL_yes (hk := ?_) | refine TL_nilCheck (hk := ?_) | refine TL_conv TE (hk := ?_) | refine TL_indexArr TE (hk := ?_))); refine TL_nil_p ?_); (refine TA_take 63 rfl (by as_aux_lemma => kernel_rfl) (by as_aux_lemma => kernel_rfl) (by as_aux_lemma => kernel_rfl) ?_; (repeat (first | refine TLP_load TE (hk := ?_) | refine TL_fieldAddr TE (hk := ?_) | refine TL_len TE (hk := ?_) | refine TL_yes (hk := ?_) | refine TL_nilCheck (hk := ?_) | refine TL_conv TE (hk := ?_) | refine TL_indexArr TE (hk := ?_))); refine TL_nil_p ?_); (refine TA_take 64 rfl (by as_aux_lemma => kernel_rfl) (by as_aux_lemma => kernel_rfl) (by as_aux_lemma => kernel_rfl) ?_; (repeat (first | refine TLP_load TE (hk := ?_) | refine TL_fieldAddr TE (hk := ?_) | refine TL_len TE (hk := ?_) | refine TL_yes (hk := ?_) | refine TL_nilCheck (hk := ?_) | refine TL_conv TE (hk := ?_) | refine TL_indexArr TE (hk := ?_))); refine TL_nil_p ?_); (refine TA_take 65 rfl (by as_aux_lemma => kernel_rfl) (by as_aux_lemma => kernel_rfl) (by as_aux_lemma => kernel_rfl) ?_; (repeat (first | refine TLP_load TE (hk := ?_) | refine TL_fieldAddr TE (hk := ?_) | refine TL_len TE (hk := ?_) | refine TL_yes (hk := ?_) | refine TL_nilCheck (hk := ?_) | refine TL_conv TE (hk := ?_) | refine TL_indexArr TE (hk := ?_))); refine TL_nil_p ?_); (refine TA_take 66 rfl (by as_aux_lemma => kernel_rfl) (by as_aux_lemma => kernel_rfl) (by as_aux_lemma => kernel_rfl) ?_; (repeat (first | refine TLP_load TE (hk := ?_) | refine TL_fieldAddr TE (hk := ?_) | refine TL_len TE (hk := ?_) | refine TL_yes (hk := ?_) | refine TL_nilCheck (hk := ?_) | refine TL_conv TE (hk := ?_) | refine TL_indexArr TE (hk := ?_))); refine TL_nil_p ?_); (refine TA_take 67 rfl (by as_aux_lemma => kernel_rfl) (by as_aux_lemma => kernel_rfl) (by as_aux_lemma => kernel_rfl) ?_; (repeat (first | refine TLP_load TE (hk := ?_) | refine TL_fieldAddr TE (hk := ?_) | refine TL_len TE (hk := ?_) | refine TL_yes (hk := ?_) | refine TL_nilCheck (hk := ?_) | refine TL_conv TE (hk := ?_) | refine TL_indexArr TE (hk := ?_))); refine TL_nil_p ?_)
          refine TA_norm (b2 := #[true, true, true, true, true, true, true, true, true, true, true, true, true, true, true, true, true, true, true, true, true, true, true, true, true, true, true, true, true, true, true, true, true, true, true, true, true, true, true, true, true, true, true, true, true, true, true, true, true, true, true, true, true, true, true, true, true, true, true, false, true, true, true, true, true, true, true, true, false, false, false, false, false, false, false, false, false, false, false, false, false, false, false, false, false, false, false, false]) (by as_aux_lemma => kernel_rfl) ?_
          refine TA_one 59 rfl (by as_aux_lemma => kernel_rfl) (by as_aux_lemma => kernel_rfl) ?_; (try refine TL_yes (hk := ?_)); refine TL_call TE (hc := (Sent_c _ D9.A)) (hq := (by rintro _ w9 ⟨rfl, rfl⟩; exact K9)) (hk := ?_)
          rintro _ w9 ⟨rfl, rfl⟩
          simp only [q9, s0]
          refine TL_nil_p ?_
          refine TA_norm (b2 := #[true, true, true, true, true, true, true, true, true, true, true, true, true, true, true, true, true, true, true, true, true, true, true, true, true, true, true, true, true, true, true, true, true, true, true, true, true, true, true, true, true, true, true, true, true, true, true, true, true, true, true, true, true, true, true, true, true, true, true, true, true, true, true, true, true, true, true, true, false, false, false, false, false, false, false, false, false, false, false, false, false, false, false, false, false, false, false, false]) (by as_aux_lemma => kernel_rfl) ?_
          (refine TA_take 68 rfl (by as_aux_lemma => kernel_rfl) (by as_aux_lemma => kernel_rfl) (by as_aux_lemma => kernel_rfl) ?_; (repeat (first | refine TL_sub (hk := ?_) | refine TL_ne_f (hk := ?_) | refine TL_move (hk := ?_) | refine TL_yes (hk := ?_) | refine TL_pick_f (hk := ?_) | refine TL_nilCheck (hk := ?_))); refine TL_nil_p ?_); (refine TA_take 69 rfl (by as_aux_lemma => kernel_rfl) (by as_aux_lemma => kernel_rfl) (by as_aux_lemma => kernel_rfl) ?_; (repeat (first | refine TL_sub (hk := ?_) | refine TL_ne_f (hk := ?_) | refine TL_move (hk := ?_) | refine TL_yes (hk := ?_) | refine TL_pick_f (hk := ?_) | refine TL_nilCheck (hk := ?_))); refine TL_nil_p ?_); (refine TA_take 70 rfl (by as_aux_lemma => kernel_rfl) (by as_aux_lemma => kernel_rfl) (by as_aux_lemma => kernel_rfl) ?_; (repeat (first | refine TL_sub (hk := ?_) | refine TL_ne_f (hk := ?_) | refine TL_move (hk := ?_) | refine TL_yes (hk := ?_) | refine TL_pick_f (hk := ?_) | refine TL_nilCheck (hk := ?_))); refine TL_nil_p ?_); (refine TA_take 71 rfl (by as_aux_lemma => kernel_rfl) (by as_aux_lemma => kernel_rfl) (by as_aux_lemma => kernel_rfl) ?_; (repeat (first | refine TL_sub (hk := ?_) | refine TL_ne_f (hk := ?_) | refine TL_move (hk := ?_) | refine TL_yes (hk := ?_) | refine TL_pick_f (hk := ?_) | refine TL_nilCheck (hk := ?_))); refine TL_nil_p ?_); (refine TA_take 72 rfl (by as_aux_lemma => kernel_rfl) (by as_aux_lemma => kernel_rfl) (by as_aux_lemma => kernel_rfl) ?_; (repeat (first | refine TL_sub (hk := ?_) | refine TL_ne_f (hk := ?_) | refine TL_move (hk := ?_) | refine TL_yes (hk := ?_) | refine TL_pick_f (hk := ?_) | refine TL_nilCheck (hk := ?_))); refine TL_nil_p ?_); (refine TA_take 73 rfl (by as_aux_lemma => kernel_rfl) (by as_aux_lemma => kernel_rfl) (by as_aux_lemma => kernel_rfl) ?_; (repeat (first | refine TL_sub (hk := ?_) | refine TL_ne_f (hk := ?_) | refine TL_move (hk := ?_) | refine TL_yes (hk := ?_) | refine TL_pick_f (hk := ?_) | refine TL_nilCheck (hk := ?_))); refine TL_nil_p ?_); (refine TA_take 74 rfl (by as_aux_lemma => kernel_rfl) (by as_aux_lemma => kernel_rfl) (by as_aux_lemma => kernel_rfl) ?_; (repeat (first | refine TL_sub (hk := ?_) | refine TL_ne_f (hk := ?_) | refine TL_move (hk := ?_) | refine TL_yes (hk := ?_) | refine TL_pick_f (hk := ?_) | refine TL_nilCheck (hk := ?_))); refine TL_nil_p ?_)
          refine TA_norm (b2 := #[true, true, true, true, true, true, true, true, true, true, true, true, true, true, true, true, true, true, true, true, true, true, true, true, true, true, true, true, true, true, true, true, true, true, true, true, true, true, true, true, true, true, true, true, true, true, true, true, true, true, true, true, true, true, true, true, true, true, true, true, true, true, true, true, true, true, true, true, true, true, true, true, true, true, true, false, false, false, false, false, false, false, false, false, false, false, false, false]) (by as_aux_lemma => kernel_rfl) ?_
          (refine TA_take 75 rfl (by as_aux_lemma => kernel_rfl) (by as_aux_lemma => kernel_rfl) (by as_aux_lemma => kernel_rfl) ?_; (repeat (first | refine TL_move (hk := ?_) | refine TLP_load TE (hk := ?_) | refine TL_fieldAddr TE (hk := ?_) | refine TL_yes (hk := ?_) | refine TL_nilCheck (hk := ?_) | refine TL_indexArr TE (hk := ?_))); refine TL_nil_p ?_); (refine TA_take 76 rfl (by as_aux_lemma => kernel_rfl) (by as_aux_lemma => kernel_rfl) (by as_aux_lemma => kernel_rfl) ?_; (repeat (first | refine TL_move (hk := ?_) | refine TLP_load TE (hk := ?_) | refine TL_fieldAddr TE (hk := ?_) | refine TL_yes (hk := ?_) | refine TL_nilCheck (hk := ?_) | refine TL_indexArr TE (hk := ?_))); refine TL_nil_p ?_); (refine TA_take 77 rfl (by as_aux_lemma => kernel_rfl) (by as_aux_lemma => kernel_rfl) (by as_aux_lemma => kernel_rfl) ?_; (repeat (first | refine TL_move (hk := ?_) | refine TLP_load TE (hk := ?_) | refine TL_fieldAddr TE (hk := ?_) | refine TL_yes (hk := ?_) | refine TL_nilCheck (hk := ?_) | refine TL_indexArr TE (hk := ?_))); refine TL_nil_p ?_); (refine TA_take 79 rfl (by as_aux_lemma => kernel_rfl) (by as_aux_lemma => kernel_rfl) (by as_aux_lemma => kernel_rfl) ?_; (repeat (first | refine TL_move (hk := ?_) | refine TLP_load TE (hk := ?_) | refine TL_fieldAddr TE (hk := ?_) | refine TL_yes (hk := ?_) | refine TL_nilCheck (hk := ?_) | refine TL_indexArr TE (hk := ?_))); refine TL_nil_p ?_); (refine TA_take 80 rfl (by as_aux_lemma => kernel_rfl) (by as_aux_lemma => kernel_rfl) (by as_aux_lemma => kernel_rfl) ?_; (repeat (first | refine TL_move (hk := ?_) | refine TLP_load TE (hk := ?_) | refine TL_fieldAddr TE (hk := ?_) | refine TL_yes (hk := ?_) | refine TL_nilCheck (hk := ?_) | refine TL_indexArr TE (hk := ?_))); refine TL_nil_p ?_); (refine TA_take 81 rfl (by as_aux_lemma => kernel_rfl) (by as_aux_lemma => kernel_rfl) (by as_aux_lemma => kernel_rfl) ?_; (repeat (first | refine TL_move (hk := ?_) | refine TLP_load TE (hk := ?_) | refine TL_fieldAddr TE (hk := ?_) | refine TL_yes (hk := ?_) | refine TL_nilCheck (hk := ?_) | refine TL_indexArr TE (hk := ?_))); refine TL_nil_p ?_); (refine TA_take 82 rfl (by as_aux_lemma => kernel_rfl) (by as_aux_lemma => kernel_rfl) (by as_aux_lemma => kernel_rfl) ?_; (repeat (first | refine TL_move (hk := ?_) | refine TLP_load TE (hk := ?_) | refine TL_fieldAddr TE (hk := ?_) | refine TL_yes (hk := ?_) | refine TL_nilCheck (hk := ?_) | refine TL_indexArr TE (hk := ?_))); refine TL_nil_p ?_); (refine TA_take 83 rfl (by as_aux_lemma => kernel_rfl) (by as_aux_lemma => kernel_rfl) (by as_aux_lemma => kernel_rfl) ?_; (repeat (first | refine TL_move (hk := ?_) | refine TLP_load TE (hk := ?_) | refine TL_fieldAddr TE (hk := ?_) | refine TL_yes (hk := ?_) | refine TL_nilCheck (hk := ?_) | refine TL_indexArr TE (hk := ?_))); refine TL_nil_p ?_); (refine TA_take 84 rfl (by as_aux_lemma => kernel_rfl) (by as_aux_lemma => kernel_rfl) (by as_aux_lemma => kernel_rfl) ?_; (repeat (first | refine TL_move (hk := ?_) | refine TLP_load TE (hk := ?_) | refine TL_fieldAddr TE (hk := ?_) | refine TL_yes (hk := ?_) | refine TL_nilCheck (hk := ?_) | refine TL_indexArr TE (hk := ?_))); refine TL_nil_p ?_)
          refine TA_norm (b2 := #[true, true, true, true, true, true, true, true, true, true, true, true, true, true, true, true, true, true, true, true, true, true, true, true, true, true, true, true, true, true, true, true, true, true, true, true, true, true, true, true, true, true, true, true, true, true, true, true, true, true, true, true, true, true, true, true, true, true, true, true, true, true, true, true, true, true, true, true, true, true, true, true, true, true, true, true, true, true, false, true, true, true, true, true, true, false, false, false]) (by as_aux_lemma => kernel_rfl) ?_
          refine TA_one 78 rfl (by as_aux_lemma => kernel_rfl) (by as_aux_lemma => kernel_rfl) ?_; (try refine TL_yes (hk := ?_)); refine TL_call TE (hc := (Expects_c _ D9.B)) (hq := (by rintro _ w9 ⟨rfl, rfl⟩; exact K9)) (hk := ?_)
          rintro _ w9 ⟨rfl, rfl⟩
          refine TL_nil_p ?_
          refine TA_one 85 rfl (by as_aux_lemma => kernel_rfl) (by as_aux_lemma => kernel_rfl) ?_; (try refine TL_yes (hk := ?_)); refine TL_call TE (hc := (Sent_c _ D9.A)) (hq := (by rintro _ w9 ⟨rfl, rfl⟩; exact K9)) (hk := ?_)
          rintro _ w9 ⟨rfl, rfl⟩
          simp only [q9, q8]
          refine TL_nil_p ?_
          (refine TA_one 86 rfl (by as_aux_lemma => kernel_rfl) (by as_aux_lemma => kernel_rfl) ?_; (repeat (first | refine TL_ne_f (hk := ?_) | refine TL_yes (hk := ?_) | refine TL_pick_f (hk := ?_))); refine TL_nil_p ?_); (refine TA_one 87 rfl (by as_aux_lemma => kernel_rfl) (by as_aux_lemma => kernel_rfl) ?_; (repeat (first | refine TL_ne_f (hk := ?_) | refine TL_yes (hk := ?_) | refine TL_pick_f (hk := ?_))); refine TL_nil_p ?_)
          refine TA_done (by as_aux_lemma => kernel_rfl) ?_
          repeat (first | refine T_region ?_ | refine T_cond_false rfl ?_ | refine T_inBlock ?_ | refine T_skip ?_ | refine TL_add (hk := ?_) | refine TL_nil ?_ | refine TL_move (hk := ?_) | refine TL_assign (hk := ?_))
          exact ih (0 + 1) w9 _ (by omega) ⟨by omega, m8, fa8, mb7, fb7, { xa with come := [] }, xb, T8, D9, H8, ⟨q1, q2, q3, q4, q5, q6, q7, q8, q9, q10⟩⟩ (.c rfl (.c rfl (.n)))
        · repeat (first | refine T_seq ?_ | refine T_region ?_ | refine T_cond_true rfl ?_ | refine T_block ?_ | refine T_skip ?_ | refine TL_lt_t (hk := ?_) | refine TL_nil ?_ | refine TL_move (hk := ?_))
          refine T_region_any TE.mixed (newB w2 w7) ?_; intro w8 e8 z8
          have D8 := D7.ext e8
          have k8 := hkp.be e8
          have K0 : Eng.Mod (newB w2 w7) w8 w8 := Mod.refl _ _
          (refine TA_take 0 rfl (by as_aux_lemma => kernel_rfl) (by as_aux_lemma => kernel_rfl) (by as_aux_lemma => kernel_rfl) ?_; (repeat (first | refine TL_move (hk := ?_) | refine TL_fieldAddr TE (hk := ?_) | refine TL_nilCheck (hk := ?_) | refine TL_indexArr TE (hk := ?_))); refine TL_nil_p ?_); (refine TA_take 1 rfl (by as_aux_lemma => kernel_rfl) (by as_aux_lemma => kernel_rfl) (by as_aux_lemma => kernel_rfl) ?_; (repeat (first | refine TL_move (hk := ?_) | refine TL_fieldAddr TE (hk := ?_) | refine TL_nilCheck (hk := ?_) | refine TL_indexArr TE (hk := ?_))); refine TL_nil_p ?_); (refine TA_take 2 rfl (by as_aux_lemma => kernel_rfl) (by as_aux_lemma => kernel_rfl) (by as_aux_lemma => kernel_rfl) ?_; (repeat (first | refine TL_move (hk := ?_) | refine TL_fieldAddr TE (hk := ?_) | refine TL_nilCheck (hk := ?_) | refine TL_indexArr TE (hk := ?_))); refine TL_nil_p ?_); (refine TA_take 3 rfl (by as_aux_lemma => kernel_rfl) (by as_aux_lemma => kernel_rfl) (by as_aux_lemma => kernel_rfl) ?_; (repeat (first | refine TL_move (hk := ?_) | refine TL_fieldAddr TE (hk := ?_) | refine TL_nilCheck (hk := ?_) | refine TL_indexArr TE (hk := ?_))); refine TL_nil_p ?_); (refine TA_take 4 rfl (by as_aux_lemma => kernel_rfl) (by as_aux_lemma => kernel_rfl) (by as_aux_lemma => kernel_rfl) ?_; (repeat (first | refine TL_move (hk := ?_) | refine TL_fieldAddr TE (hk := ?_) | refine TL_nilCheck (hk := ?_) | refine TL_indexArr TE (hk := ?_))); refine TL_nil_p ?_)
          (refine TA_one 5 rfl (by as_aux_lemma => kernel_rfl) (by as_aux_lemma => kernel_rfl) ?_; (try refine TL_yes (hk := ?_)); refine TLN_load TE (hb := k8) (hq := K0) (hk := ?_); refine TL_nil_p ?_)
          refine TA_one 6 rfl (by as_aux_lemma => kernel_rfl) (by as_aux_lemma => kernel_rfl) ?_; (try refine TL_yes (hk := ?_)); refine TL_call TE (hc := (Unsent_c _ D8.B)) (hq := (by rintro _ w9 ⟨rfl, rfl⟩; exact K0)) (hk := ?_)
          rintro _ w8 ⟨rfl, rfl⟩
          simp only [q4, List.length_nil]
          refine TL_nil_p ?_
          (refine TA_one 7 rfl (by as_aux_lemma => kernel_rfl) (by as_aux_lemma => kernel_rfl) ?_; (repeat (first | refine TL_ne_f (hk := ?_) | refine TL_move (hk := ?_))); refine TL_nil_p ?_); (refine TA_one 8 rfl (by as_aux_lemma => kernel_rfl) (by as_aux_lemma => kernel_rfl) ?_; (repeat (first | refine TL_ne_f (hk := ?_) | refine TL_move (hk := ?_))); refine TL_nil_p ?_)
          refine TA_norm (b2 := #[true, true, true, true, true, true, true, true, true, false, false, false, false, false, false, false, false, false, false, false, false, false, false, false, false, false, false, false, false, false, false, false, false, false, false, false, false, false, false, false, false, false, false, false, false, false, false, false, false, false, false, false, false, false, false, false, false, false, false, false, false, false, false, false, false, false, false, false, false, false, false, false, false, false, false, false, false, false, false, false, false, false, false, false, false, false, false, false]) (by as_aux_lemma => kernel_rfl) ?_
          (refine TA_take 9 rfl (by as_aux_lemma => kernel_rfl) (by as_aux_lemma => kernel_rfl) (by as_aux_lemma => kernel_rfl) ?_; (repeat (first | refine TL_move (hk := ?_) | refine TL_fieldAddr TE (hk := ?_) | refine TL_yes (hk := ?_) | refine TL_nilCheck (hk := ?_) | refine TL_indexArr TE (hk := ?_))); refine TL_nil_p ?_); (refine TA_take 10 rfl (by as_aux_lemma => kernel_rfl) (by as_aux_lemma => kernel_rfl) (by as_aux_lemma => kernel_rfl) ?_; (repeat (first | refine TL_move (hk := ?_) | refine TL_fieldAddr TE (hk := ?_) | refine TL_yes (hk := ?_) | refine TL_nilCheck (hk := ?_) | refine TL_indexArr TE (hk := ?_))); refine TL_nil_p ?_); (refine TA_take 11 rfl (by as_aux_lemma => kernel_rfl) (by as_aux_lemma => kernel_rfl) (by as_aux_lemma => kernel_rfl) ?_; (repeat (first | refine TL_move (hk := ?_) | refine TL_fieldAddr TE (hk := ?_) | refine TL_yes (hk := ?_) | refine TL_nilCheck (hk := ?_) | refine TL_indexArr TE (hk := ?_))); refine TL_nil_p ?_); (refine TA_take 12 rfl (by as_aux_lemma => kernel_rfl) (by as_aux_lemma => kernel_rfl) (by as_aux_lemma => kernel_rfl) ?_; (repeat (first | refine TL_move (hk := ?_) | refine TL_fieldAddr TE (hk := ?_) | refine TL_yes (hk := ?_) | refine TL_nilCheck (hk := ?_) | refine TL_indexArr TE (hk := ?_))); refine TL_nil_p ?_); (refine TA_take 13 rfl (by as_aux_lemma => kernel_rfl) (by as_aux_lemma => kernel_rfl) (by as_aux_lemma => kernel_rfl) ?_; (repeat (first | refine TL_move (hk := ?_) | refine TL_fieldAddr TE (hk := ?_) | refine TL_yes (hk := ?_) | refine TL_nilCheck (hk := ?_) | refine TL_indexArr TE (hk := ?_))); refine TL_nil_p ?_)
          (refine TA_one 14 rfl (by as_aux_lemma => kernel_rfl) (by as_aux_lemma => kernel_rfl) ?_; (try refine TL_yes (hk := ?_)); refine TLN_load TE (hb := k8) (hq := K0) (hk := ?_); refine TL_nil_p ?_)
          refine TA_one 15 rfl (by as_aux_lemma => kernel_rfl) (by as_aux_lemma => kernel_rfl) ?_; (try refine TL_yes (hk := ?_)); refine TL_call TE (hc := (Flying_c _ D8.B)) (hq := (by rintro _ w9 ⟨rfl, rfl⟩; exact K0)) (hk := ?_)
          rintro _ w8 ⟨rfl, rfl⟩
          simp only [q5, List.length_nil]
          refine TL_nil_p ?_
          (refine TA_one 16 rfl (by as_aux_lemma => kernel_rfl) (by as_aux_lemma => kernel_rfl) ?_; (repeat (first | refine TL_ne_f (hk := ?_) | refine TL_move (hk := ?_) | refine TL_yes (hk := ?_) | refine TL_pick_f (hk := ?_))); refine TL_nil_p ?_); (refine TA_one 17 rfl (by as_aux_lemma => kernel_rfl) (by as_aux_lemma => kernel_rfl) ?_; (repeat (first | refine TL_ne_f (hk := ?_) | refine TL_move (hk := ?_) | refine TL_yes (hk := ?_) | refine TL_pick_f (hk := ?_))); refine TL_nil_p ?_); (refine TA_one 18 rfl (by as_aux_lemma => kernel_rfl) (by as_aux_lemma => kernel_rfl) ?_; (repeat (first | refine TL_ne_f (hk := ?_) | refine TL_move (hk := ?_) | refine TL_yes (hk := ?_) | refine TL_pick_f (hk := ?_))); refine TL_nil_p ?_)
          refine TA_norm (b2 := #[true, true, true, true, true, true, true, true, true, true, true, true, true, true, true, true, true, true, true, false, false, false, false, false, false, false, false, false, false, false, false, false, false, false, false, false, false, false, false, false, false, false, false, false, false, false, false, false, false, false, false, false, false, false, false, false, false, false, false, false, false, false, false, false, false, false, false, false, false, false, false, false, false, false, false, false, false, false, false, false, false, false, false, false, false, false, false, false]) (by as_aux_lemma => kernel_rfl) ?_
          (refine TA_take 19 rfl (by as_aux_lemma => kernel_rfl) (by as_aux_lemma => kernel_rfl) (by as_aux_lemma => kernel_rfl) ?_; (repeat (first | refine TL_move (hk := ?_) | refine TL_fieldAddr TE (hk := ?_) | refine TL_yes (hk := ?_) | refine TL_nilCheck (hk := ?_) | refine TL_indexArr TE (hk := ?_))); refine TL_nil_p ?_); (refine TA_take 20 rfl (by as_aux_lemma => kernel_rfl) (by as_aux_lemma => kernel_rfl) (by as_aux_lemma => kernel_rfl) ?_; (repeat (first | refine TL_move (hk := ?_) | refine TL_fieldAddr TE (hk := ?_) | refine TL_yes (hk := ?_) | refine TL_nilCheck (hk := ?_) | refine TL_indexArr TE (hk := ?_))); refine TL_nil_p ?_); (refine TA_take 21 rfl (by as_aux_lemma => kernel_rfl) (by as_aux_lemma => kernel_rfl) (by as_aux_lemma => kernel_rfl) ?_; (repeat (first | refine TL_move (hk := ?_) | refine TL_fieldAddr TE (hk := ?_) | refine TL_yes (hk := ?_) | refine TL_nilCheck (hk := ?_) | refine TL_indexArr TE (hk := ?_))); refine TL_nil_p ?_); (refine TA_take 22 rfl (by as_aux_lemma => kernel_rfl) (by as_aux_lemma => kernel_rfl) (by as_aux_lemma => kernel_rfl) ?_; (repeat (first | refine TL_move (hk := ?_) | refine TL_fieldAddr TE (hk := ?_) | refine TL_yes (hk := ?_) | refine TL_nilCheck (hk := ?_) | refine TL_indexArr TE (hk := ?_))); refine TL_nil_p ?_); (refine TA_take 23 rfl (by as_aux_lemma => kernel_rfl) (by as_aux_lemma => kernel_rfl) (by as_aux_lemma => kernel_rfl) ?_; (repeat (first | refine TL_move (hk := ?_) | refine TL_fieldAddr TE (hk := ?_) | refine TL_yes (hk := ?_) | refine TL_nilCheck (hk := ?_) | refine TL_indexArr TE (hk := ?_))); refine TL_nil_p ?_)
          (refine TA_one 24 rfl (by as_aux_lemma => kernel_rfl) (by as_aux_lemma => kernel_rfl) ?_; (try refine TL_yes (hk := ?_)); refine TLN_load TE (hb := k8) (hq := K0) (hk := ?_); refine TL_nil_p ?_)
          refine TA_one 25 rfl (by as_aux_lemma => kernel_rfl) (by as_aux_lemma => kernel_rfl) ?_; (try refine TL_yes (hk := ?_)); refine TL_call TE (hc := (Held_c _ D8.B)) (hq := (by rintro _ w9 ⟨rfl, rfl⟩; exact K0)) (hk := ?_)
          rintro _ w8 ⟨rfl, rfl⟩
          simp only [q6, List.length_nil]
          refine TL_nil_p ?_
          (refine TA_one 26 rfl (by as_aux_lemma => kernel_rfl) (by as_aux_lemma => kernel_rfl) ?_; (repeat (first | refine TL_ne_f (hk := ?_) | refine TL_move (hk := ?_) | refine TL_yes (hk := ?_) | refine TL_pick_f (hk := ?_))); refine TL_nil_p ?_); (refine TA_one 27 rfl (by as_aux_lemma => kernel_rfl) (by as_aux_lemma => kernel_rfl) ?_; (repeat (first | refine TL_ne_f (hk := ?_) | refine TL_move (hk := ?_) | refine TL_yes (hk := ?_) | refine TL_pick_f (hk := ?_))); refine TL_nil_p ?_); (refine TA_one 28 rfl (by as_aux_lemma => kernel_rfl) (by as_aux_lemma => kernel_rfl) ?_; (repeat (first | refine TL_ne_f (hk := ?_) | refine TL_move (hk := ?_) | refine TL_yes (hk := ?_) | refine TL_pick_f (hk := ?_))); refine TL_nil_p ?_)
          refine TA_norm (b2 := #[true, true, true, true, true, true, true, true, true, true, true, true, true, true, true, true, true, true, true, true, true, true, true, true, true, true, true, true, true, false, false, false, false, false, false, false, false, false, false, false, false, false, false, false, false, false, false, false, false, false, false, false, false, false, false, false, false, false, false, false, false, false, false, false, false, false, false, false, false, false, false, false, false, false, false, false, false, false, false, false, false, false, false, false, false, false, false, false]) (by as_aux_lemma => kernel_rfl) ?_
          (refine TA_take 29 rfl (by as_aux_lemma => kernel_rfl) (by as_aux_lemma => kernel_rfl) (by as_aux_lemma => kernel_rfl) ?_; (repeat (first | refine TL_move (hk := ?_) | refine TL_yes (hk := ?_))); refine TL_nil_p ?_); (refine TA_take 30 rfl (by as_aux_lemma => kernel_rfl) (by as_aux_lemma => kernel_rfl) (by as_aux_lemma => kernel_rfl) ?_; (repeat (first | refine TL_move (hk := ?_) | refine TL_yes (hk := ?_))); refine TL_nil_p ?_)
          refine TA_one 31 rfl (by as_aux_lemma => kernel_rfl) (by as_aux_lemma => kernel_rfl) ?_; (try refine TL_yes (hk := ?_)); refine TL_call TE (hc := (told1_c _ D8 H7)) (hq := (by rintro _ w9 ⟨rfl, y, m', f', T', D', _⟩; exact Mod.fresh D8.e D'.e z8 y)) (hk := ?_)
          rintro _ w9 ⟨rfl, y9, m8, fa8, T8, D9, H8, t1, t2⟩
          have k9 := D9.C.blk
          simp only [pairV] at k9
          have hT8 : T8 0 = (M.S 0).2.1 := by omega
          have hnx : (M.S 1).2.1 ≤ 600 := by omega
          have hT8' : (T8 0 : Int) = ((M.S 0).2.1 : Int) := by omega
          refine TL_nil_p ?_
          refine TA_again ?_
          have hpn : pp ∉ ([] : List Nat) := by simp
          have K9 : Eng.Mod [] w9 w9 := Mod.refl _ _
          refine TA_norm (b2 := #[true, true, true, true, true, true, true, true, true, true, true, true, true, true, true, true, true, true, true, true, true, true, true, true, true, true, true, true, true, true, true, true, false, false, false, false, false, false, false, false, false, false, false, false, false, false, false, false, false, false, false, false, false, false, false, false, false, false, false, false, false, false, false, false, false, false, false, false, false, false, false, false, false, false, false, false, false, false, false, false, false, false, false, false, false, false, false, false]) (by as_aux_lemma => kernel_rfl) ?_
          (refine TA_take 32 rfl (by as_aux_lemma => kernel_rfl) (by as_aux_lemma => kernel_rfl) (by as_aux_lemma => kernel_rfl) ?_; (repeat (first | refine TL_sub (hk := ?_) | refine TL_move (hk := ?_) | refine TL_fieldAddr TE (hk := ?_) | refine TL_yes (hk := ?_) | refine TL_pick_f (hk := ?_) | refine TL_nilCheck (hk := ?_) | refine TL_not (hk := ?_))); refine TL_nil_p ?_); (refine TA_take 33 rfl (by as_aux_lemma => kernel_rfl) (by as_aux_lemma => kernel_rfl) (by as_aux_lemma => kernel_rfl) ?_; (repeat (first | refine TL_sub (hk := ?_) | refine TL_move (hk := ?_) | refine TL_fieldAddr TE (hk := ?_) | refine TL_yes (hk := ?_) | refine TL_pick_f (hk := ?_) | refine TL_nilCheck (hk := ?_) | refine TL_not (hk := ?_))); refine TL_nil_p ?_); (refine TA_take 34 rfl (by as_aux_lemma => kernel_rfl) (by as_aux_lemma => kernel_rfl) (by as_aux_lemma => kernel_rfl) ?_; (repeat (first | refine TL_sub (hk := ?_) | refine TL_move (hk := ?_) | refine TL_fieldAddr TE (hk := ?_) | refine TL_yes (hk := ?_) | refine TL_pick_f (hk := ?_) | refine TL_nilCheck (hk := ?_) | refine TL_not (hk := ?_))); refine TL_nil_p ?_); (refine TA_take 35 rfl (by as_aux_lemma => kernel_rfl) (by as_aux_lemma => kernel_rfl) (by as_aux_lemma => kernel_rfl) ?_; (repeat (first | refine TL_sub (hk := ?_) | refine TL_move (hk := ?_) | refine TL_fieldAddr TE (hk := ?_) | refine TL_yes (hk := ?_) | refine TL_pick_f (hk := ?_) | refine TL_nilCheck (hk := ?_) | refine TL_not (hk := ?_))); refine TL_nil_p ?_); (refine TA_take 36 rfl (by as_aux_lemma => kernel_rfl) (by as_aux_lemma => kernel_rfl) (by as_aux_lemma => kernel_rfl) ?_; (repeat (first | refine TL_sub (hk := ?_) | refine TL_move (hk := ?_) | refine TL_fieldAddr TE (hk := ?_) | refine TL_yes (hk := ?_) | refine TL_pick_f (hk := ?_) | refine TL_nilCheck (hk := ?_) | refine TL_not (hk := ?_))); refine TL_nil_p ?_); (refine TA_take 37 rfl (by as_aux_lemma => kernel_rfl) (by as_aux_lemma => kernel_rfl) (by as_aux_lemma => kernel_rfl) ?_; (repeat (first | refine TL_sub (hk := ?_) | refine TL_move (hk := ?_) | refine TL_fieldAddr TE (hk := ?_) | refine TL_yes (hk := ?_) | refine TL_pick_f (hk := ?_) | refine TL_nilCheck (hk := ?_) | refine TL_not (hk := ?_))); refine TL_nil_p ?_); (refine TA_take 38 rfl (by as_aux_lemma => kernel_rfl) (by as_aux_lemma => kernel_rfl) (by as_aux_lemma => kernel_rfl) ?_; (repeat (first | refine TL_sub (hk := ?_) | refine TL_move (hk := ?_) | refine TL_fieldAddr TE (hk := ?_) | refine TL_yes (hk := ?_) | refine TL_pick_f (hk := ?_) | refine TL_nilCheck (hk := ?_) | refine TL_not (hk := ?_))); refine TL_nil_p ?_); (refine TA_take 39 rfl (by as_aux_lemma => kernel_rfl) (by as_aux_lemma => kernel_rfl) (by as_aux_lemma => kernel_rfl) ?_; (repeat (first | refine TL_sub (hk := ?_) | refine TL_move (hk := ?_) | refine TL_fieldAddr TE (hk := ?_) | refine TL_yes (hk := ?_) | refine TL_pick_f (hk := ?_) | refine TL_nilCheck (hk := ?_) | refine TL_not (hk := ?_))); refine TL_nil_p ?_)
          refine TA_norm (b2 := #[true, true, true, true, true, true, true, true, true, true, true, true, true, true, true, true, true, true, true, true, true, true, true, true, true, true, true, true, true, true, true, true, true, true, true, true, true, true, true, true, false, false, false, false, false, false, false, false, false, false, false, false, false, false, false, false, false, false, false, false, false, false, false, false, false, false, false, false, false, false, false, false, false, false, false, false, false, false, false, false, false, false, false, false, false, false, false, false]) (by as_aux_lemma => kernel_rfl) ?_
          (refine TA_take 40 rfl (by as_aux_lemma => kernel_rfl) (by as_aux_lemma => kernel_rfl) (by as_aux_lemma => kernel_rfl) ?_; (repeat (first | refine TL_sub (hk := ?_) | refine TL_move (hk := ?_) | refine TLP_load TE (hk := ?_) | refine TL_fieldAddr TE (hk := ?_) | refine TL_yes (hk := ?_) | refine TL_nilCheck (hk := ?_) | refine TL_indexArr TE (hk := ?_))); refine TL_nil_p ?_); (refine TA_take 41 rfl (by as_aux_lemma => kernel_rfl) (by as_aux_lemma => kernel_rfl) (by as_aux_lemma => kernel_rfl) ?_; (repeat (first | refine TL_sub (hk := ?_) | refine TL_move (hk := ?_) | refine TLP_load TE (hk := ?_) | refine TL_fieldAddr TE (hk := ?_) | refine TL_yes (hk := ?_) | refine TL_nilCheck (hk := ?_) | refine TL_indexArr TE (hk := ?_))); refine TL_nil_p ?_); (refine TA_take 42 rfl (by as_aux_lemma => kernel_rfl) (by as_aux_lemma => kernel_rfl) (by as_aux_lemma => kernel_rfl) ?_; (repeat (first | refine TL_sub (hk := ?_) | refine TL_move (hk := ?_) | refine TLP_load TE (hk := ?_) | refine TL_fieldAddr TE (hk := ?_) | refine TL_yes (hk := ?_) | refine TL_nilCheck (hk := ?_) | refine TL_indexArr TE (hk := ?_))); refine TL_nil_p ?_); (refine TA_take 43 rfl (by as_aux_lemma => kernel_rfl) (by as_aux_lemma => kernel_rfl) (by as_aux_lemma => kernel_rfl) ?_; (repeat (first | refine TL_sub (hk := ?_) | refine TL_move (hk := ?_) | refine TLP_load TE (hk := ?_) | refine TL_fieldAddr TE (hk := ?_) | refine TL_yes (hk := ?_) | refine TL_nilCheck (hk := ?_) | refine TL_indexArr TE (hk := ?_))); refine TL_nil_p ?_); (refine TA_take 44 rfl (by as_aux_lemma => kernel_rfl) (by as_aux_lemma => kernel_rfl) (by as_aux_lemma => kernel_rfl) ?_; (repeat (first | refine TL_sub (hk := ?_) | refine TL_move (hk := ?_) | refine TLP_load TE (hk := ?_) | refine TL_fieldAddr TE (hk := ?_) | refine TL_yes (hk := ?_) | refine TL_nilCheck (hk := ?_) | refine TL_indexArr TE (hk := ?_))); refine TL_nil_p ?_); (refine TA_take 45 rfl (by as_aux_lemma => kernel_rfl) (by as_aux_lemma => kernel_rfl) (by as_aux_lemma => kernel_rfl) ?_; (repeat (first | refine TL_sub (hk := ?_) | refine TL_move (hk := ?_) | refine TLP_load TE (hk := ?_) | refine TL_fieldAddr TE (hk := ?_) | refine TL_yes (hk := ?_) | refine TL_nilCheck (hk := ?_) | refine TL_indexArr TE (hk := ?_))); refine TL_nil_p ?_); (refine TA_take 46 rfl (by as_aux_lemma => kernel_rfl) (by as_aux_lemma => kernel_rfl) (by as_aux_lemma => kernel_rfl) ?_; (repeat (first | refine TL_sub (hk := ?_) | refine TL_move (hk := ?_) | refine TLP_load TE (hk := ?_) | refine TL_fieldAddr TE (hk := ?_) | refine TL_yes (hk := ?_) | refine TL_nilCheck (hk := ?_) | refine TL_indexArr TE (hk := ?_))); refine TL_nil_p ?_)
          refine TA_norm (b2 := #[true, true, true, true, true, true, true, true, true, true, true, true, true, true, true, true, true, true, true, true, true, true, true, true, true, true, true, true, true, true, true, true, true, true, true, true, true, true, true, true, true, true, true, true, true, true, true, false, false, false, false, false, false, false, false, false, false, false, false, false, false, false, false, false, false, false, false, false, false, false, false, false, false, false, false, false, false, false, false, false, false, false, false, false, false, false, false, false]) (by as_aux_lemma => kernel_rfl) ?_
          (refine TA_take 47 rfl (by as_aux_lemma => kernel_rfl) (by as_aux_lemma => kernel_rfl) (by as_aux_lemma => kernel_rfl) ?_; (repeat (first | refine TL_ne_f (hk := ?_) | refine TL_move (hk := ?_) | refine TLP_load TE (hk := ?_) | refine TL_len TE (hk := ?_) | refine TL_yes (hk := ?_) | refine TL_pick_f (hk := ?_) | refine TL_indexArr TE (hk := ?_))); refine TL_nil_p ?_); (refine TA_take 48 rfl (by as_aux_lemma => kernel_rfl) (by as_aux_lemma => kernel_rfl) (by as_aux_lemma => kernel_rfl) ?_; (repeat (first | refine TL_ne_f (hk := ?_) | refine TL_move (hk := ?_) | refine TLP_load TE (hk := ?_) | refine TL_len TE (hk := ?_) | refine TL_yes (hk := ?_) | refine TL_pick_f (hk := ?_) | refine TL_indexArr TE (hk := ?_))); refine TL_nil_p ?_); (refine TA_take 49 rfl (by as_aux_lemma => kernel_rfl) (by as_aux_lemma => kernel_rfl) (by as_aux_lemma => kernel_rfl) ?_; (repeat (first | refine TL_ne_f (hk := ?_) | refine TL_move (hk := ?_) | refine TLP_load TE (hk := ?_) | refine TL_len TE (hk := ?_) | refine TL_yes (hk := ?_) | refine TL_pick_f (hk := ?_) | refine TL_indexArr TE (hk := ?_))); refine TL_nil_p ?_); (refine TA_take 50 rfl (by as_aux_lemma => kernel_rfl) (by as_aux_lemma => kernel_rfl) (by as_aux_lemma => kernel_rfl) ?_; (repeat (first | refine TL_ne_f (hk := ?_) | refine TL_move (hk := ?_) | refine TLP_load TE (hk := ?_) | refine TL_len TE (hk := ?_) | refine TL_yes (hk := ?_) | refine TL_pick_f (hk := ?_) | refine TL_indexArr TE (hk := ?_))); refine TL_nil_p ?_); (refine TA_take 51 rfl (by as_aux_lemma => kernel_rfl) (by as_aux_lemma => kernel_rfl) (by as_aux_lemma => kernel_rfl) ?_; (repeat (first | refine TL_ne_f (hk := ?_) | refine TL_move (hk := ?_) | refine TLP_load TE (hk := ?_) | refine TL_len TE (hk := ?_) | refine TL_yes (hk := ?_) | refine TL_pick_f (hk := ?_) | refine TL_indexArr TE (hk := ?_))); refine TL_nil_p ?_); (refine TA_take 52 rfl (by as_aux_lemma => kernel_rfl) (by as_aux_lemma => kernel_rfl) (by as_aux_lemma => kernel_rfl) ?_; (repeat (first | refine TL_ne_f (hk := ?_) | refine TL_move (hk := ?_) | refine TLP_load TE (hk := ?_) | refine TL_len TE (hk := ?_) | refine TL_yes (hk := ?_) | refine TL_pick_f (hk := ?_) | refine TL_indexArr TE (hk := ?_))); refine TL_nil_p ?_); (refine TA_take 53 rfl (by as_aux_lemma => kernel_rfl) (by as_aux_lemma => kernel_rfl) (by as_aux_lemma => kernel_rfl) ?_; (repeat (first | refine TL_ne_f (hk := ?_) | refine TL_move (hk := ?_) | refine TLP_load TE (hk := ?_) | refine TL_len TE (hk := ?_) | refine TL_yes (hk := ?_) | refine TL_pick_f (hk := ?_) | refine TL_indexArr TE (hk := ?_))); refine TL_nil_p ?_)
          refine TA_norm (b2 := #[true, true, true, true, true, true, true, true, true, true, true, true, true, true, true, true, true, true, true, true, true, true, true, true, true, true, true, true, true, true, true, true, true, true, true, true, true, true, true, true, true, true, true, true, true, true, true, true, true, true, true, true, true, true, false, false, false, false, false, false, false, false, false, false, false, false, false, false, false, false, false, false, false, false, false, false, false, false, false, false, false, false, false, false, false, false, false, false]) (by as_aux_lemma => kernel_rfl) ?_
          (refine TA_take 54 rfl (by as_aux_lemma => kernel_rfl) (by as_aux_lemma => kernel_rfl) (by as_aux_lemma => kernel_rfl) ?_; (repeat (first | refine TL_move (hk := ?_) | refine TLP_load TE (hk := ?_) | refine TL_fieldAddr TE (hk := ?_) | refine TL_yes (hk := ?_) | refine TL_nilCheck (hk := ?_) | refine TL_indexArr TE (hk := ?_))); refine TL_nil_p ?_); (refine TA_take 55 rfl (by as_aux_lemma => kernel_rfl) (by as_aux_lemma => kernel_rfl) (by as_aux_lemma => kernel_rfl) ?_; (repeat (first | refine TL_move (hk := ?_) | refine TLP_load TE (hk := ?_) | refine TL_fieldAddr TE (hk := ?_) | refine TL_yes (hk := ?_) | refine TL_nilCheck (hk := ?_) | refine TL_indexArr TE (hk := ?_))); refine TL_nil_p ?_); (refine TA_take 56 rfl (by as_aux_lemma => kernel_rfl) (by as_aux_lemma => kernel_rfl) (by as_aux_lemma => kernel_rfl) ?_; (repeat (first | refine TL_move (hk := ?_) | refine TLP_load TE (hk := ?_) | refine TL_fieldAddr TE (hk := ?_) | refine TL_yes (hk := ?_) | refine TL_nilCheck (hk := ?_) | refine TL_indexArr TE (hk := ?_))); refine TL_nil_p ?_); (refine TA_take 57 rfl (by as_aux_lemma => kernel_rfl) (by as_aux_lemma => kernel_rfl) (by as_aux_lemma => kernel_rfl) ?_; (repeat (first | refine TL_move (hk := ?_) | refine TLP_load TE (hk := ?_) | refine TL_fieldAddr TE (hk := ?_) | refine TL_yes (hk := ?_) | refine TL_nilCheck (hk := ?_) | refine TL_indexArr TE (hk := ?_))); refine TL_nil_p ?_); (refine TA_take 58 rfl (by as_aux_lemma => kernel_rfl) (by as_aux_lemma => kernel_rfl) (by as_aux_lemma => kernel_rfl) ?_; (repeat (first | refine TL_move (hk := ?_) | refine TLP_load TE (hk := ?_) | refine TL_fieldAddr TE (hk := ?_) | refine TL_yes (hk := ?_) | refine TL_nilCheck (hk := ?_) | refine TL_indexArr TE (hk := ?_))); refine TL_nil_p ?_); (refine TA_take 60 rfl (by as_aux_lemma => kernel_rfl) (by as_aux_lemma => kernel_rfl) (by as_aux_lemma => kernel_rfl) ?_; (repeat (first | refine TL_move (hk := ?_) | refine TLP_load TE (hk := ?_) | refine TL_fieldAddr TE (hk := ?_) | refine TL_yes (hk := ?_) | refine TL_nilCheck (hk := ?_) | refine TL_indexArr TE (hk := ?_))); refine TL_nil_p ?_); (refine TA_take 61 rfl (by as_aux_lemma => kernel_rfl) (by as_aux_lemma => kernel_rfl) (by as_aux_lemma => kernel_rfl) ?_; (repeat (first | refine TL_move (hk := ?_) | refine TLP_load TE (hk := ?_) | refine TL_fieldAddr TE (hk := ?_) | refine TL_yes (hk := ?_) | refine TL_nilCheck (hk := ?_) | refine TL_indexArr TE (hk := ?_))); refine TL_nil_p ?_)
          refine TA_norm (b2 := #[true, true, true, true, true, true, true, true, true, true, true, true, true, true, true, true, true, true, true, true, true, true, true, true, true, true, true, true, true, true, true, true, true, true, true, true, true, true, true, true, true, true, true, true, true, true, true, true, true, true, true, true, true, true, true, true, true, true, true, false, true, true, false, false, false, false, false, false, false, false, false, false, false, false, false, false, false, false, false, false, false, false, false, false, false, false, false, false]) (by as_aux_lemma => kernel_rfl) ?_
          (refine TA_take 62 rfl (by as_aux_lemma => kernel_rfl) (by as_aux_lemma => kernel_rfl) (by as_aux_lemma => kernel_rfl) ?_; (repeat (first | refine TLP_load TE (hk := ?_) | refine TL_fieldAddr TE (hk := ?_) | refine TL_len TE (hk := ?_) | refine TL_yes (hk := ?_) | refine TL_nilCheck (hk := ?_) | refine TL_conv TE (hk := ?_) | refine TL_indexArr TE (hk := ?_))); refine TL_nil_p ?_); (refine TA_take 63 rfl (by as_aux_lemma => kernel_rfl) (by as_aux_lemma => kernel_rfl) (by as_aux_lemma => kernel_rfl) ?_; (repeat (first | refine TLP_load TE (hk := ?_) | refine TL_fieldAddr TE (hk := ?_) | refine TL_len TE (hk := ?_) | refine TL_yes (hk := ?_) | refine TL_nilCheck (hk := ?_) | refine TL_conv TE (hk := ?_) | refine TL_indexArr TE (hk := ?_))); refine TL_nil_p ?_); (refine TA_take 64 rfl (by as_aux_lemma => kernel_rfl) (by as_aux_lemma => kernel_rfl) (by as_aux_lemma => kernel_rfl) ?_; (repeat (first | refine TLP_load TE (hk := ?_) | refine TL_fieldAddr TE (hk := ?_) | refine TL_len TE (hk := ?_) | refine TL_yes (hk := ?_) | refine TL_nilCheck (hk := ?_) | refine TL_conv TE (hk := ?_) | refine TL_indexArr TE (hk := ?_))); refine TL_nil_p ?_); (refine TA_take 65 rfl (by as_aux_lemma => kernel_rfl) (by as_aux_lemma => kernel_rfl) (by as_aux_lemma => kernel_rfl) ?_; (repeat (first | refine TLP_load TE (hk := ?_) | refine TL_fieldAddr TE (hk := ?_) | refine TL_len TE (hk := ?_) | refine TL_yes (hk := ?_) | refine TL_nilCheck (hk := ?_) | refine TL_conv TE (hk := ?_) | refine TL_indexArr TE (hk := ?_))); refine TL_nil_p ?_); (refine TA_take 66 rfl (by as_aux_lemma => kernel_rfl) (by as_aux_lemma => kernel_rfl) (by as_aux_lemma => kernel_rfl) ?_; (repeat (first | refine TLP_load TE (hk := ?_) | refine TL_fieldAddr TE (hk := ?_) | refine TL_len TE (hk := ?_) | refine TL_yes (hk := ?_) | refine TL_nilCheck (hk := ?_) | refine TL_conv TE (hk := ?_) | refine TL_indexArr TE (hk := ?_))); refine TL_nil_p ?_); (refine TA_take 67 rfl (by as_aux_lemma => kernel_rfl) (by as_aux_lemma => kernel_rfl) (by as_aux_lemma => kernel_rfl) ?_; (repeat (first | refine TLP_load TE (hk := ?_) | refine TL_fieldAddr TE (hk := ?_) | refine TL_len TE (hk := ?_) | refine TL_yes (hk := ?_) | refine TL_nilCheck (hk := ?_) | refine TL_conv TE (hk := ?_) | refine TL_indexArr TE (hk := ?_))); refine TL_nil_p ?_)
          refine TA_norm (b2 := #[true, true, true, true, true, true, true, true, true, true, true, true, true, true, true, true, true, true, true, true, true, true, true, true, true, true, true, true, true, true, true, true, true, true, true, true, true, true, true, true, true, true, true, true, true, true, true, true, true, true, true, true, true, true, true, true, true, true, true, false, true, true, true, true, true, true, true, true, false, false, false, false, false, false, false, false, false, false, false, false, false, false, false, false, false, false, false, false]) (by as_aux_lemma => kernel_rfl) ?_
          refine TA_one 59 rfl (by as_aux_lemma => kernel_rfl) (by as_aux_lemma => kernel_rfl) ?_; (try refine TL_yes (hk := ?_)); refine TL_call TE (hc := (Sent_c _ D9.B)) (hq := (by rintro _ w9 ⟨rfl, rfl⟩; exact K9)) (hk := ?_)
          rintro _ w9 ⟨rfl, rfl⟩
          simp only [q10, s1]
          refine TL_nil_p ?_
          refine TA_norm (b2 := #[true, true, true, true, true, true, true, true, true, true, true, true, true, true, true, true, true, true, true, true, true, true, true, true, true, true, true, true, true, true, true, true, true, true, true, true, true, true, true, true, true, true, true, true, true, true, true, true, true, true, true, true, true, true, true, true, true, true, true, true, true, true, true, true, true, true, true, true, false, false, false, false, false, false, false, false, false, false, false, false, false, false, false, false, false, false, false, false]) (by as_aux_lemma => kernel_rfl) ?_
          (refine TA_take 68 rfl (by as_aux_lemma => kernel_rfl) (by as_aux_lemma => kernel_rfl) (by as_aux_lemma => kernel_rfl) ?_; (repeat (first | refine TL_sub (hk := ?_) | refine TL_ne_f (hk := ?_) | refine TL_move (hk := ?_) | refine TL_yes (hk := ?_) | refine TL_pick_f (hk := ?_) | refine TL_nilCheck (hk := ?_))); refine TL_nil_p ?_); (refine TA_take 69 rfl (by as_aux_lemma => kernel_rfl) (by as_aux_lemma => kernel_rfl) (by as_aux_lemma => kernel_rfl) ?_; (repeat (first | refine TL_sub (hk := ?_) | refine TL_ne_f (hk := ?_) | refine TL_move (hk := ?_) | refine TL_yes (hk := ?_) | refine TL_pick_f (hk := ?_) | refine TL_nilCheck (hk := ?_))); refine TL_nil_p ?_); (refine TA_take 70 rfl (by as_aux_lemma => kernel_rfl) (by as_aux_lemma => kernel_rfl) (by as_aux_lemma => kernel_rfl) ?_; (repeat (first | refine TL_sub (hk := ?_) | refine TL_ne_f (hk := ?_) | refine TL_move (hk := ?_) | refine TL_yes (hk := ?_) | refine TL_pick_f (hk := ?_) | refine TL_nilCheck (hk := ?_))); refine TL_nil_p ?_); (refine TA_take 71 rfl (by as_aux_lemma => kernel_rfl) (by as_aux_lemma => kernel_rfl) (by as_aux_lemma => kernel_rfl) ?_; (repeat (first | refine TL_sub (hk := ?_) | refine TL_ne_f (hk := ?_) | refine TL_move (hk := ?_) | refine TL_yes (hk := ?_) | refine TL_pick_f (hk := ?_) | refine TL_nilCheck (hk := ?_))); refine TL_nil_p ?_); (refine TA_take 72 rfl (by as_aux_lemma => kernel_rfl) (by as_aux_lemma => kernel_rfl) (by as_aux_lemma => kernel_rfl) ?_; (repeat (first | refine TL_sub (hk := ?_) | refine TL_ne_f (hk := ?_) | refine TL_move (hk := ?_) | refine TL_yes (hk := ?_) | refine TL_pick_f (hk := ?_) | refine TL_nilCheck (hk := ?_))); refine TL_nil_p ?_); (refine TA_take 73 rfl (by as_aux_lemma => kernel_rfl) (by as_aux_lemma => kernel_rfl) (by as_aux_lemma => kernel_rfl) ?_; (repeat (first | refine TL_sub (hk := ?_) | refine TL_ne_f (hk := ?_) | refine TL_move (hk := ?_) | refine TL_yes (hk := ?_) | refine TL_pick_f (hk := ?_) | refine TL_nilCheck (hk := ?_))); refine TL_nil_p ?_); (refine TA_take 74 rfl (by as_aux_lemma => kernel_rfl) (by as_aux_lemma => kernel_rfl) (by as_aux_lemma => kernel_rfl) ?_; (repeat (first | refine TL_sub (hk := ?_) | refine TL_ne_f (hk := ?_) | refine TL_move (hk := ?_) | refine TL_yes (hk := ?_) | refine TL_pick_f (hk := ?_) | refine TL_nilCheck (hk := ?_))); refine TL_nil_p ?_)
          refine TA_norm (b2 := #[true, true, true, true, true, true, true, true, true, true, true, true, true, true, true, true, true, true, true, true, true, true, true, true, true, true, true, true, true, true, true, true, true, true, true, true, true, true, true, true, true, true, true, true, true, true, true, true, true, true, true, true, true, true, true, true, true, true, true, true, true, true, true, true, true, true, true, true, true, true, true, true, true, true, true, false, false, false, false, false, false, false, false, false, false, false, false, false]) (by as_aux_lemma => kernel_rfl) ?_
          (refine TA_take 75 rfl (by as_aux_lemma => kernel_rfl) (by as_aux_lemma => kernel_rfl) (by as_aux_lemma => kernel_rfl) ?_; (repeat (first | refine TL_move (hk := ?_) | refine TLP_load TE (hk := ?_) | refine TL_fieldAddr TE (hk := ?_) | refine TL_yes (hk := ?_) | refine TL_nilCheck (hk := ?_) | refine TL_indexArr TE (hk := ?_))); refine TL_nil_p ?_); (refine TA_take 76 rfl (by as_aux_lemma => kernel_rfl) (by as_aux_lemma => kernel_rfl) (by as_aux_lemma => kernel_rfl) ?_; (repeat (first | refine TL_move (hk := ?_) | refine TLP_load TE (hk := ?_) | refine TL_fieldAddr TE (hk := ?_) | refine TL_yes (hk := ?_) | refine TL_nilCheck (hk := ?_) | refine TL_indexArr TE (hk := ?_))); refine TL_nil_p ?_); (refine TA_take 77 rfl (by as_aux_lemma => kernel_rfl) (by as_aux_lemma => kernel_rfl) (by as_aux_lemma => kernel_rfl) ?_; (repeat (first | refine TL_move (hk := ?_) | refine TLP_load TE (hk := ?_) | refine TL_fieldAddr TE (hk := ?_) | refine TL_yes (hk := ?_) | refine TL_nilCheck (hk := ?_) | refine TL_indexArr TE (hk := ?_))); refine TL_nil_p ?_); (refine TA_take 79 rfl (by as_aux_lemma => kernel_rfl) (by as_aux_lemma => kernel_rfl) (by as_aux_lemma => kernel_rfl) ?_; (repeat (first | refine TL_move (hk := ?_) | refine TLP_load TE (hk := ?_) | refine TL_fieldAddr TE (hk := ?_) | refine TL_yes (hk := ?_) | refine TL_nilCheck (hk := ?_) | refine TL_indexArr TE (hk := ?_))); refine TL_nil_p ?_); (refine TA_take 80 rfl (by as_aux_lemma => kernel_rfl) (by as_aux_lemma => kernel_rfl) (by as_aux_lemma => kernel_rfl) ?_; (repeat (first | refine TL_move (hk := ?_) | refine TLP_load TE (hk := ?_) | refine TL_fieldAddr TE (hk := ?_) | refine TL_yes (hk := ?_) | refine TL_nilCheck (hk := ?_) | refine TL_indexArr TE (hk := ?_))); refine TL_nil_p ?_); (refine TA_take 81 rfl (by as_aux_lemma => kernel_rfl) (by as_aux_lemma => kernel_rfl) (by as_aux_lemma => kernel_rfl) ?_; (repeat (first | refine TL_move (hk := ?_) | refine TLP_load TE (hk := ?_) | refine TL_fieldAddr TE (hk := ?_) | refine TL_yes (hk := ?_) | refine TL_nilCheck (hk := ?_) | refine TL_indexArr TE (hk := ?_))); refine TL_nil_p ?_); (refine TA_take 82 rfl (by as_aux_lemma => kernel_rfl) (by as_aux_lemma => kernel_rfl) (by as_aux_lemma => kernel_rfl) ?_; (repeat (first | refine TL_move (hk := ?_) | refine TLP_load TE (hk := ?_) | refine TL_fieldAddr TE (hk := ?_) | refine TL_yes (hk := ?_) | refine TL_nilCheck (hk := ?_) | refine TL_indexArr TE (hk := ?_))); refine TL_nil_p ?_); (refine TA_take 83 rfl (by as_aux_lemma => kernel_rfl) (by as_aux_lemma => kernel_rfl) (by as_aux_lemma => kernel_rfl) ?_; (repeat (first | refine TL_move (hk := ?_) | refine TLP_load TE (hk := ?_) | refine TL_fieldAddr TE (hk := ?_) | refine TL_yes (hk := ?_) | refine TL_nilCheck (hk := ?_) | refine TL_indexArr TE (hk := ?_))); refine TL_nil_p ?_); (refine TA_take 84 rfl (by as_aux_lemma => kernel_rfl) (by as_aux_lemma => kernel_rfl) (by as_aux_lemma => kernel_rfl) ?_; (repeat (first | refine TL_move (hk := ?_) | refine TLP_load TE (hk := ?_) | refine TL_fieldAddr TE (hk := ?_) | refine TL_yes (hk := ?_) | refine TL_nilCheck (hk := ?_) | refine TL_indexArr TE (hk := ?_))); refine TL_nil_p ?_)
          refine TA_norm (b2 := #[true, true, true, true, true, true, true, true, true, true, true, true, true, true, true, true, true, true, true, true, true, true, true, true, true, true, true, true, true, true, true, true, true, true, true, true, true, true, true, true, true, true, true, true, true, true, true, true, true, true, true, true, true, true, true, true, true, true, true, true, true, true, true, true, true, true, true, true, true, true, true, true, true, true, true, true, true, true, false, true, true, true, true, true, true, false, false, false]) (by as_aux_lemma => kernel_rfl) ?_
          refine TA_one 78 rfl (by as_aux_lemma => kernel_rfl) (by as_aux_lemma => kernel_rfl) ?_; (try refine TL_yes (hk := ?_)); refine TL_call TE (hc := (Expects_c _ D9.A)) (hq := (by rintro _ w9 ⟨rfl, rfl⟩; exact K9)) (hk := ?_)
          rintro _ w9 ⟨rfl, rfl⟩
          refine TL_nil_p ?_
          refine TA_one 85 rfl (by as_aux_lemma => kernel_rfl) (by as_aux_lemma => kernel_rfl) ?_; (try refine TL_yes (hk := ?_)); refine TL_call TE (hc := (Sent_c _ D9.B)) (hq := (by rintro _ w9 ⟨rfl, rfl⟩; exact K9)) (hk := ?_)
          rintro _ w9 ⟨rfl, rfl⟩
          simp only [q10, q7]
          refine TL_nil_p ?_
          (refine TA_one 86 rfl (by as_aux_lemma => kernel_rfl) (by as_aux_lemma => kernel_rfl) ?_; (repeat (first | refine TL_ne_f (hk := ?_) | refine TL_yes (hk := ?_) | refine TL_pick_f (hk := ?_))); refine TL_nil_p ?_); (refine TA_one 87 rfl (by as_aux_lemma => kernel_rfl) (by as_aux_lemma => kernel_rfl) ?_; (repeat (first | refine TL_ne_f (hk := ?_) | refine TL_yes (hk := ?_) | refine TL_pick_f (hk := ?_))); refine TL_nil_p ?_)
          refine TA_done (by as_aux_lemma => kernel_rfl) ?_
          repeat (first | refine T_region ?_ | refine T_cond_false rfl ?_ | refine T_inBlock ?_ | refine T_skip ?_ | refine TL_add (hk := ?_) | refine TL_nil ?_ | refine TL_move (hk := ?_) | refine TL_assign (hk := ?_))
          exact ih (1 + 1) w9 _ (by omega) ⟨by omega, ma7, fa7, m8, fa8, xa, { xb with come := [] }, T8, D9, H8, ⟨q1, q2, q3, q4, q5, q6, q7, q8, q9, q10⟩⟩ (.c rfl (.c rfl (.n)))
      · clear ih
        have e7 := D7.e
        repeat (first | refine T_seq ?_ | refine T_region ?_ | refine T_cond_false rfl ?_ | refine T_exit rfl ?_ | refine TL_lt_f (hk := ?_) | refine TL_nil ?_ | refine TL_move (hk := ?_))
        refine TL_call TE (hc := live_c26 _) (hk := ?_)
        rintro _ w8 ⟨rfl, e8⟩
        repeat (first | refine TL_nil ?_ | refine TL_assign (hk := ?_))
        exact T_ret1 rfl rfl ⟨rfl, (E2.ext e7).ext e8⟩
end Go.Proofs.Ytjjgojgahibpgaa
