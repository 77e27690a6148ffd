import Derived.Test.YtgdbckjkeofoaaaGreatSr4
/- Parts: SW16 SFW14 SW17. -/
namespace Go.Proofs.YtgdbckjkeofoaaaGreat
open Go.RowKit Go.Proofs.Eng Go.Proofs.Foot Go.Proofs.Locks Go.Proofs.Sched
set_option linter.unusedSimpArgs false
set_option linter.unusedVariables false set_option maxRecDepth 10000
attribute [local irreducible] T TL LV TH TA
set_option maxHeartbeats 6400000
def endL (S0 : StE) (W : List (List Tx)) : List Nat := (List.range W.length).map fun i => if codeC S0 W i = 5 then 6 else 5
structure FrOk (w : World) (x : FR) : Prop where
  ra : Rd w x.A x.n 1 (sv x.r)
  rb : Rd w x.B x.m 1 (sv x.k)
  nm : x.n ≤ 64 ∧ x.m ≤ 64
  no : normF x.r x.k = ((x.r, x.k), 0)
  sr : ∀ y, y ∈ x.r ∨ y ∈ x.k → y.length ≤ 1048576
theorem allU_len {s : StE} {B : Nat} (h : ∀ c ∈ s.C, c.length ≤ B) : ∀ q, (allU s q).length ≤ q * B
  | 0 => by unfold allU; simp
  | q + 1 => by
    have ih := allU_len h q
    rw [Nat.succ_mul]
    by_cases hq : q < s.C.length
    · rw [allU_succ _ _ hq, List.length_append, List.length_map]
      have := h _ (getD_in (d := ([] : CL)) hq)
      omega
    · have : allU s (q + 1) = allU s q := by
        unfold allU
        rw [List.take_of_length_le (by omega), List.take_of_length_le (by omega)]
      rw [this]; omega
theorem nodup_le {α : Type} [DecidableEq α] : ∀ {a b : List α}, a.Nodup → (∀ x ∈ a, x ∈ b) → a.length ≤ b.length
  | [], b, _, _ => by simp
  | x :: a, b, hn, hs => by
    rw [List.nodup_cons] at hn
    have hx := hs x (by simp)
    have := nodup_le (a := a) (b := b.erase x) hn.2 (fun y hy => (List.mem_erase_of_ne (fun e => hn.1 (by rw [← e]; exact hy))).2 (hs y (by simp [hy])))
    rw [List.length_erase_of_mem hx] at this
    have := List.length_pos_of_mem hx
    rw [List.length_cons]
    omega
theorem ft_take {FT : List (List Tx × List Tx)} {fs : List FR} (h : fs.map (fun x => (x.r, x.k)) = FT) {n : Nat} (hn : n < fs.length) : FT.take (n + 1) = FT.take n ++ [((fs.getD n fr0).r, (fs.getD n fr0).k)] := by
  rw [← h, List.take_succ_eq_append_getElem (by simpa using hn), List.getD_eq_getElem?_getD, List.getElem?_eq_getElem hn]
  simp
theorem ends_c15 (a b wn0 wn : Int) (KA : Option Addr) (kn kc : Nat) (ks : List Tx) (A : Option Addr) (n0 c0 : Nat) (FA : Option Addr) (F fc : Nat) (fs : List FR) (PA : Option Addr) (pn pc : Nat) (pk : List Int) (w : World) (hok : okM a b wn)
    (hk : Rd w KA kn 1 (sv ks)) (hkn : kn ≤ 200) (hkl : ∀ y ∈ ks, y.length ≤ 1048576) (hF : Rd w FA F 2 (rowV frV fs)) (hfg : ∀ x ∈ fs, FrOk w x) (hF60 : F ≤ 60) (hP : Rd w PA pn 1 (iv pk)) (hpn : pn ≤ 300) :
    Ret Tryz.prog 18 [.agg #[.int .i64 a, .int .i64 b, .slice KA kn kc, .int .i64 wn0, .slice A n0 c0], .int .i64 wn, .slice FA F fc, .slice PA pn pc] w (fun v w' => ∃ x1 x2 : SL, v = .tuple #[sL x1, sL x2, .bool true] ∧ Ext w w' ∧ Rd w' x1.1 x1.2.1 1 (nzV (endL (S0E a b ks) (fs.map fun x => x.k))) ∧ Rd w' x2.1 x2.2.1 1 (sv (keysS (foldC (S0E a b ks) (fs.map fun x => x.k)))) ∧ x2.2.1 ≤ 70368744177000) := by
  have hfl : fs.length = F := by have := hF.1; rw [rowV_len frV_len] at this; omega
  have hpl : pk.length = pn := by have := hP.1; simp only [iv, List.length_map] at this; omega
  obtain ⟨FT, hFT⟩ : ∃ FT, fs.map (fun x => (x.r, x.k)) = FT := ⟨_, rfl⟩
  have hFTl : FT.length = F := by rw [← hFT, List.length_map]; exact hfl
  obtain ⟨S0, hS0⟩ : ∃ S0, S0E a b ks = S0 := ⟨_, rfl⟩
  rw [hS0]
  refine ret_T (n := 164) Tryz.func18 rfl rfl ?_
  repeat (first | refine T_seq ?_ | refine T_region ?_)
  refine TL_box (hk := ?_); intro b4 wa ea ha ha' ka
  replace ka : Blk wa b4 25 [.int .i64 a, .int .i64 b, .slice KA kn kc, .int .i64 wn0, .slice A n0 c0] := ka
  repeat (first | refine T_seq ?_ | refine T_region ?_ | refine TL_nil ?_ | refine TL_assign (hk := ?_))
  refine TL_loadb TE (cs := [.int .i64 a, .int .i64 b, .slice KA kn kc, .int .i64 wn0, .slice A n0 c0]) (o := 0) rfl rfl ka rfl rfl (Nat.succ_pos _) (hk := ?_)
  --
  refine TL_alloc TE (hk := ?_); intro b5 wb eb hb hb' kb
  --
  refine TL_storea TE (hk := ?_); intro wc mc zc kc5
  have za := ea.size
  have zb := eb.size
  have Ec : Ext w wc := Mod.step (ea.ext eb) mc (by simp; omega)
  replace kc5 : Blk wc b5 25 [.int .i64 a, .int .i64 b, .slice KA kn kc, .int .i64 wn0, .slice A n0 c0] := kc5
  clear kb ka
  repeat (first | refine T_seq ?_ | refine T_region ?_ | refine TL_nil ?_ | refine TL_move (hk := ?_) | refine TL_fieldAddr TE (hk := ?_))
  refine TL_store TE (hk := ?_); intro wd md zd kd5
  have Ed : Ext w wd := Mod.step Ec md (by simp; omega)
  replace kd5 : Blk wd b5 25 [.int .i64 a, .int .i64 b, .slice KA kn kc, .int .i64 wn, .slice A n0 c0] := kd5
  clear kc5
  repeat (first | refine T_seq ?_ | refine T_region ?_ | refine TL_nil ?_)
  refine TL_loadb TE (cs := [.int .i64 a, .int .i64 b, .slice KA kn kc, .int .i64 wn, .slice A n0 c0]) (o := 0) rfl rfl kd5 rfl rfl (Nat.succ_pos _) (hk := ?_)
  --
  refine TL_call TE (hc := made2_c15 a b wn KA kn kc ks A n0 c0 wd (hk.be Ed) hkn hkl) (hk := ?_)
  rintro _ we ⟨X, X2, X3, rfl, ee, ⟨_, hno⟩ | ⟨_, bs, me, he, ge, fe, rfl, rfl, hbs, Me, Ie, Re, hWn⟩⟩
  · exact absurd hok hno
  rw [hS0] at Me Ie Re
  obtain ⟨p, hp⟩ : ∃ p, me.p = p := ⟨_, rfl⟩
  obtain ⟨sm, hsm⟩ : ∃ sm, me.sm = sm := ⟨_, rfl⟩
  obtain ⟨W, hW⟩ : ∃ W, wn.toNat = W := ⟨_, rfl⟩
  rw [hW] at Me Ie Re
  have Te : TS5 wd we bs p 0 me he ge fe (newSS W S0) := ⟨ee, hp, Me, Ie, Re, hbs⟩
  rw [hp, hsm]
  have hFd := hF.be Ed
  have hPd := hP.be Ed
  have hfgd : ∀ x ∈ fs, FrOk wd x := fun x hx => by have g := hfg x hx; exact { g with ra := g.ra.be Ed, rb := g.rb.be Ed }
  clear hp Me Ie Re hk hF hP hfg kd5
  have hEnd0 : EndP wd we bs p 0 S0 sm FT (none, 0, 0) [] (fun _ => True) := ⟨me, he, ge, fe, _, Te, hsm, SC.start W S0, TkI.start W S0, ⟨Seg.nil _ _ _ _, fun b q => by cases q⟩, rfl, rfl, trivial⟩
  clear Te hsm
  repeat (first | refine T_seq ?_ | refine T_region ?_ | refine T_cond_false rfl ?_ | refine T_block ?_ | refine T_skip ?_ | refine TL_pnil_f TE (hk := ?_) | refine TL_nil ?_ | refine TL_move (hk := ?_) | refine TL_assign (hk := ?_) | refine TL_yes (hk := ?_) | refine TL_pick_f (hk := ?_) | refine TL_extract (hk := ?_) | refine TL_not (hk := ?_))
  refine T_loop (ι := Nat × Nat × SL × List Nat) (fun j => [(18, .int .i64 (j.1 : Int)), (17, .int .i64 (j.2.1 : Int)), (16, sL j.2.2.1), (12, pB p), (13, pB sm.sb), (2, .slice FA F fc), (3, .slice PA pn pc)])
    (fun j w' => j.1 ≤ 5 * F + pn + 5 ∧ j.2.1 ≤ F ∧ (j.1 ≤ pn + j.2.1 ∨ j.2.1 = F) ∧ EndP wd w' bs p j.2.1 S0 sm FT j.2.2.1 j.2.2.2 (fun _ => True)) (fun j => 5 * F + pn + 5 - j.1) (0, 0, (none, 0, 0), []) (.c rfl (.c rfl (.c rfl (.c rfl (.c rfl (.c rfl (.c rfl (.n)))))))) ⟨by simp only; omega, by simp only; omega, .inl (by simp only; omega), hEnd0⟩ ?_
  clear hEnd0
  rintro ⟨i, n, y, tk⟩ w1 ⟨hi, hn, hin, m1, h1, g1, f1, s, T1, hsm1, C1, I1, K1, hEl, hEf, _⟩ ih
  simp only at hi hn hin ih hEl hEf K1 I1 T1 ⊢
  have hF1 := hFd.be T1.e
  have hP1 := hPd.be T1.e
  have hyl1 := K1.len
  have hEn := T1.I.en
  have hTL : tk.length ≤ 1000 := by
    have h1 : tk.length ≤ (List.range s.E.length).length := nodup_le I1.nd (fun q hq => List.mem_range.2 (I1.t4 q hq).1)
    rw [List.length_range] at h1
    omega
  by_cases hlt : i < 5 * F + pn + 5
  · by_cases hpi : i < pn
    · have hPA : PA ≠ none := by obtain ⟨_, _, hq, _⟩ := hP1.2 (by omega); rw [hq]; simp
      have hpv := iv_at pk i (by omega)
      obtain ⟨z, hz⟩ : ∃ z, pk.getD i 0 = z := ⟨_, rfl⟩
      rw [hz] at hpv
      repeat (first | refine T_seq ?_ | refine T_region ?_ | refine T_cond_true rfl ?_ | refine T_block ?_ | refine T_skip ?_ | refine TL_add (hk := ?_) | refine TL_mul (hk := ?_) | refine TL_lt_t (hk := ?_) | refine TL_nil ?_ | refine TL_move (hk := ?_) | refine TL_assign (hk := ?_) | refine TL_load_rd TE (hk := ?_) | refine TL_indexAddr1n TE (hk := ?_) | refine TL_len TE (hk := ?_))
      refine TL_rem_any (hk := ?_)
      have ht := tmod3 z
      generalize Int.tmod z 3 = u at ht ⊢
      repeat (first | refine T_seq ?_ | refine T_region ?_ | refine TL_add (hk := ?_) | refine TL_rem (hk := ?_) | refine TL_nil ?_ | refine TL_move (hk := ?_) | refine TL_assign (hk := ?_))
      obtain ⟨v, hv⟩ : ∃ v, (u + 3) % 3 = v := ⟨_, rfl⟩
      rw [hv]
      have hv2 : 0 ≤ v ∧ v < 3 := by omega
      clear hv ht
      by_cases hadd : v = 0 ∧ n < F
      · obtain ⟨hv0', hnF⟩ := hadd
        have t1 := rowV_elem frV_len fs n fr0 (by omega)
        have hxo := hfgd _ (getD_in (d := fr0) (by omega : n < fs.length))
        have hft := ft_take hFT (n := n) (by omega)
        obtain ⟨x, hx⟩ : ∃ x, fs.getD n fr0 = x := ⟨_, rfl⟩
        rw [hx] at t1 hxo hft
        have hFA : FA ≠ none := by obtain ⟨_, _, hq, _⟩ := hF1.2 (by omega); rw [hq]; simp
        have hnm := hxo.nm
        repeat (first | refine T_seq ?_ | refine T_region ?_ | refine T_cond_true rfl ?_ | refine TL_lt_t (hk := ?_) | refine TL_eq_t (hk := ?_) | refine TL_nil ?_ | refine TL_move (hk := ?_) | refine TL_indexAddrn TE (hk := ?_) | refine TL_len TE (hk := ?_) | refine TL_yes (hk := ?_) | refine TL_pick_t (hk := ?_))
        refine TL_loada TE (cs := frV x) (hx := rfl) (ht := rfl) (hi := rfl) (hr := hF1) (hc := t1) (h0 := Nat.succ_pos _) (hk := ?_)
        --
        refine TL_call TE (hc := own_c15 x.A x.B x.n x.c x.m x.d x.r x.k w1 (hxo.ra.be T1.e) (hxo.rb.be T1.e) (by omega) (by omega)) (hk := ?_)
        rintro _ w2 ⟨A2, c2, B2, d2, rfl, r2, s2, e2⟩
        have T2 := T1.ext e2
        have K2 := K1.ext e2
        have cA := Add_c15 (n : Int) A2 B2 x.n c2 x.m d2 x.r x.k w2 T2.M T2.I (by omega) r2 s2 (by omega) (by omega) (fun j hj => by have := hxo.sr _ (.inl (getD_in (d := []) hj)); omega) (fun j hj => by have := hxo.sr _ (.inr (getD_in (d := []) hj)); omega)
        rw [T2.hp] at cA
        obtain ⟨a0, ast⟩ := add_ok T2.R (by omega) hxo.no
        rw [hEl] at a0 ast
        obtain ⟨R3, fa1, _⟩ := add_sr T2.R (by omega) (n : Int) x.r x.k
        have C3 := add_sc C1 T2.R (by omega) (n : Int) x.r x.k
        have hl3 : (addE s (n : Int) x.r x.k).1.E.length = n + 1 := by rw [ast.1, List.length_append, hEl]; rfl
        --
        refine TL_call TE (hc := cA) (hk := ?_)
        rintro _ w3 ⟨rfl, m3, h3, g3, f3, hp3, M3, I3, t3, hsm3⟩
        rw [a0]
        have T3 := T2.turn (hp3.trans T2.hp.symm) M3 t3 I3 R3
        have K3 := K2.tn t3
        --
        refine TL_call TE (hc := num_c15 0 w3) (hk := ?_)
        rintro _ w4 ⟨rfl, e4⟩
        have I4 := I1.add ast
        repeat (first | refine T_seq ?_ | refine T_region ?_ | refine T_cond_false rfl ?_ | refine T_skip ?_ | refine T_exit rfl ?_ | refine TL_add (hk := ?_) | refine TL_ne_f (hk := ?_) | refine TL_nil ?_ | refine TL_move (hk := ?_) | refine TL_assign (hk := ?_))
        exact ih (i + 1, n + 1, y, tk) w4 _ (by simp only; omega) ⟨by simp only; omega, by simp only; omega, by simp only; omega, m3, h3, g3, f3, _, T3.ext e4, hsm3.trans hsm1, C3, I4, K3.ext e4, hl3, by rw [fa1 a0, hEf, hft], trivial⟩ (.c rfl (.c rfl (.c rfl (.c rfl (.c rfl (.c rfl (.c rfl (.n))))))))
      · by_cases hv0 : v = 0
        · have hnF : ¬ n < F := fun q => hadd ⟨hv0, q⟩
          have cT := Take_c15 w1 T1.M T1.I
          rw [T1.hp] at cT
          obtain ⟨R2, ftT⟩ := take_sr T1.R
          have C2 := take_sc C1
          have hEl3 : (takeS s).1.E.length = n := by have := congrArg List.length ftT; rw [List.length_map, List.length_map] at this; omega
          have hEf3 : (takeS s).1.E.map ftE = FT.take n := by rw [ftT]; exact hEf
          rcases take_st s with ⟨hq, hs', hno⟩ | ⟨q, hq, hql, hq3, hqm, hqE⟩
          · rw [hq] at cT
            repeat (first | refine T_seq ?_ | refine T_region ?_ | refine T_cond_false rfl ?_ | refine T_skip ?_ | refine TL_lt_f (hk := ?_) | refine TL_eq_t (hk := ?_) | refine TL_nil ?_ | refine TL_move (hk := ?_) | refine TL_len TE (hk := ?_) | refine TL_yes (hk := ?_) | refine TL_pick_t (hk := ?_))
            refine TL_call TE (hc := cT) (hk := ?_)
            rintro _ w2 ⟨rfl, m2, hp2, M2, It2, t2, hsm2⟩
            have T2 := T1.turn (hp2.trans T1.hp.symm) M2 t2 It2 R2
            have K2 := K1.tn t2
            have I2 : TkI (takeS s).1 tk := by rw [hs']; exact I1
            cases tk with
            | nil =>
              have hy0 : y.2.1 = 0 := K2.len
              repeat (first | refine T_seq ?_ | refine T_region ?_ | refine T_cond_false rfl ?_ | refine T_inBlock ?_ | refine T_skip ?_ | refine TL_add (hk := ?_) | refine TL_gt_f (hk := ?_) | refine TL_nil ?_ | refine TL_move (hk := ?_) | refine TL_assign (hk := ?_) | refine TL_len TE (hk := ?_) | refine TL_no (hk := ?_) | refine TL_pick_f (hk := ?_) | refine TL_extract (hk := ?_))
              exact ih (i + 1, n, y, []) w2 _ (by simp only; omega) ⟨by simp only; omega, hn, by simp only; omega, m2, _, g1, f1, _, T2, hsm2.trans hsm1, C2, I2, K2, hEl3, hEf3, trivial⟩ (.c rfl (.c rfl (.c rfl (.c rfl (.c rfl (.c rfl (.c rfl (.n))))))))
            | cons q0 tk0 =>
              have hyl := K2.len
              rw [List.length_cons] at hyl
              have rdX := K2.sg.rd
              have hcp := K2.sg.cap
              have hv0 : (nzV (q0 :: tk0))[0]? = some (.int .i64 (q0 : Int)) := rfl
              have hAy : y.1 ≠ none := by obtain ⟨_, _, hq, _⟩ := rdX.2 (by omega); rw [hq]; simp
              obtain ⟨hq0, hq4⟩ := I2.t4 q0 (by simp)
              have hEl1 := T2.I.en
              obtain ⟨d0, dst⟩ := done_st T2.R (by omega) hq0 hq4
              obtain ⟨Rd', ftd⟩ := done_sr T2.R (by omega) (q0 : Int)
              have Cd := done_sc C2 T2.R (by omega) (q0 : Int)
              have Kd := I2.done dst
              have cD := Done_c15 (q0 : Int) w2 T2.M T2.I
              rw [T2.hp] at cD
              have hd0 : (((doneE (takeS s).1 (q0 : Int)).2 : Nat) : Int) = 0 := by rw [d0]; rfl
              have dl : (doneE (takeS s).1 (q0 : Int)).1.E.length = (takeS s).1.E.length := by have := congrArg List.length ftd; rwa [List.length_map, List.length_map] at this
              repeat (first | refine T_seq ?_ | refine T_region ?_ | refine T_cond_true rfl ?_ | refine T_cond_false rfl ?_ | refine T_skip ?_ | refine TL_gt_t (hk := ?_) | refine TL_nil ?_ | refine TL_move (hk := ?_) | refine TL_assign (hk := ?_) | refine TL_load_rd TE (hk := ?_) | refine TL_indexAddr1n TE (hk := ?_) | refine TL_len TE (hk := ?_) | refine TL_no (hk := ?_) | refine TL_pick_f (hk := ?_) | refine TL_extract (hk := ?_))
              refine TL_call TE (hc := cD) (hk := ?_)
              rintro _ wD ⟨rfl, mD, gD, fD, hpD, MD, ID, tD, hsmD⟩
              rw [hd0]
              have TD := T2.turn (hpD.trans T2.hp.symm) MD tD ID Rd'
              have ND := K2.tn tD
              --
              refine TL_call TE (hc := num_c15 0 wD) (hk := ?_)
              rintro _ wE ⟨rfl, eE⟩
              repeat (first | refine T_region ?_ | refine T_cond_false rfl ?_ | refine T_inBlock ?_ | refine T_skip ?_ | refine TL_add (hk := ?_) | refine TL_ne_f (hk := ?_) | refine TL_nil ?_ | refine TL_move (hk := ?_) | refine TL_assign (hk := ?_) | refine TL_slice_lo TE (hk := ?_))
              exact ih (i + 1, n, (cutA y.1 y.2.2 1 1, y.2.1 - 1, y.2.2 - 1), tk0) wE _ (by simp only; omega) ⟨by simp only; omega, hn, by simp only; omega, mD, _, gD, fD, _, TD.ext eE, hsmD.trans (hsm2.trans hsm1), Cd, Kd, (ND.ext eE).tail, by rw [dl]; exact hEl3, by rw [ftd]; exact hEf3, trivial⟩ (.c rfl (.c rfl (.c rfl (.c rfl (.c rfl (.c rfl (.c rfl (.n))))))))
          · rw [hq] at cT
            have I2 := I1.take hql hq3 hqE
            repeat (first | refine T_seq ?_ | refine T_region ?_ | refine T_cond_false rfl ?_ | refine T_skip ?_ | refine TL_lt_f (hk := ?_) | refine TL_eq_t (hk := ?_) | refine TL_nil ?_ | refine TL_move (hk := ?_) | refine TL_len TE (hk := ?_) | refine TL_yes (hk := ?_) | refine TL_pick_t (hk := ?_))
            refine TL_call TE (hc := cT) (hk := ?_)
            rintro _ w2 ⟨rfl, m2, hp2, M2, It2, t2, hsm2⟩
            have T2 := T1.turn (hp2.trans T1.hp.symm) M2 t2 It2 R2
            have K2 := K1.tn t2
            repeat (first | refine T_seq ?_ | refine T_region ?_ | refine T_cond_true rfl ?_ | refine TL_ne_t (hk := ?_) | refine TL_nil ?_ | refine TL_move (hk := ?_) | refine TL_assign (hk := ?_) | refine TL_yes (hk := ?_) | refine TL_pick_t (hk := ?_) | refine TL_extract (hk := ?_))
            refine TL_buildSlice TE (hk := ?_); intro b3 w3 e3 h3' h3'' k3
            replace k3 : Blk w3 b3 2 (nzV [q]) := k3
            have r3 : Rd w3 (some ⟨b3, 0, none⟩) 1 1 (nzV [q]) := Rd.blk k3 rfl
            have T3 := T2.ext e3
            have K3 := K2.ext e3
            have hcp3 := K3.sg.cap
            have hyl3 := K3.len
            have hwz := T3.e.size
            have htkl : tk.length ≤ 1000 := hTL
            --
            refine TL_append_g TE (ho := K3.sg) (hr := r3) (h1 := nzV_one _) (hk := ?_); intro A4 c4 w4 o4 m4 n4
            rw [← nzV_append] at o4
            obtain ⟨T4, K4⟩ := TkM.push T3 K3 q o4 m4 n4
            repeat (first | refine T_region ?_ | refine T_exit rfl ?_ | refine TL_add (hk := ?_) | refine TL_nil ?_ | refine TL_move (hk := ?_) | refine TL_assign (hk := ?_))
            exact ih (i + 1, n, (A4, y.2.1 + 1, c4), tk ++ [q]) w4 _ (by simp only; omega) ⟨by simp only; omega, hn, by simp only; omega, m2, _, g1, f1, _, T4, hsm2.trans hsm1, C2, I2 _ (List.perm_append_singleton q tk), K4, hEl3, hEf3, trivial⟩ (.c rfl (.c rfl (.c rfl (.c rfl (.c rfl (.c rfl (.c rfl (.n))))))))
        · have cT := Take_c15 w1 T1.M T1.I
          rw [T1.hp] at cT
          obtain ⟨R2, ftT⟩ := take_sr T1.R
          have C2 := take_sc C1
          have hEl3 : (takeS s).1.E.length = n := by have := congrArg List.length ftT; rw [List.length_map, List.length_map] at this; omega
          have hEf3 : (takeS s).1.E.map ftE = FT.take n := by rw [ftT]; exact hEf
          rcases take_st s with ⟨hq, hs', hno⟩ | ⟨q, hq, hql, hq3, hqm, hqE⟩
          · rw [hq] at cT
            repeat (first | refine T_seq ?_ | refine T_region ?_ | refine T_cond_false rfl ?_ | refine T_skip ?_ | refine TL_eq_f (hk := ?_) | refine TL_nil ?_ | refine TL_move (hk := ?_) | refine TL_no (hk := ?_) | refine TL_pick_f (hk := ?_))
            refine TL_call TE (hc := cT) (hk := ?_)
            rintro _ w2 ⟨rfl, m2, hp2, M2, It2, t2, hsm2⟩
            have T2 := T1.turn (hp2.trans T1.hp.symm) M2 t2 It2 R2
            have K2 := K1.tn t2
            have I2 : TkI (takeS s).1 tk := by rw [hs']; exact I1
            cases tk with
            | nil =>
              have hy0 : y.2.1 = 0 := K2.len
              repeat (first | refine T_seq ?_ | refine T_region ?_ | refine T_cond_false rfl ?_ | refine T_inBlock ?_ | refine T_skip ?_ | refine TL_add (hk := ?_) | refine TL_gt_f (hk := ?_) | refine TL_nil ?_ | refine TL_move (hk := ?_) | refine TL_assign (hk := ?_) | refine TL_len TE (hk := ?_) | refine TL_no (hk := ?_) | refine TL_pick_f (hk := ?_) | refine TL_extract (hk := ?_))
              exact ih (i + 1, n, y, []) w2 _ (by simp only; omega) ⟨by simp only; omega, hn, by simp only; omega, m2, _, g1, f1, _, T2, hsm2.trans hsm1, C2, I2, K2, hEl3, hEf3, trivial⟩ (.c rfl (.c rfl (.c rfl (.c rfl (.c rfl (.c rfl (.c rfl (.n))))))))
            | cons q0 tk0 =>
              have hyl := K2.len
              rw [List.length_cons] at hyl
              have rdX := K2.sg.rd
              have hcp := K2.sg.cap
              have hv0 : (nzV (q0 :: tk0))[0]? = some (.int .i64 (q0 : Int)) := rfl
              have hAy : y.1 ≠ none := by obtain ⟨_, _, hq, _⟩ := rdX.2 (by omega); rw [hq]; simp
              obtain ⟨hq0, hq4⟩ := I2.t4 q0 (by simp)
              have hEl1 := T2.I.en
              obtain ⟨d0, dst⟩ := done_st T2.R (by omega) hq0 hq4
              obtain ⟨Rd', ftd⟩ := done_sr T2.R (by omega) (q0 : Int)
              have Cd := done_sc C2 T2.R (by omega) (q0 : Int)
              have Kd := I2.done dst
              have cD := Done_c15 (q0 : Int) w2 T2.M T2.I
              rw [T2.hp] at cD
              have hd0 : (((doneE (takeS s).1 (q0 : Int)).2 : Nat) : Int) = 0 := by rw [d0]; rfl
              have dl : (doneE (takeS s).1 (q0 : Int)).1.E.length = (takeS s).1.E.length := by have := congrArg List.length ftd; rwa [List.length_map, List.length_map] at this
              repeat (first | refine T_seq ?_ | refine T_region ?_ | refine T_cond_true rfl ?_ | refine T_cond_false rfl ?_ | refine T_skip ?_ | refine TL_gt_t (hk := ?_) | refine TL_nil ?_ | refine TL_move (hk := ?_) | refine TL_assign (hk := ?_) | refine TL_load_rd TE (hk := ?_) | refine TL_indexAddr1n TE (hk := ?_) | refine TL_len TE (hk := ?_) | refine TL_no (hk := ?_) | refine TL_pick_f (hk := ?_) | refine TL_extract (hk := ?_))
              refine TL_call TE (hc := cD) (hk := ?_)
              rintro _ wD ⟨rfl, mD, gD, fD, hpD, MD, ID, tD, hsmD⟩
              rw [hd0]
              have TD := T2.turn (hpD.trans T2.hp.symm) MD tD ID Rd'
              have ND := K2.tn tD
              --
              refine TL_call TE (hc := num_c15 0 wD) (hk := ?_)
              rintro _ wE ⟨rfl, eE⟩
              repeat (first | refine T_region ?_ | refine T_cond_false rfl ?_ | refine T_inBlock ?_ | refine T_skip ?_ | refine TL_add (hk := ?_) | refine TL_ne_f (hk := ?_) | refine TL_nil ?_ | refine TL_move (hk := ?_) | refine TL_assign (hk := ?_) | refine TL_slice_lo TE (hk := ?_))
              exact ih (i + 1, n, (cutA y.1 y.2.2 1 1, y.2.1 - 1, y.2.2 - 1), tk0) wE _ (by simp only; omega) ⟨by simp only; omega, hn, by simp only; omega, mD, _, gD, fD, _, TD.ext eE, hsmD.trans (hsm2.trans hsm1), Cd, Kd, (ND.ext eE).tail, by rw [dl]; exact hEl3, by rw [ftd]; exact hEf3, trivial⟩ (.c rfl (.c rfl (.c rfl (.c rfl (.c rfl (.c rfl (.c rfl (.n))))))))
          · rw [hq] at cT
            have I2 := I1.take hql hq3 hqE
            repeat (first | refine T_seq ?_ | refine T_region ?_ | refine T_cond_false rfl ?_ | refine T_skip ?_ | refine TL_eq_f (hk := ?_) | refine TL_nil ?_ | refine TL_move (hk := ?_) | refine TL_no (hk := ?_) | refine TL_pick_f (hk := ?_))
            refine TL_call TE (hc := cT) (hk := ?_)
            rintro _ w2 ⟨rfl, m2, hp2, M2, It2, t2, hsm2⟩
            have T2 := T1.turn (hp2.trans T1.hp.symm) M2 t2 It2 R2
            have K2 := K1.tn t2
            by_cases hv1 : v = 1
            · repeat (first | refine T_seq ?_ | refine T_region ?_ | refine T_cond_true rfl ?_ | refine T_cond_false rfl ?_ | refine T_skip ?_ | refine TL_ne_f (hk := ?_) | refine TL_nil ?_ | refine TL_move (hk := ?_) | refine TL_assign (hk := ?_) | refine TL_yes (hk := ?_) | refine TL_pick_t (hk := ?_) | refine TL_extract (hk := ?_))
              refine TL_buildSlice TE (hk := ?_); intro b3 w3 e3 h3' h3'' k3
              replace k3 : Blk w3 b3 2 (nzV [q]) := k3
              have o3 : Own w3 w2.heap.size 2 1 (some ⟨b3, 0, none⟩) 1 1 (nzV [q]) := Own.of_blk k3 h3' rfl (by decide)
              have rK3 := (K2.ext e3).sg.rd
              have hyl3 := K2.len
              have z3 := e3.size
              have htkl : tk.length ≤ 1000 := hTL
              repeat (refine TL_move (hk := ?_))
              refine TL_append TE (ho := o3) (hr := rK3) (h1 := nzV_one _) (hk := ?_); intro A4 c4 w4 o4 m4 n4
              rw [← nzV_append] at o4
              have E24 : Ext w2 w4 := e3.own m4 o3.hi
              have T4 := T2.ext E24
              have K4 : TkM wd w4 (oA h1 g1 f1) (A4, 1 + y.2.1, c4) (q :: tk) := ⟨(o4.weaken T2.e.size).seg, fun b hb => T2.M.new0 (o4.bl b hb).1⟩
              have I4 := I2 (q :: tk) (List.Perm.refl _)
              have hyl := K4.len
              rw [List.length_cons] at hyl
              have rdX := K4.sg.rd
              have hcp := K4.sg.cap
              have hv0 : (nzV (q :: tk))[0]? = some (.int .i64 (q : Int)) := rfl
              have hAy : (A4, 1 + y.2.1, c4).1 ≠ none := by obtain ⟨_, _, hq, _⟩ := rdX.2 (by omega); rw [hq]; simp
              obtain ⟨hq0, hq4⟩ := I4.t4 q (by simp)
              have hEl1 := T4.I.en
              obtain ⟨d0, dst⟩ := done_st T4.R (by omega) hq0 hq4
              obtain ⟨Rd', ftd⟩ := done_sr T4.R (by omega) (q : Int)
              have Cd := done_sc C2 T4.R (by omega) (q : Int)
              have Kd := I4.done dst
              have cD := Done_c15 (q : Int) w4 T4.M T4.I
              rw [T4.hp] at cD
              have hd0 : (((doneE (takeS s).1 (q : Int)).2 : Nat) : Int) = 0 := by rw [d0]; rfl
              have dl : (doneE (takeS s).1 (q : Int)).1.E.length = (takeS s).1.E.length := by have := congrArg List.length ftd; rwa [List.length_map, List.length_map] at this
              repeat (first | refine T_seq ?_ | refine T_region ?_ | refine T_cond_true rfl ?_ | refine TL_gt_t (hk := ?_) | refine TL_nil ?_ | refine TL_move (hk := ?_) | refine TL_assign (hk := ?_) | refine TL_load_rd TE (hk := ?_) | refine TL_indexAddr1n TE (hk := ?_) | refine TL_len TE (hk := ?_))
              refine TL_call TE (hc := cD) (hk := ?_)
              rintro _ wD ⟨rfl, mD, gD, fD, hpD, MD, ID, tD, hsmD⟩
              rw [hd0]
              have TD := T4.turn (hpD.trans T4.hp.symm) MD tD ID Rd'
              have ND := K4.tn tD
              --
              refine TL_call TE (hc := num_c15 0 wD) (hk := ?_)
              rintro _ wE ⟨rfl, eE⟩
              repeat (first | refine T_region ?_ | refine T_cond_false rfl ?_ | refine T_inBlock ?_ | refine T_skip ?_ | refine TL_add (hk := ?_) | refine TL_ne_f (hk := ?_) | refine TL_nil ?_ | refine TL_move (hk := ?_) | refine TL_assign (hk := ?_) | refine TL_slice_lo TE (hk := ?_))
              exact ih (i + 1, n, (cutA (A4, 1 + y.2.1, c4).1 (A4, 1 + y.2.1, c4).2.2 1 1, (A4, 1 + y.2.1, c4).2.1 - 1, (A4, 1 + y.2.1, c4).2.2 - 1), tk) wE _ (by simp only; omega) ⟨by simp only; omega, hn, by simp only; omega, mD, _, gD, fD, _, TD.ext eE, hsmD.trans (hsm2.trans hsm1), Cd, Kd, (ND.ext eE).tail, by rw [dl]; exact hEl3, by rw [ftd]; exact hEf3, trivial⟩ (.c rfl (.c rfl (.c rfl (.c rfl (.c rfl (.c rfl (.c rfl (.n))))))))
            · repeat (first | refine T_seq ?_ | refine T_region ?_ | refine T_cond_true rfl ?_ | refine TL_ne_t (hk := ?_) | refine TL_nil ?_ | refine TL_move (hk := ?_) | refine TL_assign (hk := ?_) | refine TL_yes (hk := ?_) | refine TL_pick_t (hk := ?_) | refine TL_extract (hk := ?_))
              refine TL_buildSlice TE (hk := ?_); intro b3 w3 e3 h3' h3'' k3
              replace k3 : Blk w3 b3 2 (nzV [q]) := k3
              have r3 : Rd w3 (some ⟨b3, 0, none⟩) 1 1 (nzV [q]) := Rd.blk k3 rfl
              have T3 := T2.ext e3
              have K3 := K2.ext e3
              have hcp3 := K3.sg.cap
              have hyl3 := K3.len
              have hwz := T3.e.size
              have htkl : tk.length ≤ 1000 := hTL
              --
              refine TL_append_g TE (ho := K3.sg) (hr := r3) (h1 := nzV_one _) (hk := ?_); intro A4 c4 w4 o4 m4 n4
              rw [← nzV_append] at o4
              obtain ⟨T4, K4⟩ := TkM.push T3 K3 q o4 m4 n4
              repeat (first | refine T_region ?_ | refine T_exit rfl ?_ | refine TL_add (hk := ?_) | refine TL_nil ?_ | refine TL_move (hk := ?_) | refine TL_assign (hk := ?_))
              exact ih (i + 1, n, (A4, y.2.1 + 1, c4), tk ++ [q]) w4 _ (by simp only; omega) ⟨by simp only; omega, hn, by simp only; omega, m2, _, g1, f1, _, T4, hsm2.trans hsm1, C2, I2 _ (List.perm_append_singleton q tk), K4, hEl3, hEf3, trivial⟩ (.c rfl (.c rfl (.c rfl (.c rfl (.c rfl (.c rfl (.c rfl (.n))))))))
    · repeat (first | refine T_seq ?_ | refine T_region ?_ | refine T_cond_true rfl ?_ | refine T_cond_false rfl ?_ | refine T_block ?_ | refine T_skip ?_ | refine TL_add (hk := ?_) | refine TL_mul (hk := ?_) | refine TL_rem (hk := ?_) | refine TL_lt_t (hk := ?_) | refine TL_lt_f (hk := ?_) | refine TL_eq_t (hk := ?_) | refine TL_nil ?_ | refine TL_move (hk := ?_) | refine TL_assign (hk := ?_) | refine TL_len TE (hk := ?_) | refine TL_yes (hk := ?_))
      have hvv : ((0 : Int) % 3 + 3) % 3 = 0 := by decide
      try rw [hvv]
      by_cases hnF0 : n < F
      · have hadd : n < F ∧ n < F := ⟨hnF0, hnF0⟩
        obtain ⟨hv0', hnF⟩ := hadd
        have t1 := rowV_elem frV_len fs n fr0 (by omega)
        have hxo := hfgd _ (getD_in (d := fr0) (by omega : n < fs.length))
        have hft := ft_take hFT (n := n) (by omega)
        obtain ⟨x, hx⟩ : ∃ x, fs.getD n fr0 = x := ⟨_, rfl⟩
        rw [hx] at t1 hxo hft
        have hFA : FA ≠ none := by obtain ⟨_, _, hq, _⟩ := hF1.2 (by omega); rw [hq]; simp
        have hnm := hxo.nm
        repeat (first | refine T_seq ?_ | refine T_region ?_ | refine T_cond_true rfl ?_ | refine TL_lt_t (hk := ?_) | refine TL_nil ?_ | refine TL_move (hk := ?_) | refine TL_indexAddrn TE (hk := ?_) | refine TL_pick_t (hk := ?_))
        refine TL_loada TE (cs := frV x) (hx := rfl) (ht := rfl) (hi := rfl) (hr := hF1) (hc := t1) (h0 := Nat.succ_pos _) (hk := ?_)
        --
        refine TL_call TE (hc := own_c15 x.A x.B x.n x.c x.m x.d x.r x.k w1 (hxo.ra.be T1.e) (hxo.rb.be T1.e) (by omega) (by omega)) (hk := ?_)
        rintro _ w2 ⟨A2, c2, B2, d2, rfl, r2, s2, e2⟩
        have T2 := T1.ext e2
        have K2 := K1.ext e2
        have cA := Add_c15 (n : Int) A2 B2 x.n c2 x.m d2 x.r x.k w2 T2.M T2.I (by omega) r2 s2 (by omega) (by omega) (fun j hj => by have := hxo.sr _ (.inl (getD_in (d := []) hj)); omega) (fun j hj => by have := hxo.sr _ (.inr (getD_in (d := []) hj)); omega)
        rw [T2.hp] at cA
        obtain ⟨a0, ast⟩ := add_ok T2.R (by omega) hxo.no
        rw [hEl] at a0 ast
        obtain ⟨R3, fa1, _⟩ := add_sr T2.R (by omega) (n : Int) x.r x.k
        have C3 := add_sc C1 T2.R (by omega) (n : Int) x.r x.k
        have hl3 : (addE s (n : Int) x.r x.k).1.E.length = n + 1 := by rw [ast.1, List.length_append, hEl]; rfl
        --
        refine TL_call TE (hc := cA) (hk := ?_)
        rintro _ w3 ⟨rfl, m3, h3, g3, f3, hp3, M3, I3, t3, hsm3⟩
        rw [a0]
        have T3 := T2.turn (hp3.trans T2.hp.symm) M3 t3 I3 R3
        have K3 := K2.tn t3
        --
        refine TL_call TE (hc := num_c15 0 w3) (hk := ?_)
        rintro _ w4 ⟨rfl, e4⟩
        have I4 := I1.add ast
        repeat (first | refine T_seq ?_ | refine T_region ?_ | refine T_cond_false rfl ?_ | refine T_skip ?_ | refine T_exit rfl ?_ | refine TL_add (hk := ?_) | refine TL_ne_f (hk := ?_) | refine TL_nil ?_ | refine TL_move (hk := ?_) | refine TL_assign (hk := ?_))
        exact ih (i + 1, n + 1, y, tk) w4 _ (by simp only; omega) ⟨by simp only; omega, by simp only; omega, by simp only; omega, m3, h3, g3, f3, _, T3.ext e4, hsm3.trans hsm1, C3, I4, K3.ext e4, hl3, by rw [fa1 a0, hEf, hft], trivial⟩ (.c rfl (.c rfl (.c rfl (.c rfl (.c rfl (.c rfl (.c rfl (.n))))))))
      · have hnF := hnF0
        have cT := Take_c15 w1 T1.M T1.I
        rw [T1.hp] at cT
        obtain ⟨R2, ftT⟩ := take_sr T1.R
        have C2 := take_sc C1
        have hEl3 : (takeS s).1.E.length = n := by have := congrArg List.length ftT; rw [List.length_map, List.length_map] at this; omega
        have hEf3 : (takeS s).1.E.map ftE = FT.take n := by rw [ftT]; exact hEf
        rcases take_st s with ⟨hq, hs', hno⟩ | ⟨q, hq, hql, hq3, hqm, hqE⟩
        · rw [hq] at cT
          repeat (first | refine T_seq ?_ | refine T_region ?_ | refine T_cond_false rfl ?_ | refine T_skip ?_ | refine TL_lt_f (hk := ?_) | refine TL_nil ?_ | refine TL_move (hk := ?_) | refine TL_pick_t (hk := ?_))
          refine TL_call TE (hc := cT) (hk := ?_)
          rintro _ w2 ⟨rfl, m2, hp2, M2, It2, t2, hsm2⟩
          have T2 := T1.turn (hp2.trans T1.hp.symm) M2 t2 It2 R2
          have K2 := K1.tn t2
          have I2 : TkI (takeS s).1 tk := by rw [hs']; exact I1
          cases tk with
          | nil =>
            have hy0 : y.2.1 = 0 := K2.len
            repeat (first | refine T_seq ?_ | refine T_region ?_ | refine T_cond_false rfl ?_ | refine T_inBlock ?_ | refine T_skip ?_ | refine TL_add (hk := ?_) | refine TL_gt_f (hk := ?_) | refine TL_nil ?_ | refine TL_move (hk := ?_) | refine TL_assign (hk := ?_) | refine TL_len TE (hk := ?_) | refine TL_no (hk := ?_) | refine TL_pick_f (hk := ?_) | refine TL_extract (hk := ?_))
            exact ih (i + 1, n, y, []) w2 _ (by simp only; omega) ⟨by simp only; omega, hn, by simp only; omega, m2, _, g1, f1, _, T2, hsm2.trans hsm1, C2, I2, K2, hEl3, hEf3, trivial⟩ (.c rfl (.c rfl (.c rfl (.c rfl (.c rfl (.c rfl (.c rfl (.n))))))))
          | cons q0 tk0 =>
            have hyl := K2.len
            rw [List.length_cons] at hyl
            have rdX := K2.sg.rd
            have hcp := K2.sg.cap
            have hv0 : (nzV (q0 :: tk0))[0]? = some (.int .i64 (q0 : Int)) := rfl
            have hAy : y.1 ≠ none := by obtain ⟨_, _, hq, _⟩ := rdX.2 (by omega); rw [hq]; simp
            obtain ⟨hq0, hq4⟩ := I2.t4 q0 (by simp)
            have hEl1 := T2.I.en
            obtain ⟨d0, dst⟩ := done_st T2.R (by omega) hq0 hq4
            obtain ⟨Rd', ftd⟩ := done_sr T2.R (by omega) (q0 : Int)
            have Cd := done_sc C2 T2.R (by omega) (q0 : Int)
            have Kd := I2.done dst
            have cD := Done_c15 (q0 : Int) w2 T2.M T2.I
            rw [T2.hp] at cD
            have hd0 : (((doneE (takeS s).1 (q0 : Int)).2 : Nat) : Int) = 0 := by rw [d0]; rfl
            have dl : (doneE (takeS s).1 (q0 : Int)).1.E.length = (takeS s).1.E.length := by have := congrArg List.length ftd; rwa [List.length_map, List.length_map] at this
            repeat (first | refine T_seq ?_ | refine T_region ?_ | refine T_cond_true rfl ?_ | refine T_cond_false rfl ?_ | refine T_skip ?_ | refine TL_gt_t (hk := ?_) | refine TL_nil ?_ | refine TL_move (hk := ?_) | refine TL_assign (hk := ?_) | refine TL_load_rd TE (hk := ?_) | refine TL_indexAddr1n TE (hk := ?_) | refine TL_len TE (hk := ?_) | refine TL_no (hk := ?_) | refine TL_pick_f (hk := ?_) | refine TL_extract (hk := ?_))
            refine TL_call TE (hc := cD) (hk := ?_)
            rintro _ wD ⟨rfl, mD, gD, fD, hpD, MD, ID, tD, hsmD⟩
            rw [hd0]
            have TD := T2.turn (hpD.trans T2.hp.symm) MD tD ID Rd'
            have ND := K2.tn tD
            --
            refine TL_call TE (hc := num_c15 0 wD) (hk := ?_)
            rintro _ wE ⟨rfl, eE⟩
            repeat (first | refine T_region ?_ | refine T_cond_false rfl ?_ | refine T_inBlock ?_ | refine T_skip ?_ | refine TL_add (hk := ?_) | refine TL_ne_f (hk := ?_) | refine TL_nil ?_ | refine TL_move (hk := ?_) | refine TL_assign (hk := ?_) | refine TL_slice_lo TE (hk := ?_))
            exact ih (i + 1, n, (cutA y.1 y.2.2 1 1, y.2.1 - 1, y.2.2 - 1), tk0) wE _ (by simp only; omega) ⟨by simp only; omega, hn, by simp only; omega, mD, _, gD, fD, _, TD.ext eE, hsmD.trans (hsm2.trans hsm1), Cd, Kd, (ND.ext eE).tail, by rw [dl]; exact hEl3, by rw [ftd]; exact hEf3, trivial⟩ (.c rfl (.c rfl (.c rfl (.c rfl (.c rfl (.c rfl (.c rfl (.n))))))))
        · rw [hq] at cT
          have I2 := I1.take hql hq3 hqE
          repeat (first | refine T_seq ?_ | refine T_region ?_ | refine T_cond_false rfl ?_ | refine T_skip ?_ | refine TL_lt_f (hk := ?_) | refine TL_nil ?_ | refine TL_move (hk := ?_) | refine TL_pick_t (hk := ?_))
          refine TL_call TE (hc := cT) (hk := ?_)
          rintro _ w2 ⟨rfl, m2, hp2, M2, It2, t2, hsm2⟩
          have T2 := T1.turn (hp2.trans T1.hp.symm) M2 t2 It2 R2
          have K2 := K1.tn t2
          repeat (first | refine T_seq ?_ | refine T_region ?_ | refine T_cond_true rfl ?_ | refine TL_ne_t (hk := ?_) | refine TL_nil ?_ | refine TL_move (hk := ?_) | refine TL_assign (hk := ?_) | refine TL_yes (hk := ?_) | refine TL_pick_t (hk := ?_) | refine TL_extract (hk := ?_))
          refine TL_buildSlice TE (hk := ?_); intro b3 w3 e3 h3' h3'' k3
          replace k3 : Blk w3 b3 2 (nzV [q]) := k3
          have r3 : Rd w3 (some ⟨b3, 0, none⟩) 1 1 (nzV [q]) := Rd.blk k3 rfl
          have T3 := T2.ext e3
          have K3 := K2.ext e3
          have hcp3 := K3.sg.cap
          have hyl3 := K3.len
          have hwz := T3.e.size
          have htkl : tk.length ≤ 1000 := hTL
          --
          refine TL_append_g TE (ho := K3.sg) (hr := r3) (h1 := nzV_one _) (hk := ?_); intro A4 c4 w4 o4 m4 n4
          rw [← nzV_append] at o4
          obtain ⟨T4, K4⟩ := TkM.push T3 K3 q o4 m4 n4
          repeat (first | refine T_region ?_ | refine T_exit rfl ?_ | refine TL_add (hk := ?_) | refine TL_nil ?_ | refine TL_move (hk := ?_) | refine TL_assign (hk := ?_))
          exact ih (i + 1, n, (A4, y.2.1 + 1, c4), tk ++ [q]) w4 _ (by simp only; omega) ⟨by simp only; omega, hn, by simp only; omega, m2, _, g1, f1, _, T4, hsm2.trans hsm1, C2, I2 _ (List.perm_append_singleton q tk), K4, hEl3, hEf3, trivial⟩ (.c rfl (.c rfl (.c rfl (.c rfl (.c rfl (.c rfl (.c rfl (.n))))))))
  · clear ih
    have hnF : n = F := by omega
    subst hnF
    clear hF1 hP1 hFd hPd
    repeat (first | refine T_seq ?_ | refine T_region ?_ | refine T_cond_false rfl ?_ | refine T_block ?_ | refine T_exit rfl ?_ | refine TL_add (hk := ?_) | refine TL_mul (hk := ?_) | refine TL_lt_f (hk := ?_) | refine TL_nil ?_ | refine TL_move (hk := ?_) | refine TL_assign (hk := ?_) | refine TL_len TE (hk := ?_))
    refine T_loop (ι := Nat × SL × List Nat) (fun j => [(22, .int .i64 (j.1 : Int)), (16, sL j.2.1), (12, pB p), (13, pB sm.sb), (2, .slice FA n fc)])
      (fun j w' => j.1 ≤ n + 1 ∧ EndP wd w' bs p n S0 sm FT j.2.1 j.2.2 (fun s => ∀ k, k < j.1 → k < s.E.length → stE s.E k = 5 ∨ stE s.E k = 6)) (fun j => n + 1 - j.1) (0, y, tk) (.c rfl (.c rfl (.c rfl (.c rfl (.c rfl (.n)))))) ⟨Nat.zero_le _, m1, h1, g1, f1, s, T1, hsm1, C1, I1, K1, hEl, hEf, fun k h => absurd h (by simp)⟩ ?_
    clear T1 C1 I1 K1 hEl hEf hsm1 hTL hyl1
    rintro ⟨i, y, tk⟩ w2 ⟨hi2, m2, h2, g2, f2, s2, T2, hsm2, C2, I2, K2, hEl2, hEf2, hQ2⟩ ih2
    simp only at hi2 ih2 I2 K2 hQ2 ⊢
    have hEn2 := T2.I.en
    by_cases hle : i ≤ n
    · have cT := Take_c15 w2 T2.M T2.I
      rw [T2.hp] at cT
      obtain ⟨R3, ftT⟩ := take_sr T2.R
      have C3 := take_sc C2
      have hEl3 : (takeS s2).1.E.length = n := by have := congrArg List.length ftT; rw [List.length_map, List.length_map] at this; omega
      have hEf3 : (takeS s2).1.E.map ftE = FT.take n := by rw [ftT]; exact hEf2
      have hfd := fun (hin : i < s2.E.length) => first_done T2.R hin (fun k hk => hQ2 k hk (by omega))
      rcases take_st s2 with ⟨hq, hs', hno⟩ | ⟨q, hq, hql, hq3, hqm, hqE⟩
      · rw [hq] at cT
        rw [hq] at hfd
        repeat (first | refine T_seq ?_ | refine T_region ?_ | refine T_cond_true rfl ?_ | refine T_block ?_ | refine T_skip ?_ | refine TL_le_t (hk := ?_) | refine TL_nil ?_ | refine TL_move (hk := ?_) | refine TL_len TE (hk := ?_))
        refine TL_call TE (hc := cT) (hk := ?_)
        rintro _ w3 ⟨rfl, m3, hp3, M3, It3, t3, hsm3⟩
        have T3 := T2.turn (hp3.trans T2.hp.symm) M3 t3 It3 R3
        have K3 := K2.tn t3
        have I3 : TkI (takeS s2).1 tk := by rw [hs']; exact I2
        have hQ3 : ∀ k, k < i → k < (takeS s2).1.E.length → stE (takeS s2).1.E k = 5 ∨ stE (takeS s2).1.E k = 6 := by rw [hs']; exact hQ2
        have hI3 : i < (takeS s2).1.E.length → (stE (takeS s2).1.E i = 5 ∨ stE (takeS s2).1.E i = 6) ∨ i ∈ tk.drop 0 := by
          rw [hs']
          intro hl
          rcases hfd hl with q | q | q
          · exact .inl q
          · exact .inr (I2.al i hl q)
          · cases q.2
        have hsm3' := hsm3.trans hsm2
        have hTKl := K3.len
        have hTK2 : tk.length ≤ 1000 := by
          have h1 : tk.length ≤ (List.range (takeS s2).1.E.length).length := nodup_le I3.nd (fun q hq => List.mem_range.2 (I3.t4 q hq).1)
          rw [List.length_range, hEl3] at h1
          omega
        repeat (first | refine T_seq ?_ | refine T_region ?_ | refine T_cond_false rfl ?_ | refine T_block ?_ | refine T_skip ?_ | refine TL_nil ?_ | refine TL_move (hk := ?_) | refine TL_assign (hk := ?_) | refine TL_extract (hk := ?_))
        refine T_loop (ι := Nat) (fun j => [(25, .int .i64 (j : Int)), (22, .int .i64 (i : Int)), (16, sL y), (12, pB p), (13, pB sm.sb), (2, .slice FA n fc)])
          (fun j w' => j ≤ tk.length ∧ ∃ m h g f s', TS5 wd w' bs p n m h g f s' ∧ m.sm = sm ∧ SC S0 s' ∧ TkI s' (tk.drop j) ∧ TkM wd w' (oA h g f) y tk ∧ s'.E.length = n ∧ s'.E.map ftE = FT.take n ∧ (∀ k, k < i → k < s'.E.length → stE s'.E k = 5 ∨ stE s'.E k = 6) ∧ (i < s'.E.length → (stE s'.E i = 5 ∨ stE s'.E i = 6) ∨ i ∈ tk.drop j)) (fun j => tk.length - j) 0 (.c rfl (.c rfl (.c rfl (.c rfl (.c rfl (.c rfl (.n))))))) ⟨Nat.zero_le _, _, _, _, _, _, T3, hsm3', C3, I3, K3, hEl3, hEf3, hQ3, hI3⟩ ?_
        rintro j w7 ⟨hj, m7, h7, g7, f7, s7, T7, hsm7, C7, I7, K7, hEl7, hEf7, hQ7, hI7⟩ ih3
        by_cases hjl : j < tk.length
        · have rd7 := K7.sg.rd
          have hAy7 : y.1 ≠ none := by obtain ⟨_, _, hq, _⟩ := rd7.2 (by omega); rw [hq]; simp
          have hv7 := nzV_at tk j hjl
          have hdr : tk.drop j = tk.getD j 0 :: tk.drop (j + 1) := by
            rw [List.drop_eq_getElem_cons hjl, List.getD_eq_getElem?_getD, List.getElem?_eq_getElem hjl]
            rfl
          obtain ⟨q0, hq0⟩ : ∃ q0, tk.getD j 0 = q0 := ⟨_, rfl⟩
          rw [hq0] at hv7 hdr
          rw [hdr] at I7 hI7
          obtain ⟨hq1, hq4⟩ := I7.t4 q0 (by simp)
          obtain ⟨d0, dst⟩ := done_st T7.R (by omega) hq1 hq4
          obtain ⟨Rd', ftd⟩ := done_sr T7.R (by omega) (q0 : Int)
          have Cd := done_sc C7 T7.R (by omega) (q0 : Int)
          have Kd := I7.done dst
          have cD := Done_c15 (q0 : Int) w7 T7.M T7.I
          rw [T7.hp] at cD
          have dl : (doneE s7 (q0 : Int)).1.E.length = s7.E.length := by have := congrArg List.length ftd; rwa [List.length_map, List.length_map] at this
          have k56 : ∀ k, k < s7.E.length → (stE s7.E k = 5 ∨ stE s7.E k = 6) ∨ k = q0 → stE (doneE s7 (q0 : Int)).1.E k = 5 ∨ stE (doneE s7 (q0 : Int)).1.E k = 6 := fun k hk hh => step_56 dst (by rw [setSt_len]; exact hk) (by
            rw [st_set hq1]
            by_cases e : k = q0
            · rw [if_pos e]; exact .inl rfl
            · rw [if_neg e]; exact hh.resolve_right e)
          repeat (first | refine T_seq ?_ | refine T_region ?_ | refine T_cond_true rfl ?_ | refine T_block ?_ | refine T_skip ?_ | refine TL_lt_t (hk := ?_) | refine TL_nil ?_ | refine TL_move (hk := ?_) | refine TL_load_rd TE (hk := ?_) | refine TL_indexAddr1n TE (hk := ?_) | refine TL_len TE (hk := ?_))
          refine TL_call TE (hc := cD) (hk := ?_)
          rintro _ wD ⟨rfl, mD, gD, fD, hpD, MD, ID, tD, hsmD⟩
          have TD := T7.turn (hpD.trans T7.hp.symm) MD tD ID Rd'
          have ND := K7.tn tD
          repeat (first | refine T_region ?_ | refine T_inBlock ?_ | refine TL_add (hk := ?_) | refine TL_nil ?_ | refine TL_move (hk := ?_) | refine TL_assign (hk := ?_))
          exact ih3 (j + 1) wD _ (by omega) ⟨by omega, mD, _, gD, fD, _, TD, hsmD.trans hsm7, Cd, Kd, ND, by rw [dl]; exact hEl7, by rw [ftd]; exact hEf7, fun k hk hl => k56 k (by omega) (.inl (hQ7 k hk (by omega))), fun hl => by
            rcases hI7 (by omega) with q | q
            · exact .inl (k56 i (by omega) (.inl q))
            · rcases List.mem_cons.1 q with e | e
              · exact .inl (k56 i (by omega) (.inr e))
              · exact .inr e⟩ (.c rfl (.c rfl (.c rfl (.c rfl (.c rfl (.c rfl (.n)))))))
        · clear ih3
          have hdn : tk.drop j = [] := List.drop_eq_nil_of_le (by omega)
          rw [hdn] at I7 hI7
          repeat (first | refine T_seq ?_ | refine T_region ?_ | refine T_cond_false rfl ?_ | refine T_inBlock ?_ | refine T_exit rfl ?_ | refine TL_add (hk := ?_) | refine TL_lt_f (hk := ?_) | refine TL_nil ?_ | refine TL_move (hk := ?_) | refine TL_assign (hk := ?_) | refine TL_len TE (hk := ?_))
          exact ih2 (i + 1, (none, 0, 0), []) w7 _ (by simp only; omega) ⟨by simp only; omega, m7, h7, g7, f7, s7, T7, hsm7, C7, I7, ⟨Seg.nil _ _ _ _, fun b q => by cases q⟩, hEl7, hEf7, fun k hk hl => by
            by_cases e : k = i
            · rw [e]; exact (hI7 (by omega)).resolve_right (by simp)
            · exact hQ7 k (by simp only at hk; omega) hl⟩ (.c rfl (.c rfl (.c rfl (.c rfl (.c rfl (.n))))))
      · rw [hq] at cT
        rw [hq] at hfd
        have I3' := I2.take hql hq3 hqE
        have hlE : (takeS s2).1.E.length = s2.E.length := by rw [hqE, setSt_len]
        have hTL2 : tk.length ≤ 1000 := by
          have h1 : tk.length ≤ (List.range s2.E.length).length := nodup_le I2.nd (fun q hq => List.mem_range.2 (I2.t4 q hq).1)
          rw [List.length_range] at h1
          omega
        repeat (first | refine T_seq ?_ | refine T_region ?_ | refine T_cond_true rfl ?_ | refine T_block ?_ | refine T_skip ?_ | refine TL_le_t (hk := ?_) | refine TL_nil ?_ | refine TL_move (hk := ?_) | refine TL_len TE (hk := ?_))
        refine TL_call TE (hc := cT) (hk := ?_)
        rintro _ w3 ⟨rfl, m3, hp3, M3, It3, t3, hsm3⟩
        have T3a := T2.turn (hp3.trans T2.hp.symm) M3 t3 It3 R3
        have K3a := K2.tn t3
        repeat (first | refine T_seq ?_ | refine T_region ?_ | refine T_cond_true rfl ?_ | refine TL_nil ?_ | refine TL_move (hk := ?_) | refine TL_assign (hk := ?_) | refine TL_extract (hk := ?_))
        refine TL_buildSlice TE (hk := ?_); intro b4 w4 e4 h4' h4'' k4
        replace k4 : Blk w4 b4 2 (nzV [q]) := k4
        have r4 : Rd w4 (some ⟨b4, 0, none⟩) 1 1 (nzV [q]) := Rd.blk k4 rfl
        have T4 := T3a.ext e4
        have K4 := K3a.ext e4
        have hcp4 := K4.sg.cap
        have hyl4 := K4.len
        have hwz4 := T4.e.size
        --
        refine TL_append_g TE (ho := K4.sg) (hr := r4) (h1 := nzV_one _) (hk := ?_); intro A5 c5 w5 o5 m5 n5
        rw [← nzV_append] at o5
        obtain ⟨T5, K5⟩ := TkM.push T4 K4 q o5 m5 n5
        have I5 := I3' (tk ++ [q]) (List.perm_append_singleton q tk)
        have hQ5 : ∀ k, k < i → k < (takeS s2).1.E.length → stE (takeS s2).1.E k = 5 ∨ stE (takeS s2).1.E k = 6 := fun k hk hl => by
          rw [hqE, st_set hql]
          have := hQ2 k hk (by omega)
          rw [if_neg (by intro e; rw [e] at this; omega)]
          exact this
        have hI5 : i < (takeS s2).1.E.length → (stE (takeS s2).1.E i = 5 ∨ stE (takeS s2).1.E i = 6) ∨ i ∈ (tk ++ [q]).drop 0 := fun hl => by
          rcases hfd (by omega) with z | z | z
          · left
            rw [hqE, st_set hql, if_neg (by intro e; rw [e] at z; omega)]
            exact z
          · right
            exact List.mem_append_left _ (I2.al i (by omega) z)
          · right
            have : q = i := Option.some.inj z.2
            rw [this]; simp
        have hsm5 := hsm3.trans hsm2
        have hTKl := K5.len
        have hTK2 : (tk ++ [q]).length ≤ 1000 := by
          have h1 : (tk ++ [q]).length ≤ (List.range (takeS s2).1.E.length).length := nodup_le I5.nd (fun q hq => List.mem_range.2 (I5.t4 q hq).1)
          rw [List.length_range, hEl3] at h1
          omega
        repeat (first | refine T_seq ?_ | refine T_region ?_ | refine T_block ?_ | refine TL_nil ?_ | refine TL_assign (hk := ?_))
        refine T_loop (ι := Nat) (fun j => [(25, .int .i64 (j : Int)), (22, .int .i64 (i : Int)), (16, sL (A5, y.2.1 + 1, c5)), (12, pB p), (13, pB sm.sb), (2, .slice FA n fc)])
          (fun j w' => j ≤ (tk ++ [q]).length ∧ ∃ m h g f s', TS5 wd w' bs p n m h g f s' ∧ m.sm = sm ∧ SC S0 s' ∧ TkI s' ((tk ++ [q]).drop j) ∧ TkM wd w' (oA h g f) (A5, y.2.1 + 1, c5) (tk ++ [q]) ∧ s'.E.length = n ∧ s'.E.map ftE = FT.take n ∧ (∀ k, k < i → k < s'.E.length → stE s'.E k = 5 ∨ stE s'.E k = 6) ∧ (i < s'.E.length → (stE s'.E i = 5 ∨ stE s'.E i = 6) ∨ i ∈ (tk ++ [q]).drop j)) (fun j => (tk ++ [q]).length - j) 0 (.c rfl (.c rfl (.c rfl (.c rfl (.c rfl (.c rfl (.n))))))) ⟨Nat.zero_le _, _, _, _, _, _, T5, hsm5, C3, I5, K5, hEl3, hEf3, hQ5, hI5⟩ ?_
        rintro j w7 ⟨hj, m7, h7, g7, f7, s7, T7, hsm7, C7, I7, K7, hEl7, hEf7, hQ7, hI7⟩ ih3
        by_cases hjl : j < (tk ++ [q]).length
        · have rd7 := K7.sg.rd
          have hAy7 : (A5, y.2.1 + 1, c5).1 ≠ none := by obtain ⟨_, _, hq, _⟩ := rd7.2 (by omega); rw [hq]; simp
          have hv7 := nzV_at (tk ++ [q]) j hjl
          have hdr : (tk ++ [q]).drop j = (tk ++ [q]).getD j 0 :: (tk ++ [q]).drop (j + 1) := by
            rw [List.drop_eq_getElem_cons hjl, List.getD_eq_getElem?_getD, List.getElem?_eq_getElem hjl]
            rfl
          obtain ⟨q0, hq0⟩ : ∃ q0, (tk ++ [q]).getD j 0 = q0 := ⟨_, rfl⟩
          rw [hq0] at hv7 hdr
          rw [hdr] at I7 hI7
          obtain ⟨hq1, hq4⟩ := I7.t4 q0 (by simp)
          obtain ⟨d0, dst⟩ := done_st T7.R (by omega) hq1 hq4
          obtain ⟨Rd', ftd⟩ := done_sr T7.R (by omega) (q0 : Int)
          have Cd := done_sc C7 T7.R (by omega) (q0 : Int)
          have Kd := I7.done dst
          have cD := Done_c15 (q0 : Int) w7 T7.M T7.I
          rw [T7.hp] at cD
          have dl : (doneE s7 (q0 : Int)).1.E.length = s7.E.length := by have := congrArg List.length ftd; rwa [List.length_map, List.length_map] at this
          have k56 : ∀ k, k < s7.E.length → (stE s7.E k = 5 ∨ stE s7.E k = 6) ∨ k = q0 → stE (doneE s7 (q0 : Int)).1.E k = 5 ∨ stE (doneE s7 (q0 : Int)).1.E k = 6 := fun k hk hh => step_56 dst (by rw [setSt_len]; exact hk) (by
            rw [st_set hq1]
            by_cases e : k = q0
            · rw [if_pos e]; exact .inl rfl
            · rw [if_neg e]; exact hh.resolve_right e)
          repeat (first | refine T_seq ?_ | refine T_region ?_ | refine T_cond_true rfl ?_ | refine T_block ?_ | refine T_skip ?_ | refine TL_lt_t (hk := ?_) | refine TL_nil ?_ | refine TL_move (hk := ?_) | refine TL_load_rd TE (hk := ?_) | refine TL_indexAddr1n TE (hk := ?_) | refine TL_len TE (hk := ?_))
          refine TL_call TE (hc := cD) (hk := ?_)
          rintro _ wD ⟨rfl, mD, gD, fD, hpD, MD, ID, tD, hsmD⟩
          have TD := T7.turn (hpD.trans T7.hp.symm) MD tD ID Rd'
          have ND := K7.tn tD
          repeat (first | refine T_region ?_ | refine T_inBlock ?_ | refine TL_add (hk := ?_) | refine TL_nil ?_ | refine TL_move (hk := ?_) | refine TL_assign (hk := ?_))
          exact ih3 (j + 1) wD _ (by omega) ⟨by omega, mD, _, gD, fD, _, TD, hsmD.trans hsm7, Cd, Kd, ND, by rw [dl]; exact hEl7, by rw [ftd]; exact hEf7, fun k hk hl => k56 k (by omega) (.inl (hQ7 k hk (by omega))), fun hl => by
            rcases hI7 (by omega) with q | q
            · exact .inl (k56 i (by omega) (.inl q))
            · rcases List.mem_cons.1 q with e | e
              · exact .inl (k56 i (by omega) (.inr e))
              · exact .inr e⟩ (.c rfl (.c rfl (.c rfl (.c rfl (.c rfl (.c rfl (.n)))))))
        · clear ih3
          have hdn : (tk ++ [q]).drop j = [] := List.drop_eq_nil_of_le (by omega)
          rw [hdn] at I7 hI7
          repeat (first | refine T_seq ?_ | refine T_region ?_ | refine T_cond_false rfl ?_ | refine T_inBlock ?_ | refine T_exit rfl ?_ | refine TL_add (hk := ?_) | refine TL_lt_f (hk := ?_) | refine TL_nil ?_ | refine TL_move (hk := ?_) | refine TL_assign (hk := ?_) | refine TL_len TE (hk := ?_))
          exact ih2 (i + 1, (none, 0, 0), []) w7 _ (by simp only; omega) ⟨by simp only; omega, m7, h7, g7, f7, s7, T7, hsm7, C7, I7, ⟨Seg.nil _ _ _ _, fun b q => by cases q⟩, hEl7, hEf7, fun k hk hl => by
            by_cases e : k = i
            · rw [e]; exact (hI7 (by omega)).resolve_right (by simp)
            · exact hQ7 k (by simp only at hk; omega) hl⟩ (.c rfl (.c rfl (.c rfl (.c rfl (.c rfl (.n))))))
    · clear ih2
      have hall : ∀ k, k < s2.E.length → stE s2.E k = 5 ∨ stE s2.E k = 6 := fun k hk => hQ2 k (by omega) hk
      obtain ⟨hS, hSt⟩ := C2.end_ T2.R hall
      have hwr : wrs s2.E = fs.map fun x => x.k := by
        have h1 : wrs s2.E = (s2.E.map ftE).map Prod.snd := by simp [wrs, ftE, List.map_map, Function.comp_def]
        rw [h1, hEf2, List.take_of_length_le (by omega), ← hFT]
        simp [List.map_map, Function.comp_def]
      rw [hwr] at hS hSt
      have hnb2 := T2.I.nb
      have cS := fun (q : Int) w' (e : Ext w2 w') => State_c15 q w' (T2.M.ext e) T2.I
      rw [T2.hp] at cS
      repeat (first | refine T_seq ?_ | refine T_region ?_ | refine T_cond_false rfl ?_ | refine T_block ?_ | refine T_exit rfl ?_ | refine TL_le_f (hk := ?_) | refine TL_nil ?_ | refine TL_move (hk := ?_) | refine TL_assign (hk := ?_) | refine TL_len TE (hk := ?_))
      refine T_loop (ι := Nat × SL) (fun j => [(27, .int .i64 (j.1 : Int)), (26, sL j.2), (12, pB p), (13, pB sm.sb), (2, .slice FA n fc)])
        (fun j w' => j.1 ≤ n ∧ Ext w2 w' ∧ Own w' w2.heap.size 3 1 j.2.1 j.2.2.1 j.2.2.2 (nzV ((List.range j.1).map fun i => stE s2.E i))) (fun j => n - j.1) (0, (none, 0, 0)) (.c rfl (.c rfl (.c rfl (.c rfl (.c rfl (.n)))))) ⟨Nat.zero_le _, Mod.refl _ _, Own.nil _ _ _ _⟩ ?_
      rintro ⟨j, x⟩ w3 ⟨hj, e3, o3⟩ ih3
      simp only at hj o3 ih3 ⊢
      have hxl : x.2.1 = j := by have := o3.len; rw [nzV_len, List.length_map, List.length_range] at this; omega
      have z3 := e3.size
      by_cases hjn : j < n
      · have cj := cS (j : Int) w3 e3
        rw [stS_at (by omega : j < s2.E.length)] at cj
        repeat (first | refine T_seq ?_ | refine T_region ?_ | refine T_cond_true rfl ?_ | refine T_block ?_ | refine T_skip ?_ | refine TL_lt_t (hk := ?_) | refine TL_nil ?_ | refine TL_move (hk := ?_) | refine TL_len TE (hk := ?_))
        refine TL_call TE (hc := cj) (hk := ?_)
        rintro _ w4 ⟨rfl, e4⟩
        have o4 := o3.be e4
        have z4 := e4.size
        --
        refine TL_buildSlice TE (hk := ?_); intro b5 w5 e5 h5' h5'' k5
        replace k5 : Blk w5 b5 3 (nzV [stE s2.E j]) := k5
        have r5 : Rd w5 (some ⟨b5, 0, none⟩) 1 1 (nzV [stE s2.E j]) := Rd.blk k5 rfl
        have o5 := o4.be e5
        have z5 := e5.size
        --
        refine TL_append TE (ho := o5) (hr := r5) (h1 := nzV_one _) (hk := ?_); intro A6 c6 w6 o6 m6 n6
        rw [← nzV_append] at o6
        repeat (first | refine T_region ?_ | refine T_inBlock ?_ | refine TL_add (hk := ?_) | refine TL_nil ?_ | refine TL_move (hk := ?_) | refine TL_assign (hk := ?_))
        exact ih3 (j + 1, A6, x.2.1 + 1, c6) w6 _ (by simp only; omega) ⟨by simp only; omega, ((e3.ext e4).ext e5).own m6 o5.hi, by simp only; rw [List.range_succ, List.map_append]; exact o6⟩ (.c rfl (.c rfl (.c rfl (.c rfl (.c rfl (.n))))))
      · clear ih3
        have hjn2 : j = n := by omega
        subst hjn2
        have hL : (List.range j).map (fun i => stE s2.E i) = endL S0 (fs.map fun x => x.k) := by
          unfold endL
          rw [List.length_map, hfl]
          apply List.map_congr_left
          intro q hq
          exact hSt q (by rw [hEl2]; exact List.mem_range.1 hq)
        rw [hL] at o3
        have T3 := T2.ext e3
        have c1 := T3.I.c1
        have hku : (allU s2.S s2.S.C.length).length ≤ 10000000000 := by
          have h1 := allU_len T3.I.cl s2.S.C.length
          have hnl := T3.I.nl
          have h2 : 50000 + 50000 * s2.nxt ≤ 50050000 := by omega
          have h3 := Nat.mul_le_mul c1.2 h2
          exact Nat.le_trans h1 (Nat.le_trans h3 (by decide))
        have cK := Keys_c15 w3 T3.M.st hku c1.2
        rw [hsm2, hS] at cK
        repeat (first | refine T_seq ?_ | refine T_region ?_ | refine T_cond_false rfl ?_ | refine T_exit rfl ?_ | refine TL_lt_f (hk := ?_) | refine TL_nil ?_ | refine TL_move (hk := ?_) | refine TL_len TE (hk := ?_))
        refine TL_call TE (hc := cK) (hk := ?_)
        rintro _ w4 ⟨x4, rfl, e4, o4⟩
        have T4 := T3.ext e4
        have cL := Left_c15 w4 T4.M T4.I
        have hz : (withS s2.E [1, 2, 3, 4]).length = 0 := by
          have : withS s2.E [1, 2, 3, 4] = [] := by
            unfold withS
            rw [List.filter_eq_nil_iff]
            intro q hq
            have h1 := hall q (List.mem_range.1 hq)
            unfold stE at h1
            simp only [decide_eq_true_eq, List.mem_cons, List.not_mem_nil, or_false]
            omega
          rw [this]; rfl
        rw [T4.hp, hz] at cL
        repeat (refine TL_move (hk := ?_))
        refine TL_call TE (hc := cL) (hk := ?_)
        rintro _ w5 ⟨rfl, e5⟩
        repeat (first | refine TL_eq_t (hk := ?_) | refine TL_nil ?_ | refine TL_assign (hk := ?_))
        have hx4 : x4.2.1 ≤ 70368744177000 := by
          have h1 := o4.len
          rw [sv_length, ← hS] at h1
          unfold keysS at h1
          rw [(List.mergeSort_perm _ _).length_eq] at h1
          omega
        exact T_ret3 rfl rfl rfl rfl ⟨x, x4, rfl, (Ed.ext T4.e).ext e5, (o3.be (e4.ext e5)).rd, (o4.be e5).rd, hx4⟩
end Go.Proofs.YtgdbckjkeofoaaaGreat

namespace Go.Proofs.YtgdbckjkeofoaaaGreat
open Go.RowKit Go.Proofs.Eng Go.Proofs.Foot
set_option linter.unusedSimpArgs false
set_option linter.unusedVariables false set_option maxRecDepth 10000
attribute [local irreducible] T TL LV TH TA
set_option maxHeartbeats 3200000
theorem both2_c (A B : Option Addr) (n m c d : Nat) (l k : List Tx) (w : World) (h : Rd w A n 1 (sv l)) (g : Rd w B m 1 (sv k)) (hn : n ≤ 1100000) (hm : m ≤ 1100000) :
    Ret Tryz.prog 40 [.slice A n c, .slice B m d] w (fun v w' => ∃ A' c', v = .slice A' (n + m) c' ∧ Ext w w' ∧ Own w' w.heap.size 9 1 A' (n + m) c' (sv (l ++ k))) := by
  have svl := sv_one l
  have svk := sv_one k
  refine ret_T (n := 10) Tryz.func40 rfl rfl ?_
  repeat (first | refine T_seq ?_ | refine T_region ?_ | refine TL_nil ?_ | refine TL_assign (hk := ?_))
  refine TL_buildSlice TE (hk := ?_); intro b1 w1 e1 h1 h2 k1
  have o1 : Own w1 w.heap.size 9 1 (some ⟨b1, 0, none⟩) 0 0 [] := Own.of_blk k1 h1 rfl (by decide)
  have s1 := e1.size
  repeat (refine TL_move (hk := ?_))
  refine TL_append TE (hk := ?_); intro A2 c2 w2 o2 m2 n2
  have e2 : Ext w w2 := e1.own m2 o1.hi
  have s2 := m2.size
  have g2 := g.be e2
  repeat (refine TL_move (hk := ?_))
  refine TL_append TE (hk := ?_); intro A4 c4 w4 o4 m4 n4
  repeat (first | refine TL_nil ?_ | refine TL_assign (hk := ?_))
  refine T_ret1 rfl rfl ⟨A4, c4, by simp, e2.own m4 o2.hi, ?_⟩
  rw [sv_append]
  simpa using o4
theorem Set2_c (A : Option Addr) (n c : Nat) (l : List Tx) (w : World) (h : Rd w A n 1 (sv l)) (hn : n ≤ 2200000) :
    Ret Tryz.prog 27 [.slice A n c] w (fun v w' => ∃ A' c', v = .slice A' (setT l).length c' ∧ Ext w w' ∧ Own w' w.heap.size 9 1 A' (setT l).length c' (sv (setT l))) := by
  have hl : l.length = n := by simpa using h.1
  refine ret_T (n := 63) Tryz.func27 rfl rfl ?_
  repeat (first | refine T_seq ?_ | refine T_region ?_ | refine T_block ?_ | refine TL_nil ?_ | refine TL_assign (hk := ?_))
  refine T_loop (ι := Nat × Option Addr × Nat × Nat × List Tx) (fun i => [(4, .int .i64 (i.1 : Int)), (3, .slice i.2.1 i.2.2.2.1 i.2.2.1), (0, .slice A n c)])
    (fun i w' => Ext w w' ∧ i.1 ≤ n ∧ i.2.2.2.2 = setT (l.take i.1) ∧ i.2.2.2.1 = i.2.2.2.2.length ∧ i.2.2.2.1 ≤ i.1 ∧ Own w' w.heap.size 9 1 i.2.1 i.2.2.2.1 i.2.2.1 (sv i.2.2.2.2)) (fun i => n - i.1) (0, none, 0, 0, []) (.c rfl (.c rfl (.c rfl (.n)))) ⟨Mod.refl _ _, Nat.zero_le _, by simp [setT], rfl, Nat.le_refl _, Own.nil _ _ _ _⟩ ?_
  rintro ⟨i, B, cb, m, o⟩ w1 ⟨e1, hi, ho, hm, hmi, own⟩ ih
  simp only at hi ho hm hmi own ⊢
  have h1 := h.be e1
  by_cases hlt : i < n
  · have hst := setT_take l i (by omega)
    rw [← ho] at hst
    obtain ⟨x, hx⟩ : ∃ x, l.getD i [] = x := ⟨_, rfl⟩
    rw [hx] at hst
    repeat (first | refine T_seq ?_ | refine T_region ?_ | refine T_cond_true rfl ?_ | refine T_block ?_ | refine T_skip ?_ | refine TL_lt_t (hk := ?_) | refine TL_nil ?_ | refine TL_move (hk := ?_) | refine TL_assign (hk := ?_) | refine TL_len TE (hk := ?_))
    refine T_loop (ι := Nat) (fun k => [(5, .int .i64 (k : Int)), (4, .int .i64 (i : Int)), (3, .slice B m cb), (0, .slice A n c)])
      (fun k w' => Ext w1 w' ∧ k ≤ m ∧ ∀ j, j < k → o.getD j [] < x) (fun k => m - k) 0 (.c rfl (.c rfl (.c rfl (.c rfl (.n))))) ⟨Mod.refl _ _, Nat.zero_le _, fun j h => absurd h (by omega)⟩ ?_
    rintro k w2 ⟨e2, hk, hu⟩ ih2
    have own2 := own.be e2
    have h2 := h1.be e2
    have hlo : o.length = m := hm.symm
    by_cases hkm : k < m
    · by_cases hs : o.getD k [] < x
      · have hs' : o.getD k [] < l.getD i [] := by rw [hx]; exact hs
        repeat (first | refine T_seq ?_ | refine T_region_q TE.mixed (by kernel_rfl) ?_ | refine TL_lt_t (hk := ?_) | refine TL_slt_t (hk := ?_) | refine TL_move (hk := ?_) | refine TL_indexAddr1n TE (hk := ?_) | refine TL_len TE (hk := ?_) | refine TL_yes (hk := ?_) | refine TL_pick_t (hk := ?_) | refine TL_load_s TE (hk := ?_))
        refine TL_nil_q ?_; intro w3 e3
        repeat (first | refine T_region ?_ | refine T_cond_true rfl ?_ | refine T_block ?_ | refine T_inBlock ?_ | refine T_skip ?_ | refine TL_add (hk := ?_) | refine TL_nil ?_ | refine TL_move (hk := ?_) | refine TL_assign (hk := ?_))
        exact ih2 (k + 1) _ _ (by omega) ⟨e2.ext e3, by omega, fun j hj => by
          by_cases q : j = k
          · rw [q]; exact hs
          · exact hu j (by omega)⟩ (.c rfl (.c rfl (.c rfl (.c rfl (.n)))))
      · have hs' : ¬ o.getD k [] < l.getD i [] := by rw [hx]; exact hs
        have hat := ins_at x o k hu (by omega) (fun _ => hs)
        repeat (first | refine T_seq ?_ | refine T_region_q TE.mixed (by kernel_rfl) ?_ | refine TL_lt_t (hk := ?_) | refine TL_slt_f (hk := ?_) | refine TL_move (hk := ?_) | refine TL_indexAddr1n TE (hk := ?_) | refine TL_len TE (hk := ?_) | refine TL_yes (hk := ?_) | refine TL_pick_t (hk := ?_) | refine TL_load_s TE (hk := ?_))
        refine TL_nil_q ?_; intro w3 e3
        have own3 := own2.be e3
        have h3 := h2.be e3
        clear own2 h2
        by_cases he : o.getD k [] = x
        · have he' : ofL (o.getD k []) = ofL (l.getD i []) := by rw [hx, he]
          rw [if_pos ⟨by omega, he⟩] at hat
          repeat (first | refine T_seq ?_ | refine T_region_q TE.mixed (by kernel_rfl) ?_ | refine T_cond_false rfl ?_ | refine T_exit rfl ?_ | refine TL_lt_t (hk := ?_) | refine TL_seq_t (hk := ?_) | refine TL_move (hk := ?_) | refine TL_indexAddr1n TE (hk := ?_) | refine TL_len TE (hk := ?_) | refine TL_yes (hk := ?_) | refine TL_pick_t (hk := ?_) | refine TL_load_s TE (hk := ?_))
          refine TL_nil_q ?_; intro w4 e4
          repeat (first | refine T_region ?_ | refine T_cond_true rfl ?_ | refine T_exit rfl ?_ | refine TL_add (hk := ?_) | refine TL_nil ?_ | refine TL_move (hk := ?_) | refine TL_assign (hk := ?_))
          exact ih (i + 1, B, cb, m, o) _ _ (by simp only; omega) ⟨((e1.ext e2).ext e3).ext e4, by show i + 1 ≤ n; omega, by rw [hst, hat], hm, by show m ≤ i + 1; omega, own3.be e4⟩ (.c rfl (.c rfl (.c rfl (.n))))
        · have he' : ¬ ofL (o.getD k []) = ofL (l.getD i []) := fun q => he (by rw [← hx]; exact ofL_inj q)
          rw [if_neg (fun q => he q.2)] at hat
          repeat (first | refine T_seq ?_ | refine T_region_q TE.mixed (by kernel_rfl) ?_ | refine T_cond_false rfl ?_ | refine T_exit rfl ?_ | refine TL_lt_t (hk := ?_) | refine TL_seq_f (hk := ?_) | refine TL_move (hk := ?_) | refine TL_indexAddr1n TE (hk := ?_) | refine TL_len TE (hk := ?_) | refine TL_yes (hk := ?_) | refine TL_pick_t (hk := ?_) | refine TL_load_s TE (hk := ?_))
          refine TL_nil_q ?_; intro w4 e4
          have own4 := own3.be e4
          have h4 := h3.be e4
          have e05 : Ext w w4 := ((e1.ext e2).ext e3).ext e4

          repeat (first | refine T_seq ?_ | refine T_region ?_ | refine T_cond_false rfl ?_ | refine T_skip ?_ | refine TL_move (hk := ?_))
          refine TL_buildSlice TE (hk := ?_); intro b5 w5 e5 h5 h5' k5
          have own5 := own4.be e5
          have h5s := h4.be e5
          have e06 := e05.ext e5
          have s05 := e06.size
          have hlo0 : Lo A w.heap.size := h.lo (by omega)
          --
          refine TL_append TE (hk := ?_); intro A6 c6 w6 o6 m6 n6
          have s6 := m6.size
          have hi6 : Hi A6 w.heap.size := o6.hi
          have e46 : Ext w w6 := e06.own m6 own5.hi
          have h6 := h5s.bm m6 (Off.lohi hlo0 own5.hi)
          repeat (first | refine T_seq ?_ | refine TL_nil ?_ | refine TL_assign (hk := ?_))
          refine T_region_held TE.mixed (blkL A6) [(0, true), (1, true), (2, true), (3, true), (4, true), (5, true), (6, true), (7, false)] rfl (by kernel_rfl) rfl (by kernel_rfl) ?_; intro w7 e7 s7
          have o7 := o6.be e7
          have ek : Int.toNat ((k : Int) + 1) = k + 1 := by omega
          have ek0 : Int.toNat (k : Int) = k := by omega
          have hcap := o6.cap
          have hmx : m + 1 ≤ 2200001 := by omega
          have hone : ∀ u ∈ sv o ++ [Value.string ⟨#[]⟩], u.oneCell' = true := fun u hu => by
            rcases List.mem_append.1 hu with q | q
            · exact sv_one _ u q
            · simp only [List.mem_singleton] at q; subst q; rfl
          clear k5 own4 own5 h4 h5s own own3 h3
          repeat (first | refine TL_add (hk := ?_) | refine TL_move (hk := ?_) | refine TL_slice_lo TE (hk := ?_))
          refine TL_copy TE (ho := o7) (hr := (o7.rd.cut (l := k) (h := m + 1) (c := c6) (by omega) (Nat.le_refl _) hcap.1)) (h1 := fun u hu => hone u (List.mem_of_mem_drop (List.mem_of_mem_take hu))) (hf := rfl) (hq := fun w' h _ => h) (hk := ?_)
          intro w8 m8 s8 o8
          simp only [ek, ek0] at o8
          have es : sv o ++ [Value.string ⟨#[]⟩] = sv (o ++ [[]]) := by rw [sv_append]; rfl
          rw [es, Nat.mul_one, Nat.mul_one, sv_drop, sv_take, sv_drop, sv_take, sv_take, ← sv_append, ← sv_append] at o8
          have hgap := gap_at o k x (by omega)
          rw [hlo] at hgap
          rw [show min (m + 1 - k) (m + 1 - (k + 1)) = min (m + 1 - k) (m - k) by omega] at o8
          rw [List.take_take, Nat.min_eq_left (show min (m + 1 - k) (m - k) ≤ m + 1 - k by omega)] at o8
          refine TL_nil_h ?_
          have hi8 : Hi A6 w.heap.size := hi6
          have h7 := h6.be e7
          have h8 := h7.bm m8 (Off.lohi hlo0 hi6)
          clear o7 o6 hone h6 h7
          repeat (first | refine T_region ?_ | refine TL_move (hk := ?_) | refine TL_indexAddr1n TE (hk := ?_) | refine TL_load_s TE (hk := ?_))
          refine TL_store_own TE (hk := ?_); intro w9 m9 s9 o9
          repeat (first | refine T_region ?_ | refine T_inBlock ?_ | refine TL_add (hk := ?_) | refine TL_nil ?_ | refine TL_move (hk := ?_) | refine TL_assign (hk := ?_))
          rw [sv_set, hx, hgap] at o9
          refine ih (i + 1, A6, c6, m + 1, insT x o) _ _ (by simp only; omega) ⟨((e46.ext e7).own m8 hi6).own m9 hi6, by show i + 1 ≤ n; omega, hst.symm, ?_, by show m + 1 ≤ i + 1; omega, ?_⟩ (.c rfl (.c rfl (.c rfl (.n))))
          · rw [hat]; simp; omega
          · rw [hat]; exact o9
    · have hkeq : k = m := by omega
      have hat := ins_at x o k hu (by omega) (fun h => absurd h (by omega))
      rw [if_neg (fun q => absurd q.1 (by omega))] at hat
      repeat (first | refine T_seq ?_ | refine T_region_q TE.mixed (by kernel_rfl) ?_ | refine TL_lt_f (hk := ?_) | refine TL_move (hk := ?_) | refine TL_len TE (hk := ?_) | refine TL_no (hk := ?_) | refine TL_pick_f (hk := ?_))
      refine TL_nil_q ?_; intro w3 e3
      have own3 := own2.be e3
      have h3 := h2.be e3
      clear own2 h2
      repeat (first | refine T_seq ?_ | refine T_region_q TE.mixed (by kernel_rfl) ?_ | refine T_cond_false rfl ?_ | refine T_exit rfl ?_ | refine TL_lt_f (hk := ?_) | refine TL_move (hk := ?_) | refine TL_len TE (hk := ?_) | refine TL_no (hk := ?_) | refine TL_pick_f (hk := ?_))
      refine TL_nil_q ?_; intro w4 e4
      have own4 := own3.be e4
      have h4 := h3.be e4
      have e05 : Ext w w4 := ((e1.ext e2).ext e3).ext e4

      repeat (first | refine T_seq ?_ | refine T_region ?_ | refine T_cond_false rfl ?_ | refine T_skip ?_ | refine TL_move (hk := ?_))
      refine TL_buildSlice TE (hk := ?_); intro b5 w5 e5 h5 h5' k5
      have own5 := own4.be e5
      have h5s := h4.be e5
      have e06 := e05.ext e5
      have s05 := e06.size
      have hlo0 : Lo A w.heap.size := h.lo (by omega)
      --
      refine TL_append TE (hk := ?_); intro A6 c6 w6 o6 m6 n6
      have s6 := m6.size
      have hi6 : Hi A6 w.heap.size := o6.hi
      have e46 : Ext w w6 := e06.own m6 own5.hi
      have h6 := h5s.bm m6 (Off.lohi hlo0 own5.hi)
      repeat (first | refine T_seq ?_ | refine TL_nil ?_ | refine TL_assign (hk := ?_))
      refine T_region_held TE.mixed (blkL A6) [(0, true), (1, true), (2, true), (3, true), (4, true), (5, true), (6, true), (7, false)] rfl (by kernel_rfl) rfl (by kernel_rfl) ?_; intro w7 e7 s7
      have o7 := o6.be e7
      have ek : Int.toNat ((k : Int) + 1) = k + 1 := by omega
      have ek0 : Int.toNat (k : Int) = k := by omega
      have hcap := o6.cap
      have hmx : m + 1 ≤ 2200001 := by omega
      have hone : ∀ u ∈ sv o ++ [Value.string ⟨#[]⟩], u.oneCell' = true := fun u hu => by
        rcases List.mem_append.1 hu with q | q
        · exact sv_one _ u q
        · simp only [List.mem_singleton] at q; subst q; rfl
      clear k5 own4 own5 h4 h5s own own3 h3
      repeat (first | refine TL_add (hk := ?_) | refine TL_move (hk := ?_) | refine TL_slice_lo TE (hk := ?_))
      refine TL_copy TE (ho := o7) (hr := (o7.rd.cut (l := k) (h := m + 1) (c := c6) (by omega) (Nat.le_refl _) hcap.1)) (h1 := fun u hu => hone u (List.mem_of_mem_drop (List.mem_of_mem_take hu))) (hf := rfl) (hq := fun w' h _ => h) (hk := ?_)
      intro w8 m8 s8 o8
      simp only [ek, ek0] at o8
      have es : sv o ++ [Value.string ⟨#[]⟩] = sv (o ++ [[]]) := by rw [sv_append]; rfl
      rw [es, Nat.mul_one, Nat.mul_one, sv_drop, sv_take, sv_drop, sv_take, sv_take, ← sv_append, ← sv_append] at o8
      have hgap := gap_at o k x (by omega)
      rw [hlo] at hgap
      rw [show min (m + 1 - k) (m + 1 - (k + 1)) = min (m + 1 - k) (m - k) by omega] at o8
      rw [List.take_take, Nat.min_eq_left (show min (m + 1 - k) (m - k) ≤ m + 1 - k by omega)] at o8
      refine TL_nil_h ?_
      have hi8 : Hi A6 w.heap.size := hi6
      have h7 := h6.be e7
      have h8 := h7.bm m8 (Off.lohi hlo0 hi6)
      clear o7 o6 hone h6 h7
      repeat (first | refine T_region ?_ | refine TL_move (hk := ?_) | refine TL_indexAddr1n TE (hk := ?_) | refine TL_load_s TE (hk := ?_))
      refine TL_store_own TE (hk := ?_); intro w9 m9 s9 o9
      repeat (first | refine T_region ?_ | refine T_inBlock ?_ | refine TL_add (hk := ?_) | refine TL_nil ?_ | refine TL_move (hk := ?_) | refine TL_assign (hk := ?_))
      rw [sv_set, hx, hgap] at o9
      refine ih (i + 1, A6, c6, m + 1, insT x o) _ _ (by simp only; omega) ⟨((e46.ext e7).own m8 hi6).own m9 hi6, by show i + 1 ≤ n; omega, hst.symm, ?_, by show m + 1 ≤ i + 1; omega, ?_⟩ (.c rfl (.c rfl (.c rfl (.n))))
      · rw [hat]; simp; omega
      · rw [hat]; exact o9
  · have hin : i = n := by omega
    have hfin : o = setT l := by rw [ho, hin, ← hl, List.take_length]
    repeat (first | refine T_seq ?_ | refine T_region ?_ | refine T_cond_false rfl ?_ | refine T_exit rfl ?_ | refine TL_lt_f (hk := ?_) | refine TL_nil ?_ | refine TL_move (hk := ?_) | refine TL_assign (hk := ?_) | refine TL_len TE (hk := ?_))
    refine T_ret1 rfl rfl ⟨B, cb, by rw [hm, hfin], e1, ?_⟩
    rw [hm, hfin] at own
    exact own
theorem RNorm2_c (A B : Option Addr) (n c m d : Nat) (r k : List Tx) (w : World) (h : Rd w A n 1 (sv r)) (g : Rd w B m 1 (sv k)) (hn : n ≤ 1100000) (hm : m ≤ 1100000) (sr : Short r) (sk : Short k) :
    Ret Tryz.prog 16 [.agg #[.slice A n c, .slice B m d]] w (fun v w' => ∃ u, v = .tuple #[u, .int .i64 (normF r k).2] ∧ Ext w w' ∧ FootO w' w.heap.size 9 u (normF r k).1) := by
  have hr : r.length = n := by simpa using h.1
  have hk : k.length = m := by simpa using g.1
  have heq := norm_eq r k
  refine ret_T (n := 36) Tryz.func16 rfl rfl ?_
  repeat (first | refine T_seq ?_ | refine T_region ?_)
  refine TL_box (hk := ?_); intro b1 w1 e1 h1 h1' k1
  refine TL_alloc TE (hk := ?_); intro b2 w2 e2 h2 h2' k2
  have k12 := k1.be e2
  clear k1
  have e02 := e1.ext e2
  have s1 := e1.size
  have s2 := e2.size
  have hA := h.be e02
  have hB := g.be e02
  repeat (first | refine T_seq ?_ | refine T_region ?_ | refine TL_nil ?_ | refine TL_assign (hk := ?_) | refine TL_load TE (hk := ?_) | refine TL_fieldAddr TE (hk := ?_))
  refine TL_call TE (hc := both2_c A B n m c d r k _ hA hB (by omega) (by omega)) (hk := ?_)
  rintro _ w3 ⟨A3, c3, rfl, e3, o3⟩
  have s3 := e3.size
  have hrk : (r ++ k).length = n + m := by simp [hr, hk]
  have srk := short_append sr sk
  have k13 := k12.be e3
  have k23 := k2.be e3
  have hA3 := hA.be e3
  have hB3 := hB.be e3
  clear k12 k2 h g hA hB
  repeat (first | refine T_seq ?_ | refine T_region ?_ | refine T_block ?_ | refine TL_nil ?_ | refine TL_assign (hk := ?_))
  refine T_loop (ι := Nat) (fun i => [(5, .int .i64 (i : Int)), (4, .slice A3 (n + m) c3), (1, .pointer (some ⟨b1, 0, none⟩)), (2, .pointer (some ⟨b2, 0, none⟩))])
    (fun i w' => w' = w3 ∧ i ≤ n + m ∧ ∀ x, x < i → validT ((r ++ k).getD x []) = true) (fun i => n + m - i) 0 (.c rfl (.c rfl (.c rfl (.c rfl (.n))))) ⟨rfl, by omega, fun x h => by omega⟩ ?_
  rintro i w3 ⟨rfl, hi, hu⟩ ih
  have e03 := e02.ext e3
  by_cases hlt : i < n + m
  · repeat (first | refine T_seq ?_ | refine T_region ?_ | refine T_cond_true rfl ?_ | refine T_block ?_ | refine T_skip ?_ | refine TL_lt_t (hk := ?_) | refine TL_nil ?_ | refine TL_move (hk := ?_) | refine TL_indexAddr1n TE (hk := ?_) | refine TL_len TE (hk := ?_) | refine TL_load_s TE (hk := ?_))
    refine TL_call TE (hc := RValid_c ((r ++ k).getD i []) (srk i (by omega)) _) (hk := ?_)
    rintro _ _ ⟨rfl, rfl⟩
    by_cases hv : validT ((r ++ k).getD i []) = true
    · rw [hv]
      repeat (first | refine T_region ?_ | refine T_cond_false rfl ?_ | refine T_inBlock ?_ | refine T_skip ?_ | refine TL_add (hk := ?_) | refine TL_nil ?_ | refine TL_move (hk := ?_) | refine TL_assign (hk := ?_) | refine TL_not (hk := ?_))
      exact ih (i + 1) _ _ (by omega) ⟨rfl, by omega, fun x hx => by
        by_cases q : x = i
        · rw [q]; exact hv
        · exact hu x (by omega)⟩ (.c rfl (.c rfl (.c rfl (.c rfl (.n)))))
    · have hv' : validT ((r ++ k).getD i []) = false := by simpa using hv
      have hf := all_not (by omega) hv'
      rw [List.all_append] at hf
      rw [hf] at heq
      rw [hv']
      repeat (first | refine T_seq ?_ | refine T_region ?_ | refine T_cond_true rfl ?_ | refine TL_nil ?_ | refine TL_not (hk := ?_) | refine TL_build TE (hk := ?_))
      refine TL_storea TE (hk := ?_); intro w4 m4 s4 k4
      repeat (first | refine TL_nil ?_ | refine TL_assign (hk := ?_))
      refine T_retA2 TE (vs := [.slice none 0 0, .slice none 0 0]) (o := 0) rfl rfl rfl rfl rfl k4 rfl (Nat.succ_pos _) ⟨.agg #[.slice none 0 0, .slice none 0 0], ?_, Mod.step e03 m4 (by simp; omega), ?_⟩
      · rw [heq]; rfl
      · rw [heq]; exact FootO.nil _ _ _
  · have hin : i = (r ++ k).length := by omega
    have hall := all_upto (by rw [← hin]; exact hu)
    rw [List.all_append] at hall
    rw [hall, if_pos rfl] at heq
    clear ih hu
    have hsl := setT_len (r ++ k)
    repeat (first | refine T_seq ?_ | refine T_region ?_ | refine T_cond_false rfl ?_ | refine T_exit rfl ?_ | refine TL_lt_f (hk := ?_) | refine TL_nil ?_ | refine TL_move (hk := ?_) | refine TL_len TE (hk := ?_))
    refine TL_call TE (hc := Set2_c A3 (n + m) c3 (r ++ k) _ o3.rd (by omega)) (hk := ?_)
    rintro _ w4 ⟨A4, c4, rfl, e4, o4⟩
    have s4 := e4.size
    have k24 := k23.be e4
    have k14 := k13.be e4
    have hA4 := hA3.be e4
    have hB4 := hB3.be e4
    clear k23 k13 hA3 hB3 o3
    by_cases h64 : 64 < (setT (r ++ k)).length
    · rw [if_pos h64] at heq
      repeat (first | refine T_seq ?_ | refine T_region ?_ | refine T_cond_true rfl ?_ | refine TL_gt_t (hk := ?_) | refine TL_nil ?_ | refine TL_len TE (hk := ?_) | refine TL_build TE (hk := ?_))
      refine TL_storea TE (hk := ?_); intro w5 m5 s5 k5
      repeat (first | refine TL_nil ?_ | refine TL_assign (hk := ?_))
      refine T_retA2 TE (vs := [.slice none 0 0, .slice none 0 0]) (o := 0) rfl rfl rfl rfl rfl k5 rfl (Nat.succ_pos _) ⟨.agg #[.slice none 0 0, .slice none 0 0], ?_, Mod.step (e03.ext e4) m5 (by simp; omega), ?_⟩
      · rw [heq]
      · rw [heq]; exact FootO.nil _ _ _
    · rw [if_neg h64] at heq
      repeat (first | refine T_seq ?_ | refine T_cond_false rfl ?_ | refine T_skip ?_ | refine TL_gt_f (hk := ?_) | refine TL_nil ?_ | refine TL_len TE (hk := ?_))
      refine T_region_held TE.mixed [b2] [(0, true), (1, true), (3, true), (4, true), (2, false), (5, false), (6, true), (7, false), (8, true)] rfl (by kernel_rfl) rfl (by kernel_rfl) ?_; intro w5 e5 s5
      have hd5 : Eng.Mod [b2] w5 w5 := Mod.refl _ _
      have k15 := k14.be e5
      have k25 := k24.be e5
      have hA5 := hA4.be e5
      have hB5 := hB4.be e5
      clear k14 k24 hA4 hB4
      have hb12 : b1 ≠ b2 := by omega
      repeat (first | refine TLH_load TE (hk := ?_) | refine TL_fieldAddr TE (hk := ?_))
      refine TL_call TE (hc := Set2_c A n c r w5 hA5 (by omega)) (hq := fun v w' ⟨_, _, _, h, _⟩ => hd5.ext h) (hk := ?_)
      rintro _ w6 ⟨A6, c6, rfl, e6, o6⟩
      refine TL_call TE (hc := Set2_c B m d k w6 (hB5.be e6) (by omega)) (hq := fun v w' ⟨_, _, _, h, _⟩ => (hd5.ext e6).ext h) (hk := ?_)
      rintro _ w7 ⟨A7, c7, rfl, e7, o7⟩
      have s6 := e6.size
      have s7 := e7.size
      have k27 := (k25.be e6).be e7
      repeat (refine TL_build TE (hk := ?_))
      refine TL_storea TE (hf := rfl) (hq := fun w' h _ => ((hd5.ext e6).ext e7).trans h) (hk := ?_); intro w8 m8 s8 k8
      repeat (refine TL_assign (hk := ?_))
      refine TL_nil_h ?_
      --
      have a1 := (o6.be e7).mod m8 (Off.hi o6.hi (by omega))
      have a2 := o7.mod m8 (Off.hi o7.hi (by omega))
      refine T_retA2 TE (vs := [.slice A6 _ c6, .slice A7 _ c7]) (o := 0) rfl rfl rfl rfl rfl k8 rfl (Nat.succ_pos _) ⟨.agg #[.slice A6 (setT r).length c6, .slice A7 (setT k).length c7], ?_, Mod.step ((((e03.ext e4).ext e5).ext e6).ext e7) m8 (by simp; omega), ?_⟩
      · rw [heq]
      · rw [heq]; exact ⟨A6, _, c6, A7, _, c7, rfl, a1.weaken (by omega), a2.weaken (by omega), Off.hilo o7.hi o6.lo⟩
end Go.Proofs.YtgdbckjkeofoaaaGreat

namespace Go.Proofs.YtgdbckjkeofoaaaGreat
open Go.RowKit Go.Proofs.Eng Go.Proofs.Foot Go.Proofs.Locks Go.Proofs.Sched
set_option linter.unusedSimpArgs false
set_option linter.unusedVariables false set_option maxRecDepth 10000
attribute [local irreducible] T TL LV TH TA
set_option maxHeartbeats 6400000
structure FrOk0 (w : World) (x : FR) : Prop where
  ra : Rd w x.A x.n 1 (sv x.r)
  rb : Rd w x.B x.m 1 (sv x.k)
  nm : x.n ≤ 1048576 ∧ x.m ≤ 1048576
  sr : ∀ y, y ∈ x.r ∨ y ∈ x.k → y.length ≤ 1048576
theorem foot15_of {w : World} (x : List Value) (k : Nat) (hk : k ≤ 1048576) (h : FitB w tyFt x k) : 1 ≤ k ∧ ∃ a : FR, x = frV a ∧ FrOk0 w a := by
  obtain ⟨u1, v1, s1, t1, rfl, g1, g2, hA, u2, v2, s2, t2, rfl, g3, g4, hB, hz2⟩ := h
  have hz2 : v2 = [] := hz2
  subst hz2
  obtain ⟨A, n, c, r, rfl, a1, a2, a3, a4, a5, a6⟩ := strs_of (M := 1048576) (by omega) hA
  obtain ⟨B, m, d, k', rfl, b1, b2, b3, b4, b5, b6⟩ := strs_of (M := 1048576) (by omega) hB
  exact ⟨by omega, ⟨A, n, c, B, m, d, r, k'⟩, rfl, a1, b1, ⟨by simp only; omega, by simp only; omega⟩, fun y hy => hy.elim (a6 y) (b6 y)⟩
theorem feet15_in {w : World} {base : Nat} {v : Value} (h : ReadsB Tryz.prog w base 33 v 1048576) :
    ∃ A n c l, v = .slice A n c ∧ Rd w A n 2 (rowV frV l) ∧ l.length = n ∧ (∀ x ∈ l, FrOk0 w x) ∧ n ≤ 1048576 := by
  obtain ⟨A, n, c, rfl⟩ := h.slice TE rfl
  obtain ⟨_, A', n', c', l, hv, g1, g2, g3, g4, g5, g6⟩ := FitB.row (g := frV) (Q := FrOk0 w) (M := 1048576) foot15_of (h.fit TE (.slice tyFt) (by decide +kernel)) (Nat.le_refl _)
  cases hv
  exact ⟨A, n, c, l, rfl, g5, g4, g6, by omega⟩
theorem ints15_in {w : World} {base : Nat} {v : Value} (h : ReadsB Tryz.prog w base 47 v 1048576) :
    ∃ A n c l, v = .slice A n c ∧ Rd w A n 1 (iv l) ∧ l.length = n ∧ n ≤ 1048576 := by
  obtain ⟨A, n, c, rfl⟩ := h.slice TE rfl
  have hf := h.fit TE (.slice (.int .i64)) (by decide +kernel)
  obtain ⟨_, A', n', c', l, hv, g1, g2, g3, g4, g5, g6⟩ := FitB.row (g := fun z : Int => [Value.int .i64 z]) (Q := fun z => True) (M := 1048576) (fun x k hk hx => by
    obtain ⟨h0, z, rfl, h1⟩ := hx
    exact ⟨h0, z, rfl, trivial⟩) hf (Nat.le_refl _)
  cases hv
  refine ⟨A, n, c, l, rfl, ?_, g4, by omega⟩
  have : rowV (fun z : Int => [Value.int .i64 z]) l = iv l := by simp [rowV, iv, kI, List.flatten_eq_flatMap, List.flatMap_map, ← List.map_eq_flatMap]
  rw [← this]
  exact g5
theorem norm_again {r k : List Tx} (h : (normF r k).2 = 0) : normF (normF r k).1.1 (normF r k).1.2 = (((normF r k).1.1, (normF r k).1.2), 0) := by
  rw [norm_eq] at h
  rw [norm_eq r k]
  by_cases hv : (r.all validT && k.all validT) = true
  · rw [if_pos hv] at h ⊢
    by_cases h64 : 64 < (setT (r ++ k)).length
    · rw [if_pos h64] at h; cases h
    · rw [if_neg h64]
      simp only
      rw [Bool.and_eq_true, List.all_eq_true, List.all_eq_true] at hv
      have hv1 : (setT r).all validT = true := List.all_eq_true.2 fun x hx => hv.1 x ((set_mem x r).1 hx)
      have hv2 : (setT k).all validT = true := List.all_eq_true.2 fun x hx => hv.2 x ((set_mem x k).1 hx)
      have hs : setT (setT r ++ setT k) = setT (r ++ k) := rises_eq (set_rises _) (set_rises _) fun t => by
        rw [set_mem, set_mem, List.mem_append, List.mem_append, set_mem, set_mem]
      rw [norm_eq, hv1, hv2, if_pos (by rfl), hs, if_neg h64, set_set, set_set]
  · rw [if_neg hv] at h; cases h
theorem norm_short {r k : List Tx} (h : (normF r k).2 = 0) (hs : ∀ y, y ∈ r ∨ y ∈ k → y.length ≤ 1048576) : ∀ y, y ∈ (normF r k).1.1 ∨ y ∈ (normF r k).1.2 → y.length ≤ 1048576 := by
  rw [norm_eq] at h ⊢
  by_cases hv : (r.all validT && k.all validT) = true
  · rw [if_pos hv] at h ⊢
    by_cases h64 : 64 < (setT (r ++ k)).length
    · rw [if_pos h64] at h; cases h
    · rw [if_neg h64]
      simp only
      intro y hy
      rw [set_mem, set_mem] at hy
      exact hs y hy
  · rw [if_neg hv] at h; cases h
theorem FrOk.be {w w' : World} {x : FR} (h : FrOk w x) (e : Ext w w') : FrOk w' x := { h with ra := h.ra.be e, rb := h.rb.be e }
theorem endL_at (S0 : StE) (W : List (List Tx)) (i : Nat) (h : i < W.length) : (endL S0 W).getD i 0 = 5 ∨ (endL S0 W).getD i 0 = 6 := by
  unfold endL
  rw [List.getD_eq_getElem?_getD, List.getElem?_map, List.getElem?_range h]
  simp only [Option.map_some, Option.getD_some]
  split
  · exact .inr rfl
  · exact .inl rfl
theorem endL_len (S0 : StE) (W : List (List Tx)) : (endL S0 W).length = W.length := by simp [endL]
theorem SchedRoom_c (v0 v1 : Value) (z : Int) (v3 v4 : Value) (w : World) {base0 base1 base3 base4 : Nat} (hM0 : 1048576 ≤ 1048576) (hv0 : ReadsB Tryz.prog w base0 25 v0 1048576) (hM1 : 1048576 ≤ 1048576) (hv1 : ReadsB Tryz.prog w base1 33 v1 1048576) (hz : -9223372036854775808 ≤ z ∧ z ≤ 9223372036854775807) (hM3 : 1048576 ≤ 1048576) (hv3 : ReadsB Tryz.prog w base3 47 v3 1048576) (hM4 : 1048576 ≤ 1048576) (hv4 : ReadsB Tryz.prog w base4 47 v4 1048576) :
    Ret Tryz.prog 4 [v0, v1, .int .i64 z, v3, v4] w (fun v w' => v = .bool true ∧ Ext w w') := by
  obtain ⟨a, b, wn, KA, kn, kc, ks, A, n, c, l, rfl, ha, hb, hwn, hK, hkn, hkl, hA, hl, hall, hnm⟩ := story15_in hv0
  obtain ⟨FA, F, fc, fs, rfl, hF, hfl, hfall, hFm⟩ := feet15_in hv1
  obtain ⟨PA, pn, pc, pk, rfl, hP, hpl, hpm⟩ := ints15_in hv3
  obtain ⟨QA, qn, qc, qk, rfl, hQ, hql, hqm⟩ := ints15_in hv4
  clear hv0 hv1 hv3 hv4 hM0 hM1 hM3 hM4
  refine ret_T (n := 178) Tryz.func4 rfl rfl ?_
  repeat (first | refine T_seq ?_ | refine T_region ?_)
  refine TL_box (hk := ?_); intro b1 w1 e1 h1 h1' k1
  replace k1 : Blk w1 b1 25 [.int .i64 a, .int .i64 b, .slice KA kn kc, .int .i64 wn, .slice A n c] := k1
  have hA1 := hA.be e1
  have hall1 : ∀ x ∈ l, AdOk w1 x := fun x hx => (hall x hx).be e1
  repeat (first | refine T_seq ?_ | refine T_region ?_ | refine TL_nil ?_ | refine TL_assign (hk := ?_))
  refine TL_loadb TE (cs := [.int .i64 a, .int .i64 b, .slice KA kn kc, .int .i64 wn, .slice A n c]) (o := 0) rfl rfl k1 rfl rfl (Nat.succ_pos _) (hk := ?_)
  --
  refine TL_call TE (hc := long_c15 a b wn KA kn kc A n c l _ hA1 hl hall1 hnm) (hk := ?_)
  rintro _ w2 ⟨rfl | ⟨rfl, hn, hkn2, hx2⟩, e2⟩
  · repeat (first | refine T_seq ?_ | refine T_region ?_ | refine T_cond_true rfl ?_ | refine TL_nil ?_ | refine TL_move (hk := ?_) | refine TL_no (hk := ?_) | refine TL_pick_t (hk := ?_))
    refine TL_call TE (hc := live_c15 _) (hk := ?_)
    rintro _ w3 ⟨rfl, e3⟩
    repeat (first | refine TL_nil ?_ | refine TL_assign (hk := ?_))
    exact T_ret1 rfl rfl ⟨rfl, (e1.ext e2).ext e3⟩
  have k2 := k1.be e2
  have E2 := e1.ext e2
  clear hA hall hA1 hall1 k1 hx2
  by_cases q1 : 60 < F
  · repeat (first | refine T_seq ?_ | refine T_region ?_ | refine T_cond_true rfl ?_ | refine TL_gt_t (hk := ?_) | refine TL_nil ?_ | refine TL_move (hk := ?_) | refine TL_len TE (hk := ?_) | refine TL_yes (hk := ?_) | refine TL_no (hk := ?_) | refine TL_pick_t (hk := ?_) | refine TL_pick_f (hk := ?_))
    refine TL_call TE (hc := live_c15 _) (hk := ?_)
    rintro _ w3 ⟨rfl, e3⟩
    repeat (first | refine TL_nil ?_ | refine TL_assign (hk := ?_))
    exact T_ret1 rfl rfl ⟨rfl, E2.ext e3⟩
  by_cases q2 : 300 < pn
  · repeat (first | refine T_seq ?_ | refine T_region ?_ | refine T_cond_true rfl ?_ | refine TL_gt_t (hk := ?_) | refine TL_gt_f (hk := ?_) | refine TL_nil ?_ | refine TL_move (hk := ?_) | refine TL_len TE (hk := ?_) | refine TL_yes (hk := ?_) | refine TL_no (hk := ?_) | refine TL_pick_t (hk := ?_) | refine TL_pick_f (hk := ?_))
    refine TL_call TE (hc := live_c15 _) (hk := ?_)
    rintro _ w3 ⟨rfl, e3⟩
    repeat (first | refine TL_nil ?_ | refine TL_assign (hk := ?_))
    exact T_ret1 rfl rfl ⟨rfl, E2.ext e3⟩
  by_cases q3 : 300 < qn
  · repeat (first | refine T_seq ?_ | refine T_region ?_ | refine T_cond_true rfl ?_ | refine TL_gt_t (hk := ?_) | refine TL_gt_f (hk := ?_) | refine TL_nil ?_ | refine TL_move (hk := ?_) | refine TL_len TE (hk := ?_) | refine TL_yes (hk := ?_) | refine TL_no (hk := ?_) | refine TL_pick_t (hk := ?_) | refine TL_pick_f (hk := ?_))
    refine TL_call TE (hc := live_c15 _) (hk := ?_)
    rintro _ w3 ⟨rfl, e3⟩
    repeat (first | refine TL_nil ?_ | refine TL_assign (hk := ?_))
    exact T_ret1 rfl rfl ⟨rfl, E2.ext e3⟩
  by_cases q4 : z < 1
  · repeat (first | refine T_seq ?_ | refine T_region ?_ | refine T_cond_true rfl ?_ | refine TL_lt_t (hk := ?_) | refine TL_gt_f (hk := ?_) | refine TL_nil ?_ | refine TL_move (hk := ?_) | refine TL_len TE (hk := ?_) | refine TL_yes (hk := ?_) | refine TL_no (hk := ?_) | refine TL_pick_t (hk := ?_) | refine TL_pick_f (hk := ?_))
    refine TL_call TE (hc := live_c15 _) (hk := ?_)
    rintro _ w3 ⟨rfl, e3⟩
    repeat (first | refine TL_nil ?_ | refine TL_assign (hk := ?_))
    exact T_ret1 rfl rfl ⟨rfl, E2.ext e3⟩
  by_cases q5 : 4096 < z
  · repeat (first | refine T_seq ?_ | refine T_region ?_ | refine T_cond_true rfl ?_ | refine TL_lt_f (hk := ?_) | refine TL_gt_t (hk := ?_) | refine TL_gt_f (hk := ?_) | refine TL_nil ?_ | refine TL_move (hk := ?_) | refine TL_len TE (hk := ?_) | refine TL_yes (hk := ?_) | refine TL_no (hk := ?_) | refine TL_pick_t (hk := ?_) | refine TL_pick_f (hk := ?_))
    refine TL_call TE (hc := live_c15 _) (hk := ?_)
    rintro _ w3 ⟨rfl, e3⟩
    repeat (first | refine TL_nil ?_ | refine TL_assign (hk := ?_))
    exact T_ret1 rfl rfl ⟨rfl, E2.ext e3⟩
  by_cases q6 : wn < 1
  · repeat (first | refine T_seq ?_ | refine T_region ?_ | refine T_cond_true rfl ?_ | refine TL_lt_t (hk := ?_) | refine TL_lt_f (hk := ?_) | refine TL_gt_f (hk := ?_) | refine TL_nil ?_ | refine TL_move (hk := ?_) | refine TL_load TE (hk := ?_) | refine TL_fieldAddr TE (hk := ?_) | refine TL_len TE (hk := ?_) | refine TL_yes (hk := ?_) | refine TL_no (hk := ?_) | refine TL_pick_t (hk := ?_) | refine TL_pick_f (hk := ?_))
    refine TL_call TE (hc := live_c15 _) (hk := ?_)
    rintro _ w3 ⟨rfl, e3⟩
    repeat (first | refine TL_nil ?_ | refine TL_assign (hk := ?_))
    exact T_ret1 rfl rfl ⟨rfl, E2.ext e3⟩
  by_cases q7 : 4096 < wn
  · repeat (first | refine T_seq ?_ | refine T_region ?_ | refine T_cond_true rfl ?_ | refine TL_lt_f (hk := ?_) | refine TL_gt_t (hk := ?_) | refine TL_gt_f (hk := ?_) | refine TL_nil ?_ | refine TL_move (hk := ?_) | refine TL_load TE (hk := ?_) | refine TL_fieldAddr TE (hk := ?_) | refine TL_len TE (hk := ?_) | refine TL_yes (hk := ?_) | refine TL_pick_f (hk := ?_))
    refine TL_call TE (hc := live_c15 _) (hk := ?_)
    rintro _ w3 ⟨rfl, e3⟩
    repeat (first | refine TL_nil ?_ | refine TL_assign (hk := ?_))
    exact T_ret1 rfl rfl ⟨rfl, E2.ext e3⟩
  have hF2 := hF.be E2
  have hf2 : ∀ x ∈ fs, FrOk0 w2 x := fun x hx => { hfall x hx with ra := (hfall x hx).ra.be E2, rb := (hfall x hx).rb.be E2 }
  have hK2 := hK.be E2
  have hP2 := hP.be E2
  have hQ2 := hQ.be E2
  clear hF hfall hK hP hQ
  repeat (first | refine T_seq ?_ | refine T_region ?_ | refine T_cond_false rfl ?_ | refine T_block ?_ | refine T_skip ?_ | refine TL_lt_f (hk := ?_) | refine TL_gt_f (hk := ?_) | refine TL_nil ?_ | refine TL_move (hk := ?_) | refine TL_assign (hk := ?_) | refine TL_load TE (hk := ?_) | refine TL_fieldAddr TE (hk := ?_) | refine TL_len TE (hk := ?_) | refine TL_yes (hk := ?_) | refine TL_pick_f (hk := ?_))
  refine T_loop (ι := Nat × Nat × SL × List FR) (fun j => [(13, .int .i64 (j.1 : Int)), (12, sL j.2.2.1), (11, .int .i64 (j.2.1 : Int)), (5, .pointer (some ⟨b1, 0, none⟩)), (1, .slice FA F fc), (2, .int .i64 z), (3, .slice PA pn pc), (4, .slice QA qn qc)])
    (fun j w' => j.1 ≤ F ∧ j.2.1 ≤ j.1 * 2097152 ∧ Ext w2 w' ∧ Own w' w2.heap.size 35 2 j.2.2.1.1 j.2.2.1.2.1 j.2.2.1.2.2 (rowV frV j.2.2.2) ∧ j.2.2.2.length ≤ j.1 ∧ (∀ x ∈ j.2.2.2, FrOk w' x ∧ ∀ u, u ∈ blkL x.A ∨ u ∈ blkL x.B → u ∉ blkL j.2.2.1.1 ∧ u < w'.heap.size)) (fun j => F - j.1) (0, 0, (none, 0, 0), []) (.c rfl (.c rfl (.c rfl (.c rfl (.c rfl (.c rfl (.c rfl (.c rfl (.n))))))))) ⟨Nat.zero_le _, Nat.zero_le _, Mod.refl _ _, Own.nil _ _ _ _, Nat.le_refl _, fun x hx => by cases hx⟩ ?_
  rintro ⟨i, tot, y, nl⟩ w3 ⟨hi, ht, e3, o3, hnl, hg3⟩ ih
  simp only at hi ht o3 hnl hg3 ih ⊢
  have hF3 := hF2.be e3
  have hyl : nl.length = y.2.1 := by have := o3.len; rw [rowV_len frV_len] at this; omega
  have z3 := e3.size
  by_cases hlt : i < F
  · have hFA : FA ≠ none := by obtain ⟨_, _, hq, _⟩ := hF3.2 (by omega); rw [hq]; simp
    have t1 := rowV_elem frV_len fs i fr0 (by omega)
    have hv0' : (rowV frV fs)[i * 2 + 0]? = some (.slice (fs.getD i fr0).A (fs.getD i fr0).n (fs.getD i fr0).c) := rowV_at frV_len fs i 0 fr0 (by omega) (by omega)
    have hv1' : (rowV frV fs)[i * 2 + 1]? = some (.slice (fs.getD i fr0).B (fs.getD i fr0).m (fs.getD i fr0).d) := rowV_at frV_len fs i 1 fr0 (by omega) (by omega)
    have hxo := hf2 _ (getD_in (d := fr0) (by omega : i < fs.length))
    obtain ⟨x, hx⟩ : ∃ x, fs.getD i fr0 = x := ⟨_, rfl⟩
    rw [hx] at t1 hxo hv0' hv1'
    have hnm := hxo.nm
    repeat (first | refine T_seq ?_ | refine T_region ?_ | refine T_cond_true rfl ?_ | refine T_block ?_ | refine T_skip ?_ | refine TL_lt_t (hk := ?_) | refine TL_nil ?_ | refine TL_move (hk := ?_) | refine TL_indexAddrn TE (hk := ?_) | refine TL_len TE (hk := ?_))
    refine TL_loada TE (cs := frV x) (hx := rfl) (ht := rfl) (hi := rfl) (hr := hF3) (hc := t1) (h0 := Nat.succ_pos _) (hk := ?_)
    --
    refine TL_call TE (hc := RNorm2_c x.A x.B x.n x.c x.m x.d x.r x.k w3 (hxo.ra.be e3) (hxo.rb.be e3) (by omega) (by omega) (fun j hj => by have := hxo.sr _ (.inl (getD_in (d := []) hj)); omega) (fun j hj => by have := hxo.sr _ (.inr (getD_in (d := []) hj)); omega)) (hk := ?_)
    rintro _ w4 ⟨u, rfl, e4, hu⟩
    obtain ⟨A4, n4, c4, B4, m4, d4, rfl, oA4, oB4, hoff⟩ := hu
    repeat (first | refine TL_move (hk := ?_) | refine TL_extract (hk := ?_))
    refine TL_alloc TE (hk := ?_); intro b5 w5 e5 h5 h5' k5
    --
    refine TL_storea TE (hk := ?_); intro w6 m6 z6 k6
    replace k6 : Blk w6 b5 35 [.slice A4 n4 c4, .slice B4 m4 d4] := k6
    have z4 := e4.size
    have z5 := e5.size
    have e46 : Ext w4 w6 := Mod.step e5 m6 (by simp; omega)
    have e36 := e4.ext e46
    have hF6 := hF3.be e36
    have hFD : Off FA ([] : List Nat) := .nil _
    have hc : (tot : Int) + (x.n : Int) + (x.m : Int) = ((tot + x.n + x.m : Nat) : Int) := by omega
    clear k5 m6
    repeat (first | refine T_seq ?_ | refine TL_nil ?_ | refine TL_assign (hk := ?_))
    refine T_region_any TE.mixed ([] : List Nat) ?_; intro w7 e7 z7
    have hF7 := hF6.be e7
    (refine TA_take 0 rfl (by kernel_rfl) (by kernel_rfl) (by kernel_rfl) ?_; (repeat (first | refine TL_add (hk := ?_) | refine TL_move (hk := ?_) | refine TLP_load_rd TE (hk := ?_) | refine TL_fieldAddr_e TE (hk := ?_) | refine TL_indexAddrn TE (hk := ?_) | refine TL_len TE (hk := ?_))); refine TL_nil_p ?_); (refine TA_take 1 rfl (by kernel_rfl) (by kernel_rfl) (by kernel_rfl) ?_; (repeat (first | refine TL_add (hk := ?_) | refine TL_move (hk := ?_) | refine TLP_load_rd TE (hk := ?_) | refine TL_fieldAddr_e TE (hk := ?_) | refine TL_indexAddrn TE (hk := ?_) | refine TL_len TE (hk := ?_))); refine TL_nil_p ?_); (refine TA_take 2 rfl (by kernel_rfl) (by kernel_rfl) (by kernel_rfl) ?_; (repeat (first | refine TL_add (hk := ?_) | refine TL_move (hk := ?_) | refine TLP_load_rd TE (hk := ?_) | refine TL_fieldAddr_e TE (hk := ?_) | refine TL_indexAddrn TE (hk := ?_) | refine TL_len TE (hk := ?_))); refine TL_nil_p ?_); (refine TA_take 3 rfl (by kernel_rfl) (by kernel_rfl) (by kernel_rfl) ?_; (repeat (first | refine TL_add (hk := ?_) | refine TL_move (hk := ?_) | refine TLP_load_rd TE (hk := ?_) | refine TL_fieldAddr_e TE (hk := ?_) | refine TL_indexAddrn TE (hk := ?_) | refine TL_len TE (hk := ?_))); refine TL_nil_p ?_); (refine TA_take 4 rfl (by kernel_rfl) (by kernel_rfl) (by kernel_rfl) ?_; (repeat (first | refine TL_add (hk := ?_) | refine TL_move (hk := ?_) | refine TLP_load_rd TE (hk := ?_) | refine TL_fieldAddr_e TE (hk := ?_) | refine TL_indexAddrn TE (hk := ?_) | refine TL_len TE (hk := ?_))); refine TL_nil_p ?_); (refine TA_take 5 rfl (by kernel_rfl) (by kernel_rfl) (by kernel_rfl) ?_; (repeat (first | refine TL_add (hk := ?_) | refine TL_move (hk := ?_) | refine TLP_load_rd TE (hk := ?_) | refine TL_fieldAddr_e TE (hk := ?_) | refine TL_indexAddrn TE (hk := ?_) | refine TL_len TE (hk := ?_))); refine TL_nil_p ?_); (refine TA_take 6 rfl (by kernel_rfl) (by kernel_rfl) (by kernel_rfl) ?_; (repeat (first | refine TL_add (hk := ?_) | refine TL_move (hk := ?_) | refine TLP_load_rd TE (hk := ?_) | refine TL_fieldAddr_e TE (hk := ?_) | refine TL_indexAddrn TE (hk := ?_) | refine TL_len TE (hk := ?_))); refine TL_nil_p ?_); (refine TA_take 7 rfl (by kernel_rfl) (by kernel_rfl) (by kernel_rfl) ?_; (repeat (first | refine TL_add (hk := ?_) | refine TL_move (hk := ?_) | refine TLP_load_rd TE (hk := ?_) | refine TL_fieldAddr_e TE (hk := ?_) | refine TL_indexAddrn TE (hk := ?_) | refine TL_len TE (hk := ?_))); refine TL_nil_p ?_); (refine TA_take 8 rfl (by kernel_rfl) (by kernel_rfl) (by kernel_rfl) ?_; (repeat (first | refine TL_add (hk := ?_) | refine TL_move (hk := ?_) | refine TLP_load_rd TE (hk := ?_) | refine TL_fieldAddr_e TE (hk := ?_) | refine TL_indexAddrn TE (hk := ?_) | refine TL_len TE (hk := ?_))); refine TL_nil_p ?_); (refine TA_take 9 rfl (by kernel_rfl) (by kernel_rfl) (by kernel_rfl) ?_; (repeat (first | refine TL_add (hk := ?_) | refine TL_move (hk := ?_) | refine TLP_load_rd TE (hk := ?_) | refine TL_fieldAddr_e TE (hk := ?_) | refine TL_indexAddrn TE (hk := ?_) | refine TL_len TE (hk := ?_))); refine TL_nil_p ?_); (refine TA_take 10 rfl (by kernel_rfl) (by kernel_rfl) (by kernel_rfl) ?_; (repeat (first | refine TL_add (hk := ?_) | refine TL_move (hk := ?_) | refine TLP_load_rd TE (hk := ?_) | refine TL_fieldAddr_e TE (hk := ?_) | refine TL_indexAddrn TE (hk := ?_) | refine TL_len TE (hk := ?_))); refine TL_nil_p ?_); (refine TA_take 11 rfl (by kernel_rfl) (by kernel_rfl) (by kernel_rfl) ?_; (repeat (first | refine TL_add (hk := ?_) | refine TL_move (hk := ?_) | refine TLP_load_rd TE (hk := ?_) | refine TL_fieldAddr_e TE (hk := ?_) | refine TL_indexAddrn TE (hk := ?_) | refine TL_len TE (hk := ?_))); refine TL_nil_p ?_); (refine TA_take 12 rfl (by kernel_rfl) (by kernel_rfl) (by kernel_rfl) ?_; (repeat (first | refine TL_add (hk := ?_) | refine TL_move (hk := ?_) | refine TLP_load_rd TE (hk := ?_) | refine TL_fieldAddr_e TE (hk := ?_) | refine TL_indexAddrn TE (hk := ?_) | refine TL_len TE (hk := ?_))); refine TL_nil_p ?_); (refine TA_take 13 rfl (by kernel_rfl) (by kernel_rfl) (by kernel_rfl) ?_; (repeat (first | refine TL_add (hk := ?_) | refine TL_move (hk := ?_) | refine TLP_load_rd TE (hk := ?_) | refine TL_fieldAddr_e TE (hk := ?_) | refine TL_indexAddrn TE (hk := ?_) | refine TL_len TE (hk := ?_))); refine TL_nil_p ?_); (refine TA_take 14 rfl (by kernel_rfl) (by kernel_rfl) (by kernel_rfl) ?_; (repeat (first | refine TL_add (hk := ?_) | refine TL_move (hk := ?_) | refine TLP_load_rd TE (hk := ?_) | refine TL_fieldAddr_e TE (hk := ?_) | refine TL_indexAddrn TE (hk := ?_) | refine TL_len TE (hk := ?_))); refine TL_nil_p ?_)
    rw [hc]
    (refine TA_one 15 rfl (by kernel_rfl) (by kernel_rfl) ?_; (repeat (refine TL_assign (hk := ?_))); refine TL_nil_p ?_)
    refine TA_done (by kernel_rfl) ?_
    have e37 := e36.ext e7
    have k7 := k6.be e7
    have o7 := o3.be e37
    have oA7 := oA4.be (e46.ext e7)
    have oB7 := oB4.be (e46.ext e7)
    have hg7 : ∀ x ∈ nl, FrOk w7 x ∧ ∀ u, u ∈ blkL x.A ∨ u ∈ blkL x.B → u ∉ blkL y.1 ∧ u < w7.heap.size := fun x hx => ⟨(hg3 x hx).1.be e37, fun u hu => ⟨((hg3 x hx).2 u hu).1, by have := ((hg3 x hx).2 u hu).2; have := e37.size; omega⟩⟩
    clear k6
    by_cases he : (normF x.r x.k).2 = 0
    · rw [he]
      have hno := norm_again he
      have hsh := norm_short he hxo.sr
      have hout := norm_out (norm_len he)
      have hl1 : (normF x.r x.k).1.1.length = n4 := by have := oA4.len; rw [sv_length] at this; omega
      have hl2 : (normF x.r x.k).1.2.length = m4 := by have := oB4.len; rw [sv_length] at this; omega
      repeat (first | refine T_seq ?_ | refine T_region ?_ | refine T_cond_true rfl ?_ | refine TL_eq_t (hk := ?_) | refine TL_nil ?_ | refine TL_move (hk := ?_))
      refine TL_loadb TE (cs := [.slice A4 n4 c4, .slice B4 m4 d4]) (o := 0) rfl rfl k7 rfl rfl (Nat.succ_pos _) (hk := ?_)
      --
      refine TL_buildSliceA TE (hk := ?_); intro b8 w8 e8 h8 h8' k8
      obtain ⟨q, hq⟩ : ∃ q : FR, q = ⟨A4, n4, c4, B4, m4, d4, (normF x.r x.k).1.1, (normF x.r x.k).1.2⟩ := ⟨_, rfl⟩
      replace k8 : Blk w8 b8 35 (rowV frV [q]) := by rw [hq]; exact k8
      have r8 : Rd w8 (some ⟨b8, 0, none⟩) 1 2 (rowV frV [q]) := Rd.blk k8 rfl
      have o8 := o7.be e8
      have z8 := (e37.ext e8).size
      --
      refine TL_append TE (ho := o8) (hr := r8) (h1 := rowV_one frV_one _) (hk := ?_); intro A9 c9 w9 o9 m9 n9
      rw [← rowV_append] at o9
      have hqy : ∀ u, u ∈ blkL A4 ∨ u ∈ blkL B4 → u ∉ blkL y.1 ∧ u < w8.heap.size := fun u hu => by
        have hb : w3.heap.size ≤ u ∧ u < w4.heap.size := by
          rcases hu with hu | hu
          · exact oA4.bl u hu
          · exact oB4.bl u hu
        have z6' := e46.size
        have z7' := e7.size
        have z8' := e8.size
        refine ⟨fun q => ?_, by omega⟩
        have := (o3.bl u q).2
        omega
      have hqok : FrOk w8 q := by
        rw [hq]
        exact ⟨(oA7.be e8).rd, (oB7.be e8).rd, by simp only; omega, hno, hsh⟩
      have hg8 : ∀ x ∈ nl ++ [q], FrOk w8 x ∧ ∀ u, u ∈ blkL x.A ∨ u ∈ blkL x.B → u ∉ blkL y.1 ∧ u < w8.heap.size := fun x hx => by
        rcases List.mem_append.1 hx with hx | hx
        · exact ⟨(hg7 x hx).1.be e8, fun u hu => ⟨((hg7 x hx).2 u hu).1, by have := ((hg7 x hx).2 u hu).2; have := e8.size; omega⟩⟩
        · rw [List.mem_singleton.1 hx]
          exact ⟨hqok, by rw [hq]; exact hqy⟩
      have z9 := m9.size
      repeat (first | refine T_region ?_ | refine T_inBlock ?_ | refine TL_add (hk := ?_) | refine TL_nil ?_ | refine TL_move (hk := ?_) | refine TL_assign (hk := ?_))
      exact ih (i + 1, tot + x.n + x.m, (A9, y.2.1 + 1, c9), nl ++ [q]) w9 _ (by simp only; omega) ⟨by simp only; omega, by simp only; rw [Nat.succ_mul]; omega, (e3.ext (e37.ext e8)).own m9 o8.hi, o9, by simp; omega, fun x hx => by
        obtain ⟨g1, g2⟩ := hg8 x hx
        refine ⟨{ g1 with ra := g1.ra.mod m9 (off_ofL fun u hu => (g2 u (.inl hu)).1), rb := g1.rb.mod m9 (off_ofL fun u hu => (g2 u (.inr hu)).1) }, fun u hu => ⟨fun q2 => ?_, by have := (g2 u hu).2; omega⟩⟩
        rcases Near.mem n9 u q2 with q3 | q3
        · exact (g2 u hu).1 q3
        · have := (g2 u hu).2; omega⟩ (.c rfl (.c rfl (.c rfl (.c rfl (.c rfl (.c rfl (.c rfl (.c rfl (.n)))))))))
    · repeat (first | refine T_seq ?_ | refine T_region ?_ | refine T_cond_false rfl ?_ | refine T_inBlock ?_ | refine T_skip ?_ | refine TL_add (hk := ?_) | refine TL_eq_f (hk := ?_) | refine TL_nil ?_ | refine TL_move (hk := ?_) | refine TL_assign (hk := ?_))
      exact ih (i + 1, tot + x.n + x.m, y, nl) w7 _ (by simp only; omega) ⟨by simp only; omega, by simp only; rw [Nat.succ_mul]; omega, e3.ext e37, o7, by simp only; omega, hg7⟩ (.c rfl (.c rfl (.c rfl (.c rfl (.c rfl (.c rfl (.c rfl (.c rfl (.n)))))))))
  clear ih
  have hiF : i = F := by omega
  subst hiF
  have hP3 := hP2.be e3
  have hQ3 := hQ2.be e3
  have hK3 := hK2.be e3
  have k3 := k2.be e3
  have E3 := E2.ext e3
  clear hF2 hf2 hK2 hP2 hQ2 k2 hF3
  by_cases htot : 3000 < tot
  · repeat (first | refine T_seq ?_ | refine T_region ?_ | refine T_cond_true rfl ?_ | refine T_cond_false rfl ?_ | refine T_exit rfl ?_ | refine TL_lt_f (hk := ?_) | refine TL_gt_t (hk := ?_) | refine TL_nil ?_ | refine TL_move (hk := ?_) | refine TL_len TE (hk := ?_))
    refine TL_call TE (hc := live_c15 _) (hk := ?_)
    rintro _ w4 ⟨rfl, e4⟩
    repeat (first | refine TL_nil ?_ | refine TL_assign (hk := ?_))
    exact T_ret1 rfl rfl ⟨rfl, E3.ext e4⟩
  repeat (first | refine T_seq ?_ | refine T_region ?_ | refine T_cond_false rfl ?_ | refine T_skip ?_ | refine T_exit rfl ?_ | refine TL_lt_f (hk := ?_) | refine TL_gt_f (hk := ?_) | refine TL_nil ?_ | refine TL_move (hk := ?_) | refine TL_load TE (hk := ?_) | refine TL_fieldAddr TE (hk := ?_) | refine TL_len TE (hk := ?_))
  refine TL_call TE (hc := RStNew_c a b w3) (hk := ?_)
  rintro _ w4 ⟨e4, ⟨hab, b4, rfl, _⟩ | ⟨_, rfl⟩⟩
  · have k4 := k3.be e4
    have o4 := o3.be e4
    have hg4 : ∀ x ∈ nl, FrOk w4 x := fun x hx => (hg3 x hx).1.be e4
    have hok1 : okM a b wn := ⟨hab, by omega, by omega⟩
    have hok2 : okM a b z := ⟨hab, by omega, by omega⟩
    have hy60 : y.2.1 ≤ 60 := by omega
    repeat (first | refine T_seq ?_ | refine T_region ?_ | refine T_cond_false rfl ?_ | refine T_skip ?_ | refine TL_ne_f (hk := ?_) | refine TL_nil ?_ | refine TL_move (hk := ?_) | refine TL_assign (hk := ?_) | refine TL_extract (hk := ?_))
    refine TL_loadb TE (cs := [.int .i64 a, .int .i64 b, .slice KA kn kc, .int .i64 wn, .slice A n c]) (o := 0) rfl rfl k4 rfl rfl (Nat.succ_pos _) (hk := ?_)
    repeat (first | refine TL_move (hk := ?_) | refine TL_load TE (hk := ?_) | refine TL_fieldAddr TE (hk := ?_))
    refine TL_call TE (hc := ends_c15 a b wn wn KA kn kc ks A n c y.1 y.2.1 y.2.2 nl PA pn pc pk w4 hok1 (hK3.be e4) hkn2 hkl o4.rd hg4 hy60 (hP3.be e4) (by omega)) (hk := ?_)
    rintro _ w5 ⟨xa, xp, rfl, e5, ra5, rp5, -⟩
    have k5 := k4.be e5
    have e45 := e4.ext e5
    have hg5 : ∀ x ∈ nl, FrOk w5 x := fun x hx => (hg4 x hx).be e5
    repeat (first | refine T_seq ?_ | refine T_region ?_ | refine TL_nil ?_ | refine TL_move (hk := ?_) | refine TL_assign (hk := ?_) | refine TL_extract (hk := ?_))
    refine TL_loadb TE (cs := [.int .i64 a, .int .i64 b, .slice KA kn kc, .int .i64 wn, .slice A n c]) (o := 0) rfl rfl k5 rfl rfl (Nat.succ_pos _) (hk := ?_)
    repeat (refine TL_move (hk := ?_))
    refine TL_call TE (hc := ends_c15 a b wn z KA kn kc ks A n c y.1 y.2.1 y.2.2 nl QA qn qc qk w5 hok2 (hK3.be e45) hkn2 hkl (o4.be e5).rd hg5 hy60 (hQ3.be e45) (by omega)) (hk := ?_)
    rintro _ w6 ⟨xb, xq, rfl, e6, rb6, rq6, hxq⟩
    have ra6 := ra5.be e6
    have rp6 := rp5.be e6
    obtain ⟨L, hL⟩ : ∃ L, endL (S0E a b ks) (nl.map fun x => x.k) = L := ⟨_, rfl⟩
    have hLl : L.length = nl.length := by rw [← hL, endL_len, List.length_map]
    have hL56 : ∀ j, j < nl.length → L.getD j 0 = 5 ∨ L.getD j 0 = 6 := fun j hj => by rw [← hL]; exact endL_at _ _ _ (by rw [List.length_map]; exact hj)
    rw [hL] at ra6 rb6
    have hxa : xa.2.1 = L.length := by have := ra6.1; rw [nzV_len] at this; omega
    have hxb : xb.2.1 = L.length := by have := rb6.1; rw [nzV_len] at this; omega
    have hab' : xa.2.1 = xb.2.1 := by omega
    have hxp : xp.2.1 = xq.2.1 := by have h1 := rp6.1; have h2 := rq6.1; rw [sv_length] at h1 h2; omega
    repeat (first | refine T_seq ?_ | refine T_region ?_ | refine TL_ne_f (hk := ?_) | refine TL_nil ?_ | refine TL_move (hk := ?_) | refine TL_assign (hk := ?_) | refine TL_len TE (hk := ?_) | refine TL_yes (hk := ?_) | refine TL_pick_f (hk := ?_) | refine TL_extract (hk := ?_) | refine TL_not (hk := ?_))
    refine TL_call TE (hc := Texts_c xp.1 xq.1 xp.2.1 xq.2.1 xp.2.2 xq.2.2 _ _ w6 rp6 rq6 (by omega) hxq) (hk := ?_)
    rintro _ w7 ⟨rfl, e7⟩
    rw [decide_eq_true rfl]
    have ra7 := ra6.be e7
    have rb7 := rb6.be e7
    have E7 := ((E3.ext e45).ext e6).ext e7
    clear ra5 ra6 rb6 rp5 rp6 rq6
    repeat (first | refine T_seq ?_ | refine T_region ?_ | refine T_cond_false rfl ?_ | refine T_block ?_ | refine T_skip ?_ | refine TL_nil ?_ | refine TL_assign (hk := ?_) | refine TL_yes (hk := ?_) | refine TL_pick_f (hk := ?_) | refine TL_not (hk := ?_))
    refine T_loop (ι := Nat) (fun j => [(24, .int .i64 (j : Int)), (18, sL xa), (21, sL xb)]) (fun j w' => j ≤ L.length ∧ Ext w7 w') (fun j => L.length - j) 0 (.c rfl (.c rfl (.c rfl (.n)))) ⟨Nat.zero_le _, Mod.refl _ _⟩ ?_
    rintro j w8 ⟨hj, e8⟩ ih
    have ra8 := ra7.be e8
    have rb8 := rb7.be e8
    by_cases hjl : j < L.length
    · have hv := nzV_at L j hjl
      have hAa : xa.1 ≠ none := by obtain ⟨_, _, hq, _⟩ := ra8.2 (by omega); rw [hq]; simp
      have hAb : xb.1 ≠ none := by obtain ⟨_, _, hq, _⟩ := rb8.2 (by omega); rw [hq]; simp
      have haD : Off xa.1 ([] : List Nat) := .nil _
      have hbD : Off xb.1 ([] : List Nat) := .nil _
      rcases hL56 j (by omega) with h5 | h6
      · rw [h5] at hv
        repeat (first | refine T_seq ?_ | refine T_region ?_ | refine T_cond_true rfl ?_ | refine T_block ?_ | refine T_skip ?_ | refine TL_lt_t (hk := ?_) | refine TL_nil ?_ | refine TL_move (hk := ?_) | refine TL_len TE (hk := ?_))
        refine T_region_any TE.mixed ([] : List Nat) ?_; intro w9 e9 z9
        have ra9 := ra8.be e9
        have rb9 := rb8.be e9
        (refine TA_take 0 rfl (by kernel_rfl) (by kernel_rfl) (by kernel_rfl) ?_; (repeat (first | refine TL_ne_f (hk := ?_) | refine TL_move (hk := ?_) | refine TLP_load_rd TE (hk := ?_) | refine TL_indexAddr1n TE (hk := ?_) | refine TL_yes (hk := ?_) | refine TL_no (hk := ?_) | refine TL_pick_f (hk := ?_))); refine TL_nil_p ?_); (refine TA_take 1 rfl (by kernel_rfl) (by kernel_rfl) (by kernel_rfl) ?_; (repeat (first | refine TL_ne_f (hk := ?_) | refine TL_move (hk := ?_) | refine TLP_load_rd TE (hk := ?_) | refine TL_indexAddr1n TE (hk := ?_) | refine TL_yes (hk := ?_) | refine TL_no (hk := ?_) | refine TL_pick_f (hk := ?_))); refine TL_nil_p ?_); (refine TA_take 2 rfl (by kernel_rfl) (by kernel_rfl) (by kernel_rfl) ?_; (repeat (first | refine TL_ne_f (hk := ?_) | refine TL_move (hk := ?_) | refine TLP_load_rd TE (hk := ?_) | refine TL_indexAddr1n TE (hk := ?_) | refine TL_yes (hk := ?_) | refine TL_no (hk := ?_) | refine TL_pick_f (hk := ?_))); refine TL_nil_p ?_); (refine TA_take 3 rfl (by kernel_rfl) (by kernel_rfl) (by kernel_rfl) ?_; (repeat (first | refine TL_ne_f (hk := ?_) | refine TL_move (hk := ?_) | refine TLP_load_rd TE (hk := ?_) | refine TL_indexAddr1n TE (hk := ?_) | refine TL_yes (hk := ?_) | refine TL_no (hk := ?_) | refine TL_pick_f (hk := ?_))); refine TL_nil_p ?_); (refine TA_take 4 rfl (by kernel_rfl) (by kernel_rfl) (by kernel_rfl) ?_; (repeat (first | refine TL_ne_f (hk := ?_) | refine TL_move (hk := ?_) | refine TLP_load_rd TE (hk := ?_) | refine TL_indexAddr1n TE (hk := ?_) | refine TL_yes (hk := ?_) | refine TL_no (hk := ?_) | refine TL_pick_f (hk := ?_))); refine TL_nil_p ?_); (refine TA_take 5 rfl (by kernel_rfl) (by kernel_rfl) (by kernel_rfl) ?_; (repeat (first | refine TL_ne_f (hk := ?_) | refine TL_move (hk := ?_) | refine TLP_load_rd TE (hk := ?_) | refine TL_indexAddr1n TE (hk := ?_) | refine TL_yes (hk := ?_) | refine TL_no (hk := ?_) | refine TL_pick_f (hk := ?_))); refine TL_nil_p ?_); (refine TA_take 6 rfl (by kernel_rfl) (by kernel_rfl) (by kernel_rfl) ?_; (repeat (first | refine TL_ne_f (hk := ?_) | refine TL_move (hk := ?_) | refine TLP_load_rd TE (hk := ?_) | refine TL_indexAddr1n TE (hk := ?_) | refine TL_yes (hk := ?_) | refine TL_no (hk := ?_) | refine TL_pick_f (hk := ?_))); refine TL_nil_p ?_); (refine TA_take 7 rfl (by kernel_rfl) (by kernel_rfl) (by kernel_rfl) ?_; (repeat (first | refine TL_ne_f (hk := ?_) | refine TL_move (hk := ?_) | refine TLP_load_rd TE (hk := ?_) | refine TL_indexAddr1n TE (hk := ?_) | refine TL_yes (hk := ?_) | refine TL_no (hk := ?_) | refine TL_pick_f (hk := ?_))); refine TL_nil_p ?_); (refine TA_take 8 rfl (by kernel_rfl) (by kernel_rfl) (by kernel_rfl) ?_; (repeat (first | refine TL_ne_f (hk := ?_) | refine TL_move (hk := ?_) | refine TLP_load_rd TE (hk := ?_) | refine TL_indexAddr1n TE (hk := ?_) | refine TL_yes (hk := ?_) | refine TL_no (hk := ?_) | refine TL_pick_f (hk := ?_))); refine TL_nil_p ?_); (refine TA_take 9 rfl (by kernel_rfl) (by kernel_rfl) (by kernel_rfl) ?_; (repeat (first | refine TL_ne_f (hk := ?_) | refine TL_move (hk := ?_) | refine TLP_load_rd TE (hk := ?_) | refine TL_indexAddr1n TE (hk := ?_) | refine TL_yes (hk := ?_) | refine TL_no (hk := ?_) | refine TL_pick_f (hk := ?_))); refine TL_nil_p ?_); (refine TA_take 10 rfl (by kernel_rfl) (by kernel_rfl) (by kernel_rfl) ?_; (repeat (first | refine TL_ne_f (hk := ?_) | refine TL_move (hk := ?_) | refine TLP_load_rd TE (hk := ?_) | refine TL_indexAddr1n TE (hk := ?_) | refine TL_yes (hk := ?_) | refine TL_no (hk := ?_) | refine TL_pick_f (hk := ?_))); refine TL_nil_p ?_); (refine TA_take 11 rfl (by kernel_rfl) (by kernel_rfl) (by kernel_rfl) ?_; (repeat (first | refine TL_ne_f (hk := ?_) | refine TL_move (hk := ?_) | refine TLP_load_rd TE (hk := ?_) | refine TL_indexAddr1n TE (hk := ?_) | refine TL_yes (hk := ?_) | refine TL_no (hk := ?_) | refine TL_pick_f (hk := ?_))); refine TL_nil_p ?_); (refine TA_take 12 rfl (by kernel_rfl) (by kernel_rfl) (by kernel_rfl) ?_; (repeat (first | refine TL_ne_f (hk := ?_) | refine TL_move (hk := ?_) | refine TLP_load_rd TE (hk := ?_) | refine TL_indexAddr1n TE (hk := ?_) | refine TL_yes (hk := ?_) | refine TL_no (hk := ?_) | refine TL_pick_f (hk := ?_))); refine TL_nil_p ?_); (refine TA_take 13 rfl (by kernel_rfl) (by kernel_rfl) (by kernel_rfl) ?_; (repeat (first | refine TL_ne_f (hk := ?_) | refine TL_move (hk := ?_) | refine TLP_load_rd TE (hk := ?_) | refine TL_indexAddr1n TE (hk := ?_) | refine TL_yes (hk := ?_) | refine TL_no (hk := ?_) | refine TL_pick_f (hk := ?_))); refine TL_nil_p ?_); (refine TA_take 14 rfl (by kernel_rfl) (by kernel_rfl) (by kernel_rfl) ?_; (repeat (first | refine TL_ne_f (hk := ?_) | refine TL_move (hk := ?_) | refine TLP_load_rd TE (hk := ?_) | refine TL_indexAddr1n TE (hk := ?_) | refine TL_yes (hk := ?_) | refine TL_no (hk := ?_) | refine TL_pick_f (hk := ?_))); refine TL_nil_p ?_); (refine TA_take 15 rfl (by kernel_rfl) (by kernel_rfl) (by kernel_rfl) ?_; (repeat (first | refine TL_ne_f (hk := ?_) | refine TL_move (hk := ?_) | refine TLP_load_rd TE (hk := ?_) | refine TL_indexAddr1n TE (hk := ?_) | refine TL_yes (hk := ?_) | refine TL_no (hk := ?_) | refine TL_pick_f (hk := ?_))); refine TL_nil_p ?_); (refine TA_take 16 rfl (by kernel_rfl) (by kernel_rfl) (by kernel_rfl) ?_; (repeat (first | refine TL_ne_f (hk := ?_) | refine TL_move (hk := ?_) | refine TLP_load_rd TE (hk := ?_) | refine TL_indexAddr1n TE (hk := ?_) | refine TL_yes (hk := ?_) | refine TL_no (hk := ?_) | refine TL_pick_f (hk := ?_))); refine TL_nil_p ?_); (refine TA_take 17 rfl (by kernel_rfl) (by kernel_rfl) (by kernel_rfl) ?_; (repeat (first | refine TL_ne_f (hk := ?_) | refine TL_move (hk := ?_) | refine TLP_load_rd TE (hk := ?_) | refine TL_indexAddr1n TE (hk := ?_) | refine TL_yes (hk := ?_) | refine TL_no (hk := ?_) | refine TL_pick_f (hk := ?_))); refine TL_nil_p ?_); (refine TA_take 18 rfl (by kernel_rfl) (by kernel_rfl) (by kernel_rfl) ?_; (repeat (first | refine TL_ne_f (hk := ?_) | refine TL_move (hk := ?_) | refine TLP_load_rd TE (hk := ?_) | refine TL_indexAddr1n TE (hk := ?_) | refine TL_yes (hk := ?_) | refine TL_no (hk := ?_) | refine TL_pick_f (hk := ?_))); refine TL_nil_p ?_); (refine TA_take 19 rfl (by kernel_rfl) (by kernel_rfl) (by kernel_rfl) ?_; (repeat (first | refine TL_ne_f (hk := ?_) | refine TL_move (hk := ?_) | refine TLP_load_rd TE (hk := ?_) | refine TL_indexAddr1n TE (hk := ?_) | refine TL_yes (hk := ?_) | refine TL_no (hk := ?_) | refine TL_pick_f (hk := ?_))); refine TL_nil_p ?_); (refine TA_take 20 rfl (by kernel_rfl) (by kernel_rfl) (by kernel_rfl) ?_; (repeat (first | refine TL_ne_f (hk := ?_) | refine TL_move (hk := ?_) | refine TLP_load_rd TE (hk := ?_) | refine TL_indexAddr1n TE (hk := ?_) | refine TL_yes (hk := ?_) | refine TL_no (hk := ?_) | refine TL_pick_f (hk := ?_))); refine TL_nil_p ?_); (refine TA_take 21 rfl (by kernel_rfl) (by kernel_rfl) (by kernel_rfl) ?_; (repeat (first | refine TL_ne_f (hk := ?_) | refine TL_move (hk := ?_) | refine TLP_load_rd TE (hk := ?_) | refine TL_indexAddr1n TE (hk := ?_) | refine TL_yes (hk := ?_) | refine TL_no (hk := ?_) | refine TL_pick_f (hk := ?_))); refine TL_nil_p ?_)
        (refine TA_one 22 rfl (by kernel_rfl) (by kernel_rfl) ?_; (repeat (refine TL_pick_f (hk := ?_))); refine TL_nil_p ?_)
        refine TA_done (by kernel_rfl) ?_
        repeat (first | refine T_region ?_ | refine T_cond_false rfl ?_ | refine T_inBlock ?_ | refine T_skip ?_ | refine TL_add (hk := ?_) | refine TL_nil ?_ | refine TL_move (hk := ?_) | refine TL_assign (hk := ?_))
        exact ih (j + 1) w9 _ (by omega) ⟨by omega, e8.ext e9⟩ (.c rfl (.c rfl (.c rfl (.n))))
      · rw [h6] at hv
        repeat (first | refine T_seq ?_ | refine T_region ?_ | refine T_cond_true rfl ?_ | refine T_block ?_ | refine T_skip ?_ | refine TL_lt_t (hk := ?_) | refine TL_nil ?_ | refine TL_move (hk := ?_) | refine TL_len TE (hk := ?_))
        refine T_region_any TE.mixed ([] : List Nat) ?_; intro w9 e9 z9
        have ra9 := ra8.be e9
        have rb9 := rb8.be e9
        (refine TA_take 0 rfl (by kernel_rfl) (by kernel_rfl) (by kernel_rfl) ?_; (repeat (first | refine TL_ne_t (hk := ?_) | refine TL_ne_f (hk := ?_) | refine TL_move (hk := ?_) | refine TLP_load_rd TE (hk := ?_) | refine TL_indexAddr1n TE (hk := ?_) | refine TL_yes (hk := ?_) | refine TL_pick_t (hk := ?_))); refine TL_nil_p ?_); (refine TA_take 1 rfl (by kernel_rfl) (by kernel_rfl) (by kernel_rfl) ?_; (repeat (first | refine TL_ne_t (hk := ?_) | refine TL_ne_f (hk := ?_) | refine TL_move (hk := ?_) | refine TLP_load_rd TE (hk := ?_) | refine TL_indexAddr1n TE (hk := ?_) | refine TL_yes (hk := ?_) | refine TL_pick_t (hk := ?_))); refine TL_nil_p ?_); (refine TA_take 2 rfl (by kernel_rfl) (by kernel_rfl) (by kernel_rfl) ?_; (repeat (first | refine TL_ne_t (hk := ?_) | refine TL_ne_f (hk := ?_) | refine TL_move (hk := ?_) | refine TLP_load_rd TE (hk := ?_) | refine TL_indexAddr1n TE (hk := ?_) | refine TL_yes (hk := ?_) | refine TL_pick_t (hk := ?_))); refine TL_nil_p ?_); (refine TA_take 3 rfl (by kernel_rfl) (by kernel_rfl) (by kernel_rfl) ?_; (repeat (first | refine TL_ne_t (hk := ?_) | refine TL_ne_f (hk := ?_) | refine TL_move (hk := ?_) | refine TLP_load_rd TE (hk := ?_) | refine TL_indexAddr1n TE (hk := ?_) | refine TL_yes (hk := ?_) | refine TL_pick_t (hk := ?_))); refine TL_nil_p ?_); (refine TA_take 4 rfl (by kernel_rfl) (by kernel_rfl) (by kernel_rfl) ?_; (repeat (first | refine TL_ne_t (hk := ?_) | refine TL_ne_f (hk := ?_) | refine TL_move (hk := ?_) | refine TLP_load_rd TE (hk := ?_) | refine TL_indexAddr1n TE (hk := ?_) | refine TL_yes (hk := ?_) | refine TL_pick_t (hk := ?_))); refine TL_nil_p ?_); (refine TA_take 5 rfl (by kernel_rfl) (by kernel_rfl) (by kernel_rfl) ?_; (repeat (first | refine TL_ne_t (hk := ?_) | refine TL_ne_f (hk := ?_) | refine TL_move (hk := ?_) | refine TLP_load_rd TE (hk := ?_) | refine TL_indexAddr1n TE (hk := ?_) | refine TL_yes (hk := ?_) | refine TL_pick_t (hk := ?_))); refine TL_nil_p ?_); (refine TA_take 6 rfl (by kernel_rfl) (by kernel_rfl) (by kernel_rfl) ?_; (repeat (first | refine TL_ne_t (hk := ?_) | refine TL_ne_f (hk := ?_) | refine TL_move (hk := ?_) | refine TLP_load_rd TE (hk := ?_) | refine TL_indexAddr1n TE (hk := ?_) | refine TL_yes (hk := ?_) | refine TL_pick_t (hk := ?_))); refine TL_nil_p ?_); (refine TA_take 7 rfl (by kernel_rfl) (by kernel_rfl) (by kernel_rfl) ?_; (repeat (first | refine TL_ne_t (hk := ?_) | refine TL_ne_f (hk := ?_) | refine TL_move (hk := ?_) | refine TLP_load_rd TE (hk := ?_) | refine TL_indexAddr1n TE (hk := ?_) | refine TL_yes (hk := ?_) | refine TL_pick_t (hk := ?_))); refine TL_nil_p ?_); (refine TA_take 8 rfl (by kernel_rfl) (by kernel_rfl) (by kernel_rfl) ?_; (repeat (first | refine TL_ne_t (hk := ?_) | refine TL_ne_f (hk := ?_) | refine TL_move (hk := ?_) | refine TLP_load_rd TE (hk := ?_) | refine TL_indexAddr1n TE (hk := ?_) | refine TL_yes (hk := ?_) | refine TL_pick_t (hk := ?_))); refine TL_nil_p ?_); (refine TA_take 9 rfl (by kernel_rfl) (by kernel_rfl) (by kernel_rfl) ?_; (repeat (first | refine TL_ne_t (hk := ?_) | refine TL_ne_f (hk := ?_) | refine TL_move (hk := ?_) | refine TLP_load_rd TE (hk := ?_) | refine TL_indexAddr1n TE (hk := ?_) | refine TL_yes (hk := ?_) | refine TL_pick_t (hk := ?_))); refine TL_nil_p ?_); (refine TA_take 10 rfl (by kernel_rfl) (by kernel_rfl) (by kernel_rfl) ?_; (repeat (first | refine TL_ne_t (hk := ?_) | refine TL_ne_f (hk := ?_) | refine TL_move (hk := ?_) | refine TLP_load_rd TE (hk := ?_) | refine TL_indexAddr1n TE (hk := ?_) | refine TL_yes (hk := ?_) | refine TL_pick_t (hk := ?_))); refine TL_nil_p ?_); (refine TA_take 11 rfl (by kernel_rfl) (by kernel_rfl) (by kernel_rfl) ?_; (repeat (first | refine TL_ne_t (hk := ?_) | refine TL_ne_f (hk := ?_) | refine TL_move (hk := ?_) | refine TLP_load_rd TE (hk := ?_) | refine TL_indexAddr1n TE (hk := ?_) | refine TL_yes (hk := ?_) | refine TL_pick_t (hk := ?_))); refine TL_nil_p ?_); (refine TA_take 12 rfl (by kernel_rfl) (by kernel_rfl) (by kernel_rfl) ?_; (repeat (first | refine TL_ne_t (hk := ?_) | refine TL_ne_f (hk := ?_) | refine TL_move (hk := ?_) | refine TLP_load_rd TE (hk := ?_) | refine TL_indexAddr1n TE (hk := ?_) | refine TL_yes (hk := ?_) | refine TL_pick_t (hk := ?_))); refine TL_nil_p ?_); (refine TA_take 13 rfl (by kernel_rfl) (by kernel_rfl) (by kernel_rfl) ?_; (repeat (first | refine TL_ne_t (hk := ?_) | refine TL_ne_f (hk := ?_) | refine TL_move (hk := ?_) | refine TLP_load_rd TE (hk := ?_) | refine TL_indexAddr1n TE (hk := ?_) | refine TL_yes (hk := ?_) | refine TL_pick_t (hk := ?_))); refine TL_nil_p ?_); (refine TA_take 14 rfl (by kernel_rfl) (by kernel_rfl) (by kernel_rfl) ?_; (repeat (first | refine TL_ne_t (hk := ?_) | refine TL_ne_f (hk := ?_) | refine TL_move (hk := ?_) | refine TLP_load_rd TE (hk := ?_) | refine TL_indexAddr1n TE (hk := ?_) | refine TL_yes (hk := ?_) | refine TL_pick_t (hk := ?_))); refine TL_nil_p ?_); (refine TA_take 15 rfl (by kernel_rfl) (by kernel_rfl) (by kernel_rfl) ?_; (repeat (first | refine TL_ne_t (hk := ?_) | refine TL_ne_f (hk := ?_) | refine TL_move (hk := ?_) | refine TLP_load_rd TE (hk := ?_) | refine TL_indexAddr1n TE (hk := ?_) | refine TL_yes (hk := ?_) | refine TL_pick_t (hk := ?_))); refine TL_nil_p ?_); (refine TA_take 16 rfl (by kernel_rfl) (by kernel_rfl) (by kernel_rfl) ?_; (repeat (first | refine TL_ne_t (hk := ?_) | refine TL_ne_f (hk := ?_) | refine TL_move (hk := ?_) | refine TLP_load_rd TE (hk := ?_) | refine TL_indexAddr1n TE (hk := ?_) | refine TL_yes (hk := ?_) | refine TL_pick_t (hk := ?_))); refine TL_nil_p ?_); (refine TA_take 17 rfl (by kernel_rfl) (by kernel_rfl) (by kernel_rfl) ?_; (repeat (first | refine TL_ne_t (hk := ?_) | refine TL_ne_f (hk := ?_) | refine TL_move (hk := ?_) | refine TLP_load_rd TE (hk := ?_) | refine TL_indexAddr1n TE (hk := ?_) | refine TL_yes (hk := ?_) | refine TL_pick_t (hk := ?_))); refine TL_nil_p ?_); (refine TA_take 18 rfl (by kernel_rfl) (by kernel_rfl) (by kernel_rfl) ?_; (repeat (first | refine TL_ne_t (hk := ?_) | refine TL_ne_f (hk := ?_) | refine TL_move (hk := ?_) | refine TLP_load_rd TE (hk := ?_) | refine TL_indexAddr1n TE (hk := ?_) | refine TL_yes (hk := ?_) | refine TL_pick_t (hk := ?_))); refine TL_nil_p ?_); (refine TA_take 19 rfl (by kernel_rfl) (by kernel_rfl) (by kernel_rfl) ?_; (repeat (first | refine TL_ne_t (hk := ?_) | refine TL_ne_f (hk := ?_) | refine TL_move (hk := ?_) | refine TLP_load_rd TE (hk := ?_) | refine TL_indexAddr1n TE (hk := ?_) | refine TL_yes (hk := ?_) | refine TL_pick_t (hk := ?_))); refine TL_nil_p ?_); (refine TA_take 20 rfl (by kernel_rfl) (by kernel_rfl) (by kernel_rfl) ?_; (repeat (first | refine TL_ne_t (hk := ?_) | refine TL_ne_f (hk := ?_) | refine TL_move (hk := ?_) | refine TLP_load_rd TE (hk := ?_) | refine TL_indexAddr1n TE (hk := ?_) | refine TL_yes (hk := ?_) | refine TL_pick_t (hk := ?_))); refine TL_nil_p ?_); (refine TA_take 21 rfl (by kernel_rfl) (by kernel_rfl) (by kernel_rfl) ?_; (repeat (first | refine TL_ne_t (hk := ?_) | refine TL_ne_f (hk := ?_) | refine TL_move (hk := ?_) | refine TLP_load_rd TE (hk := ?_) | refine TL_indexAddr1n TE (hk := ?_) | refine TL_yes (hk := ?_) | refine TL_pick_t (hk := ?_))); refine TL_nil_p ?_)
        (refine TA_one 22 rfl (by kernel_rfl) (by kernel_rfl) ?_; (repeat (refine TL_pick_f (hk := ?_))); refine TL_nil_p ?_)
        refine TA_done (by kernel_rfl) ?_
        repeat (first | refine T_region ?_ | refine T_cond_false rfl ?_ | refine T_inBlock ?_ | refine T_skip ?_ | refine TL_add (hk := ?_) | refine TL_nil ?_ | refine TL_move (hk := ?_) | refine TL_assign (hk := ?_))
        exact ih (j + 1) w9 _ (by omega) ⟨by omega, e8.ext e9⟩ (.c rfl (.c rfl (.c rfl (.n))))
    · clear ih
      repeat (first | refine T_seq ?_ | refine T_region ?_ | refine T_cond_false rfl ?_ | refine T_exit rfl ?_ | refine TL_lt_f (hk := ?_) | refine TL_nil ?_ | refine TL_move (hk := ?_) | refine TL_len TE (hk := ?_))
      refine TL_call TE (hc := live_c15 _) (hk := ?_)
      rintro _ w9 ⟨rfl, e9⟩
      repeat (first | refine TL_nil ?_ | refine TL_assign (hk := ?_))
      exact T_ret1 rfl rfl ⟨rfl, (E7.ext e8).ext e9⟩
  · repeat (first | refine T_seq ?_ | refine T_region ?_ | refine T_cond_true rfl ?_ | refine TL_ne_t (hk := ?_) | refine TL_nil ?_ | refine TL_move (hk := ?_) | refine TL_assign (hk := ?_) | refine TL_extract (hk := ?_))
    refine TL_call TE (hc := live_c15 _) (hk := ?_)
    rintro _ w5 ⟨rfl, e5⟩
    repeat (first | refine TL_nil ?_ | refine TL_assign (hk := ?_))
    exact T_ret1 rfl rfl ⟨rfl, (E3.ext e4).ext e5⟩
end Go.Proofs.YtgdbckjkeofoaaaGreat
