import Derived.Test.YtjlaomcankmdjaaGreatJb5
import Derived.SizedLaws
/- Parts: FW22 RB3 RB4 CLaw2 CLaw3 CLaw5 JLaw5 JLaw6 JLaw7 JLaw8 JLaw9 RB5 WW9 WW10 WW11 WW12 WW13 WW14 JLaw10 Eng18 RB6. -/
set_option linter.unusedSimpArgs false
set_option linter.unusedVariables false
set_option linter.unusedSectionVars false
namespace Go.Proofs.YtjlaomcankmdjaaGreat
open Go.RowKit Go.Proofs.Eng Go.Proofs.Foot Go.Proofs.Codec
set_option linter.unusedVariables false set_option maxRecDepth 10000
attribute [local irreducible] T TL LV TH TA
theorem and1' (u : Nat) : u &&& 1 = u % 2 := Nat.and_one_is_mod u
theorem and2' (u : Nat) (h : u ≤ 3) : u &&& 2 = 0 ↔ u < 2 := by
  rcases (by omega : u = 0 ∨ u = 1 ∨ u = 2 ∨ u = 3) with rfl | rfl | rfl | rfl <;> decide
theorem take_zero {α : Type} {s : RS} {z : α} {t : List UInt8 → Except Int (α × Nat)} (h : ¬ s.err = 0) : s.take z t = (z, s) := by unfold RS.take; rw [if_neg h]
theorem fail_zero {s : RS} {e : Int} (h : ¬ s.err = 0) : s.fail e = s := by unfold RS.fail; rw [if_neg (fun q => h q.1)]
theorem fail_err {s : RS} {e : Int} (h : s.err = 0) (he : ¬ e = 0) : (s.fail e).err = e := by unfold RS.fail; rw [if_pos ⟨h, he⟩]
theorem take_err0 {α : Type} {s : RS} {z : α} {t : List UInt8 → Except Int (α × Nat)} (h : ¬ (s.take z t).2.err = 0) (hs : s.err = 0) : (s.take z t).1 = z := by
  unfold RS.take at h ⊢
  rw [if_pos hs] at h ⊢
  cases hq : t (s.b.drop s.pos) with
  | ok p => rw [hq] at h; exact absurd hs h
  | error e => rfl
theorem gRise_err {g : GS} (h : ¬ (gText g).2.err = 0) : gRise g = (gText g).2 := by
  have h1 : gKey g = (gText g).2 := by unfold gKey; split <;> first | rfl | exact fail_zero h
  unfold gRise
  rw [h1]
  split
  · exact fail_zero h
  · rfl
theorem gEnd_of_rise {g : GS} (h : ¬ (gRise g).err = 0) : gEnd g = gRise g := by
  have h1 : gUse g = (0, gRise g) := take_zero h
  unfold gEnd
  rw [h1]
  split
  · exact fail_zero h
  · rfl
theorem gEnd_of_use {g : GS} (h : ¬ (gUse g).2.err = 0) : gEnd g = (gUse g).2 := by
  unfold gEnd
  split
  · exact fail_zero h
  · rfl
theorem gStep_err {g : GS} (h : ¬ g.s.err = 0) : (gStep g).s = g.s := by
  have h1 : gText g = ([], g.s) := take_zero h
  have h2 : gRise g = g.s := by
    have := gRise_err (g := g) (by rw [h1]; exact h)
    rw [this, h1]
  show gEnd g = g.s
  rw [gEnd_of_rise (by rw [h2]; exact h), h2]
theorem gIter_err {g0 : GS} {i : Nat} (h : ¬ (gIter i g0).s.err = 0) : ∀ j, (gIter (i + j) g0).s = (gIter i g0).s
  | 0 => rfl
  | j + 1 => by
    have ih := gIter_err h j
    show (gStep (gIter (i + j) g0)).s = _
    rw [gStep_err (by rw [ih]; exact h), ih]
theorem getF_err {b : List UInt8} {i : Nat} (hi : i ≤ (gInit b).1) (h : ¬ (gIter i ⟨(gInit b).2, [], [], []⟩).s.err = 0) : getF b = ((([], []), 0), (gIter i ⟨(gInit b).2, [], [], []⟩).s.err) := by
  have e : (gAll b).s = (gIter i ⟨(gInit b).2, [], [], []⟩).s := by
    unfold gAll
    have := gIter_err h ((gInit b).1 - i)
    rw [show i + ((gInit b).1 - i) = (gInit b).1 by omega] at this
    exact this
  unfold getF
  rw [e, if_neg h]
theorem RCount_s (b : Nat) (s : RS) (A : Option Addr) (n c : Nat) (w : World) (h : Rdr w 117 b s A n c) :
    Ret Tryz.prog 101 [ptr b, .int .i64 64] w (fun v w' => v = .int .i64 (((s.take (0 : Nat) (tLim 64 6)).1 : Nat) : Int) ∧ Mod [b] w w' ∧ Rdr w' 117 b (s.take (0 : Nat) (tLim 64 6)).2 A n c) :=
  RCount_c b s A n c 64 (by decide) w h
theorem RText_s (b : Nat) (s : RS) (A : Option Addr) (n c : Nat) (w : World) (h : Rdr w 117 b s A n c) :
    Ret Tryz.prog 56 [ptr b, .int .i64 32] w (fun v w' => v = .string (ofL (s.take ([] : List UInt8) (tText 32)).1) ∧ Mod [b] w w' ∧ Rdr w' 117 b (s.take ([] : List UInt8) (tText 32)).2 A n c) :=
  RText_c b s A n c 32 (by decide) w h
theorem RByte_s (b : Nat) (s : RS) (A : Option Addr) (n c : Nat) (w : World) (h : Rdr w 117 b s A n c) :
    Ret Tryz.prog 57 [ptr b] w (fun v w' => v = .int .u8 (((s.take (0 : Nat) tByte).1 : Nat) : Int) ∧ Mod [b] w w' ∧ Rdr w' 117 b (s.take (0 : Nat) tByte).2 A n c) :=
  RByte_c b s A n c w h
theorem RNew_l (A : Option Addr) (n c : Nat) (l : List UInt8) (w : World) (h : Rd w A n 1 (bv l)) (hn : n ≤ 7036874417) :
    Ret Tryz.prog 17 [.slice A n c] w (fun v w' => ∃ b A' n' c', v = ptr b ∧ Ext w w' ∧ w.heap.size ≤ b ∧ Hi A' w.heap.size ∧ Lo A' w'.heap.size ∧ Rdr w' 117 b ⟨l, 0, 0, 0, 0⟩ A' n' c') := by
  refine ret_T (n := 8) Tryz.func17 rfl rfl ?_
  repeat (first | refine T_seq ?_ | refine T_region ?_ | refine TL_nil ?_ | refine TL_assign (hk := ?_))
  refine TL_buildSlice TE (hk := ?_); intro b0 w0 e0 h0 h0' k0
  have o0 : Own w0 w.heap.size 5 1 (some ⟨b0, 0, none⟩) 0 0 [] := Own.of_blk k0 h0 rfl (by decide)
  have s0 := e0.size
  repeat (refine TL_move (hk := ?_))
  refine TL_append TE (hk := ?_); intro A1 c1 w1 o1 m1 n1
  have e1 : Ext w w1 := e0.own m1 o0.hi
  repeat (refine TL_build TE (hk := ?_))
  refine TL_box (hk := ?_); intro b w2 e2 h1 h2 k
  repeat (first | refine TL_nil ?_ | refine TL_assign (hk := ?_))
  have hs := e1.size
  refine T_ret1 rfl rfl ⟨b, A1, 0 + n, c1, rfl, e1.ext e2, by omega, o1.hi, o1.lo.mono e2.size, ?_⟩
  exact ⟨k, (o1.be e2).rd, Off.lo o1.lo h1, by have := h.1; simpa using this, Nat.zero_le _, Nat.zero_le _, by simpa using hn, o1.cap.1⟩
theorem RGet_c (B : Option Addr) (nb cb : Nat) (b : List UInt8) (w : World) (hb : Rd w B nb 1 (bv b)) (hnb : nb ≤ 200000) :
    Ret Tryz.prog 59 [.slice B nb cb] w (fun v w' => ∃ u, v = .tuple #[u, .int .i64 ((getF b).1.2 : Nat), .int .i64 (getF b).2] ∧ Ext w w' ∧ FootO w' w.heap.size 9 u (getF b).1.1) := by
  have hlb := hb.1
  simp only [bv_length, Nat.mul_one] at hlb
  refine ret_T (n := 105) Tryz.func59 rfl rfl ?_
  repeat (first | refine T_seq ?_ | refine T_region ?_)
  refine TL_alloc TE (hk := ?_); intro b2 w2 e2 h2 h2' k2
  have z2 := e2.size
  repeat (first | refine T_seq ?_ | refine T_region ?_ | refine TL_nil ?_ | refine TL_move (hk := ?_) | refine TL_assign (hk := ?_))
  refine TL_call TE (hc := RNew_l B nb cb b _ (hb.be e2) (by omega)) (hk := ?_)
  rintro _ w3 ⟨bR, A3, n3, c3, rfl, e3, hbR, hi3, lo3, rr⟩
  have z3 := e3.size
  have lR := rr.blk.lt
  have hn3 : b.length = n3 := rr.len
  have k23 := k2.be e3
  have e03 := e2.ext e3
  clear k2
  repeat (first | refine T_seq ?_ | refine T_region ?_ | refine TL_nil ?_ | refine TL_move (hk := ?_) | refine TL_assign (hk := ?_))
  refine TL_call TE (hc := RCount_s bR _ A3 n3 c3 w3 rr) (hk := ?_)
  rintro _ w4 ⟨rfl, m4, rr4⟩
  obtain ⟨c0, hc0⟩ : ∃ c0, (RS.mk b 0 0 0 0).take (0 : Nat) (tLim 64 6) = c0 := ⟨_, rfl⟩
  have hgi : gInit b = c0 := hc0
  have hg64 := gInit_le b
  rw [hgi] at hg64
  rw [hc0] at rr4
  rw [hc0]
  have z4 := m4.size
  have e04 : Ext w w4 := Mod.step e03 m4 (by simp; omega)
  have k24 := k23.bm m4 (by simp; omega)
  obtain ⟨n0, hn0⟩ : ∃ n0, c0.1 = n0 := ⟨_, rfl⟩
  rw [hn0] at hg64 ⊢
  clear k23 rr
  repeat (first | refine T_seq ?_ | refine T_region ?_ | refine TL_nil ?_ | refine TL_assign (hk := ?_))
  refine TL_alloc TE (hk := ?_); intro b6 w5 e5 h6 h6' k65
  have z5 := e5.size
  have e05 := e04.ext e5
  have k25 := k24.be e5
  have rr5 := rr4.ext e5
  have I0 : GInv 117 w w5 w5 bR b6 c0.2 A3 n3 c3 (none, 0, 0) (none, 0, 0) [] [] := ⟨e05, Mod.refl _ _, rr5, k65, Own.nil _ _ _ _, Own.nil _ _ _ _, off_none _, off_none _, by omega, by omega, by omega, by omega, by omega, lo3.mono (by omega), Off.lo lo3 (by omega)⟩
  have h25 : b2 < w3.heap.size := by omega
  have k2m : ∀ w', Eng.Mod [bR, b6] w5 w' → Blk w' b2 43 [.slice none 0 0, .slice none 0 0] := fun w' m => k25.mod m (by simp; omega)
  clear k24 rr4 hb
  repeat (first | refine T_seq ?_ | refine T_region ?_ | refine T_block ?_ | refine TL_nil ?_ | refine TL_assign (hk := ?_))
  refine T_loop (ι := (GS × Nat) × (Option Addr × Nat × Nat) × (Option Addr × Nat × Nat)) (fun i => [(9, .int .i64 (i.1.2 : Int)), (6, .int .i64 (n0 : Int)), (8, .string (ofL i.1.1.last)), (7, .pointer (some ⟨b6, 0, none⟩)), (5, ptr bR), (2, .pointer (some ⟨b2, 0, none⟩)), (0, .slice B nb cb)])
    (fun i w' => i.1.2 ≤ n0 ∧ i.1.1 = gIter i.1.2 ⟨c0.2, [], [], []⟩ ∧ GInv 117 w w5 w' bR b6 i.1.1.s A3 n3 c3 i.2.1 i.2.2 i.1.1.rd i.1.1.wr ∧ i.2.1.2.1 ≤ i.1.2 ∧ i.2.2.2.1 ≤ i.1.2) (fun i => n0 - i.1.2) ((⟨c0.2, [], [], []⟩, 0), (none, 0, 0), (none, 0, 0)) (.c rfl (.c rfl (.c rfl (.c rfl (.c rfl (.c rfl (.c rfl (.n))))))))
    ⟨Nat.zero_le _, rfl, I0, Nat.zero_le _, Nat.zero_le _⟩ ?_
  rintro ⟨⟨g, i⟩, x, y⟩ w6 ⟨hi, hg, I6, hnr, hnw⟩ ih
  simp only at hi hg I6 hnr hnw ih ⊢
  have kR6 := I6.rdr.blk
  have hstepI : i < n0 → ¬ (gStep g).s.err = 0 → getF b = ((([], []), 0), (gStep g).s.err) := fun h1 h2 => by
    have e : gStep g = gIter (i + 1) ⟨(gInit b).2, [], [], []⟩ := by rw [hgi]; show _ = gStep (gIter i _); rw [← hg]
    rw [e] at h2 ⊢
    exact getF_err (by rw [hgi, hn0]; omega) h2
  by_cases hgo : i < n0 ∧ g.s.err = 0
  · obtain ⟨hlt, hE0⟩ := hgo
    repeat (first | refine T_seq ?_ | refine T_region ?_ | refine T_cond_true rfl ?_ | refine T_block ?_ | refine T_skip ?_ | refine TL_lt_t (hk := ?_) | refine TL_eq_t (hk := ?_) | refine TL_nil ?_ | refine TL_move (hk := ?_) | refine TL_load TE (hk := ?_) | refine TL_fieldAddr TE (hk := ?_) | refine TL_yes (hk := ?_) | refine TL_pick_t (hk := ?_) | refine TL_nilCheck (hk := ?_))
    refine TL_call TE (hc := RText_s bR _ A3 n3 c3 w6 I6.rdr) (hk := ?_)
    rintro _ w7 ⟨rfl, m7, rr7⟩
    have I7 := I6.step m7 rr7
    obtain ⟨p, hp⟩ : ∃ p, g.s.take ([] : List UInt8) (tText 32) = p := ⟨_, rfl⟩
    have hgt : gText g = p := hp
    have hp32 := gText_le g
    have hu256 := gUse_lt g
    have hp0 : ¬ p.2.err = 0 → p.1 = [] := fun h => by rw [← hp] at h ⊢; exact take_err0 h hE0
    rw [hgt] at hp32
    rw [hp] at I7
    rw [hp]
    clear I6 kR6 rr7
    have kR7 := I7.rdr.blk
    have k27 := k2m _ I7.mod
    repeat (first | refine TL_nil ?_ | refine TL_assign (hk := ?_))
    refine T_seq ?_
    refine T_join (ι := Unit) (fun _ => [(10, .string (ofL p.1)), (8, .string (ofL g.last)), (9, .int .i64 (i : Int)), (6, .int .i64 (n0 : Int)), (7, .pointer (some ⟨b6, 0, none⟩)), (5, ptr bR), (2, .pointer (some ⟨b2, 0, none⟩)), (0, .slice B nb cb)])
      (fun _ w' => w' = w7 ∧ (p.2.err = 0 → validT p.1 = true)) (fun kk join => ?_) ?_
    · by_cases hpe : p.2.err = 0
      · repeat (first | refine T_seq ?_ | refine T_region ?_ | refine TL_eq_t (hk := ?_) | refine TL_move (hk := ?_) | refine TL_load TE (hk := ?_) | refine TL_fieldAddr TE (hk := ?_) | refine TL_yes (hk := ?_) | refine TL_nilCheck (hk := ?_))
        refine TL_call TE (hc := RValid_c p.1 (by omega) _) (hk := ?_)
        rintro _ _ ⟨rfl, rfl⟩
        by_cases hv : validT p.1 = true
        · rw [hv]
          repeat (first | refine T_cond_false rfl ?_ | refine T_skip ?_ | refine TL_nil ?_ | refine TL_yes (hk := ?_) | refine TL_pick_t (hk := ?_) | refine TL_not (hk := ?_))
          exact T.sub (join () _ ⟨rfl, fun _ => hv⟩) (.c rfl (.c rfl (.c rfl (.c rfl (.c rfl (.c rfl (.c rfl (.c rfl (.n)))))))))
        · have hv' : validT p.1 = false := by simpa using hv
          rw [hv']
          have hk30 : (gKey g).err = 30 := by unfold gKey; rw [hgt, if_neg hv]; exact fail_err hpe (by decide)
          have hr30 : (gRise g).err = 30 := by
            unfold gRise
            split
            · rw [fail_zero (by rw [hk30]; decide)]; exact hk30
            · exact hk30
          have hs30 : (gStep g).s.err = 30 := by
            show (gEnd g).err = 30
            rw [gEnd_of_rise (by rw [hr30]; decide), hr30]
          have hF := hstepI hlt (by rw [hs30]; decide)
          rw [hs30] at hF
          repeat (first | refine T_seq ?_ | refine T_region ?_ | refine T_cond_true rfl ?_ | refine TL_nil ?_ | refine TL_yes (hk := ?_) | refine TL_pick_t (hk := ?_) | refine TL_not (hk := ?_) | refine TL_build TE (hk := ?_))
          refine TL_storea TE (hk := ?_); intro wz mz sz kz
          repeat (first | refine TL_nil ?_ | refine TL_assign (hk := ?_))
          refine T_retA3 TE (vs := [.slice none 0 0, .slice none 0 0]) (o := 0) rfl rfl rfl rfl rfl rfl kz rfl (Nat.succ_pos _) ⟨.agg #[.slice none 0 0, .slice none 0 0], ?_, Mod.step I7.ext mz (by simp; omega), ?_⟩
          · rw [hF]; rfl
          · rw [hF]; exact FootO.nil _ _ _
      · repeat (first | refine T_seq ?_ | refine T_region ?_ | refine T_cond_false rfl ?_ | refine T_skip ?_ | refine TL_eq_f (hk := ?_) | refine TL_nil ?_ | refine TL_move (hk := ?_) | refine TL_load TE (hk := ?_) | refine TL_fieldAddr TE (hk := ?_) | refine TL_no (hk := ?_) | refine TL_pick_f (hk := ?_) | refine TL_nilCheck (hk := ?_))
        exact T.sub (join () _ ⟨rfl, fun h => absurd h hpe⟩) (.c rfl (.c rfl (.c rfl (.c rfl (.c rfl (.c rfl (.c rfl (.c rfl (.n)))))))))
    rintro _ w7 ⟨rfl, hval⟩
    have hgk : gKey g = p.2 := by
      unfold gKey
      rw [hgt]
      split
      · rfl
      · rename_i hv
        exact fail_zero fun h => hv (hval h)
    --
    refine T_seq ?_
    refine T_join (ι := Unit) (fun _ => [(10, .string (ofL p.1)), (8, .string (ofL g.last)), (9, .int .i64 (i : Int)), (6, .int .i64 (n0 : Int)), (7, .pointer (some ⟨b6, 0, none⟩)), (5, ptr bR), (2, .pointer (some ⟨b2, 0, none⟩)), (0, .slice B nb cb)])
      (fun _ w' => w' = w7 ∧ gRise g = p.2) (fun kk join => ?_) ?_
    · by_cases hpe : p.2.err = 0
      · by_cases hi0 : 0 < i
        · by_cases hle : p.1 ≤ g.last
          · have hr31 : (gRise g).err = 31 := by
              unfold gRise
              rw [hgt, if_pos hle, hgk]
              exact fail_err hpe (by decide)
            have hs31 : (gStep g).s.err = 31 := by
              show (gEnd g).err = 31
              rw [gEnd_of_rise (by rw [hr31]; decide), hr31]
            have hF := hstepI hlt (by rw [hs31]; decide)
            rw [hs31] at hF
            repeat (first | refine T_seq ?_ | refine T_region ?_ | refine T_cond_true rfl ?_ | refine TL_gt_t (hk := ?_) | refine TL_eq_t (hk := ?_) | refine TL_sle_t (hk := ?_) | refine TL_nil ?_ | refine TL_move (hk := ?_) | refine TL_load TE (hk := ?_) | refine TL_fieldAddr TE (hk := ?_) | refine TL_yes (hk := ?_) | refine TL_pick_t (hk := ?_) | refine TL_nilCheck (hk := ?_) | refine TL_build TE (hk := ?_))
            refine TL_storea TE (hk := ?_); intro wz mz sz kz
            repeat (first | refine TL_nil ?_ | refine TL_assign (hk := ?_))
            refine T_retA3 TE (vs := [.slice none 0 0, .slice none 0 0]) (o := 0) rfl rfl rfl rfl rfl rfl kz rfl (Nat.succ_pos _) ⟨.agg #[.slice none 0 0, .slice none 0 0], ?_, Mod.step I7.ext mz (by simp; omega), ?_⟩
            · rw [hF]; rfl
            · rw [hF]; exact FootO.nil _ _ _
          · have hr : gRise g = p.2 := by unfold gRise; rw [hgt, if_neg hle, hgk]
            repeat (first | refine T_seq ?_ | refine T_region ?_ | refine T_cond_false rfl ?_ | refine T_skip ?_ | refine TL_gt_t (hk := ?_) | refine TL_eq_t (hk := ?_) | refine TL_sle_f (hk := ?_) | refine TL_nil ?_ | refine TL_move (hk := ?_) | refine TL_load TE (hk := ?_) | refine TL_fieldAddr TE (hk := ?_) | refine TL_yes (hk := ?_) | refine TL_pick_t (hk := ?_) | refine TL_nilCheck (hk := ?_))
            exact T.sub (join () _ ⟨rfl, hr⟩) (.c rfl (.c rfl (.c rfl (.c rfl (.c rfl (.c rfl (.c rfl (.c rfl (.n)))))))))
        · have hlast : g.last = [] := by
            have : i = 0 := by omega
            rw [hg, this]
            rfl
          have hr : gRise g = p.2 := by
            unfold gRise
            rw [hgt, hgk, if_neg]
            intro hle
            rw [hlast] at hle
            have hne : p.1 = [] := by
              rcases (le_iff_lt_or p.1 []).1 hle with h | h
              · exact absurd h (List.not_lt_nil _)
              · exact h
            have := hval hpe
            rw [hne] at this
            exact absurd this (by decide)
          repeat (first | refine T_seq ?_ | refine T_region ?_ | refine T_cond_false rfl ?_ | refine T_skip ?_ | refine TL_gt_f (hk := ?_) | refine TL_eq_t (hk := ?_) | refine TL_nil ?_ | refine TL_move (hk := ?_) | refine TL_load TE (hk := ?_) | refine TL_fieldAddr TE (hk := ?_) | refine TL_yes (hk := ?_) | refine TL_no (hk := ?_) | refine TL_pick_t (hk := ?_) | refine TL_pick_f (hk := ?_) | refine TL_nilCheck (hk := ?_))
          exact T.sub (join () _ ⟨rfl, hr⟩) (.c rfl (.c rfl (.c rfl (.c rfl (.c rfl (.c rfl (.c rfl (.c rfl (.n)))))))))
      · have hr : gRise g = p.2 := by rw [gRise_err (by rw [hgt]; exact hpe), hgt]
        repeat (first | refine T_seq ?_ | refine T_region ?_ | refine T_cond_false rfl ?_ | refine T_skip ?_ | refine TL_eq_f (hk := ?_) | refine TL_nil ?_ | refine TL_move (hk := ?_) | refine TL_load TE (hk := ?_) | refine TL_fieldAddr TE (hk := ?_) | refine TL_no (hk := ?_) | refine TL_pick_f (hk := ?_) | refine TL_nilCheck (hk := ?_))
        exact T.sub (join () _ ⟨rfl, hr⟩) (.c rfl (.c rfl (.c rfl (.c rfl (.c rfl (.c rfl (.c rfl (.c rfl (.n)))))))))
    rintro _ w7 ⟨rfl, hgr⟩
    rw [← hgr] at I7
    repeat (first | refine T_seq ?_ | refine T_region ?_ | refine TL_nil ?_ | refine TL_move (hk := ?_) | refine TL_assign (hk := ?_))
    refine TL_call TE (hc := RByte_s bR _ A3 n3 c3 _ I7.rdr) (hk := ?_)
    rintro _ w10 ⟨rfl, m10, rr10⟩
    have I10 := I7.step m10 rr10
    obtain ⟨q, hq⟩ : ∃ q, (gRise g).take (0 : Nat) tByte = q := ⟨_, rfl⟩
    have hgu : gUse g = q := hq
    rw [hgu] at hu256
    rw [hq] at I10
    rw [hq]
    have hq0 : ¬ q.2.err = 0 → q.1 = 0 := fun h => by
      by_cases he : (gRise g).err = 0
      · rw [← hq] at h ⊢; exact take_err0 h he
      · rw [← hq, take_zero he]
    obtain ⟨u, hu⟩ : ∃ u, q.1 = u := ⟨_, rfl⟩
    rw [hu] at hu256 hq0 ⊢
    clear I7 rr10 kR7 k27
    have kR10 := I10.rdr.blk
    have k210 := k2m _ I10.mod
    repeat (first | refine TL_nil ?_ | refine TL_assign (hk := ?_))
    refine T_seq ?_
    refine T_join (ι := Unit) (fun _ => [(11, .int .u8 (u : Int)), (10, .string (ofL p.1)), (8, .string (ofL p.1)), (9, .int .i64 (i : Int)), (6, .int .i64 (n0 : Int)), (7, .pointer (some ⟨b6, 0, none⟩)), (5, ptr bR), (2, .pointer (some ⟨b2, 0, none⟩)), (0, .slice B nb cb)])
      (fun _ w' => w' = w10 ∧ gEnd g = q.2 ∧ u ≤ 3) (fun kk join => ?_) ?_
    · by_cases hqe : q.2.err = 0
      · by_cases hv : u < 1
        · have hs31 : (gStep g).s.err = 31 := by
            show (gEnd g).err = 31
            unfold gEnd
            rw [hgu, hu, if_pos (.inl hv)]
            exact fail_err hqe (by decide)
          have hF := hstepI hlt (by rw [hs31]; decide)
          rw [hs31] at hF
          repeat (first | refine T_seq ?_ | refine T_region ?_ | refine T_cond_true rfl ?_ | refine TL_lt_t (hk := ?_) | refine TL_eq_t (hk := ?_) | refine TL_nil ?_ | refine TL_move (hk := ?_) | refine TL_load TE (hk := ?_) | refine TL_fieldAddr TE (hk := ?_) | refine TL_yes (hk := ?_) | refine TL_no (hk := ?_) | refine TL_pick_t (hk := ?_) | refine TL_nilCheck (hk := ?_) | refine TL_build TE (hk := ?_))
          refine TL_storea TE (hk := ?_); intro wz mz sz kz
          repeat (first | refine TL_nil ?_ | refine TL_assign (hk := ?_))
          refine T_retA3 TE (vs := [.slice none 0 0, .slice none 0 0]) (o := 0) rfl rfl rfl rfl rfl rfl kz rfl (Nat.succ_pos _) ⟨.agg #[.slice none 0 0, .slice none 0 0], ?_, Mod.step I10.ext mz (by simp; omega), ?_⟩
          · rw [hF]; rfl
          · rw [hF]; exact FootO.nil _ _ _
        · by_cases hv3 : 3 < u
          · have hs31 : (gStep g).s.err = 31 := by
              show (gEnd g).err = 31
              unfold gEnd
              rw [hgu, hu, if_pos (.inr hv3)]
              exact fail_err hqe (by decide)
            have hF := hstepI hlt (by rw [hs31]; decide)
            rw [hs31] at hF
            repeat (first | refine T_seq ?_ | refine T_region ?_ | refine T_cond_true rfl ?_ | refine TL_lt_f (hk := ?_) | refine TL_gt_t (hk := ?_) | refine TL_eq_t (hk := ?_) | refine TL_nil ?_ | refine TL_move (hk := ?_) | refine TL_load TE (hk := ?_) | refine TL_fieldAddr TE (hk := ?_) | refine TL_yes (hk := ?_) | refine TL_pick_t (hk := ?_) | refine TL_pick_f (hk := ?_) | refine TL_nilCheck (hk := ?_) | refine TL_build TE (hk := ?_))
            refine TL_storea TE (hk := ?_); intro wz mz sz kz
            repeat (first | refine TL_nil ?_ | refine TL_assign (hk := ?_))
            refine T_retA3 TE (vs := [.slice none 0 0, .slice none 0 0]) (o := 0) rfl rfl rfl rfl rfl rfl kz rfl (Nat.succ_pos _) ⟨.agg #[.slice none 0 0, .slice none 0 0], ?_, Mod.step I10.ext mz (by simp; omega), ?_⟩
            · rw [hF]; rfl
            · rw [hF]; exact FootO.nil _ _ _
          · have hge : gEnd g = q.2 := by unfold gEnd; rw [hgu, hu, if_neg (by omega)]
            repeat (first | refine T_seq ?_ | refine T_region ?_ | refine T_cond_false rfl ?_ | refine T_skip ?_ | refine TL_lt_f (hk := ?_) | refine TL_gt_f (hk := ?_) | refine TL_eq_t (hk := ?_) | refine TL_nil ?_ | refine TL_move (hk := ?_) | refine TL_load TE (hk := ?_) | refine TL_fieldAddr TE (hk := ?_) | refine TL_yes (hk := ?_) | refine TL_pick_t (hk := ?_) | refine TL_pick_f (hk := ?_) | refine TL_nilCheck (hk := ?_))
            exact T.sub (join () _ ⟨rfl, hge, by omega⟩) (.c rfl (.c rfl (.c rfl (.c rfl (.c rfl (.c rfl (.c rfl (.c rfl (.c rfl (.n))))))))))
      · have hu0 := hq0 hqe
        have hge : gEnd g = q.2 := by rw [gEnd_of_use (by rw [hgu]; exact hqe), hgu]
        repeat (first | refine T_seq ?_ | refine T_region ?_ | refine T_cond_false rfl ?_ | refine T_skip ?_ | refine TL_eq_f (hk := ?_) | refine TL_nil ?_ | refine TL_move (hk := ?_) | refine TL_load TE (hk := ?_) | refine TL_fieldAddr TE (hk := ?_) | refine TL_no (hk := ?_) | refine TL_pick_f (hk := ?_) | refine TL_nilCheck (hk := ?_))
        exact T.sub (join () _ ⟨rfl, hge, by omega⟩) (.c rfl (.c rfl (.c rfl (.c rfl (.c rfl (.c rfl (.c rfl (.c rfl (.c rfl (.n))))))))))
    rintro _ w10 ⟨rfl, hge, hu3⟩
    have I11 := I10
    rw [← hge] at I11
    clear I10 kR10 k210
    repeat (first | refine T_seq ?_ | refine T_region ?_ | refine TL_rem (hk := ?_) | refine TL_move (hk := ?_))
    refine TL_eq_d (hk := ?_)
    repeat (refine TL_nil ?_)
    refine T_join (ι := Option Addr × Nat × Nat) (fun _ => [(11, .int .u8 (u : Int)), (10, .string (ofL p.1)), (8, .string (ofL p.1)), (9, .int .i64 (i : Int)), (6, .int .i64 (n0 : Int)), (7, .pointer (some ⟨b6, 0, none⟩)), (5, ptr bR), (2, .pointer (some ⟨b2, 0, none⟩)), (0, .slice B nb cb)])
      (fun x' w' => GInv 117 w w5 w' bR b6 (gEnd g) A3 n3 c3 x' y (if u &&& 1 = 0 then g.rd else g.rd ++ [p.1]) g.wr ∧ x'.2.1 ≤ i + 1) (fun kk join => ?_) ?_
    · by_cases hv : u &&& 1 = 0
      · rw [if_pos hv] at join
        rw [show decide (((u : Nat) : Int) % 2 = 1) = false from decide_eq_false (by rw [and1'] at hv; omega)]
        repeat (first | refine T_cond_false rfl ?_ | refine T_skip ?_)
        exact T.sub (join x _ ⟨I11, by omega⟩) (.c rfl (.c rfl (.c rfl (.c rfl (.c rfl (.c rfl (.c rfl (.c rfl (.c rfl (.n))))))))))
      · rw [if_neg hv] at join
        rw [show decide (((u : Nat) : Int) % 2 = 1) = true from decide_eq_true (by rw [and1'] at hv; omega)]
        have k6 := I11.blk
        have o1 := I11.own1
        repeat (first | refine T_region ?_ | refine T_cond_true rfl ?_ | refine TL_move (hk := ?_) | refine TL_load TE (hk := ?_) | refine TL_fieldAddr TE (hk := ?_))
        refine TL_buildSlice TE (hk := ?_); intro b12 w12 e12 h12 h12' k12
        replace k12 : Blk w12 b12 9 [.string (ofL p.1)] := k12
        have z12 := e12.size
        have o12 := o1.be e12
        have z11 := I11.mod.size
        refine TL_append TE (hk := ?_); intro A13 c13 w13 o13 m13 n13
        have J12 := I11.ext2 e12
        have h65 := I11.h65
        have hRR := I11.hR5
        have hne := I11.hne
        have h6 := I11.h6
        have z13 := m13.size
        have k13 := J12.blk.mod m13 (hi_not o12.hi h65)
        have rr13 := J12.rdr.mod m13 (hi_not o12.hi hRR) (Off.lohi J12.hA o12.hi)
        have own2 := J12.own2.mod m13 J12.off1
        have e13 : Ext w w13 := J12.ext.own m13 (Hi.mono o12.hi (by have := e05.size; omega))
        have mm13 : Eng.Mod [bR, b6] w5 w13 := Mod.step J12.mod m13 (fun z hz => .inr (by
          cases hx : x.1 with
          | none => rw [hx] at hz; simp [blkL] at hz
          | some ad => rw [hx] at hz; simp [blkL] at hz; rw [hz]; exact o12.hi ad hx))
        have noff : Off y.1 (blkL A13) := by
          intro ad had hm
          cases A13 with
          | none => simp [blkL] at hm
          | some a2 =>
            simp [blkL] at hm
            rcases n13 a2 rfl with h | h
            · exact J12.off1 ad had (by rw [h]; simp [blkL, hm])
            · have := J12.own2.lo ad had; omega
        have noff2 : Off A13 (blkL y.1) := by
          intro ad had hm
          cases hy : y.1 with
          | none => rw [hy] at hm; simp [blkL] at hm
          | some a2 =>
            rw [hy] at hm
            simp [blkL] at hm
            rcases n13 ad had with h | h
            · exact J12.off2 ad h (by rw [hy]; simp [blkL, hm])
            · have := J12.own2.lo a2 hy; omega
        clear k6 o1 k12 I11
        repeat (refine TL_fieldAddr TE (hk := ?_))
        refine TL_store TE (hk := ?_); intro w14 m14 z14 k14
        repeat (refine TL_nil ?_)
        refine T.sub (join (A13, x.2.1 + 1, c13) _ ⟨⟨Mod.step e13 m14 (by simp; omega), Mod.step mm13 m14 (by simp), rr13.mod m14 (by simp; omega) J12.hA6, k14, ?_, own2.mod m14 (Off.hi own2.hi (by omega)), noff, noff2, J12.hR, J12.hR5, J12.h6, J12.h65, J12.hne, J12.hA, J12.hA6⟩, by show x.2.1 + 1 ≤ i + 1; omega⟩) (.c rfl (.c rfl (.c rfl (.c rfl (.c rfl (.c rfl (.c rfl (.c rfl (.c rfl (.n))))))))))
        rw [sv_append]
        exact o13.mod m14 (Off.hi o13.hi (by omega))
    rintro x' w12 ⟨I12, hnx⟩
    obtain ⟨rd', hrd⟩ : ∃ rd', (if u &&& 1 = 0 then g.rd else g.rd ++ [p.1]) = rd' := ⟨_, rfl⟩
    rw [hrd] at I12
    repeat (first | refine T_seq ?_ | refine T_region ?_ | refine TL_move (hk := ?_))
    refine TL_ge_d (hk := ?_)
    repeat (refine TL_nil ?_)
    refine T_join (ι := Option Addr × Nat × Nat) (fun _ => [(11, .int .u8 (u : Int)), (10, .string (ofL p.1)), (8, .string (ofL p.1)), (9, .int .i64 (i : Int)), (6, .int .i64 (n0 : Int)), (7, .pointer (some ⟨b6, 0, none⟩)), (5, ptr bR), (2, .pointer (some ⟨b2, 0, none⟩)), (0, .slice B nb cb)])
      (fun y' w' => GInv 117 w w5 w' bR b6 (gEnd g) A3 n3 c3 x' y' rd' (if u &&& 2 = 0 then g.wr else g.wr ++ [p.1]) ∧ y'.2.1 ≤ i + 1) (fun kk join => ?_) ?_
    · by_cases hv : u &&& 2 = 0
      · rw [if_pos hv] at join
        rw [show decide ((2 : Int) ≤ ((u : Nat) : Int)) = false from decide_eq_false (by have := and2' u hu3; omega)]
        repeat (first | refine T_cond_false rfl ?_ | refine T_skip ?_)
        exact T.sub (join y _ ⟨I12, by omega⟩) (.c rfl (.c rfl (.c rfl (.c rfl (.c rfl (.c rfl (.c rfl (.c rfl (.c rfl (.n))))))))))
      · rw [if_neg hv] at join
        rw [show decide ((2 : Int) ≤ ((u : Nat) : Int)) = true from decide_eq_true (by have := and2' u hu3; omega)]
        have k6 := I12.blk
        have o1 := I12.own2
        repeat (first | refine T_region ?_ | refine T_cond_true rfl ?_ | refine TL_move (hk := ?_) | refine TL_load TE (hk := ?_) | refine TL_fieldAddr TE (hk := ?_))
        refine TL_buildSlice TE (hk := ?_); intro b12 w12 e12 h12 h12' k12
        replace k12 : Blk w12 b12 9 [.string (ofL p.1)] := k12
        have z12 := e12.size
        have o12 := o1.be e12
        have z11 := I12.mod.size
        refine TL_append TE (hk := ?_); intro A13 c13 w13 o13 m13 n13
        have J12 := I12.ext2 e12
        have h65 := I12.h65
        have hRR := I12.hR5
        have hne := I12.hne
        have h6 := I12.h6
        have z13 := m13.size
        have k13 := J12.blk.mod m13 (hi_not o12.hi h65)
        have rr13 := J12.rdr.mod m13 (hi_not o12.hi hRR) (Off.lohi J12.hA o12.hi)
        have own1 := J12.own1.mod m13 J12.off2
        have e13 : Ext w w13 := J12.ext.own m13 (Hi.mono o12.hi (by have := e05.size; omega))
        have mm13 : Eng.Mod [bR, b6] w5 w13 := Mod.step J12.mod m13 (fun z hz => .inr (by
          cases hx : y.1 with
          | none => rw [hx] at hz; simp [blkL] at hz
          | some ad => rw [hx] at hz; simp [blkL] at hz; rw [hz]; exact o12.hi ad hx))
        have noff : Off x'.1 (blkL A13) := by
          intro ad had hm
          cases A13 with
          | none => simp [blkL] at hm
          | some a2 =>
            simp [blkL] at hm
            rcases n13 a2 rfl with h | h
            · exact J12.off2 ad had (by rw [h]; simp [blkL, hm])
            · have := J12.own1.lo ad had; omega
        have noff2 : Off A13 (blkL x'.1) := by
          intro ad had hm
          cases hy : x'.1 with
          | none => rw [hy] at hm; simp [blkL] at hm
          | some a2 =>
            rw [hy] at hm
            simp [blkL] at hm
            rcases n13 ad had with h | h
            · exact J12.off1 ad h (by rw [hy]; simp [blkL, hm])
            · have := J12.own1.lo a2 hy; omega
        clear k6 o1 k12 I12
        repeat (refine TL_fieldAddr TE (hk := ?_))
        refine TL_store TE (hk := ?_); intro w14 m14 z14 k14
        repeat (refine TL_nil ?_)
        refine T.sub (join (A13, y.2.1 + 1, c13) _ ⟨⟨Mod.step e13 m14 (by simp; omega), Mod.step mm13 m14 (by simp), rr13.mod m14 (by simp; omega) J12.hA6, k14, own1.mod m14 (Off.hi own1.hi (by omega)), ?_, noff2, noff, J12.hR, J12.hR5, J12.h6, J12.h65, J12.hne, J12.hA, J12.hA6⟩, by show y.2.1 + 1 ≤ i + 1; omega⟩) (.c rfl (.c rfl (.c rfl (.c rfl (.c rfl (.c rfl (.c rfl (.c rfl (.c rfl (.n))))))))))
        rw [sv_append]
        exact o13.mod m14 (Off.hi o13.hi (by omega))
    rintro y' w13 ⟨I13, hny⟩
    obtain ⟨wr', hwr⟩ : ∃ wr', (if u &&& 2 = 0 then g.wr else g.wr ++ [p.1]) = wr' := ⟨_, rfl⟩
    rw [hwr] at I13
    have hstep : gStep g = ⟨gEnd g, p.1, rd', wr'⟩ := by unfold gStep; rw [hgt, hgu, hu, hrd, hwr]
    repeat (first | refine T_region ?_ | refine T_inBlock ?_ | refine TL_add (hk := ?_) | refine TL_nil ?_ | refine TL_move (hk := ?_) | refine TL_assign (hk := ?_))
    refine ih ((⟨gEnd g, p.1, rd', wr'⟩, i + 1), x', y') _ _ (by simp only; omega) ⟨by show i + 1 ≤ n0; omega, ?_, I13, hnx, hny⟩ (.c rfl (.c rfl (.c rfl (.c rfl (.c rfl (.c rfl (.c rfl (.n))))))))
    show _ = gStep (gIter i _)
    rw [← hg, hstep]
  · have k26 := k2m _ I6.mod
    by_cases he : g.s.err = 0
    · have hin : i = n0 := by omega
      have hall : gAll b = g := by unfold gAll; rw [hgi, hn0, ← hin]; exact hg.symm
      have hrest : b.length - g.s.rest = g.s.pos := by
        have h1 := I6.rdr.len
        have h2 := I6.rdr.pos
        unfold RS.rest
        rw [if_pos he]
        omega
      have hf : getF b = (((g.rd, g.wr), g.s.pos), 0) := by unfold getF; rw [hall, if_pos he, hrest]
      rw [hf]
      repeat (first | refine T_seq ?_ | refine T_region ?_ | refine T_cond_false rfl ?_ | refine T_skip ?_ | refine T_exit rfl ?_ | refine TL_lt_f (hk := ?_) | refine TL_ne_f (hk := ?_) | refine TL_nil ?_ | refine TL_move (hk := ?_) | refine TL_load TE (hk := ?_) | refine TL_fieldAddr TE (hk := ?_) | refine TL_no (hk := ?_) | refine TL_pick_f (hk := ?_) | refine TL_nilCheck (hk := ?_))
      refine T_region_any TE.mixed [b2] ?_; intro w8 e8 z8
      have I8 := I6.ext2 e8
      have k28 := k26.ext e8
      have z6 := I6.mod.size
      have h62 : b6 ∉ [b2] := by simp; omega
      have hR2 : bR ∉ [b2] := by simp; omega
      have kR8 := I8.rdr.blk
      refine TA_take 0 rfl (by kernel_rfl) (by kernel_rfl) (by kernel_rfl) ?_
      refine TLP_loadb TE (cs := [.slice x.1 x.2.1 x.2.2, .slice y.1 y.2.1 y.2.2]) (o := 0) (hb := I8.blk) (hD := h62) (hk := ?_)
      refine TL_nil_p ?_
      (refine TA_take 1 rfl (by kernel_rfl) (by kernel_rfl) (by kernel_rfl) ?_; (repeat (first | refine TL_move (hk := ?_) | refine TLP_load TE (hk := ?_) | refine TL_fieldAddr TE (hk := ?_) | refine TL_nilCheck (hk := ?_))); refine TL_nil_p ?_); (refine TA_take 2 rfl (by kernel_rfl) (by kernel_rfl) (by kernel_rfl) ?_; (repeat (first | refine TL_move (hk := ?_) | refine TLP_load TE (hk := ?_) | refine TL_fieldAddr TE (hk := ?_) | refine TL_nilCheck (hk := ?_))); refine TL_nil_p ?_); (refine TA_take 3 rfl (by kernel_rfl) (by kernel_rfl) (by kernel_rfl) ?_; (repeat (first | refine TL_move (hk := ?_) | refine TLP_load TE (hk := ?_) | refine TL_fieldAddr TE (hk := ?_) | refine TL_nilCheck (hk := ?_))); refine TL_nil_p ?_); (refine TA_take 4 rfl (by kernel_rfl) (by kernel_rfl) (by kernel_rfl) ?_; (repeat (first | refine TL_move (hk := ?_) | refine TLP_load TE (hk := ?_) | refine TL_fieldAddr TE (hk := ?_) | refine TL_nilCheck (hk := ?_))); refine TL_nil_p ?_)
      refine TA_one 5 rfl (by kernel_rfl) (by kernel_rfl) ?_
      refine TL_storea TE (hf := rfl) (hq := fun w' h _ => h) (hk := ?_); intro w10 m10 z10 k10
      refine TL_nil_p ?_
      (refine TA_take 6 rfl (by kernel_rfl) (by kernel_rfl) (by kernel_rfl) ?_; (repeat (refine TL_assign (hk := ?_))); refine TL_nil_p ?_); (refine TA_take 7 rfl (by kernel_rfl) (by kernel_rfl) (by kernel_rfl) ?_; (repeat (refine TL_assign (hk := ?_))); refine TL_nil_p ?_)
      refine TA_done (by kernel_rfl) ?_
      --
      refine T_retA3 TE (vs := [.slice x.1 x.2.1 x.2.2, .slice y.1 y.2.1 y.2.2]) (o := 0) rfl rfl rfl rfl rfl rfl k10 rfl (Nat.succ_pos _) ⟨.agg #[.slice x.1 x.2.1 x.2.2, .slice y.1 y.2.1 y.2.2], rfl, Mod.step I8.ext m10 (by simp; omega), x.1, x.2.1, x.2.2, y.1, y.2.1, y.2.2, rfl, ?_, ?_, I8.off1⟩
      · exact (I8.own1.mod m10 (Off.hi I8.own1.hi (by omega))).weaken (by have := e05.size; omega)
      · exact (I8.own2.mod m10 (Off.hi I8.own2.hi (by omega))).weaken (by have := e05.size; omega)
    · have hf : getF b = ((([], []), 0), g.s.err) := by
        have e : g = gIter i ⟨(gInit b).2, [], [], []⟩ := by rw [hgi]; exact hg
        have h2 := he
        rw [e] at h2 ⊢
        exact getF_err (by rw [hgi, hn0]; exact hi) h2
      rw [hf]
      have z6 := I6.mod.size
      by_cases hlt : i < n0
      · repeat (first | refine T_seq ?_ | refine T_region ?_ | refine T_cond_true rfl ?_ | refine T_cond_false rfl ?_ | refine T_exit rfl ?_ | refine TL_lt_t (hk := ?_) | refine TL_eq_f (hk := ?_) | refine TL_ne_t (hk := ?_) | refine TL_nil ?_ | refine TL_move (hk := ?_) | refine TL_load TE (hk := ?_) | refine TL_fieldAddr TE (hk := ?_) | refine TL_yes (hk := ?_) | refine TL_pick_t (hk := ?_) | refine TL_nilCheck (hk := ?_))
        refine T_region_any TE.mixed [b2] ?_; intro w8 e8 z8
        have I8 := I6.ext2 e8
        have k28 := k26.ext e8
        have hR2 : bR ∉ [b2] := by simp; omega
        have kR8 := I8.rdr.blk
        (refine TA_take 0 rfl (by kernel_rfl) (by kernel_rfl) (by kernel_rfl) ?_; (repeat (first | refine TL_move (hk := ?_) | refine TLP_load TE (hk := ?_) | refine TL_fieldAddr TE (hk := ?_) | refine TL_nilCheck (hk := ?_) | refine TL_build TE (hk := ?_))); refine TL_nil_p ?_); (refine TA_take 1 rfl (by kernel_rfl) (by kernel_rfl) (by kernel_rfl) ?_; (repeat (first | refine TL_move (hk := ?_) | refine TLP_load TE (hk := ?_) | refine TL_fieldAddr TE (hk := ?_) | refine TL_nilCheck (hk := ?_) | refine TL_build TE (hk := ?_))); refine TL_nil_p ?_); (refine TA_take 2 rfl (by kernel_rfl) (by kernel_rfl) (by kernel_rfl) ?_; (repeat (first | refine TL_move (hk := ?_) | refine TLP_load TE (hk := ?_) | refine TL_fieldAddr TE (hk := ?_) | refine TL_nilCheck (hk := ?_) | refine TL_build TE (hk := ?_))); refine TL_nil_p ?_); (refine TA_take 3 rfl (by kernel_rfl) (by kernel_rfl) (by kernel_rfl) ?_; (repeat (first | refine TL_move (hk := ?_) | refine TLP_load TE (hk := ?_) | refine TL_fieldAddr TE (hk := ?_) | refine TL_nilCheck (hk := ?_) | refine TL_build TE (hk := ?_))); refine TL_nil_p ?_); (refine TA_take 4 rfl (by kernel_rfl) (by kernel_rfl) (by kernel_rfl) ?_; (repeat (first | refine TL_move (hk := ?_) | refine TLP_load TE (hk := ?_) | refine TL_fieldAddr TE (hk := ?_) | refine TL_nilCheck (hk := ?_) | refine TL_build TE (hk := ?_))); refine TL_nil_p ?_)
        refine TA_one 5 rfl (by kernel_rfl) (by kernel_rfl) ?_
        refine TL_storea TE (hf := rfl) (hq := fun w' h _ => h) (hk := ?_); intro w10 m10 z10 k10
        refine TL_nil_p ?_
        (refine TA_take 6 rfl (by kernel_rfl) (by kernel_rfl) (by kernel_rfl) ?_; (repeat (refine TL_assign (hk := ?_))); refine TL_nil_p ?_); (refine TA_take 7 rfl (by kernel_rfl) (by kernel_rfl) (by kernel_rfl) ?_; (repeat (refine TL_assign (hk := ?_))); refine TL_nil_p ?_)
        refine TA_done (by kernel_rfl) ?_
        --
        exact T_retA3 TE (vs := [.slice none 0 0, .slice none 0 0]) (o := 0) rfl rfl rfl rfl rfl rfl k10 rfl (Nat.succ_pos _) ⟨.agg #[.slice none 0 0, .slice none 0 0], rfl, Mod.step I8.ext m10 (by simp; omega), FootO.nil _ _ _⟩
      · repeat (first | refine T_seq ?_ | refine T_region ?_ | refine T_cond_true rfl ?_ | refine T_cond_false rfl ?_ | refine T_exit rfl ?_ | refine TL_lt_f (hk := ?_) | refine TL_ne_t (hk := ?_) | refine TL_nil ?_ | refine TL_move (hk := ?_) | refine TL_load TE (hk := ?_) | refine TL_fieldAddr TE (hk := ?_) | refine TL_no (hk := ?_) | refine TL_pick_f (hk := ?_) | refine TL_nilCheck (hk := ?_))
        refine T_region_any TE.mixed [b2] ?_; intro w8 e8 z8
        have I8 := I6.ext2 e8
        have k28 := k26.ext e8
        have hR2 : bR ∉ [b2] := by simp; omega
        have kR8 := I8.rdr.blk
        (refine TA_take 0 rfl (by kernel_rfl) (by kernel_rfl) (by kernel_rfl) ?_; (repeat (first | refine TL_move (hk := ?_) | refine TLP_load TE (hk := ?_) | refine TL_fieldAddr TE (hk := ?_) | refine TL_nilCheck (hk := ?_) | refine TL_build TE (hk := ?_))); refine TL_nil_p ?_); (refine TA_take 1 rfl (by kernel_rfl) (by kernel_rfl) (by kernel_rfl) ?_; (repeat (first | refine TL_move (hk := ?_) | refine TLP_load TE (hk := ?_) | refine TL_fieldAddr TE (hk := ?_) | refine TL_nilCheck (hk := ?_) | refine TL_build TE (hk := ?_))); refine TL_nil_p ?_); (refine TA_take 2 rfl (by kernel_rfl) (by kernel_rfl) (by kernel_rfl) ?_; (repeat (first | refine TL_move (hk := ?_) | refine TLP_load TE (hk := ?_) | refine TL_fieldAddr TE (hk := ?_) | refine TL_nilCheck (hk := ?_) | refine TL_build TE (hk := ?_))); refine TL_nil_p ?_); (refine TA_take 3 rfl (by kernel_rfl) (by kernel_rfl) (by kernel_rfl) ?_; (repeat (first | refine TL_move (hk := ?_) | refine TLP_load TE (hk := ?_) | refine TL_fieldAddr TE (hk := ?_) | refine TL_nilCheck (hk := ?_) | refine TL_build TE (hk := ?_))); refine TL_nil_p ?_); (refine TA_take 4 rfl (by kernel_rfl) (by kernel_rfl) (by kernel_rfl) ?_; (repeat (first | refine TL_move (hk := ?_) | refine TLP_load TE (hk := ?_) | refine TL_fieldAddr TE (hk := ?_) | refine TL_nilCheck (hk := ?_) | refine TL_build TE (hk := ?_))); refine TL_nil_p ?_)
        refine TA_one 5 rfl (by kernel_rfl) (by kernel_rfl) ?_
        refine TL_storea TE (hf := rfl) (hq := fun w' h _ => h) (hk := ?_); intro w10 m10 z10 k10
        refine TL_nil_p ?_
        (refine TA_take 6 rfl (by kernel_rfl) (by kernel_rfl) (by kernel_rfl) ?_; (repeat (refine TL_assign (hk := ?_))); refine TL_nil_p ?_); (refine TA_take 7 rfl (by kernel_rfl) (by kernel_rfl) (by kernel_rfl) ?_; (repeat (refine TL_assign (hk := ?_))); refine TL_nil_p ?_)
        refine TA_done (by kernel_rfl) ?_
        --
        exact T_retA3 TE (vs := [.slice none 0 0, .slice none 0 0]) (o := 0) rfl rfl rfl rfl rfl rfl k10 rfl (Nat.succ_pos _) ⟨.agg #[.slice none 0 0, .slice none 0 0], rfl, Mod.step I8.ext m10 (by simp; omega), FootO.nil _ _ _⟩
end Go.Proofs.YtjlaomcankmdjaaGreat

namespace Go.Proofs.YtjlaomcankmdjaaGreat
open Go.RowKit Go.Proofs.Eng Go.Proofs.Codec Go.Proofs.Foot Go.Proofs.Journal
set_option linter.unusedVariables false set_option maxRecDepth 10000
attribute [local irreducible] T TL LV TH TA
set_option maxHeartbeats 3200000
theorem putV_1 {v : VE} (hg : givenB v = true) : v.kd = 1 ∧ v.t = [] ∧ putV [] v = 1 :: encU (zig v.n) ∨ v.kd = 2 ∧ v.n = 0 ∧ v.t.length ≤ 64 ∧ putV [] v = 2 :: (encU v.t.length ++ v.t) := by
  unfold givenB at hg
  rw [Bool.and_eq_true, decide_eq_true_eq] at hg
  obtain ⟨g1, g2⟩ := hg
  have g1' := g1
  unfold validV at g1
  rw [if_neg g2] at g1
  split at g1
  · rename_i q
    rw [decide_eq_true_eq] at g1
    left
    refine ⟨q, g1, ?_⟩
    unfold putV
    rw [if_neg (by rw [g1']; decide), if_pos q]
    rfl
  · rename_i q
    split at g1
    · rename_i q2
      rw [Bool.and_eq_true, decide_eq_true_eq] at g1
      right
      refine ⟨q2, g1.1.1, g1.1.2, ?_⟩
      unfold putV
      rw [if_neg (by rw [g1']; decide), if_neg q, if_pos q2]
      rfl
    · cases g1
theorem rtake_c (b : Nat) (s : RS) (A : Option Addr) (n c : Nat) (v : VE) (B r : List UInt8) (w : World) (h : Rdr w 117 b s A n c) (hL : Lf s B (putV [] v ++ r)) (hg : givenB v = true) (hf : VFit v) :
    Ret Tryz.prog 103 [ptr b] w (fun u w' => u = vA v ∧ ∃ s', Rdr w' 117 b s' A n c ∧ Lf s' B r ∧ Eng.Mod [b] w w') := by
  have hbl := h.blk.lt
  have hp1 := putV_1 hg
  have hvn := hf.n
  have hg2 := hg
  unfold givenB at hg2
  rw [Bool.and_eq_true] at hg2
  have hv := hg2.1
  clear hg2 hg hf
  obtain ⟨kd, i, t⟩ := v
  simp only at hvn
  have hn0 : 0 < n := by
    have h1 := congrArg List.length hL.2.2
    have h2 := h.len
    rw [List.length_drop, List.length_append] at h1
    rcases hp1 with ⟨_, _, q⟩ | ⟨_, _, _, q⟩ <;> rw [q, List.length_cons] at h1 <;> omega
  have hAl := h.rd.lo hn0
  refine ret_T (n := 42) Tryz.func103 rfl rfl ?_
  repeat (first | refine T_seq ?_ | refine T_region ?_)
  refine TL_alloc TE (hk := ?_); intro b2 w2 e2 h2 h2' k2
  repeat (first | refine T_seq ?_ | refine T_region ?_ | refine TL_nil ?_ | refine TL_move (hk := ?_))
  refine TL_call TE (hc := RByte_c b s A n c w2 (h.ext e2)) (hk := ?_)
  rintro _ w3 ⟨rfl, m3, h3⟩
  have k23 := k2.mod m3 (by simp; omega)
  have z2 := e2.size
  have z3 := m3.size
  have M3 : Eng.Mod [b] w w3 := (Ext.mod e2).trans m3
  clear k2
  rcases hp1 with ⟨g1, g2, g3⟩ | ⟨g1, g2, g3, g4⟩
  · simp only at g1 g2 g3
    subst g1 g2
    rw [g3, List.cons_append] at hL
    obtain ⟨s1, q1, L1⟩ := hL.byte
    obtain ⟨s2, q2, L2⟩ := L1.int hvn
    rw [q1] at h3 ⊢
    simp only at h3 ⊢
    have c1 : ((1 : UInt8).toNat : Int) = 1 := rfl
    rw [c1]
    repeat (first | refine T_seq ?_ | refine T_region ?_ | refine TL_nil ?_ | refine TL_assign (hk := ?_) | refine TL_build TE (hk := ?_))
    refine TL_alloc TE (hk := ?_); intro b4 w4 e4 h4 h4' k4
    --
    refine TL_storea TE (hk := ?_); intro w5 m5 z5 k5
    have z4 := e4.size
    have e35 : Ext w3 w5 := e4.step m5 (fun u hu => .inr (by rw [List.mem_singleton.1 hu]; omega))
    have h5 := h3.ext e35
    have k25 := k23.be e35
    have M5 : Eng.Mod [b] w w5 := M3.step e35 (fun u hu => by cases hu)
    clear k23
    repeat (first | refine T_seq ?_ | refine T_region ?_ | refine T_cond_true rfl ?_ | refine T_cond_false rfl ?_ | refine T_block ?_ | refine TL_eq_t (hk := ?_) | refine TL_eq_f (hk := ?_) | refine TL_nil ?_ | refine TL_move (hk := ?_) | refine TL_assign (hk := ?_))
    refine TL_call TE (hc := RInt_c b s1 A n c w5 h5) (hk := ?_)
    rintro _ w6 ⟨rfl, m6, h6⟩
    rw [q2] at h6 ⊢
    simp only at h6 ⊢
    have k26 := k25.mod m6 (by simp; omega)
    have k56 := k5.mod m6 (by simp; omega)
    have M6 := M5.trans m6
    clear k25 k5
    --
    refine TL_call TE (hc := rOf_c i w6) (hk := ?_)
    rintro _ w7 ⟨rfl, e7⟩
    have k27 := k26.be e7
    have k57 := k56.be e7
    have h7 := h6.ext e7
    have z6 := m6.size
    have z7 := e7.size
    have M7 : Eng.Mod [b] w w7 := M6.step e7 (fun u hu => by cases hu)
    clear k26 k56
    --
    refine TL_storea TE (hk := ?_); intro w8 m8 z8 k48
    replace k48 : Blk w8 b4 161 [.int .i64 1, .int .i64 i, .string (ofL [])] := k48
    have k28 := k27.mod m8 (by simp; omega)
    have h8 := h7.mod m8 (by simp; omega) (Off.lo hAl (by omega))
    have M8 : Eng.Mod [b] w w8 := M7.step m8 (fun u hu => .inr (by rw [List.mem_singleton.1 hu]; omega))
    clear k27 k57
    have kb8 := h8.blk
    rw [L2.1] at kb8
    repeat (first | refine T_seq ?_ | refine T_region ?_ | refine T_cond_false rfl ?_ | refine T_inBlock ?_ | refine T_skip ?_ | refine TL_ne_f (hk := ?_) | refine TL_nil ?_ | refine TL_move (hk := ?_) | refine TL_load TE (hk := ?_) | refine TL_fieldAddr TE (hk := ?_) | refine TL_nilCheck (hk := ?_))
    refine TL_loadb TE (cs := [.int .i64 1, .int .i64 i, .string (ofL [])]) (o := 0) rfl rfl k48 rfl rfl (Nat.succ_pos _) (hk := ?_)
    --
    refine TL_storea TE (hk := ?_); intro w20 m20 z20 k20
    replace k20 : Blk w20 b2 161 [.int .i64 1, .int .i64 i, .string (ofL [])] := k20
    have h20 := h8.mod m20 (by simp; omega) (Off.lo hAl (by omega))
    repeat (refine TL_nil ?_)
    exact T_retA1 TE (vs := [.int .i64 1, .int .i64 i, .string (ofL [])]) (o := 0) rfl rfl rfl rfl k20 rfl (Nat.succ_pos _) ⟨rfl, s2, h20, L2, M8.step m20 (fun u hu => .inr (by rw [List.mem_singleton.1 hu]; omega))⟩
  · simp only at g1 g2 g3 g4
    subst g1 g2
    rw [g4, List.cons_append, List.append_assoc] at hL
    obtain ⟨s1, q1, L1⟩ := hL.byte
    obtain ⟨s2, q2, L2⟩ := L1.text (most := 64) (by omega) (by omega)
    rw [q1] at h3 ⊢
    simp only at h3 ⊢
    have c1 : ((2 : UInt8).toNat : Int) = 2 := rfl
    rw [c1]
    repeat (first | refine T_seq ?_ | refine T_region ?_ | refine TL_nil ?_ | refine TL_assign (hk := ?_) | refine TL_build TE (hk := ?_))
    refine TL_alloc TE (hk := ?_); intro b4 w4 e4 h4 h4' k4
    --
    refine TL_storea TE (hk := ?_); intro w5 m5 z5 k5
    have z4 := e4.size
    have e35 : Ext w3 w5 := e4.step m5 (fun u hu => .inr (by rw [List.mem_singleton.1 hu]; omega))
    have h5 := h3.ext e35
    have k25 := k23.be e35
    have M5 : Eng.Mod [b] w w5 := M3.step e35 (fun u hu => by cases hu)
    clear k23
    repeat (first | refine T_seq ?_ | refine T_region ?_ | refine T_cond_true rfl ?_ | refine T_cond_false rfl ?_ | refine T_block ?_ | refine TL_eq_t (hk := ?_) | refine TL_eq_f (hk := ?_) | refine TL_nil ?_ | refine TL_move (hk := ?_) | refine TL_assign (hk := ?_))
    refine TL_call TE (hc := RText_c b s1 A n c 64 (by decide) w5 h5) (hk := ?_)
    rintro _ w6 ⟨rfl, m6, h6⟩
    rw [q2] at h6 ⊢
    simp only at h6 ⊢
    have k26 := k25.mod m6 (by simp; omega)
    have k56 := k5.mod m6 (by simp; omega)
    have M6 := M5.trans m6
    clear k25 k5
    --
    refine TL_call TE (hc := rWord_c t w6) (hk := ?_)
    rintro _ w7 ⟨rfl, e7⟩
    have k27 := k26.be e7
    have k57 := k56.be e7
    have h7 := h6.ext e7
    have z6 := m6.size
    have z7 := e7.size
    have M7 : Eng.Mod [b] w w7 := M6.step e7 (fun u hu => by cases hu)
    clear k26 k56
    --
    refine TL_storea TE (hk := ?_); intro w8 m8 z8 k48
    replace k48 : Blk w8 b4 161 [.int .i64 2, .int .i64 0, .string (ofL t)] := k48
    have k28 := k27.mod m8 (by simp; omega)
    have h8 := h7.mod m8 (by simp; omega) (Off.lo hAl (by omega))
    have M8 : Eng.Mod [b] w w8 := M7.step m8 (fun u hu => .inr (by rw [List.mem_singleton.1 hu]; omega))
    clear k27 k57
    have kb8 := h8.blk
    rw [L2.1] at kb8
    repeat (first | refine T_seq ?_ | refine T_region ?_ | refine TL_eq_t (hk := ?_) | refine TL_nil ?_ | refine TL_move (hk := ?_) | refine TL_load TE (hk := ?_) | refine TL_fieldAddr TE (hk := ?_) | refine TL_yes (hk := ?_) | refine TL_nilCheck (hk := ?_))
    refine TL_loadb TE (cs := [.int .i64 2, .int .i64 0, .string (ofL t)]) (o := 0) rfl rfl k48 rfl rfl (Nat.succ_pos _) (hk := ?_)
    repeat (refine TL_yes (hk := ?_))
    refine TL_call TE (hc := rvalid_c ⟨2, 0, t⟩ hv w8) (hk := ?_)
    rintro _ w9 ⟨rfl, e9⟩
    have k49 := k48.be e9
    have k29 := k28.be e9
    have h9 := h8.ext e9
    have z8' := e9.size
    have M9 : Eng.Mod [b] w w9 := M8.step e9 (fun u hu => by cases hu)
    clear kb8 k48 k28
    have kb9 := h9.blk
    rw [L2.1] at kb9
    repeat (first | refine T_seq ?_ | refine T_region ?_ | refine T_cond_false rfl ?_ | refine T_inBlock ?_ | refine T_skip ?_ | refine TL_ne_f (hk := ?_) | refine TL_nil ?_ | refine TL_move (hk := ?_) | refine TL_load TE (hk := ?_) | refine TL_fieldAddr TE (hk := ?_) | refine TL_yes (hk := ?_) | refine TL_pick_t (hk := ?_) | refine TL_nilCheck (hk := ?_) | refine TL_not (hk := ?_))
    refine TL_loadb TE (cs := [.int .i64 2, .int .i64 0, .string (ofL t)]) (o := 0) rfl rfl k49 rfl rfl (Nat.succ_pos _) (hk := ?_)
    --
    refine TL_storea TE (hk := ?_); intro w20 m20 z20 k20
    replace k20 : Blk w20 b2 161 [.int .i64 2, .int .i64 0, .string (ofL t)] := k20
    have h20 := h9.mod m20 (by simp; omega) (Off.lo hAl (by omega))
    repeat (refine TL_nil ?_)
    exact T_retA1 TE (vs := [.int .i64 2, .int .i64 0, .string (ofL t)]) (o := 0) rfl rfl rfl rfl k20 rfl (Nat.succ_pos _) ⟨rfl, s2, h20, L2, M9.step m20 (fun u hu => .inr (by rw [List.mem_singleton.1 hu]; omega))⟩
end Go.Proofs.YtjlaomcankmdjaaGreat

namespace Go.Proofs.YtjlaomcankmdjaaGreat
open Go.RowKit Go.Proofs.Eng Go.Proofs.Codec Go.Proofs.Foot Go.Proofs.Journal
set_option linter.unusedVariables false set_option maxRecDepth 10000
attribute [local irreducible] T TL LV TH TA
set_option maxHeartbeats 3200000
theorem rqget_c (q : RE) (A : Option Addr) (n c : Nat) (w : World) (hc : checkR q = 0) (hf : RFit q) (h : Rd w A n 1 (bv (reqB [] q))) :
    Ret Tryz.prog 58 [.slice A n c] w (fun u w' => ∃ y : SL, u = .tuple #[rA q y.1 y.2.1 y.2.2, .int .i64 0, .int .i64 0] ∧ Ext w w' ∧ Own w' w.heap.size 161 3 y.1 y.2.1 y.2.2 (rowV veV q.ar)) := by
  obtain ⟨⟨g1, g2⟩, g3, g4, g5⟩ := check_ok hc
  have hl := reqB_len (b := []) hf hc
  have hb := reqB_app [] q
  rw [List.nil_append] at hb
  obtain ⟨B, hB⟩ : ∃ B, reqB [] q = B := ⟨_, rfl⟩
  rw [hB] at h hl hb
  have hn : B.length = n := by simpa using h.1
  simp only [List.length_nil] at hl
  have hnm := nm_len g3
  have htk := hf.tk
  have hL0 : Lf ⟨B, 0, 0, 0, 0⟩ B (encU q.cl.toNat ++ (encU q.tk ++ (encU q.nm.length ++ (q.nm ++ (encU q.ar.length ++ (q.ar.map (putV [])).flatten))))) := by
    have := Lf.start B
    rw [← hb]; exact this
  obtain ⟨s1, q1, L1⟩ := hL0.lim (most := 63) (e := 6) (by omega) (by omega)
  obtain ⟨s2, q2, L2⟩ := L1.num (by omega)
  obtain ⟨s3, q3, L3⟩ := L2.text (most := 16) (by omega) (by omega)
  obtain ⟨s4, q4, L4⟩ := L3.lim (most := 8) (e := 6) (by omega) (by omega)
  clear hL0
  have hcl : ((q.cl.toNat : Nat) : Int) = q.cl := by omega
  refine ret_T (n := 97) Tryz.func58 rfl rfl ?_
  repeat (first | refine T_seq ?_ | refine T_region ?_)
  refine TL_alloc TE (hk := ?_); intro b1 w1 e1 h1 h1' k1
  repeat (first | refine T_seq ?_ | refine T_region ?_ | refine T_cond_false rfl ?_ | refine T_skip ?_ | refine TL_gt_f (hk := ?_) | refine TL_nil ?_ | refine TL_move (hk := ?_) | refine TL_assign (hk := ?_) | refine TL_len TE (hk := ?_))
  refine TL_call TE (hc := RNew_l A n c B w1 (h.be e1) (by omega)) (hk := ?_)
  rintro _ w2 ⟨bR, A2, n2, c2, rfl, e2, hbR, hi2, lo2, rr⟩
  have z1 := e1.size
  have z2 := e2.size
  have lR := rr.blk.lt
  have k12 := k1.be e2
  clear k1
  repeat (first | refine T_seq ?_ | refine T_region ?_ | refine TL_nil ?_ | refine TL_move (hk := ?_) | refine TL_assign (hk := ?_))
  refine TL_call TE (hc := RCount_c bR _ A2 n2 c2 63 (by decide) w2 rr) (hk := ?_)
  rintro _ w3 ⟨rfl, m3, r3⟩
  rw [q1] at r3 ⊢
  simp only at r3 ⊢
  have k13 := k12.mod m3 (by simp; omega)
  have z3 := m3.size
  clear k12
  repeat (refine TL_move (hk := ?_))
  refine TL_call TE (hc := RUint_c bR s1 A2 n2 c2 w3 r3) (hk := ?_)
  rintro _ w4 ⟨rfl, m4, r4⟩
  rw [q2] at r4 ⊢
  simp only at r4 ⊢
  rw [hcl]
  have k14 := k13.mod m4 (by simp; omega)
  have z4 := m4.size
  clear k13
  repeat (refine TL_build TE (hk := ?_))
  refine TL_alloc TE (hk := ?_); intro b5 w5 e5 h5 h5' k5
  --
  refine TL_storea TE (hk := ?_); intro w6 m6 z6 k6
  replace k6 : Blk w6 b5 40 [.int .i64 q.cl, .int .u64 (q.tk : Int), .string (ofL []), .slice none 0 0] := k6
  have z5 := e5.size
  have e46 : Ext w4 w6 := e5.step m6 (fun u hu => .inr (by rw [List.mem_singleton.1 hu]; omega))
  have r6 := r4.ext e46
  have k16 := k14.be e46
  have kb6 := r6.blk
  clear k14
  repeat (first | refine T_seq ?_ | refine T_region ?_ | refine TL_nil ?_ | refine TL_move (hk := ?_) | refine TL_assign (hk := ?_) | refine TL_load TE (hk := ?_) | refine TL_fieldAddr TE (hk := ?_) | refine TL_nilCheck (hk := ?_))
  refine TL_call TE (hc := RText_c bR s2 A2 n2 c2 16 (by decide) w6 r6) (hk := ?_)
  rintro _ w7 ⟨rfl, m7, r7⟩
  rw [q3] at r7 ⊢
  simp only at r7 ⊢
  have k17 := k16.mod m7 (by simp; omega)
  have k67 := k6.mod m7 (by simp; omega)
  have z7 := m7.size
  clear k16 k6 kb6
  repeat (refine TL_fieldAddr TE (hk := ?_))
  refine TL_store TE (hk := ?_); intro w8 m8 z8 k8
  replace k8 : Blk w8 b5 40 [.int .i64 q.cl, .int .u64 (q.tk : Int), .string (ofL q.nm), .slice none 0 0] := k8
  have k18 := k17.mod m8 (by simp; omega)
  have r8 := r7.mod m8 (by simp; omega) (Off.lo lo2 (by omega))
  have kb8 := r8.blk
  rw [L3.1] at kb8
  clear k17 k67
  repeat (first | refine T_seq ?_ | refine T_region ?_ | refine TL_eq_t (hk := ?_) | refine TL_nil ?_ | refine TL_move (hk := ?_) | refine TL_load TE (hk := ?_) | refine TL_fieldAddr TE (hk := ?_) | refine TL_yes (hk := ?_) | refine TL_nilCheck (hk := ?_))
  refine TL_call TE (hc := rname_c q.nm g3 w8) (hk := ?_)
  rintro _ w9 ⟨rfl, hw⟩
  rw [hw]
  clear hw w9
  repeat (first | refine T_seq ?_ | refine T_region ?_ | refine T_cond_false rfl ?_ | refine T_skip ?_ | refine TL_nil ?_ | refine TL_move (hk := ?_) | refine TL_yes (hk := ?_) | refine TL_pick_t (hk := ?_) | refine TL_not (hk := ?_))
  refine TL_call TE (hc := RCount_c bR s3 A2 n2 c2 8 (by decide) w8 r8) (hk := ?_)
  rintro _ w9 ⟨rfl, m9, r9⟩
  rw [q4] at r9 ⊢
  simp only at r9 ⊢
  have k19 := k18.mod m9 (by simp; omega)
  have k89 := k8.mod m9 (by simp; omega)
  have z9 := m9.size
  have e02 := e1.ext e2
  have e09 : Ext w w9 := ((((((e02.step m3 (fun u hu => .inr (by rw [List.mem_singleton.1 hu]; omega))).step m4 (fun u hu => .inr (by rw [List.mem_singleton.1 hu]; omega))).ext e46).step m7 (fun u hu => .inr (by rw [List.mem_singleton.1 hu]; omega))).step m8 (fun u hu => .inr (by rw [List.mem_singleton.1 hu]; omega))).step m9 (fun u hu => .inr (by rw [List.mem_singleton.1 hu]; omega)))
  clear k18 k8 kb8 r3 r4 r6 r7 r8 m3 m4 m7 m8 m9 L1 L2 L3 q1 q2 q3 q4 rr
  repeat (first | refine T_seq ?_ | refine T_region ?_ | refine T_block ?_ | refine TL_nil ?_ | refine TL_assign (hk := ?_))
  refine T_loop (ι := Nat × Int × SL × RS) (fun a => [(9, .int .i64 (a.1 : Int)), (8, .int .i64 (q.ar.length : Int)), (7, .int .i64 a.2.1), (6, .pointer (some ⟨b5, 0, none⟩)), (5, ptr bR), (2, .pointer (some ⟨b1, 0, none⟩))])
    (fun a w' => a.1 ≤ q.ar.length ∧ Ext w w' ∧ w9.heap.size ≤ w'.heap.size ∧ Rdr w' 117 bR a.2.2.2 A2 n2 c2 ∧ Lf a.2.2.2 B ((q.ar.drop a.1).map (putV [])).flatten ∧ Blk w' b5 40 [.int .i64 q.cl, .int .u64 (q.tk : Int), .string (ofL q.nm), .slice a.2.2.1.1 a.2.2.1.2.1 a.2.2.1.2.2] ∧ Blk w' b1 40 [.int .i64 0, .int .u64 0, .string (ofL []), .slice none 0 0] ∧ Own w' w9.heap.size 161 3 a.2.2.1.1 a.2.2.1.2.1 a.2.2.1.2.2 (rowV veV (q.ar.take a.1)))
    (fun a => q.ar.length - a.1) (0, _, (none, 0, 0), s4) (.c rfl (.c rfl (.c rfl (.c rfl (.c rfl (.c rfl (.n))))))) ⟨Nat.zero_le _, e09, Nat.le_refl _, r9, by simpa using L4, k89, k19, Own.nil _ _ _ _⟩ ?_
  clear k19 k89 r9 L4
  rintro ⟨i, z, y, s⟩ w10 ⟨hi, e10, zw, r10, L, k10, kc, o10⟩ ih
  simp only at hi zw r10 L k10 kc o10 ih ⊢
  have kb10 := r10.blk
  rw [L.1] at kb10
  have hol := o10.len
  rw [rowV_len veV_len, List.length_take] at hol
  by_cases hlt : i < q.ar.length
  · have hin : q.ar.getD i ve0 ∈ q.ar := by rw [List.getD_eq_getElem?_getD, List.getElem?_eq_getElem hlt]; exact List.getElem_mem _
    have hg := List.all_eq_true.1 g5 _ hin
    have hvf := hf.ar _ hin
    have hgd : q.ar.getD i ve0 = q.ar[i] := by rw [List.getD_eq_getElem?_getD, List.getElem?_eq_getElem hlt]; rfl
    have hdrop : q.ar.drop i = q.ar.getD i ve0 :: q.ar.drop (i + 1) := by rw [hgd]; exact List.drop_eq_getElem_cons hlt
    have htake : q.ar.take (i + 1) = q.ar.take i ++ [q.ar.getD i ve0] := by rw [hgd]; exact List.take_succ_eq_append_getElem hlt
    rw [hdrop, List.map_cons, List.flatten_cons] at L
    obtain ⟨x, hx⟩ : ∃ x, q.ar.getD i ve0 = x := ⟨_, rfl⟩
    rw [hx] at hg hvf htake L
    clear hdrop hgd hin hx
    have hkd : ¬ x.kd = 0 := by
      have h := hg
      unfold givenB at h
      rw [Bool.and_eq_true, decide_eq_true_eq] at h
      exact h.2
    repeat (first | refine T_seq ?_ | refine T_region ?_ | refine T_cond_true rfl ?_ | refine T_block ?_ | refine T_skip ?_ | refine TL_lt_t (hk := ?_) | refine TL_eq_t (hk := ?_) | refine TL_nil ?_ | refine TL_move (hk := ?_) | refine TL_assign (hk := ?_) | refine TL_load TE (hk := ?_) | refine TL_fieldAddr TE (hk := ?_) | refine TL_yes (hk := ?_) | refine TL_pick_t (hk := ?_) | refine TL_nilCheck (hk := ?_))
    refine TL_call TE (hc := rtake_c bR s A2 n2 c2 x B _ w10 r10 L hg hvf) (hk := ?_)
    rintro _ w11 ⟨rfl, s', r11, L11, m11⟩
    have z11 := m11.size
    have k11 := k10.mod m11 (by simp; omega)
    have kc11 := kc.mod m11 (by simp; omega)
    have o11 := o10.modL m11 (fun u hu hq => by have := (o10.bl u hu).1; rw [List.mem_singleton] at hq; omega)
    clear k10 kc o10 kb10 r10
    --
    refine TL_alloc TE (hk := ?_); intro b12 w12 e12 h12 h12' k12
    --
    refine TL_storea TE (hk := ?_); intro w13 m13 z13 k13
    replace k13 : Blk w13 b12 161 [.int .i64 x.kd, .int .i64 x.n, .string (ofL x.t)] := k13
    have z12 := e12.size
    have e113 : Ext w11 w13 := e12.step m13 (fun u hu => .inr (by rw [List.mem_singleton.1 hu]; omega))
    have r13 := r11.ext e113
    have kb13 := r13.blk
    rw [L11.1] at kb13
    have k113 := k11.be e113
    have kc13 := kc11.be e113
    have o13 := o11.be e113
    clear k11 kc11 o11
    repeat (first | refine T_seq ?_ | refine T_region ?_ | refine T_cond_false rfl ?_ | refine T_skip ?_ | refine TL_eq_t (hk := ?_) | refine TL_eq_f (hk := ?_) | refine TL_nil ?_ | refine TL_move (hk := ?_) | refine TL_load TE (hk := ?_) | refine TL_fieldAddr TE (hk := ?_) | refine TL_yes (hk := ?_) | refine TL_pick_t (hk := ?_) | refine TL_nilCheck (hk := ?_))
    refine TL_loadb TE (cs := [.int .i64 x.kd, .int .i64 x.n, .string (ofL x.t)]) (o := 0) rfl rfl k13 rfl rfl (Nat.succ_pos _) (hk := ?_)
    --
    refine TL_buildSliceA TE (hk := ?_); intro b14 w14 e14 h14 h14' k14
    replace k14 : Blk w14 b14 161 (rowV veV [x]) := k14
    have d14 : Rd w14 (some ⟨b14, 0, none⟩) 1 3 (rowV veV [x]) := Rd.blk k14 rfl
    have o14 := o13.be e14
    have k114 := k113.be e14
    have kc14 := kc13.be e14
    have r14 := r13.ext e14
    have z14 := e14.size
    clear k113 kc13 o13 kb13 k13
    --
    refine TL_append TE (ho := o14) (hr := d14) (h1 := rowV_one veV_one _) (hk := ?_); intro A15 c15 w15 o15 m15 n15
    rw [← rowV_append, ← htake] at o15
    have k115 := k114.mod m15 (fun hq => by have := (o14.bl b5 hq).1; omega)
    have kc15 := kc14.mod m15 (fun hq => by have := (o14.bl b1 hq).1; omega)
    have r15 := r14.mod m15 (fun hq => by have := (o14.bl bR hq).1; omega) (off_ofL fun u hu hq => by have h1 := Lo.mem lo2 u hu; have h2 := (o14.bl u hq).1; omega)
    have z15 := m15.size
    have e1015 : Ext w w15 := (((e10.step m11 (fun u hu => .inr (by rw [List.mem_singleton.1 hu]; omega))).ext e113).ext e14).step m15 (fun u hu => .inr (by have := (o14.bl u hu).1; omega))
    clear k114 kc14 k14
    repeat (refine TL_fieldAddr TE (hk := ?_))
    refine TL_store TE (hk := ?_); intro w16 m16 z16 k16
    replace k16 : Blk w16 b5 40 [.int .i64 q.cl, .int .u64 (q.tk : Int), .string (ofL q.nm), .slice A15 (y.2.1 + 1) c15] := k16
    have kc16 := kc15.mod m16 (by simp; omega)
    have r16 := r15.mod m16 (by simp; omega) (Off.lo lo2 (by omega))
    have o16 := o15.modL m16 (fun u hu hq => by have := (o15.bl u hu).1; rw [List.mem_singleton] at hq; omega)
    repeat (first | refine T_region ?_ | refine T_inBlock ?_ | refine TL_add (hk := ?_) | refine TL_nil ?_ | refine TL_move (hk := ?_) | refine TL_assign (hk := ?_))
    exact ih (i + 1, _, (A15, y.2.1 + 1, c15), s') w16 _ (by simp only; omega) ⟨by simp only; omega, e1015.step m16 (fun u hu => .inr (by rw [List.mem_singleton.1 hu]; omega)), by omega, r16, L11, k16, kc16, o16⟩ (.c rfl (.c rfl (.c rfl (.c rfl (.c rfl (.c rfl (.n)))))))
  · clear ih
    have hi2 : i = q.ar.length := by omega
    have hLn : Lf s B [] := by rw [hi2, List.drop_length] at L; exact L
    have hfin := hLn.fin
    rw [hi2, List.take_length] at o10
    repeat (first | refine T_seq ?_ | refine T_region ?_ | refine T_cond_false rfl ?_ | refine T_exit rfl ?_ | refine TL_lt_f (hk := ?_) | refine TL_nil ?_ | refine TL_move (hk := ?_) | refine TL_no (hk := ?_) | refine TL_pick_f (hk := ?_))
    refine TL_call TE (hc := REnd_c bR s A2 n2 c2 w10 r10) (hk := ?_)
    rintro _ w11 ⟨rfl, m11, r11⟩
    rw [hfin] at r11
    have kb11 := r11.blk
    rw [L.1] at kb11
    have z11 := m11.size
    have k11 := k10.mod m11 (by simp; omega)
    have kc11 := kc.mod m11 (by simp; omega)
    have o11 := o10.modL m11 (fun u hu hq => by have := (o10.bl u hu).1; rw [List.mem_singleton] at hq; omega)
    clear k10 kc o10 kb10
    repeat (first | refine T_seq ?_ | refine T_region ?_ | refine T_cond_false rfl ?_ | refine T_skip ?_ | refine TL_ne_f (hk := ?_) | refine TL_nil ?_ | refine TL_move (hk := ?_) | refine TL_load TE (hk := ?_) | refine TL_fieldAddr TE (hk := ?_) | refine TL_nilCheck (hk := ?_))
    refine TL_loadb TE (cs := [.int .i64 q.cl, .int .u64 (q.tk : Int), .string (ofL q.nm), .slice y.1 y.2.1 y.2.2]) (o := 0) rfl rfl k11 rfl rfl (Nat.succ_pos _) (hk := ?_)
    --
    refine TL_storea TE (hk := ?_); intro w12 m12 z12 k12
    replace k12 : Blk w12 b1 40 [.int .i64 q.cl, .int .u64 (q.tk : Int), .string (ofL q.nm), .slice y.1 y.2.1 y.2.2] := k12
    repeat (first | refine TL_nil ?_ | refine TL_assign (hk := ?_))
    exact T_retA3 TE (vs := [.int .i64 q.cl, .int .u64 (q.tk : Int), .string (ofL q.nm), .slice y.1 y.2.1 y.2.2]) (o := 0) rfl rfl rfl rfl rfl rfl k12 rfl (Nat.succ_pos _) ⟨y, rfl, (e10.step m11 (fun u hu => .inr (by rw [List.mem_singleton.1 hu]; omega))).step m12 (fun u hu => .inr (by rw [List.mem_singleton.1 hu]; omega)), Own.weaken (o11.modL m12 (fun u hu hq => by have := (o11.bl u hu).1; rw [List.mem_singleton] at hq; omega)) (by omega)⟩
end Go.Proofs.YtjlaomcankmdjaaGreat

namespace Go.Proofs.Codec
open Go.Proofs.Eng
def num : List UInt8 → Nat
  | [] => 0
  | b :: l => b.toNat + 256 * num l
theorem le4_num {l : List UInt8} (h : 4 ≤ l.length) : le4 l = num (l.take 4) := by
  match l, h with
  | a :: b :: c :: d :: t, _ =>
    have ha := UInt8.toNat_lt a
    have hb := UInt8.toNat_lt b
    have hc := UInt8.toNat_lt c
    have hd := UInt8.toNat_lt d
    have e0 : gb (a :: b :: c :: d :: t) 0 = a.toNat := rfl
    have e1 : gb (a :: b :: c :: d :: t) 1 = b.toNat := rfl
    have e2 : gb (a :: b :: c :: d :: t) 2 = c.toNat := rfl
    have e3 : gb (a :: b :: c :: d :: t) 3 = d.toNat := rfl
    have lor : ∀ {x y k : Nat}, x < 2 ^ k → x ||| y * 2 ^ k = x + y * 2 ^ k := fun {x y k} h => by
      rw [Nat.or_comm, Nat.mul_comm y, ← Nat.two_pow_add_eq_or_of_lt h, Nat.add_comm]
    unfold le4
    rw [e0, e1, e2, e3, Nat.mod_eq_of_lt (by omega), Nat.mod_eq_of_lt (by omega), Nat.mod_eq_of_lt (by omega)]
    have s1 : a.toNat ||| b.toNat * 2 ^ 8 = a.toNat + b.toNat * 2 ^ 8 := lor (by omega)
    have s2 : (a.toNat + b.toNat * 2 ^ 8) ||| c.toNat * 2 ^ 16 = (a.toNat + b.toNat * 2 ^ 8) + c.toNat * 2 ^ 16 := lor (by omega)
    have s3 : ((a.toNat + b.toNat * 2 ^ 8) + c.toNat * 2 ^ 16) ||| d.toNat * 2 ^ 24 = ((a.toNat + b.toNat * 2 ^ 8) + c.toNat * 2 ^ 16) + d.toNat * 2 ^ 24 := lor (by omega)
    rw [s1, s2, s3]
    simp only [List.take, num]
    omega
theorem four_len (x : Nat) : (four x).length = 4 := rfl
end Go.Proofs.Codec

namespace Go.Proofs.YtjlaomcankmdjaaGreat
open Go.Proofs.Eng Go.Proofs.Codec
theorem frame_len (l : List UInt8) : (frame l).length = l.length + 8 := by
  unfold frame
  simp only [List.length_append, four_len]
  omega
end Go.Proofs.YtjlaomcankmdjaaGreat

namespace Go.Proofs.YtjlaomcankmdjaaGreat
open Go.Proofs.Eng Go.Proofs.Codec
def cat : List (List UInt8) → List UInt8
  | [] => []
  | l :: t => frame l ++ cat t
theorem cat_snoc (a : List (List UInt8)) (l : List UInt8) : cat (a ++ [l]) = cat a ++ frame l := by
  induction a with
  | nil => simp [cat]
  | cons x a ih => simp only [List.cons_append, cat, ih, List.append_assoc]
def total : List (List UInt8) → Nat
  | [] => 0
  | l :: t => l.length + total t
end Go.Proofs.YtjlaomcankmdjaaGreat

namespace Go.Proofs.YtjlaomcankmdjaaGreat
open Go.Proofs.Eng Go.Proofs.Codec Go.Proofs.Foot Go.Proofs.Journal
abbrev EP := Int × List PE
def newE (L : LE) (ep : Int) (ps : List PE) : List EE := (List.range ps.length).map (fun j => ⟨((L.l.length + j : Nat) : Int), ep, ps.getD j pe0⟩)
theorem addL_l (L : LE) (ep : Int) (ps : List PE) : (addL L ep ps).l = L.l ++ newE L ep ps := rfl
theorem newE_len (L : LE) (ep : Int) (ps : List PE) : (newE L ep ps).length = ps.length := by simp [newE]
theorem from_add (L : LE) (ep : Int) (ps : List PE) : fromL (addL L ep ps) L.l.length ps.length = newE L ep ps := by
  unfold fromL
  rw [addL_l, List.drop_left, ← newE_len L ep ps, List.take_length]
def logF (L : LE) (l : List EP) : LE := l.foldl (fun L e => addL L e.1 e.2) L
def entL (e : EE) : List UInt8 := 1 :: entB [] e
def endL2 (ep : Int) : List UInt8 := 2 :: encU ep.toNat
def loadsE (L : LE) (e : EP) : List (List UInt8) := (newE L e.1 e.2).map entL ++ [endL2 e.1]
def loadsF : LE → List EP → List (List UInt8)
  | _, [] => []
  | L, e :: t => loadsE L e ++ loadsF (addL L e.1 e.2) t
def GoodE (L : LE) (e : EP) : Prop := L.ep ≤ e.1 ∧ e.1 ≤ 9223372036854775807 ∧ L.l.length + e.2.length ≤ 65536 ∧ (∀ p ∈ e.2, rightP p = 0) ∧ ∀ p ∈ e.2, PFit p
def GoodF : LE → List EP → Prop
  | _, [] => True
  | L, e :: t => GoodE L e ∧ GoodF (addL L e.1 e.2) t
theorem logF_snoc (L : LE) (l : List EP) (e : EP) : logF L (l ++ [e]) = addL (logF L l) e.1 e.2 := by unfold logF; rw [List.foldl_append]; rfl
theorem loadsF_snoc : ∀ (L : LE) (l : List EP) (e : EP), loadsF L (l ++ [e]) = loadsF L l ++ loadsE (logF L l) e
  | L, [], e => by simp [loadsF, logF]
  | L, x :: l, e => by
    rw [List.cons_append, loadsF, loadsF, loadsF_snoc, List.append_assoc]
    rfl
theorem GoodF_snoc : ∀ {L : LE} {l : List EP} {e : EP}, GoodF L l → GoodE (logF L l) e → GoodF L (l ++ [e])
  | L, [], e, _, h => ⟨h, trivial⟩
  | L, x :: l, e, h, h2 => ⟨h.1, GoodF_snoc h.2 h2⟩
theorem GoodF_take : ∀ {L : LE} {l : List EP} (c : Nat), GoodF L l → GoodF L (l.take c)
  | L, [], c, _ => by simp [GoodF]
  | L, x :: l, 0, _ => trivial
  | L, x :: l, c + 1, h => ⟨h.1, GoodF_take c h.2⟩
theorem logF_ok : ∀ {L : LE} {l : List EP}, LOk L → GoodF L l → LOk (logF L l)
  | L, [], h, _ => h
  | L, x :: l, h, g => logF_ok (l := l) (addL_ok h g.1.1 g.1.2.1 g.1.2.2.2.1 g.1.2.2.2.2 g.1.2.2.1) g.2
def bytesE (l : List EP) : List UInt8 := cat (loadsF ⟨[], 0⟩ l)
theorem cat_app (a b : List (List UInt8)) : cat (a ++ b) = cat a ++ cat b := by
  induction a with
  | nil => rfl
  | cons x a ih => rw [List.cons_append, cat, cat, ih, List.append_assoc]
theorem cat_ents {l : List EE} (h : ∀ e ∈ l, EOk e) : (l.map fun e => kindF 1 (putEn [] e).1).flatten = cat (l.map entL) := by
  induction l with
  | nil => rfl
  | cons x l ih =>
    rw [List.map_cons, List.flatten_cons, List.map_cons, cat, ih (fun e he => h e (List.mem_cons_of_mem _ he)), putEn_ok (h x List.mem_cons_self)]
    rfl
theorem newE_ok {L : LE} (hL : LOk L) {e : EP} (g : GoodE L e) : ∀ x ∈ newE L e.1 e.2, EOk x := fun x hx => by
  have h := (addL_ok hL g.1 g.2.1 g.2.2.2.1 g.2.2.2.2 g.2.2.1).run.le x (by rw [addL_l]; exact List.mem_append_right _ hx)
  exact h.2
theorem epF_cat {L : LE} (hL : LOk L) {e : EP} (g : GoodE L e) : epF e.1 (newE L e.1 e.2) = cat (loadsE L e) := by
  unfold epF loadsE
  rw [cat_app, cat_ents (newE_ok hL g)]
  congr 1
  simp only [cat, List.append_nil]
  rfl
def stepF (q : SC × Nat × Nat) (p : List UInt8) : Option (SC × Nat × Nat) := match scR q.1 p with
  | none => none
  | some s' => some (s', q.2.1 + (p.length + 8), if gb p 0 = 2 then q.2.1 + (p.length + 8) else q.2.2)
def runF : List (List UInt8) → SC × Nat × Nat → Option (SC × Nat × Nat)
  | [], q => some q
  | p :: ps, q => (stepF q p).bind (runF ps)
theorem scanF_run : ∀ (ps : List (List UInt8)) (s : SC) (a w : Nat), scanF ps s a w = (runF ps (s, a, w)).map (fun q => (q.1, q.2.2))
  | [], s, a, w => rfl
  | p :: ps, s, a, w => by
    unfold scanF runF stepF
    simp only
    cases h : scR s p with
    | none => rfl
    | some s' => exact scanF_run ps s' _ _
structure At0 (s : SC) (L : LE) : Prop where
  log : s.log = L
  op : s.op = []
  last : s.last = L.ep
theorem newE_at (L : LE) (ep : Int) (ps : List PE) (t : Nat) (h : t < ps.length) : (newE L ep ps)[t]'(by rw [newE_len]; exact h) = ⟨((L.l.length + t : Nat) : Int), ep, ps.getD t pe0⟩ := by
  unfold newE
  rw [List.getElem_map, List.getElem_range]
theorem cat_mono {A : List (List UInt8)} {i j : Nat} (h : i ≤ j) : (cat (A.take i)).length ≤ (cat (A.take j)).length := by
  have : A.take i = (A.take j).take i := by rw [List.take_take, Nat.min_eq_left h]
  have h2 : A.take j = (A.take j).take i ++ (A.take j).drop i := (List.take_append_drop i _).symm
  rw [this]
  have h3 := congrArg (fun x => (cat x).length) h2
  simp only [cat_app, List.length_append] at h3
  omega
theorem loadsF_take : ∀ (L : LE) (l : List EP) (c : Nat), (loadsF L l).take (loadsF L (l.take c)).length = loadsF L (l.take c)
  | L, [], c => by simp [loadsF]
  | L, e :: l, 0 => by simp [loadsF]
  | L, e :: l, c + 1 => by
    rw [List.take_succ_cons, loadsF, loadsF, List.length_append, List.take_append, List.take_of_length_le (by omega), Nat.add_sub_cancel_left, loadsF_take]
theorem loadsF_le (L : LE) (l : List EP) {c d : Nat} (h : c ≤ d) : (loadsF L (l.take c)).length ≤ (loadsF L (l.take d)).length := by
  have : l.take c = (l.take d).take c := by rw [List.take_take, Nat.min_eq_left h]
  rw [this, ← loadsF_take L (l.take d) c, List.length_take]
  omega
def L0 : LE := ⟨[], 0⟩
theorem L0_ok : LOk L0 := ⟨Nat.zero_le _, by decide, trivial⟩
end Go.Proofs.YtjlaomcankmdjaaGreat

namespace Go.Proofs.YtjlaomcankmdjaaGreat
open Go.Proofs.Eng Go.Proofs.Codec Go.Proofs.Foot Go.Proofs.Journal
theorem bytesE_mono (l : List EP) {c d : Nat} (h : c ≤ d) : (bytesE (l.take c)).length ≤ (bytesE (l.take d)).length := by
  have h1 := loadsF_le L0 l h
  have h2 := cat_mono (A := loadsF L0 l) h1
  rw [loadsF_take, loadsF_take] at h2
  exact h2
theorem bytesE_all (l : List EP) (c : Nat) : (bytesE (l.take c)).length ≤ (bytesE l).length := by
  rcases Nat.le_total c l.length with h | h
  · have := bytesE_mono l h
    rwa [List.take_length] at this
  · rw [List.take_of_length_le h]; exact Nat.le_refl _
def Part (l : List EP) (m : Nat) (b : List UInt8) : Prop := ∃ x, b = (bytesE l).take x ∧ (bytesE (l.take m)).length ≤ x ∧ x ≤ (bytesE l).length
theorem cutD_ok {k : DK} {wh : Nat} (h : wh ≤ k.b.length) : cutD (wh : Int) k = ({ k with b := k.b.take wh, sf := wh }, 0) := by
  unfold cutD
  rw [if_neg (by omega)]
  rfl
theorem newD_b {b : List UInt8} (h : b.length ≤ 4194304) : (newD b).b = b ∧ (newD b).sf = b.length ∧ (newD b).off = false ∧ (newD b).lf = -1 := by
  unfold newD
  rw [List.take_of_length_le h]
  exact ⟨rfl, rfl, rfl, rfl⟩
structure JI (L : LE) (k : DK) (fl : Int) (l : List EP) (m : Nat) : Prop where
  g : GoodF L0 l
  log : L = logF L0 l
  b : k.b = bytesE l
  hm : m ≤ l.length
  sf : k.sf = (bytesE (l.take m)).length
  fl : fl = ((logF L0 (l.take m)).l.length : Int)
theorem JI.start : JI ⟨[], 0⟩ (newD []) 0 [] 0 := ⟨trivial, rfl, rfl, Nat.le_refl _, rfl, rfl⟩
section
variable {L : LE} {k : DK} {fl : Int} {l : List EP} {m : Nat}
theorem JI.ok (J : JI L k fl l m) : LOk L := by rw [J.log]; exact logF_ok L0_ok J.g
theorem JI.write (J : JI L k fl l m) {ep : Int} {ps : List PE} (hep : ep ≤ 9223372036854775807) (hf : ∀ p ∈ ps, PFit p) :
    ((writeJ L k ep ps).1.2.2 = 0 → JI (writeJ L k ep ps).1.1 (writeJ L k ep ps).2 fl (l ++ [(ep, ps)]) m) ∧ ((writeJ L k ep ps).1.2.2 ≠ 0 → JI (writeJ L k ep ps).1.1 (writeJ L k ep ps).2 fl l m) := by
  have hJ := J
  obtain ⟨g, hlog, hb, hm, hsf, hfl⟩ := J
  unfold writeJ
  by_cases c1 : (appL L ep ps).2.2.1 = 0
  · rw [if_neg (fun q => q c1)]
    obtain ⟨b1, b2, b3, b4, b5⟩ := app_ok c1
    rw [b5]
    simp only
    have hG : GoodE (logF L0 l) (ep, ps) := by rw [← hlog]; exact ⟨b1, hep, b3, b4, hf⟩
    have hep2 : epF ep (fromL (addL L ep ps) L.l.length ps.length) = cat (loadsE L (ep, ps)) := by
      rw [from_add]
      exact epF_cat hJ.ok (by rw [hlog]; exact hG)
    rw [hep2]
    unfold opD
    by_cases q : k.off = true ∨ k.lf = 0
    · rw [if_pos q]
      simp only
      rw [if_pos (by decide)]
      exact ⟨(fun q => by cases q), fun _ => ⟨g, hlog, hb, hm, hsf, hfl⟩⟩
    · rw [if_neg q]
      unfold appD
      simp only
      by_cases q2 : 4194304 < k.b.length + (cat (loadsE L (ep, ps))).length
      · rw [if_pos q2]
        simp only
        rw [if_pos (by decide)]
        exact ⟨(fun q => by cases q), fun _ => ⟨g, hlog, hb, hm, hsf, hfl⟩⟩
      · rw [if_neg q2]
        simp only
        rw [if_neg (by decide)]
        refine ⟨fun _ => ⟨GoodF_snoc g hG, by rw [logF_snoc, hlog], ?_, by rw [List.length_append]; omega, ?_, ?_⟩, fun q => absurd rfl q⟩
        · show k.b ++ cat (loadsE L (ep, ps)) = cat (loadsF L0 (l ++ [(ep, ps)]))
          rw [loadsF_snoc, cat_app, hb, hlog]
          rfl
        · rw [List.take_append_of_le_length hm]; exact hsf
        · rw [List.take_append_of_le_length hm]; exact hfl
  · rw [if_pos c1]
    exact ⟨fun q => absurd q c1, fun _ => ⟨g, hlog, hb, hm, hsf, hfl⟩⟩
theorem JI.part (J : JI L k fl l m) (n : Int) : Part l m (leftD k n) := by
  have h1 := bytesE_all l m
  have h2 := J.sf
  have h3 := J.b
  refine ⟨leftN k n, by unfold leftD; rw [h3], ?_, ?_⟩
  · unfold leftN; omega
  · unfold leftN
    have : k.b.length = (bytesE l).length := by rw [h3]
    split
    · omega
    · split <;> omega
end
theorem Run.at {ep : Int} : ∀ {l : List EE} {last : Int} {n : Nat}, Run ep last n l → ∀ (i : Nat) (h : i < l.length), l[i].sq = ((n + i : Nat) : Int)
  | x :: l, last, n, hr, 0, h => by simpa using hr.1
  | x :: l, last, n, hr, i + 1, h => by
    have := Run.at hr.2.2.2.2 i (by simpa using h)
    simp only [List.getElem_cons_succ]
    rw [this]
    omega
end Go.Proofs.YtjlaomcankmdjaaGreat

namespace Go.Proofs.YtjlaomcankmdjaaGreat
open Go.Proofs.Eng Go.Proofs.Codec Go.Proofs.Foot Go.Proofs.Journal
section
variable {s : RS} {B r : List UInt8}
theorem num_ne (l : List UInt8) (x : Int) (h : num0 l = .error x) : ¬ x = 0 := num0_err h
theorem Lf.back {α : Type} {z : α} {t : List UInt8 → Except Int (α × Nat)} (h : Lf s B r) (hne : ∀ l x, t l = .error x → ¬ x = 0) (he : (s.take z t).2.err = 0) : ∃ v k s', t r = .ok (v, k) ∧ s.take z t = (v, s') ∧ Lf s' B (r.drop k) := by
  obtain ⟨h0, v, k, h1, h2⟩ := take_ok_of hne he
  have h3 := h.2.2
  rw [h3] at h1
  obtain ⟨s', h4, h5, -⟩ := h.take (z := z) h1
  exact ⟨v, k, s', h1, h4, h5⟩
theorem Lf.bnum (h : Lf s B r) (he : (s.take (0 : Nat) num0).2.err = 0) : ∃ n r' s', s.take (0 : Nat) num0 = (n, s') ∧ r = encU n ++ r' ∧ n < 2 ^ 64 ∧ Lf s' B r' := by
  obtain ⟨n, k, s', h1, h2, h3⟩ := h.back num_ne he
  refine ⟨n, r.drop k, s', h2, ?_, (num0_ok h1).1, h3⟩
  rw [num0_back h1, List.take_append_drop]
theorem lim_ne {most e : Int} (hne : ¬ e = 0) (l : List UInt8) (x : Int) (h : tLim most e l = .error x) : ¬ x = 0 := tLim_ne hne h
theorem Lf.blim {most e : Int} (hne : ¬ e = 0) (h : Lf s B r) (he : (s.take (0 : Nat) (tLim most e)).2.err = 0) : ∃ n r' s', s.take (0 : Nat) (tLim most e) = (n, s') ∧ r = encU n ++ r' ∧ n < 2 ^ 64 ∧ (n : Int) ≤ most ∧ Lf s' B r' := by
  obtain ⟨n, k, s', h1, h2, h3⟩ := h.back (lim_ne hne) he
  have h4 : num0 r = .ok (n, k) ∧ (n : Int) ≤ most := by
    unfold tLim at h1
    cases hq : num0 r with
    | error x => rw [hq] at h1; cases h1
    | ok y =>
      obtain ⟨m, j⟩ := y
      rw [hq] at h1
      simp only at h1
      split at h1
      · cases h1
      · cases h1; exact ⟨rfl, by omega⟩
  refine ⟨n, r.drop k, s', h2, ?_, (num0_ok h4.1).1, h4.2, h3⟩
  rw [num0_back h4.1, List.take_append_drop]
theorem int_ne (l : List UInt8) (x : Int) (h : tInt l = .error x) : ¬ x = 0 := by
  unfold tInt at h
  cases hq : num0 l with
  | error y => rw [hq] at h; cases h; exact num0_err hq
  | ok y => rw [hq] at h; cases h
theorem zig_zag {n : Nat} (h : n < 2 ^ 64) : zig (zag n) = n := by
  unfold zig zag
  split <;> split <;> omega
theorem Lf.bint (h : Lf s B r) (he : (s.take (0 : Int) tInt).2.err = 0) : ∃ i r' s', s.take (0 : Int) tInt = (i, s') ∧ r = encU (zig i) ++ r' ∧ -9223372036854775808 ≤ i ∧ i ≤ 9223372036854775807 ∧ Lf s' B r' := by
  obtain ⟨i, k, s', h1, h2, h3⟩ := h.back int_ne he
  unfold tInt at h1
  cases hq : num0 r with
  | error x => rw [hq] at h1; cases h1
  | ok y =>
    obtain ⟨m, j⟩ := y
    rw [hq] at h1
    cases h1
    have h4 := num0_ok hq
    have h5 := zag_fit h4.1
    refine ⟨zag m, r.drop k, s', h2, ?_, h5.1, h5.2, h3⟩
    rw [zig_zag h4.1, num0_back hq, List.take_append_drop]
theorem Lf.bbyte (h : Lf s B r) (he : (s.take (0 : Nat) tByte).2.err = 0) : ∃ (c : UInt8) (r' : List UInt8) (s' : RS), s.take (0 : Nat) tByte = (c.toNat, s') ∧ r = c :: r' ∧ Lf s' B r' := by
  obtain ⟨n, k, s', h1, h2, h3⟩ := h.back byte_ne he
  cases r with
  | nil => cases h1
  | cons c t => cases h1; exact ⟨c, t, s', h2, rfl, h3⟩
theorem text_ne {most : Int} (l : List UInt8) (x : Int) (h : tText most l = .error x) : ¬ x = 0 := tText_ne h
theorem Lf.btext {most : Int} (h : Lf s B r) (he : (s.take ([] : List UInt8) (tText most)).2.err = 0) : ∃ t r' s', s.take ([] : List UInt8) (tText most) = (t, s') ∧ r = encU t.length ++ (t ++ r') ∧ (t.length : Int) ≤ most ∧ Lf s' B r' := by
  obtain ⟨t, k, s', h1, h2, h3⟩ := h.back text_ne he
  unfold tText at h1
  cases hq : tLim most 1 r with
  | error x => rw [hq] at h1; cases h1
  | ok y =>
    obtain ⟨m, j⟩ := y
    rw [hq] at h1
    simp only at h1
    split at h1
    · cases h1
    · rename_i hn
      cases h1
      have h4 : num0 r = .ok (m, j) ∧ (m : Int) ≤ most := by
        unfold tLim at hq
        cases hz : num0 r with
        | error x => rw [hz] at hq; cases hq
        | ok y =>
          obtain ⟨m2, j2⟩ := y
          rw [hz] at hq
          simp only at hq
          split at hq
          · cases hq
          · cases hq; exact ⟨rfl, by omega⟩
      have h5 := num0_ok h4.1
      have hlen : ((r.drop j).take m).length = m := by rw [List.length_take, List.length_drop]; omega
      refine ⟨(r.drop j).take m, r.drop (j + m), s', h2, ?_, by rw [hlen]; exact h4.2, h3⟩
      rw [hlen, num0_back h4.1, ← List.drop_drop, List.take_append_drop, List.take_append_drop]
end
theorem take_stay {α : Type} {s : RS} {z : α} {t : List UInt8 → Except Int (α × Nat)} (h : ¬ s.err = 0) : ¬ (s.take z t).2.err = 0 := by
  unfold RS.take
  rw [if_neg h]
  exact h
theorem fin_err {s : RS} (h : s.fin.err = 0) : s.err = 0 ∧ ¬ s.pos < s.b.length := by
  unfold RS.fin at h
  split at h
  · cases h
  · rename_i q
    exact ⟨h, fun z => q ⟨h, z⟩⟩
theorem takeV_stay {s : RS} (h : ¬ s.err = 0) : ¬ (takeV s).2.err = 0 := by
  have h1 : ¬ (s.take (0 : Nat) tByte).2.err = 0 := take_stay h
  have h2 : ∀ a, ∀ s : RS, ¬ s.err = 0 → ¬ (takeV0 s a).2.err = 0 := fun a s h => by
    unfold takeV0
    split
    · exact take_stay h
    · split
      · simp only
        split
        · exact fail_stay (take_stay h)
        · exact take_stay h
      · split
        · exact fail_stay h
        · exact h
  unfold takeV endV
  split
  · exact h2 _ _ h1
  · exact h2 _ _ h1
theorem takeV_back {s : RS} {B r : List UInt8} (h : Lf s B r) (he : (takeV s).2.err = 0) : ∃ v r' s', takeV s = (v, s') ∧ r = putV [] v ++ r' ∧ validV v = true ∧ Lf s' B r' := by
  obtain ⟨q, hq⟩ : ∃ q, takeV0 (s.take (0 : Nat) tByte).2 (s.take (0 : Nat) tByte).1 = q := ⟨_, rfl⟩
  have hT : takeV s = endV q := by unfold takeV; rw [hq]
  have hqe : q.2.err = 0 := by
    rw [hT] at he
    unfold endV at he
    split at he
    · exact he
    · exact he
  have hTq : takeV s = q := by rw [hT]; unfold endV; rw [if_neg (fun z => z hqe)]
  have hb : (s.take (0 : Nat) tByte).2.err = 0 := by
    by_cases hz : (s.take (0 : Nat) tByte).2.err = 0
    · exact hz
    · exfalso
      have : ¬ (takeV0 (s.take (0 : Nat) tByte).2 (s.take (0 : Nat) tByte).1).2.err = 0 := by
        unfold takeV0
        split
        · exact take_stay hz
        · split
          · simp only
            split
            · exact fail_stay (take_stay hz)
            · exact take_stay hz
          · split
            · exact fail_stay hz
            · exact hz
      rw [hq] at this
      exact this hqe
  obtain ⟨c, r1, s1, e1, hr, l1⟩ := h.bbyte hb
  rw [e1] at hq
  simp only at hq
  rw [hTq]
  subst hr
  unfold takeV0 at hq
  by_cases c1 : c.toNat = 1
  · rw [if_pos c1] at hq
    rw [← hq] at hqe ⊢
    simp only at hqe
    obtain ⟨i, r2, s2, e2, rfl, f1, f2, l2⟩ := l1.bint hqe
    rw [e2]
    have hc : c = 1 := by apply UInt8.toNat_inj.1; rw [c1]; rfl
    refine ⟨⟨1, i, []⟩, r2, s2, rfl, ?_, ?_, l2⟩
    · rw [hc]; show _ = putV [] ⟨1, i, []⟩ ++ r2
      have : putV [] ⟨1, i, []⟩ = ([] ++ [1]) ++ encU (zig i) := by unfold putV validV; simp
      rw [this]; simp
    · unfold validV; simp
  rw [if_neg c1] at hq
  by_cases c2 : c.toNat = 2
  · rw [if_pos c2] at hq
    rw [← hq] at hqe ⊢
    simp only at hqe
    have hp : prB (s1.take ([] : List UInt8) (tText 64)).1 = true := by
      cases hz : prB (s1.take ([] : List UInt8) (tText 64)).1 with
      | true => rfl
      | false => rw [hz, if_pos rfl] at hqe; exact absurd hqe (fail_ne (by decide))
    rw [hp, if_neg (by decide)] at hqe ⊢
    obtain ⟨t, r2, s2, e2, rfl, f1, l2⟩ := l1.btext hqe
    rw [e2] at hp ⊢
    simp only at hp
    have hc : c = 2 := by apply UInt8.toNat_inj.1; rw [c2]; rfl
    have hv : validV ⟨2, 0, t⟩ = true := by
      unfold validV
      have : t.length ≤ 64 := by omega
      simp [hp, this]
    refine ⟨⟨2, 0, t⟩, r2, s2, rfl, ?_, hv, l2⟩
    have : putV [] ⟨2, 0, t⟩ = ([] ++ [2]) ++ (encU t.length ++ t) := by
      unfold putV
      rw [hv, if_neg (by decide)]
      simp
    rw [hc, this]; simp
  rw [if_neg c2] at hq
  by_cases c3 : 2 < c.toNat
  · rw [if_pos c3] at hq
    rw [← hq] at hqe
    exact absurd hqe (fail_ne (by decide))
  · rw [if_neg c3] at hq
    have hc : c = 0 := by apply UInt8.toNat_inj.1; show c.toNat = 0; omega
    refine ⟨vz, r1, s1, hq.symm, ?_, by unfold validV vz; simp, l1⟩
    rw [hc]
    unfold putV validV vz
    simp
theorem argsR_stay : ∀ (n : Nat) (s : RS) (acc : List VE) (q : List VE × RS), argsR n s acc = some q → ¬ s.err = 0 → ¬ q.2.err = 0
  | 0, s, acc, q, h, hs => by cases h; exact hs
  | n + 1, s, acc, q, h, hs => by
    unfold argsR at h
    split at h
    · cases h
    · exact argsR_stay n _ _ q h (takeV_stay hs)
theorem argsR_back {B : List UInt8} : ∀ (n : Nat) (s : RS) (acc : List VE) (q : List VE × RS) (r : List UInt8), argsR n s acc = some q → q.2.err = 0 → Lf s B r → ∃ l r', q.1 = acc ++ l ∧ l.length = n ∧ r = (l.map (putV [])).flatten ++ r' ∧ l.all givenB = true ∧ Lf q.2 B r'
  | 0, s, acc, q, r, h, he, hL => by cases h; exact ⟨[], r, by simp, rfl, rfl, rfl, hL⟩
  | n + 1, s, acc, q, r, h, he, hL => by
    unfold argsR at h
    split at h
    · cases h
    · rename_i hk
      have h0 : (takeV s).2.err = 0 := by
        by_cases z : (takeV s).2.err = 0
        · exact z
        · exact absurd he (argsR_stay n _ _ q h z)
      obtain ⟨v, r1, s1, e1, rfl, hv, l1⟩ := takeV_back hL h0
      rw [e1] at h hk h0
      simp only at h hk h0
      have hkd : ¬ v.kd = 0 := fun z => hk ⟨h0, z⟩
      obtain ⟨l, r2, g1, g2, rfl, g4, g5⟩ := argsR_back n s1 _ q r1 h he l1
      refine ⟨v :: l, r2, by rw [g1]; simp, by rw [List.length_cons, g2], by simp, ?_, g5⟩
      rw [List.all_cons, g4, Bool.and_true]
      unfold givenB
      rw [hv, Bool.true_and, decide_eq_true_eq]
      exact hkd
theorem getR_back {b : List UInt8} {q : RE} (h : getR b = some q) : b = reqB [] q ∧ checkR q = 0 ∧ q.tk < 2 ^ 64 := by
  unfold getR at h
  split at h
  · cases h
  cases ha : argsR (rq5 b).1 (rq5 b).2 [] with
  | none => rw [ha] at h; cases h
  | some p =>
  rw [ha] at h
  unfold endR at h
  simp only at h
  split at h
  case isFalse => cases h
  rename_i hfin
  obtain ⟨he, hpos⟩ := fin_err hfin
  have h5 : (rq5 b).2.err = 0 := by
    by_cases z : (rq5 b).2.err = 0
    · exact z
    · exact absurd he (argsR_stay _ _ _ p ha z)
  have h4 : (rq4 b).err = 0 := by
    by_cases z : (rq4 b).err = 0
    · exact z
    · exact absurd h5 (take_stay z)
  have hnm : nameB (rq3 b).1 = true := by
    unfold rq4 at h4
    split at h4
    · exact absurd h4 (fail_ne (by decide))
    · rename_i z; simpa using z
  have h43 : rq4 b = (rq3 b).2 := by unfold rq4; rw [hnm, if_neg (by decide)]
  have h3 : (rq3 b).2.err = 0 := by rw [← h43]; exact h4
  have h2 : (rq2 b).2.err = 0 := by
    by_cases z : (rq2 b).2.err = 0
    · exact z
    · exact absurd h3 (take_stay z)
  have h1 : (rq1 b).2.err = 0 := by
    by_cases z : (rq1 b).2.err = 0
    · exact z
    · exact absurd h2 (take_stay z)
  obtain ⟨n1, r1, s1, e1, hb, f1, g1, l1⟩ := (Lf.start b).blim (by decide) h1
  have q1 : rq1 b = (n1, s1) := e1
  unfold rq2 at h2
  rw [q1] at h2
  obtain ⟨n2, r2, s2, e2, rfl, f2, l2⟩ := l1.bnum h2
  have q2 : rq2 b = (n2, s2) := by unfold rq2; rw [q1]; exact e2
  unfold rq3 at h3
  rw [q2] at h3
  obtain ⟨t3, r3, s3, e3, rfl, f3, l3⟩ := l2.btext h3
  have q3 : rq3 b = (t3, s3) := by unfold rq3; rw [q2]; exact e3
  unfold rq5 at h5
  rw [h43, q3] at h5
  obtain ⟨n5, r5, s5, e5, rfl, f5, g5, l5⟩ := l3.blim (by decide) h5
  have q5 : rq5 b = (n5, s5) := by unfold rq5; rw [h43, q3]; exact e5
  rw [q5] at ha
  obtain ⟨l, r6, k1, k2, rfl, k4, k5⟩ := argsR_back n5 s5 [] p r5 ha he l5
  have hr6 : r6 = [] := by
    have := k5.2.2
    rw [List.drop_eq_nil_iff.2 (by omega)] at this
    exact this.symm
  rw [q1, q2, q3, k1] at h
  rw [q3] at hnm
  cases h
  simp only [List.nil_append] at *
  refine ⟨?_, ?_, f2⟩
  · rw [reqB_app]
    simp only [List.nil_append]
    rw [hb, hr6, k2, List.append_nil]
    simp
  · unfold checkR
    simp only
    rw [if_neg (by omega), if_neg (by rw [hnm]; decide), if_neg (by omega), if_neg (by rw [k4]; decide)]
end Go.Proofs.YtjlaomcankmdjaaGreat

namespace Go.Proofs.YtjlaomcankmdjaaGreat
open Go.Proofs.Eng Go.Proofs.Codec Go.Proofs.Foot Go.Proofs.Journal
theorem getEn_back {b : List UInt8} {e : EE} (h : getEn b = some e) : b = entB [] e ∧ EOk e := by
  have hfit := getEn_fit b e h
  unfold getEn at h
  split at h
  · cases h
  rename_i hc
  cases hq : getR (ge3 b).1 with
  | none => rw [hq] at h; cases h
  | some q =>
  rw [hq] at h
  unfold geQ at h
  simp only at h
  split at h
  case isFalse => cases h
  rename_i hg
  cases h
  have h4 : (ge4 b).2.err = 0 := by
    by_cases z : (ge4 b).2.err = 0
    · exact z
    · exact absurd (.inl z) hc
  have h3 : (ge3 b).2.err = 0 := by
    by_cases z : (ge3 b).2.err = 0
    · exact z
    · exact absurd h4 (take_stay z)
  have h2 : (ge2 b).2.err = 0 := by
    by_cases z : (ge2 b).2.err = 0
    · exact z
    · exact absurd h3 (take_stay z)
  have h1 : (ge1 b).2.err = 0 := by
    by_cases z : (ge1 b).2.err = 0
    · exact z
    · exact absurd h2 (take_stay z)
  obtain ⟨n1, r1, s1, e1, hb, f1, l1⟩ := (Lf.start b).bnum h1
  have q1 : ge1 b = (n1, s1) := e1
  unfold ge2 at h2
  rw [q1] at h2
  obtain ⟨n2, r2, s2, e2, rfl, f2, l2⟩ := l1.bnum h2
  have q2 : ge2 b = (n2, s2) := by unfold ge2; rw [q1]; exact e2
  unfold ge3 at h3
  rw [q2] at h3
  obtain ⟨t3, r3, s3, e3, rfl, f3, l3⟩ := l2.btext h3
  have q3 : ge3 b = (t3, s3) := by unfold ge3; rw [q2]; exact e3
  unfold ge4 at h4
  rw [q3] at h4
  obtain ⟨c, r4, s4, e4, rfl, l4⟩ := l3.bbyte h4
  have q4 : ge4 b = (c.toNat, s4) := by unfold ge4; rw [q3]; exact e4
  obtain ⟨hrest, hdrop⟩ := l4.rest
  have hF : geF b = getF r4 := by unfold geF; rw [q4]; simp only; rw [hdrop]
  rw [q1, q2, q4] at hc
  rw [q3] at hq
  simp only at hc hq
  rw [hF, q4] at hg
  simp only at hg
  rw [hrest] at hg
  obtain ⟨g1, -, g3⟩ := put_get hg.1
  rw [hg.2, List.take_length] at g3
  obtain ⟨hqb, hqc, hqt⟩ := getR_back hq
  have hn1 : n1 ≤ 9223372036854775807 := by
    by_cases z : n1 ≤ 9223372036854775807
    · exact z
    · exact absurd (.inr (.inl (by omega))) hc
  have hn2 : n2 ≤ 9223372036854775807 := by
    by_cases z : n2 ≤ 9223372036854775807
    · exact z
    · exact absurd (.inr (.inr (.inl (by omega)))) hc
  have hhow : c.toNat = 1 ∨ c.toNat = 2 := by
    by_cases z : c.toNat = 1 ∨ c.toNat = 2
    · exact z
    · exact absurd (.inr (.inr (.inr ⟨fun y => z (.inl y), fun y => z (.inr y)⟩))) hc
  rw [q1, q2, q4, hF] at hfit ⊢
  simp only at hfit ⊢
  refine ⟨?_, ⟨by simp only; omega, by simp only; omega, ?_, hfit⟩⟩
  · rw [entB_app]
    simp only [Int.toNat_natCast, List.nil_append]
    rw [g3, ← hqb, UInt8.ofNat_toNat]
    exact hb
  · unfold rightP
    simp only
    rw [if_neg (by rw [hqc]; decide), if_neg (by omega), if_neg]
    show ¬ isNorm _ _ = false
    rw [g1]
    decide
theorem ofNat_mod {a n : Nat} (c : UInt8) (h : n % 256 = c.toNat) : UInt8.ofNat (n % 256) = c := by
  rw [h]; exact UInt8.ofNat_toNat
theorem four_back {l : List UInt8} (h : 4 ≤ l.length) : four (le4 l) = l.take 4 := by
  rw [le4_num h]
  match l, h with
  | a :: b :: c :: d :: t, _ =>
    have ha := UInt8.toNat_lt a
    have hb := UInt8.toNat_lt b
    have hc := UInt8.toNat_lt c
    have hd := UInt8.toNat_lt d
    show four (num [a, b, c, d]) = [a, b, c, d]
    have hn : num [a, b, c, d] = a.toNat + 256 * (b.toNat + 256 * (c.toNat + 256 * (d.toNat + 256 * 0))) := rfl
    rw [hn]
    unfold four
    congr 1
    · exact ofNat_mod (a := 0) a (by omega)
    congr 1
    · exact ofNat_mod (a := 0) b (by omega)
    congr 1
    · exact ofNat_mod (a := 0) c (by omega)
    congr 1
    · exact ofNat_mod (a := 0) d (by omega)
theorem openF_back {l : List UInt8} (h : (openF l).2.2 = 0) : frame (openF l).1 = l.take (openF l).2.1 ∧ (openF l).1.length ≤ 65536 := by
  unfold openF at h ⊢
  split
  · rename_i g; rw [if_pos g] at h; cases h
  rename_i g
  rw [if_neg g] at h
  split
  · rename_i g; rw [if_pos g] at h; cases h
  rename_i g2
  rw [if_neg g2] at h
  split
  · rename_i g; rw [if_pos g] at h; cases h
  rename_i g3
  rw [if_neg g3] at h
  split
  case isFalse => rename_i g; rw [if_neg g] at h; cases h
  rename_i g4
  obtain ⟨n, hn⟩ : ∃ n, le4 l = n := ⟨_, rfl⟩
  have hf := four_back (l := l) (by omega)
  rw [hn] at g2 g3 g4 hf ⊢
  simp only
  have hlen : ((l.drop 4).take n).length = n := by rw [List.length_take, List.length_drop]; omega
  have h4n : l.take (n + 4) = four n ++ (l.drop 4).take n := by
    rw [hf, Nat.add_comm n 4, List.take_add]
  refine ⟨?_, by omega⟩
  unfold frame
  rw [hlen, ← h4n, g4, four_back (by rw [List.length_drop]; omega), ← List.take_add]
theorem framesF_back : ∀ (f : Nat) (l : List UInt8), cat (framesF f l).1 = l.take (framesF f l).2.1 ∧ (framesF f l).2.1 ≤ l.length ∧ ∀ p ∈ (framesF f l).1, p.length ≤ 65536
  | 0, l => ⟨rfl, Nat.zero_le _, fun p hp => by cases hp⟩
  | f + 1, l => by
    unfold framesF
    split
    · exact ⟨rfl, Nat.zero_le _, fun p hp => by cases hp⟩
    split
    · rename_i h0 h1
      obtain ⟨g1, g2⟩ := openF_ok h1
      obtain ⟨g3, g4⟩ := openF_back h1
      obtain ⟨k1, k2, k3⟩ := framesF_back f (l.drop (openF l).2.1)
      rw [List.length_drop] at k2
      refine ⟨?_, by simp only; omega, fun p hp => ?_⟩
      · simp only
        rw [cat, g3, k1, List.take_add]
      · rcases List.mem_cons.1 hp with rfl | q
        · exact g4
        · exact k3 p q
    · exact ⟨rfl, Nat.zero_le _, fun p hp => by cases hp⟩
end Go.Proofs.YtjlaomcankmdjaaGreat

namespace Go.Proofs.YtjlaomcankmdjaaGreat
open Go.Proofs.Eng Go.Proofs.Codec Go.Proofs.Foot Go.Proofs.Journal
theorem newE_snoc (L : LE) (ep : Int) (ps : List PE) (p : PE) : newE L ep (ps ++ [p]) = newE L ep ps ++ [⟨((L.l.length + ps.length : Nat) : Int), ep, p⟩] := by
  apply List.ext_getElem
  · rw [newE_len, List.length_append, List.length_append, newE_len]; rfl
  · intro i h1 h2
    rw [newE_len, List.length_append, List.length_singleton] at h1
    rw [newE_at L ep _ i (by rw [List.length_append, List.length_singleton]; exact h1)]
    by_cases q : i < ps.length
    · rw [List.getElem_append_left (by rw [newE_len]; exact q), newE_at L ep ps i q]
      simp only [List.getD_eq_getElem?_getD]
      rw [List.getElem?_append_left q]
    · have : i = ps.length := by omega
      subst this
      rw [List.getElem_append_right (by rw [newE_len]; exact Nat.le_refl _)]
      simp
theorem newE_nil (L : LE) (ep : Int) : newE L ep [] = [] := rfl
theorem newE_ep {L : LE} {ep ep' : Int} {ps : List PE} (h : 0 < ps.length → ep = ep') : newE L ep ps = newE L ep' ps := by
  cases ps with
  | nil => rfl
  | cons p ps => rw [h (by simp)]
structure Got (ps : List (List UInt8)) (q : SC × Nat × Nat) (l : List EP) (ep : Int) (op : List PE) : Prop where
  eq : ps = loadsF L0 l ++ (newE (logF L0 l) ep op).map entL
  g : GoodF L0 l
  log : q.1.log = logF L0 l
  hop : q.1.op = op
  last : q.1.last = (logF L0 l).ep
  hep : 0 < op.length → q.1.ep = ep ∧ (logF L0 l).ep ≤ ep ∧ ep ≤ 9223372036854775807
  ok : ∀ p ∈ op, rightP p = 0 ∧ PFit p
  n : (logF L0 l).l.length + op.length ≤ 65536
  a : q.2.1 = (cat ps).length
  w : q.2.2 = (cat (loadsF L0 l)).length
theorem Got.start : Got [] (sc0, 0, 0) [] 0 [] := ⟨rfl, trivial, rfl, rfl, rfl, (fun h => absurd h (by decide)), (fun p hp => by cases hp), Nat.zero_le _, rfl, rfl⟩
theorem end_back {t : List UInt8} (h : (ge1 t).2.fin.err = 0) : t = encU (ge1 t).1 := by
  obtain ⟨h1, h2⟩ := fin_err h
  obtain ⟨n, r, s, e1, hb, f1, l1⟩ := (Lf.start t).bnum h1
  have q1 : ge1 t = (n, s) := e1
  rw [q1] at h2 ⊢
  simp only at h2 ⊢
  have := l1.2.2
  rw [List.drop_eq_nil_iff.2 (by omega)] at this
  rw [← this, List.append_nil] at hb
  exact hb
theorem Got.step {ps : List (List UInt8)} {q q' : SC × Nat × Nat} {l : List EP} {ep : Int} {op : List PE} {p : List UInt8} (G : Got ps q l ep op) (h : stepF q p = some q') : ∃ l' ep' op', Got (ps ++ [p]) q' l' ep' op' := by
  obtain ⟨s, a, w⟩ := q
  obtain ⟨g1, g2, g3, g4, g5, g6, g7, g8, g9, g10⟩ := G
  simp only at g3 g4 g5 g6 g9 g10
  unfold stepF at h
  simp only at h
  cases hs : scR s p with
  | none => rw [hs] at h; cases h
  | some s' =>
  rw [hs] at h
  simp only at h
  cases h
  have ha : a + (p.length + 8) = (cat (ps ++ [p])).length := by rw [cat_snoc, List.length_append, frame_len, g9]
  cases p with
  | nil => cases hs
  | cons c t =>
  replace hs : (if c.toNat = 1 then scE s t else if c.toNat = 2 then scN s t else none) = some s' := hs
  split at hs
  · rename_i hc
    have hc1 : c = 1 := by apply UInt8.toNat_inj.1; rw [hc]; rfl
    unfold scE at hs
    cases he : getEn t with
    | none => rw [he] at hs; cases hs
    | some e =>
    rw [he] at hs
    simp only at hs
    split at hs
    · cases hs
    rename_i hn
    cases hs
    obtain ⟨e1, e2⟩ := getEn_back he
    rw [g3, g4, g5] at hn
    have n1 : e.sq = (((logF L0 l).l.length + op.length : Nat) : Int) := by
      by_cases z : e.sq = (((logF L0 l).l.length + op.length : Nat) : Int)
      · exact z
      · exact absurd (.inl z) hn
    have n2 : (logF L0 l).l.length + op.length < 65536 := by
      by_cases z : (logF L0 l).l.length + op.length < 65536
      · exact z
      · exact absurd (.inr (.inl (by omega))) hn
    have n3 : (logF L0 l).ep ≤ e.ep := by
      by_cases z : (logF L0 l).ep ≤ e.ep
      · exact z
      · exact absurd (.inr (.inr (.inl (by omega)))) hn
    have n4 : 0 < op.length → ep = e.ep := fun h0 => by
      by_cases z : e.ep = s.ep
      · rw [z, (g6 h0).1]
      · exact absurd (.inr (.inr (.inr ⟨h0, z⟩))) hn
    have hE : entL e = c :: t := by unfold entL; rw [hc1, e1]
    have hgb : ¬ gb (c :: t) 0 = 2 := by
      show ¬ c.toNat = 2
      omega
    refine ⟨l, e.ep, op ++ [e.p], ?_, g2, g3, by show s.op ++ [e.p] = _; rw [g4], g5, fun _ => ⟨rfl, n3, e2.ep.2⟩, fun y hy => ?_, by rw [List.length_append, List.length_singleton]; omega, ha, ?_⟩
    · rw [g1, newE_snoc, ← newE_ep n4, List.map_append, List.append_assoc]
      congr 2
      rw [List.map_singleton, ← hE]
      congr 2
      obtain ⟨sq, ep2, p2⟩ := e
      simp only at n1 ⊢
      rw [n1]
    · rcases List.mem_append.1 hy with z | z
      · exact g7 y z
      · rw [List.mem_singleton.1 z]; exact ⟨e2.rt, e2.ft⟩
    · simp only
      rw [if_neg hgb]
      exact g10
  · rename_i hc1
    split at hs
    case isFalse => cases hs
    rename_i hc
    have hc2 : c = 2 := by apply UInt8.toNat_inj.1; rw [hc]; rfl
    unfold scN at hs
    split at hs
    · cases hs
    rename_i hn
    split at hs
    · cases hs
    rename_i hap
    cases hs
    have hfin : (ge1 t).2.fin.err = 0 := by
      by_cases z : (ge1 t).2.fin.err = 0
      · exact z
      · exact absurd (.inl z) hn
    have ht := end_back hfin
    obtain ⟨n, hnd⟩ : ∃ n, (ge1 t).1 = n := ⟨_, rfl⟩
    rw [hnd] at hn hap ht ⊢
    rw [g3, g4] at hap ⊢
    rw [g4, g5] at hn
    have n1 : n < 9223372036854775808 := by
      by_cases z : n < 9223372036854775808
      · exact z
      · exact absurd (.inr (.inl (by omega))) hn
    have n4 : 0 < op.length → ep = (n : Int) := fun h0 => by
      by_cases z : (n : Int) = s.ep
      · rw [z, (g6 h0).1]
      · exact absurd (.inr (.inr (.inr ⟨h0, z⟩))) hn
    obtain ⟨b1, b2, b3, b4, b5⟩ := app_ok (L := logF L0 l) (ep := (n : Int)) (ps := op) (by
      by_cases z : (appL (logF L0 l) (n : Int) op).2.2.1 = 0
      · exact z
      · exact absurd z hap)
    have hG : GoodE (logF L0 l) ((n : Int), op) := ⟨b1, by simp only; omega, b3, b4, fun y hy => (g7 y hy).2⟩
    have hgb : gb (c :: t) 0 = 2 := hc
    have hlo : loadsE (logF L0 l) ((n : Int), op) = (newE (logF L0 l) ep op).map entL ++ [c :: t] := by
      unfold loadsE endL2
      simp only [Int.toNat_natCast]
      rw [newE_ep n4, hc2, ← ht]
    have heq : ps ++ [c :: t] = loadsF L0 (l ++ [((n : Int), op)]) := by rw [loadsF_snoc, hlo, g1, List.append_assoc]
    refine ⟨l ++ [((n : Int), op)], 0, [], by rw [heq, newE_nil]; simp, GoodF_snoc g2 hG, ?_, rfl, ?_, (fun h => absurd h (by decide)), (fun y hy => by cases hy), ?_, ha, ?_⟩
    · simp only
      rw [b5, logF_snoc]
    · rw [logF_snoc]; rfl
    · rw [logF_snoc, addL_l, List.length_append, newE_len]
      exact b3
    · simp only
      rw [if_pos hgb, ha, heq]
theorem Got.run : ∀ (ps : List (List UInt8)) {done : List (List UInt8)} {q q' : SC × Nat × Nat} {l : List EP} {ep : Int} {op : List PE}, Got done q l ep op → runF ps q = some q' → ∃ l' ep' op', Got (done ++ ps) q' l' ep' op'
  | [], done, q, q', l, ep, op, G, h => by cases h; exact ⟨l, ep, op, by rw [List.append_nil]; exact G⟩
  | p :: ps, done, q, q', l, ep, op, G, h => by
    unfold runF at h
    cases hs : stepF q p with
    | none => rw [hs] at h; cases h
    | some q1 =>
      rw [hs] at h
      obtain ⟨l1, ep1, op1, G1⟩ := G.step hs
      obtain ⟨l2, ep2, op2, G2⟩ := Got.run ps G1 h
      exact ⟨l2, ep2, op2, by rw [List.append_assoc] at G2; exact G2⟩
theorem open_back {b : List UInt8} (hb : b.length ≤ 4194304) (h0 : (openJ (newD b)).2.1 = 0) (hk : (openJ (newD b)).2.2.b = b) : ∃ l, GoodF L0 l ∧ (frames b).1 = loadsF L0 l ∧ bytesE l = b := by
  obtain ⟨n1, n2, n3, n4⟩ := newD_b hb
  obtain ⟨k, hkd⟩ : ∃ k, newD b = k := ⟨_, rfl⟩
  rw [hkd] at n1 n2 n3 n4 h0 hk
  unfold openJ at h0 hk
  rw [if_neg (by rw [n3]; decide), n1] at h0 hk
  split at h0
  · cases h0
  rename_i hc
  rw [if_neg hc] at hk
  cases hs : scanF (frames b).1 sc0 0 0 with
  | none => rw [hs] at h0; cases h0
  | some r =>
  rw [hs] at h0 hk
  obtain ⟨s, wh⟩ := r
  simp only at h0 hk
  rw [scanF_run] at hs
  cases hr : runF (frames b).1 (sc0, 0, 0) with
  | none => rw [hr] at hs; cases hs
  | some q =>
  rw [hr] at hs
  cases hs
  obtain ⟨l, ep, op, G⟩ := Got.run (frames b).1 Got.start hr
  rw [List.nil_append] at G
  obtain ⟨f1, f2, f3⟩ := framesF_back b.length b
  have hwb : ¬ q.2.2 < b.length := fun z => by
    unfold open2 at hk
    rw [n1, if_pos z] at hk
    have ho : ¬ (k.off = true ∨ k.lf = 0) := by rw [n3, n4]; decide
    unfold opD at hk
    rw [if_neg ho] at hk
    rw [cutD_ok (k := { k with lf := if 0 < k.lf then k.lf - 1 else k.lf }) (by show q.2.2 ≤ k.b.length; rw [n1]; omega)] at hk
    simp only at hk
    rw [if_neg (by decide)] at hk
    unfold open3 at hk
    have hsd : ¬ safeD { b := k.b.take q.2.2, sf := q.2.2, lf := if 0 < k.lf then k.lf - 1 else k.lf, off := k.off } < q.2.2 := by
      unfold safeD
      simp only
      rw [if_neg (by rw [n3]; decide)]
      omega
    rw [if_neg hsd] at hk
    simp only at hk
    rw [if_neg (by decide)] at hk
    have := congrArg List.length hk
    simp only [List.length_take] at this
    rw [n1] at this
    omega
  have hcat := congrArg List.length f1
  rw [List.length_take] at hcat
  have hps : (cat (frames b).1).length = (cat (loadsF L0 l)).length + (cat ((newE (logF L0 l) ep op).map entL)).length := by
    conv => lhs; rw [G.eq, cat_app, List.length_append]
  have hcat2 : (cat (frames b).1).length = min (framesF b.length b).2.1 b.length := hcat
  have hw := G.w
  have hop : op = [] := by
    cases op with
    | nil => rfl
    | cons p op =>
      exfalso
      have hl : (newE (logF L0 l) ep (p :: op)).length = op.length + 1 := newE_len _ _ _
      cases hz : newE (logF L0 l) ep (p :: op) with
      | nil => rw [hz] at hl; simp at hl
      | cons y ys =>
        rw [hz, List.map_cons, cat, List.length_append, frame_len] at hps
        omega
  rw [hop, newE_nil] at hps
  have heq := G.eq
  rw [hop, newE_nil] at heq
  simp only [List.map_nil, List.append_nil] at heq
  refine ⟨l, G.g, heq, ?_⟩
  show cat (loadsF L0 l) = b
  rw [← heq]
  show cat (framesF b.length b).1 = b
  have hps2 : (cat (frames b).1).length = (cat (loadsF L0 l)).length := by rw [hps]; rfl
  rw [f1, List.take_of_length_le]
  omega
end Go.Proofs.YtjlaomcankmdjaaGreat

namespace Go.Proofs.YtjlaomcankmdjaaGreat
open Go.RowKit Go.Proofs.Eng Go.Proofs.Codec Go.Proofs.Foot Go.Proofs.Journal
set_option linter.unusedVariables false set_option maxRecDepth 10000
attribute [local irreducible] T TL LV TH TA
set_option maxHeartbeats 3200000
theorem reget_c (e : EE) (A : Option Addr) (n c : Nat) (w : World) (ok : EOk e) (h : Rd w A n 1 (bv (entB [] e))) (hcap : n ≤ c) :
    Ret Tryz.prog 16 [.slice A n c] w (fun u w' => ∃ x : EM, u = .tuple #[eA x, .int .i64 0] ∧ emE x = e ∧ Ext w w' ∧ POwn w' w.heap.size x.m) := by
  obtain ⟨hc, hh, hno⟩ := right_ok ok.rt
  have hl := entB_len ok
  have hrl := reqB_len (b := []) ok.ft.q hc
  simp only [List.length_nil] at hrl
  have hsq := ok.sq
  have hep := ok.ep
  have hp := get_put [] (show isNorm e.p.rd e.p.wr = true from hno)
  rw [List.append_nil] at hp
  obtain ⟨n64a, n64b, -, -⟩ := norm_fit (show isNorm e.p.rd e.p.wr = true from hno)
  have hb := entB_app [] e
  rw [List.nil_append] at hb
  obtain ⟨B, hB⟩ : ∃ B, entB [] e = B := ⟨_, rfl⟩
  rw [hB] at h hl hb
  have hn : B.length = n := by simpa using h.1
  obtain ⟨F, hFd⟩ : ∃ F, putB (ofM e.p.rd e.p.wr) = F := ⟨_, rfl⟩
  rw [hFd] at hb hp
  have l0 : Lf ⟨B, 0, 0, 0, 0⟩ B (encU e.sq.toNat ++ (encU e.ep.toNat ++ (encU (reqB [] e.p.q).length ++ (reqB [] e.p.q ++ (UInt8.ofNat e.p.how.toNat :: F))))) := by
    have := Lf.start B
    rw [← hb]; exact this
  have hFl : F.length ≤ n := by
    rw [← hn, hb]
    simp only [List.length_append, List.length_cons]
    omega
  obtain ⟨s1, q1, L1⟩ := l0.num (by omega)
  obtain ⟨s2, q2, L2⟩ := L1.num (by omega)
  obtain ⟨s3, q3, L3⟩ := L2.text (most := 1073741824) (by omega) (by omega)
  obtain ⟨s4, q4, L4⟩ := L3.byte
  obtain ⟨hrest, hdrop⟩ := L4.rest
  have hho : (UInt8.ofNat e.p.how.toNat).toNat = e.p.how.toNat := toNat_ofNat (by omega)
  rw [hho] at q4
  clear l0 hB
  have a1 : ((e.sq.toNat : Nat) : Int) = e.sq := by omega
  have a2 : ((e.ep.toNat : Nat) : Int) = e.ep := by omega
  have a3 : ((e.p.how.toNat : Nat) : Int) = e.p.how := by omega
  refine ret_T (n := 90) Tryz.func16 rfl rfl ?_
  repeat (first | refine T_seq ?_ | refine T_region ?_)
  refine TL_alloc TE (hk := ?_); intro b1 w1 e1 h1 h1' k1
  repeat (first | refine T_seq ?_ | refine T_region ?_ | refine TL_nil ?_ | refine TL_move (hk := ?_) | refine TL_assign (hk := ?_))
  refine TL_call TE (hc := RNew_l A n c B w1 (h.be e1) (by omega)) (hk := ?_)
  rintro _ w2 ⟨bR, A2, n2, c2, rfl, e2, hbR, hi2, lo2, rr⟩
  have z1 := e1.size
  have z2 := e2.size
  have lR := rr.blk.lt
  have k12 := k1.be e2
  clear k1
  repeat (first | refine T_seq ?_ | refine T_region ?_ | refine TL_nil ?_ | refine TL_assign (hk := ?_) | refine TL_build TE (hk := ?_))
  refine TL_alloc TE (hk := ?_); intro b3 w3 e3 h3 h3' k3
  --
  refine TL_storea TE (hk := ?_); intro w4 m4 z4 k4
  have z3 := e3.size
  have e24 : Ext w2 w4 := e3.step m4 (fun u hu => .inr (by rw [List.mem_singleton.1 hu]; omega))
  have rr4 := rr.ext e24
  have k14 := k12.be e24
  replace k4 : Blk w4 b3 47 [.int .i64 0, .int .i64 0, .int .i64 0, .int .u64 0, .string (ofL []), .slice none 0 0, .int .i64 0, .slice none 0 0, .slice none 0 0] := k4
  clear k12 k3
  repeat (first | refine T_seq ?_ | refine T_region ?_ | refine TL_nil ?_ | refine TL_move (hk := ?_))
  refine TL_call TE (hc := RUint_c bR _ A2 n2 c2 w4 rr4) (hk := ?_)
  rintro _ w5 ⟨rfl, m5, rr5⟩
  rw [q1] at rr5 ⊢
  simp only at rr5 ⊢
  repeat (refine TL_move (hk := ?_))
  refine TL_call TE (hc := RUint_c bR _ A2 n2 c2 w5 rr5) (hk := ?_)
  rintro _ w6 ⟨rfl, m6, rr6⟩
  rw [q2] at rr6 ⊢
  simp only at rr6 ⊢
  repeat (first | refine T_seq ?_ | refine T_region ?_ | refine TL_nil ?_ | refine TL_move (hk := ?_) | refine TL_assign (hk := ?_))
  refine TL_call TE (hc := RText_c bR s2 A2 n2 c2 1073741824 (by decide) w6 rr6) (hk := ?_)
  rintro _ w7 ⟨rfl, m7, rr7⟩
  rw [q3] at rr7 ⊢
  simp only at rr7 ⊢
  repeat (first | refine T_seq ?_ | refine T_region ?_ | refine TL_nil ?_ | refine TL_move (hk := ?_) | refine TL_assign (hk := ?_))
  refine TL_call TE (hc := RByte_c bR s3 A2 n2 c2 w7 rr7) (hk := ?_)
  rintro _ w8 ⟨rfl, m8, rr8⟩
  rw [q4] at rr8 ⊢
  simp only at rr8 ⊢
  rw [a1, a2, a3]
  have m48 := ((m5.trans m6).trans m7).trans m8
  have k18 := k14.mod m48 (by simp; omega)
  have k48 := k4.mod m48 (by simp; omega)
  have z8 := m48.size
  have e08 : Ext w w8 := ((e1.ext e2).ext e24).step m48 (fun u hu => .inr (by rw [List.mem_singleton.1 hu]; omega))
  have kb8 := rr8.blk
  rw [L4.1] at kb8
  clear rr rr4 rr5 rr6 rr7 k14 k4 m5 m6 m7 m8 q1 q2 q3 q4 L1 L2 L3
  repeat (first | refine T_seq ?_ | refine T_region ?_ | refine T_cond_false rfl ?_ | refine T_skip ?_ | refine TL_ge_f (hk := ?_) | refine TL_ne_f (hk := ?_) | refine TL_nil ?_ | refine TL_move (hk := ?_) | refine TL_assign (hk := ?_) | refine TL_load TE (hk := ?_) | refine TL_fieldAddr TE (hk := ?_) | refine TL_yes (hk := ?_) | refine TL_pick_f (hk := ?_) | refine TL_nilCheck (hk := ?_) | refine TL_conv TE (hk := ?_))
  refine TL_store TE (hk := ?_); intro w9 m9 z9 k9
  replace k9 : Blk w9 b3 47 [.int .i64 e.sq, .int .i64 0, .int .i64 0, .int .u64 0, .string (ofL []), .slice none 0 0, .int .i64 0, .slice none 0 0, .slice none 0 0] := k9
  repeat (refine TL_fieldAddr TE (hk := ?_))
  refine TL_store TE (hk := ?_); intro w10 m10 z10 k10
  replace k10 : Blk w10 b3 47 [.int .i64 e.sq, .int .i64 e.ep, .int .i64 0, .int .u64 0, .string (ofL []), .slice none 0 0, .int .i64 0, .slice none 0 0, .slice none 0 0] := k10
  have k110 := (k18.mod m9 (by simp; omega)).mod m10 (by simp; omega)
  have rr10 := (rr8.mod m9 (by simp; omega) (Off.lo lo2 (by omega))).mod m10 (by simp; omega) (Off.lo lo2 (by omega))
  have e010 : Ext w w10 := (e08.step m9 (fun u hu => .inr (by rw [List.mem_singleton.1 hu]; omega))).step m10 (fun u hu => .inr (by rw [List.mem_singleton.1 hu]; omega))
  clear k18 k48 k9 kb8 rr8
  repeat (first | refine T_seq ?_ | refine T_region ?_ | refine TL_nil ?_ | refine TL_move (hk := ?_))
  refine TL_conv_sb TE (hk := ?_); intro b11 c11 w11 e11 h11 h11' hc11 r11
  --
  refine TL_call TE (hc := rqget_c e.p.q (some ⟨b11, 0, none⟩) (reqB [] e.p.q).length c11 w11 hc ok.ft.q r11) (hk := ?_)
  rintro _ w12 ⟨Y, rfl, e12, oY⟩
  repeat (first | refine TL_move (hk := ?_) | refine TL_extract (hk := ?_))
  refine TL_alloc TE (hk := ?_); intro b13 w13 e13 h13 h13' k13
  --
  refine TL_storea TE (hk := ?_); intro w14 m14 z14 k14
  replace k14 : Blk w14 b13 40 [.int .i64 e.p.q.cl, .int .u64 (e.p.q.tk : Int), .string (ofL e.p.q.nm), .slice Y.1 Y.2.1 Y.2.2] := k14
  have z11 := e11.size
  have z12 := e12.size
  have z13 := e13.size
  have e1014 : Ext w10 w14 := ((e11.ext e12).ext e13).step m14 (fun u hu => .inr (by rw [List.mem_singleton.1 hu]; omega))
  have oY14 : Own w14 w11.heap.size 161 3 Y.1 Y.2.1 Y.2.2 (rowV veV e.p.q.ar) := (oY.be e13).modL m14 (fun u hu q => by have := (oY.bl u hu).2; rw [List.mem_singleton] at q; omega)
  have rr14 := rr10.ext e1014
  have k114 := k110.be e1014
  have k1014 := k10.be e1014
  clear rr10 k110 k10 oY k13
  repeat (first | refine T_seq ?_ | refine T_region ?_ | refine T_cond_false rfl ?_ | refine T_skip ?_ | refine TL_ne_f (hk := ?_) | refine TL_nil ?_ | refine TL_move (hk := ?_) | refine TL_assign (hk := ?_) | refine TL_len TE (hk := ?_))
  refine TL_call TE (hc := RRest_c bR _ A2 n2 c2 w14 rr14) (hk := ?_)
  rintro _ w15 ⟨rfl, e15⟩
  rw [hrest]
  obtain ⟨y, hy⟩ : ∃ y, n - F.length = y := ⟨_, rfl⟩
  have hyi : (n : Int) - (F.length : Int) = (y : Int) := by omega
  rw [hrest, hn, hy] at hdrop
  repeat (first | refine TL_sub (hk := ?_) | refine TL_slice_lo TE (hk := ?_))
  have hyn : ((n : Int) - (F.length : Int)).toNat = y := by omega
  rw [hyn]
  have h15 := h.be ((e010.ext e1014).ext e15)
  refine TL_call TE (hc := RGet_c (cutA A c y 1) (n - y) (c - y) (B.drop y) w15 (Rd.tail1 h15 (by omega) hcap) (by omega)) (hk := ?_)
  have hgF : getF (B.drop y) = (((e.p.rd, e.p.wr), F.length), 0) := by rw [hdrop]; exact hp
  obtain ⟨gF, hgf⟩ : ∃ g, getF (B.drop y) = g := ⟨_, rfl⟩
  rw [hgf] at hgF ⊢
  have hg1 : gF.1.2 = F.length := by rw [hgF]
  have hg2 : gF.2 = 0 := by rw [hgF]
  have hg3 : gF.1.1.1 = e.p.rd := by rw [hgF]
  have hg4 : gF.1.1.2 = e.p.wr := by rw [hgF]
  rintro _ w16 ⟨_, rfl, e16, ⟨U, nu, cu, V, nv, cv, rfl, oU, oV, -⟩⟩
  rw [hg3] at oU
  rw [hg4] at oV
  rw [hg1, hg2]
  repeat (first | refine TL_move (hk := ?_) | refine TL_extract (hk := ?_))
  refine TL_alloc TE (hk := ?_); intro b17 w17 e17 h17 h17' k17
  --
  refine TL_storea TE (hk := ?_); intro w18 m18 z18 k18
  replace k18 : Blk w18 b17 43 [.slice U nu cu, .slice V nv cv] := k18
  have z15 := e15.size
  have z16 := e16.size
  have z17 := e17.size
  have e1418 : Ext w14 w18 := ((e15.ext e16).ext e17).step m18 (fun u hu => .inr (by rw [List.mem_singleton.1 hu]; omega))
  have oU18 : Own w18 w15.heap.size 9 1 U nu cu (sv e.p.rd) := (oU.be e17).modL m18 (fun u hu q => by have := (oU.bl u hu).2; rw [List.mem_singleton] at q; omega)
  have oV18 : Own w18 w15.heap.size 9 1 V nv cv (sv e.p.wr) := (oV.be e17).modL m18 (fun u hu q => by have := (oV.bl u hu).2; rw [List.mem_singleton] at q; omega)
  have oY18 := oY14.be e1418
  have k118 := k114.be e1418
  have k1018 := k1014.be e1418
  have k1318 := k14.be e1418
  have rr18 := rr14.ext e1418
  have e018 := (e010.ext e1014).ext e1418
  clear rr14 k114 k1014 k14 oU oV oY14 k17 h15
  repeat (first | refine T_seq ?_ | refine T_region ?_ | refine TL_ne_f (hk := ?_) | refine TL_nil ?_ | refine TL_move (hk := ?_) | refine TL_assign (hk := ?_) | refine TL_yes (hk := ?_))
  refine TL_call TE (hc := RRest_c bR _ A2 n2 c2 w18 rr18) (hk := ?_)
  rintro _ w19 ⟨rfl, e19⟩
  rw [hrest]
  have k119 := k118.be e19
  have k1019 := k1018.be e19
  have k1319 := k1318.be e19
  have k1719 := k18.be e19
  have oU19 := oU18.be e19
  have oV19 := oV18.be e19
  have oY19 := oY18.be e19
  have z19 := e19.size
  have zz := e018.size
  clear k118 k1018 k1318 k18 rr18 oU18 oV18 oY18
  repeat (first | refine T_seq ?_ | refine T_region ?_ | refine T_cond_false rfl ?_ | refine T_skip ?_ | refine TL_ne_f (hk := ?_) | refine TL_nil ?_ | refine TL_yes (hk := ?_) | refine TL_pick_f (hk := ?_))
  refine TL_loadb TE (cs := [.int .i64 e.p.q.cl, .int .u64 (e.p.q.tk : Int), .string (ofL e.p.q.nm), .slice Y.1 Y.2.1 Y.2.2]) (o := 0) rfl rfl k1319 rfl rfl (Nat.succ_pos _) (hk := ?_)
  repeat (first | refine TL_move (hk := ?_) | refine TL_conv TE (hk := ?_))
  refine TL_loadb TE (cs := [.slice U nu cu, .slice V nv cv]) (o := 0) rfl rfl k1719 rfl rfl (Nat.succ_pos _) (hk := ?_)
  repeat (first | refine TL_fieldAddr TE (hk := ?_) | refine TL_build TE (hk := ?_))
  refine TL_storea TE (hk := ?_); intro w20 m20 z20 k20
  replace k20 : Blk w20 b3 47 [.int .i64 e.sq, .int .i64 e.ep, .int .i64 e.p.q.cl, .int .u64 (e.p.q.tk : Int), .string (ofL e.p.q.nm), .slice Y.1 Y.2.1 Y.2.2, .int .i64 e.p.how, .slice U nu cu, .slice V nv cv] := k20
  have k120 := k119.mod m20 (by simp; omega)
  have hzb : ∀ u, w11.heap.size ≤ u → u ∉ [b3] := fun u hu q => by rw [List.mem_singleton] at q; omega
  have hz1014 := e1014.size
  have oU20 := oU19.modL m20 (fun u hu => hzb u (by have := (oU19.bl u hu).1; omega))
  have oV20 := oV19.modL m20 (fun u hu => hzb u (by have := (oV19.bl u hu).1; omega))
  have oY20 := oY19.modL m20 (fun u hu => hzb u (oY19.bl u hu).1)
  have e020 : Ext w w20 := (e018.ext e19).step m20 (fun u hu => .inr (by rw [List.mem_singleton.1 hu]; omega))
  repeat (first | refine T_seq ?_ | refine T_region ?_ | refine TL_nil ?_ | refine TL_fieldAddr TE (hk := ?_))
  refine TL_loadb TE (cs := [.int .i64 e.p.q.cl, .int .u64 (e.p.q.tk : Int), .string (ofL e.p.q.nm), .slice Y.1 Y.2.1 Y.2.2, .int .i64 e.p.how, .slice U nu cu, .slice V nv cv]) (o := 2) rfl rfl k20 rfl rfl (Nat.succ_pos _) (hk := ?_)
  --
  refine TL_call TE (hc := rright_c ⟨e.p, Y, (U, nu, cu), (V, nv, cv)⟩ w20 ⟨oY20.rd, oU20.rd, oV20.rd⟩ ok.ft ok.rt ⟨n64a, n64b⟩) (hk := ?_)
  rintro _ w21 ⟨rfl, e21⟩
  have k121 := k120.be e21
  have k21 := k20.be e21
  have z21 := e21.size
  clear k120 k20
  repeat (first | refine T_seq ?_ | refine T_region ?_ | refine T_cond_false rfl ?_ | refine T_skip ?_ | refine TL_ne_f (hk := ?_) | refine TL_nil ?_)
  refine TL_loadb TE (cs := [.int .i64 e.sq, .int .i64 e.ep, .int .i64 e.p.q.cl, .int .u64 (e.p.q.tk : Int), .string (ofL e.p.q.nm), .slice Y.1 Y.2.1 Y.2.2, .int .i64 e.p.how, .slice U nu cu, .slice V nv cv]) (o := 0) rfl rfl k21 rfl rfl (Nat.succ_pos _) (hk := ?_)
  --
  refine TL_storea TE (hk := ?_); intro w22 m22 z22 k22
  have hz1 : ∀ u, w11.heap.size ≤ u → u ∉ [b1] := fun u hu q => by rw [List.mem_singleton] at q; omega
  have oU22 := (oU20.be e21).modL m22 (fun u hu => hz1 u (by have := (oU20.bl u hu).1; omega))
  have oV22 := (oV20.be e21).modL m22 (fun u hu => hz1 u (by have := (oV20.bl u hu).1; omega))
  have oY22 := (oY20.be e21).modL m22 (fun u hu => hz1 u (oY20.bl u hu).1)
  repeat (first | refine TL_nil ?_ | refine TL_assign (hk := ?_))
  exact T_retA2 TE (vs := [.int .i64 e.sq, .int .i64 e.ep, .int .i64 e.p.q.cl, .int .u64 (e.p.q.tk : Int), .string (ofL e.p.q.nm), .slice Y.1 Y.2.1 Y.2.2, .int .i64 e.p.how, .slice U nu cu, .slice V nv cv]) (o := 0) rfl rfl rfl rfl rfl k22 rfl (Nat.succ_pos _) ⟨⟨e.sq, e.ep, ⟨e.p, Y, (U, nu, cu), (V, nv, cv)⟩⟩, rfl, rfl, (e020.ext e21).step m22 (fun u hu => .inr (by rw [List.mem_singleton.1 hu]; omega)), ⟨Own.weaken oY22 (by omega), Own.weaken oU22 (by omega), Own.weaken oV22 (by omega)⟩⟩
end Go.Proofs.YtjlaomcankmdjaaGreat

namespace Go.Proofs.YtjlaomcankmdjaaGreat
open Go.RowKit Go.Proofs.Eng Go.Proofs.Codec Go.Proofs.Foot Go.Proofs.Journal
set_option linter.unusedVariables false set_option maxRecDepth 10000
attribute [local irreducible] T TL LV TH TA
set_option maxHeartbeats 3200000
theorem jbytes_c (A B : Option Addr) (n m c d : Nat) (l k : List UInt8) (w : World) (h : Rd w A n 1 (bv l)) (g : Rd w B m 1 (bv k)) :
    Ret Tryz.prog 13 [.slice A n c, .slice B m d] w (fun v w' => v = .bool (decide (l = k)) ∧ w' = w) := by
  refine ret_T (n := 10) Tryz.func13 rfl rfl ?_
  by_cases e : l = k
  · subst e
    rw [decide_eq_true rfl]
    repeat (first | refine T_seq ?_ | refine T_region ?_ | refine TL_seq_t (hk := ?_) | refine TL_nil ?_ | refine TL_move (hk := ?_) | refine TL_assign (hk := ?_) | refine TL_conv_bs TE (hk := ?_))
    exact T_ret1 rfl rfl ⟨rfl, rfl⟩
  · rw [decide_eq_false e]
    have he : ¬ ofL l = ofL k := fun q => e (by have := congrArg (fun x : ByteArray => x.data.toList) q; simpa [ofL] using this)
    repeat (first | refine T_seq ?_ | refine T_region ?_ | refine TL_seq_f (hk := ?_) | refine TL_nil ?_ | refine TL_move (hk := ?_) | refine TL_assign (hk := ?_) | refine TL_conv_bs TE (hk := ?_))
    exact T_ret1 rfl rfl ⟨rfl, rfl⟩
structure B2 (w : World) (base d r : Nat) (sl : SL) (g : Nat → Nat) (slr : SL) (gr : Nat → Nat) (k : DK) : Prop where
  dk : DiskM w base d 0 sl g k
  rk : RDiskM w base r slr gr k
  ap : ∀ b, g b = 0 ∨ gr b = 0
section
variable {w w' : World} {base d r : Nat} {sl slr : SL} {g gr g' gr' : Nat → Nat} {k : DK} {Z : List Nat}
theorem B2.mod (B : B2 w base d r sl g slr gr k) (m : Eng.Mod Z w w') (h1 : ∀ b ∈ Z, g b = 0) (h2 : ∀ b ∈ Z, gr b = 0) : B2 w' base d r sl g slr gr k := ⟨B.dk.mod m h1, B.rk.mod m h2, B.ap⟩
theorem B2.ext (B : B2 w base d r sl g slr gr k) (e : Ext w w') : B2 w' base d r sl g slr gr k := ⟨B.dk.ext e, B.rk.ext e, B.ap⟩
end
end Go.Proofs.YtjlaomcankmdjaaGreat

namespace Go.Proofs.YtjlaomcankmdjaaGreat
open Go.RowKit Go.Proofs.Eng Go.Proofs.Codec Go.Proofs.Foot Go.Proofs.Journal
set_option linter.unusedVariables false set_option maxRecDepth 10000
attribute [local irreducible] T TL LV TH TA
set_option maxHeartbeats 3200000
structure KV where
  kd : Int
  A : Option Addr
  n : Nat
  c : Nat
  b : List UInt8
  x : Int
def kv0 : KV := ⟨0, none, 0, 0, [], 0⟩
def kvV (x : KV) : List Value := [.int .i64 x.kd, .slice x.A x.n x.c, .int .i64 x.x]
structure KVOk (w : World) (x : KV) : Prop where
  rd : Rd w x.A x.n 1 (bv x.b)
  nc : x.n ≤ x.c
  n : x.n ≤ 1048576
  kd : -9223372036854775808 ≤ x.kd ∧ x.kd ≤ 9223372036854775807
  x : -9223372036854775808 ≤ x.x ∧ x.x ≤ 9223372036854775807
theorem KVOk.be {w w' : World} {x : KV} (h : KVOk w x) (e : Ext w w') : KVOk w' x := ⟨h.rd.be e, h.nc, h.n, h.kd, h.x⟩
abbrev tyKAct : Ty := .struct (.cons (.int .i64) (.cons (.slice (.int .u8)) (.cons (.int .i64) .unit)))
theorem DiskM.weaken {w : World} {base base' d : Nat} {lk : Int} {sl : SL} {g : Nat → Nat} {k : DK} (D : DiskM w base d lk sl g k) (h : base' ≤ base) : DiskM w base' d lk sl g k := { D with ow := Own.weaken D.ow h, old := fun b hb => by have := D.old b hb; omega }
theorem RDiskM.weaken {w : World} {base base' d : Nat} {sl : SL} {g : Nat → Nat} {k : DK} (D : RDiskM w base d sl g k) (h : base' ≤ base) : RDiskM w base' d sl g k := { D with ow := Own.weaken D.ow h, old := fun b hb => by have := D.old b hb; omega }
def totK (l : List KV) (i : Nat) : Nat := ((l.take i).map fun x => x.n).sum
end Go.Proofs.YtjlaomcankmdjaaGreat

namespace Go.Proofs.YtjlaomcankmdjaaGreat
open Go.RowKit Go.Proofs.Eng Go.Proofs.Codec Go.Proofs.Foot Go.Proofs.Journal
set_option linter.unusedVariables false set_option maxRecDepth 10000
attribute [local irreducible] T TL LV TH TA
set_option maxHeartbeats 3200000
end Go.Proofs.YtjlaomcankmdjaaGreat

namespace Go.Proofs.YtjlaomcankmdjaaGreat
open Go.RowKit Go.Proofs.Eng Go.Proofs.Codec Go.Proofs.Foot Go.Proofs.Journal
set_option linter.unusedVariables false set_option maxRecDepth 10000
attribute [local irreducible] T TL LV TH TA
set_option maxHeartbeats 3200000
end Go.Proofs.YtjlaomcankmdjaaGreat

namespace Go.Proofs.YtjlaomcankmdjaaGreat
open Go.RowKit Go.Proofs.Eng Go.Proofs.Codec Go.Proofs.Foot Go.Proofs.Journal
set_option linter.unusedVariables false set_option maxRecDepth 10000
attribute [local irreducible] T TL LV TH TA
set_option maxHeartbeats 3200000
abbrev tyVal : Ty := .struct (.cons (.int .i64) (.cons (.int .i64) (.cons .str .unit)))
abbrev tyRqJ : Ty := .struct (.cons (.int .i64) (.cons (.int .u64) (.cons .str (.cons (.slice tyVal) .unit))))
abbrev tyFtJ : Ty := .struct (.cons (.slice .str) (.cons (.slice .str) .unit))
abbrev tyPlanJ : Ty := .struct (.cons tyRqJ (.cons (.int .i64) (.cons tyFtJ .unit)))
abbrev tyBatJ : Ty := .struct (.cons (.int .i64) (.cons (.slice tyPlanJ) (.cons .bool .unit)))
def PIn (w : World) (x : PM) : Prop := PLies w x ∧ PFit x.p
structure BM where
  ep : Int
  y : SL
  xs : List PM
  fl : Bool
def bm0 : BM := ⟨0, (none, 0, 0), [], false⟩
def bmV (x : BM) : List Value := [.int .i64 x.ep, sL x.y, .bool x.fl]
structure BIn (w : World) (x : BM) : Prop where
  rd : Rd w x.y.1 x.y.2.1 7 (rowV pmV x.xs)
  pl : ∀ p ∈ x.xs, PIn w p
  ep : -9223372036854775808 ≤ x.ep ∧ x.ep ≤ 9223372036854775807
  n : x.y.2.1 ≤ 1048576
  len : x.xs.length = x.y.2.1
theorem PIn.be {w w' : World} {x : PM} (h : PIn w x) (e : Ext w w') : PIn w' x := ⟨h.1.be e, h.2⟩
theorem BIn.be {w w' : World} {x : BM} (h : BIn w x) (e : Ext w w') : BIn w' x := ⟨h.rd.be e, fun p hp => (h.pl p hp).be e, h.ep, h.n, h.len⟩
def iV (z : Int) : List Value := [.int .i64 z]
def iOk (z : Int) : Prop := -9223372036854775808 ≤ z ∧ z ≤ 9223372036854775807
end Go.Proofs.YtjlaomcankmdjaaGreat

namespace Go.Proofs.YtjlaomcankmdjaaGreat
open Go.RowKit Go.Proofs.Eng Go.Proofs.Codec Go.Proofs.Foot Go.Proofs.Journal
set_option linter.unusedVariables false set_option maxRecDepth 10000
attribute [local irreducible] T TL LV TH TA
set_option maxHeartbeats 3200000
theorem JrM.mod {w w' : World} {base jb d lg : Nat} {sd : SL} {gd : Nat → Nat} {k : DK} {sl : SL} {es : List EM} {g : Nat → Nat} {L : LE} {fl : Int} (J : JrM w base jb d lg sd gd k sl es g L fl) {S : List Nat} (m : Eng.Mod S w w') (h : ∀ b ∈ S, oJ jb gd b = 0 ∧ g b = 0) : JrM w' base jb d lg sd gd k sl es g L fl :=
  { J with
    blk := J.blk.mod m (fun q => by have := (h jb q).1; rw [oJ_at] at this; cases this)
    dk := J.dk.mod m (fun b hb => by
      have := (h b hb).1
      by_cases q : b = jb
      · rw [q]; exact J.dj
      · rwa [oJ_ne q] at this)
    log := J.log.mod m (fun b hb => (h b hb).2) }
def endsL (lp : List EP) : List Int := (List.range (lp.length + 1)).map fun c => ((logF L0 (lp.take c)).l.length : Int)
structure SG where
  k : DK
  L : LE
  fl : Int
  le : List EP
  lp : List EP
  lq : List EP
  mf : Nat
  lg : Nat
  sd : SL
  gd : Nat → Nat
  sl : SL
  es : List EM
  g : Nat → Nat
  Y : SL
  ps : List PM
  Z : SL
structure SI (w0 w : World) (base jb d : Nat) (s : SG) : Prop where
  e : Ext w0 w
  hb : w0.heap.size ≤ base
  J : JrM w base jb d s.lg s.sd s.gd s.k s.sl s.es s.g s.L s.fl
  I : JI s.L s.k s.fl s.le s.mf
  oy : Own w base 45 7 s.Y.1 s.Y.2.1 s.Y.2.2 (rowV pmV s.ps)
  pp : s.ps.map (·.p) = (s.lp.map (·.2)).flatten
  pin : ∀ x ∈ s.ps, PIn w0 x
  oz : Own w base 2 1 s.Z.1 s.Z.2.1 s.Z.2.2 (rowV iV (endsL s.lq))
  gy : ∀ b ∈ blkL s.Y.1, oJ jb s.gd b = 0 ∧ s.g b = 0
  gz : ∀ b ∈ blkL s.Z.1, oJ jb s.gd b = 0 ∧ s.g b = 0
  yz : ∀ b ∈ blkL s.Y.1, b ∉ blkL s.Z.1
section
variable {w0 w w' : World} {base jb d : Nat} {s : SG}
theorem SI.new (H : SI w0 w base jb d s) {b : Nat} (hb : w.heap.size ≤ b) : oJ jb s.gd b = 0 ∧ s.g b = 0 := by
  constructor
  · by_cases q : oJ jb s.gd b = 0
    · exact q
    · have := (H.J.old b q).2; omega
  · by_cases q : s.g b = 0
    · exact q
    · have := (H.J.log.old b q).2; omega
theorem SI.tn (H : SI w0 w base jb d s) {gd' : Nat → Nat} {lg' : Nat} {sd' : SL} {k' : DK} {sl' : SL} {es' : List EM} {g' : Nat → Nat} {L' : LE} {fl' : Int} {le' : List EP} {mf' : Nat} (J' : JrM w' base jb d lg' sd' gd' k' sl' es' g' L' fl') (t : Tn (oJ jb s.gd) (oJ jb gd') w w')
    (hg : ∀ b, g' b ≠ 0 → s.g b ≠ 0 ∨ w.heap.size ≤ b) (I' : JI L' k' fl' le' mf') : SI w0 w' base jb d { s with k := k', L := L', fl := fl', le := le', mf := mf', lg := lg', sd := sd', gd := gd', sl := sl', es := es', g := g' } := by
  have h0 : ∀ b, b < w.heap.size → s.g b = 0 → g' b = 0 := fun b hl hz => by
    by_cases q : g' b = 0
    · exact q
    · rcases hg b q with q2 | q2
      · exact absurd hz q2
      · omega
  exact ⟨t.ext0 H.e (fun b hb => Nat.le_trans H.hb (H.J.old b hb).1), H.hb, J', I', (H.oy.tn t (fun b hb => (H.gy b hb).1)).1, H.pp, H.pin, (H.oz.tn t (fun b hb => (H.gz b hb).1)).1,
    fun b hb => ⟨t.old (H.gy b hb).1 (H.oy.bl b hb).2, h0 b (H.oy.bl b hb).2 (H.gy b hb).2⟩, fun b hb => ⟨t.old (H.gz b hb).1 (H.oz.bl b hb).2, h0 b (H.oz.bl b hb).2 (H.gz b hb).2⟩, H.yz⟩
theorem SI.size (H : SI w0 w base jb d s) : base ≤ w.heap.size := by have := H.J.hj; have := H.J.blk.lt; omega
theorem SI.ext (H : SI w0 w base jb d s) (e : Ext w w') : SI w0 w' base jb d s := H.tn (H.J.ext e) (Tn.ext e) (fun b hb => .inl hb) H.I
theorem SI.all (H : SI w0 w base jb d s) {A : Option Addr} {n c : Nat} {ps : List PM} {lp : List EP} (m : Eng.Mod (blkL s.Y.1) w w') (nr : Near s.Y.1 A w) (o : Own w' base 45 7 A n c (rowV pmV ps)) (hp : ps.map (·.p) = (lp.map (·.2)).flatten) (hi : ∀ x ∈ ps, PIn w0 x) :
    SI w0 w' base jb d { s with Y := (A, n, c), ps := ps, lp := lp } :=
  ⟨H.e.step m (fun u hu => .inr (Nat.le_trans H.hb (H.oy.bl u hu).1)), H.hb, H.J.mod m H.gy, H.I, o, hp, hi, H.oz.modL m (fun b hb q => H.yz b q hb), fun b hb => (Near.mem nr b hb).elim (H.gy b) H.new, H.gz, fun b hb q => (Near.mem nr b hb).elim (fun h => H.yz b h q) (fun h => by have := (H.oz.bl b q).2; omega)⟩
end
def totP (l : List BM) (i : Nat) : Nat := ((l.take i).map fun x => x.y.2.1).sum
end Go.Proofs.YtjlaomcankmdjaaGreat

namespace Go.Proofs.YtjlaomcankmdjaaGreat
open Go.Proofs.Eng Go.Proofs.Codec Go.Proofs.Foot Go.Proofs.Journal
theorem GoodF_at {l : List EP} (g : GoodF L0 l) (c : Nat) (h : c < l.length) : GoodE (logF L0 (l.take c)) l[c] := by
  have h7 := GoodF_take (c + 1) g
  rw [List.take_succ_eq_append_getElem h] at h7
  have : ∀ {a : List EP} {L : LE} {e : EP}, GoodF L (a ++ [e]) → GoodE (logF L a) e := by
    intro a
    induction a with
    | nil => intro L e h; exact h.1
    | cons y a ih => intro L e h; exact ih h.2
  exact this h7
theorem write_ok {L : LE} {k : DK} {fl : Int} {l : List EP} {m : Nat} (J : JI L k fl l m) {e : EP} (g : GoodE (logF L0 l) e) (h1 : k.off = false) (h2 : k.lf = -1) (h3 : k.b.length + (cat (loadsE L e)).length ≤ 4194304) :
    (writeJ L k e.1 e.2).1.2.2 = 0 ∧ (writeJ L k e.1 e.2).2.off = false ∧ (writeJ L k e.1 e.2).2.lf = -1 := by
  have hok := J.ok
  have g' : GoodE L e := by rw [J.log]; exact g
  have hep := hok.ep
  have hy := app_yes (L := L) (ep := e.1) (ps := e.2) g'.1 (by have := g'.1; omega) g'.2.2.1 g'.2.2.2.1
  have hep2 : epF e.1 (fromL (addL L e.1 e.2) L.l.length e.2.length) = cat (loadsE L e) := by
    rw [from_add]
    exact epF_cat hok g'
  have ho : ¬ (k.off = true ∨ k.lf = 0) := by rw [h1, h2]; decide
  have hlf : (if 0 < k.lf then k.lf - 1 else k.lf) = -1 := by rw [h2]; rfl
  have hop : opD k (appD (epF e.1 (fromL (appL L e.1 e.2).1 L.l.length e.2.length))) = ({ k with b := k.b ++ cat (loadsE L e), lf := -1 }, 0) := by
    rw [hy]
    simp only
    rw [hep2]
    unfold opD
    rw [if_neg ho, hlf]
    unfold appD
    simp only
    rw [if_neg (by omega)]
  unfold writeJ
  rw [hop, hy]
  simp only
  rw [if_neg (fun q => q rfl), if_neg (fun q => q rfl)]
  exact ⟨rfl, h1, rfl⟩
theorem load_at {l : List EP} {c t : Nat} (h : c < l.length) (ht : t ≤ l[c].2.length) : (loadsF L0 (l.take c)).length + t < (loadsF L0 l).length ∧ (loadsF L0 l).getD ((loadsF L0 (l.take c)).length + t) [] = (loadsE (logF L0 (l.take c)) l[c]).getD t [] := by
  have h1 : loadsF L0 (l.take (c + 1)) = loadsF L0 (l.take c) ++ loadsE (logF L0 (l.take c)) l[c] := by
    rw [List.take_succ_eq_append_getElem h, loadsF_snoc]
  have h2 := loadsF_take L0 l (c + 1)
  have hE : (loadsE (logF L0 (l.take c)) l[c]).length = l[c].2.length + 1 := by unfold loadsE; rw [List.length_append, List.length_map, newE_len]; rfl
  have h3 : (loadsF L0 (l.take (c + 1))).length = (loadsF L0 (l.take c)).length + (l[c].2.length + 1) := by rw [h1, List.length_append, hE]
  have h4 : (loadsF L0 (l.take (c + 1))).length ≤ (loadsF L0 l).length := by
    have := loadsF_le L0 l (c := c + 1) (d := l.length) (by omega)
    rwa [List.take_length] at this
  refine ⟨by omega, ?_⟩
  have h5 : (loadsF L0 l).getD ((loadsF L0 (l.take c)).length + t) [] = (loadsF L0 (l.take (c + 1))).getD ((loadsF L0 (l.take c)).length + t) [] := by
    rw [← h2]
    simp only [List.getD_eq_getElem?_getD]
    rw [List.getElem?_take_of_lt (by omega)]
  rw [h5, h1]
  simp only [List.getD_eq_getElem?_getD]
  rw [List.getElem?_append_right (by omega), Nat.add_sub_cancel_left]
theorem loadE_ent (L : LE) (e : EP) (t : Nat) (ht : t < e.2.length) : (loadsE L e).getD t [] = entL ((newE L e.1 e.2)[t]'(by rw [newE_len]; exact ht)) := by
  unfold loadsE
  rw [List.getD_eq_getElem?_getD, List.getElem?_append_left (by rw [List.length_map, newE_len]; exact ht), List.getElem?_map, List.getElem?_eq_getElem (by rw [newE_len]; exact ht)]
  rfl
theorem loadE_end (L : LE) (e : EP) : (loadsE L e).getD e.2.length [] = endL2 e.1 := by
  unfold loadsE
  rw [List.getD_eq_getElem?_getD, List.getElem?_append_right (by rw [List.length_map, newE_len]; exact Nat.le_refl _), List.length_map, newE_len, Nat.sub_self]
  rfl
theorem end_all {l : List EP} {c : Nat} (h : c ≤ l.length) (h2 : ¬ c < l.length) : (loadsF L0 (l.take c)).length = (loadsF L0 l).length := by rw [List.take_of_length_le (by omega)]
structure BK (l : List EP) (i c t : Nat) : Prop where
  hi : i = (loadsF L0 (l.take c)).length + t
  hc : c ≤ l.length
  ht : ∀ h : c < l.length, t ≤ l[c].2.length
  hz : c = l.length → t = 0
theorem BK.start (l : List EP) : BK l 0 0 0 := ⟨rfl, Nat.zero_le _, fun _ => Nat.zero_le _, fun _ => rfl⟩
theorem BK.next {l : List EP} {i c t : Nat} (b : BK l i c t) (h : c < l.length) (ht : t < l[c].2.length) : BK l (i + 1) c (t + 1) := ⟨by rw [b.hi]; rfl, b.hc, fun _ => ht, fun q => by omega⟩
theorem BK.close {l : List EP} {i c t : Nat} (b : BK l i c t) (h : c < l.length) (ht : ¬ t < l[c].2.length) : BK l (i + 1) (c + 1) 0 := by
  have h1 := b.ht h
  have hE : (loadsE (logF L0 (l.take c)) l[c]).length = l[c].2.length + 1 := by unfold loadsE; rw [List.length_append, List.length_map, newE_len]; rfl
  refine ⟨?_, by omega, fun _ => Nat.zero_le _, fun _ => rfl⟩
  rw [List.take_succ_eq_append_getElem h, loadsF_snoc, List.length_append, hE, b.hi]
  omega
theorem BK.done {l : List EP} {i c t : Nat} (b : BK l i c t) (h : ¬ i < (loadsF L0 l).length) : c = l.length := by
  by_cases q : c < l.length
  · have := (load_at q (b.ht q)).1
    have := b.hi
    omega
  · have := b.hc; omega
theorem BK.open_ {l : List EP} {i c t : Nat} (b : BK l i c t) (h : i < (loadsF L0 l).length) : c < l.length := by
  by_cases q : c < l.length
  · exact q
  · have h1 := end_all b.hc q
    have h2 := b.hz (by have := b.hc; omega)
    have := b.hi
    omega
end Go.Proofs.YtjlaomcankmdjaaGreat

namespace Go.Proofs.Eng
open Go.RowKit Go.WideShapes
def Ty.wt : Ty → Nat
  | .int _ => 1
  | .bool => 1
  | .str => 16
  | .slice _ => 24
  | .unit => 0
  | .cons a b => a.wt + b.wt
  | .struct p => p.wt
  | .array n e => n * e.wt
def FitS (w : World) : Ty → List Value → Prop
  | .int k, cs => ∃ n, cs = [.int k n] ∧ Fits k n
  | .bool, cs => ∃ b, cs = [.bool b]
  | .str, cs => ∃ s : ByteArray, cs = [.string s] ∧ s.size ≤ 140737488351232
  | .slice e, cs => ∃ (A : Option Addr) (n c : Nat) (xs : List (List Value)), cs = [.slice A n c] ∧ n ≤ c ∧ c ≤ maxLen ∧ c * e.wt ≤ 140737488351232 ∧ xs.length = n ∧ Rd w A n e.size xs.flatten ∧ ∀ x ∈ xs, x.length = e.size ∧ FitS w e x
  | .unit, cs => cs = []
  | .cons a b, cs => ∃ x y, cs = x ++ y ∧ x.length = a.size ∧ FitS w a x ∧ FitS w b y
  | .struct p, cs => FitS w p cs
  | .array n e, cs => ∃ xs : List (List Value), cs = xs.flatten ∧ xs.length = n ∧ ∀ x ∈ xs, x.length = e.size ∧ FitS w e x
def tyW {P : Program} (E : Env P) : Ty → Where → Bool
  | .slice e, .at t => match E.und t with
    | some (.slice u) => match E.inf u with
      | some (_, b, _) => Nat.ble e.wt b && tyW E e (.at u)
      | none => false
    | _ => false
  | .array n e, .at t => match E.und t with
    | some (.array m u) => tyW E e (.at u)
    | _ => false
  | .struct p, .at t => match E.fld t with
    | some fl => tyW E p (.from 0 fl)
    | none => false
  | .cons a b, .from off ((o, t) :: fl) => tyW E a (.at t) && tyW E b (.from (off + a.size) fl)
  | _, _ => true
section
variable {H : Type} {enc : TypeId × Value → H} {P : Program} {w : World} {base : Nat} {held : Bool}
theorem weightsAll_mem {e : TypeId} : ∀ {l : List (DataW H)} {d : DataW H}, d ∈ l → ∀ k ∈ d.weights P e, k ∈ DataW.weightsAll P e l
  | a :: l, d, h, k, hk => by
    simp only [DataW.weightsAll, List.mem_append]
    rcases List.mem_cons.1 h with rfl | h
    · exact .inl hk
    · exact .inr (weightsAll_mem h k hk)
theorem fits_of_trod (E : Env P) : ∀ (ty : Ty),
    (∀ t, tyOk E ty (.at t) = true → tyW E ty (.at t) = true → ∀ fuel cs x, DataW.trod enc P w base (fun _ => true) held fuel t cs = some x → (∀ k ∈ x.1.weights P t, k ≤ reachBytes) → FitS w ty cs) ∧
    (∀ off fl, tyOk E ty (.from off fl) = true → tyW E ty (.from off fl) = true → ∀ (cs : List Value) (ys : List (DataW H × List MemPlace)), cs.length = off + ty.size → ys.length = fl.length →
      (∀ (i : Nat) (o : Nat) (t : TypeId) y, fl[i]? = some (o, t) → ys[i]? = some y → ∃ n, DataW.trod enc P w base (fun _ => true) held n t ((cs.drop o).take (P.cellsOf t)) = some y) →
      (∀ k ∈ DataW.weightsEach P (fl.map (·.2)) (ys.map (·.1)), k ≤ reachBytes) → FitS w ty (cs.drop off)) := by
  intro ty
  induction ty with
  | int k =>
    refine ⟨fun t h _ fuel cs x hd _ => ?_, fun _ _ h => by simp [tyOk] at h⟩
    obtain ⟨n, h1, h3, h2⟩ := DataW.trod_int (und_int h) hd
    exact ⟨n, h1, fits_of_wf h2⟩
  | bool =>
    refine ⟨fun t h _ fuel cs x hd _ => ?_, fun _ _ h => by simp [tyOk] at h⟩
    obtain ⟨b, h1, h3⟩ := DataW.trod_bool (und_bool h) hd
    exact ⟨b, h1⟩
  | str =>
    refine ⟨fun t h _ fuel cs x hd hw => ?_, fun _ _ h => by simp [tyOk] at h⟩
    obtain ⟨s, h1, h3, h2⟩ := DataW.trod_string (und_str h) hd
    rw [h3] at hw
    have := hw s.data.toList.length (by simp [DataW.weights])
    refine ⟨s, h1, ?_⟩
    simpa [reachBytes] using this
  | slice e ih =>
    refine ⟨fun t h hW fuel cs x hd hw => ?_, fun _ _ h => by simp [tyOk] at h⟩
    simp only [tyOk] at h
    simp only [tyW] at hW
    split at h
    · rename_i u hu
      simp only [Bool.and_eq_true] at h
      obtain ⟨⟨h1, h2⟩, h3⟩ := h
      rw [hu] at hW
      simp only at hW
      split at hW
      · rename_i s' by_ z' hinf
        simp only [Bool.and_eq_true] at hW
        obtain ⟨hW1, hW2⟩ := hW
        have hW1 := Nat.le_of_ble_eq_true hW1
        have hsz := sizeIs_ok h2
        have h0 : 0 < e.size := by simpa [Nat.blt_eq] using h3
        have hund := E.und_ok _ _ hu
        have hbytes : P.bytesOf u = by_ := by
          obtain ⟨i, i1, i2, i3, i4⟩ := E.inf_ok _ _ _ _ hinf
          simp [Program.bytesOf, i1, i3]
        rcases DataW.trod_slice hund hd with ⟨rfl, hx⟩ | ⟨a, len, cap, elems, rest, n, _, rfl, hx, hb, hl, hm, hlen, hel, hsp, _⟩
        · exact ⟨none, 0, 0, [], rfl, Nat.le_refl _, by decide, by simp, rfl, Rd.nil _ _ _, by simp⟩
        · have hrest := (hsp rfl).1
          rw [hx] at hw
          simp only [DataW.weights, hund, List.length_map, hbytes] at hw
          have hcap := hw _ (List.mem_cons_self ..)
          rw [hlen, hrest] at hcap
          have hcap2 : cap * e.wt ≤ 140737488351232 := by
            have e1 : len + (cap - len) = cap := by omega
            rw [e1] at hcap
            have := Nat.mul_le_mul_left cap hW1
            simp only [reachBytes] at hcap
            omega
          rw [hsz] at hel
          have hget : ∀ i, i < len → ∃ y z, w.cells? base (a.add (i * e.size)) e.size = some y ∧ elems[i]? = some z ∧ DataW.trod enc P w base (fun _ => true) held n u y = some z := fun i hi => by
            have h4 := hel i hi
            rw [List.getElem?_eq_getElem (by omega)] at h4
            cases hc : w.cells? base (a.add (i * e.size)) e.size with
            | none => rw [hc] at h4; simp at h4
            | some y => rw [hc] at h4; simp at h4; exact ⟨y, _, rfl, List.getElem?_eq_getElem (by omega), h4⟩
          have hsome : ∀ (i : Nat) (x : List Value), ((List.range len).map fun i => (w.cells? base (a.add (i * e.size)) e.size).getD [])[i]? = some x → w.cells? base (a.add (i * e.size)) e.size = some x ∧ x.length = e.size ∧ FitS w e x := fun i x hx => by
            have hi : i < len := by have := (List.getElem?_eq_some_iff.1 hx).1; simpa using this
            obtain ⟨y, z, hy, hz, ht⟩ := hget i hi
            rw [List.getElem?_map, List.getElem?_range hi] at hx
            simp only [Option.map_some, hy, Option.getD_some, Option.some.injEq] at hx
            subst hx
            refine ⟨hy, (World.cells?_some hy).2.1, ih.1 u h1 hW2 n y z ht fun k hk => hw k (List.mem_cons_of_mem _ (List.mem_append_left _ ?_))⟩
            exact weightsAll_mem (List.mem_map_of_mem (List.mem_of_getElem? hz)) k hk
          have hmem : ∀ x ∈ (List.range len).map (fun i => (w.cells? base (a.add (i * e.size)) e.size).getD []), x.length = e.size ∧ FitS w e x := fun x hx => by
            obtain ⟨i, hi⟩ := List.getElem?_of_mem hx
            exact (hsome i x hi).2
          exact ⟨some a, len, cap, _, rfl, hl, hm, hcap2, by simp, rows_read h0 (by simp) (fun i x hx => (hsome i x hx).1) (fun x hx => (hmem x hx).1), hmem⟩
      · cases hW
    · cases h
  | unit =>
    refine ⟨fun t h => by simp [tyOk] at h, fun off fl h _ cs ys hl _ _ _ => ?_⟩
    show cs.drop off = []
    exact List.drop_of_length_le (by simp only [Ty.size] at hl; omega)
  | cons a b iha ihb =>
    refine ⟨fun t h => by simp [tyOk] at h, fun off fl h hW cs ys hl hyl hf hw => ?_⟩
    cases fl with
    | nil => simp [tyOk] at h
    | cons p fl =>
      cases ys with
      | nil => simp at hyl
      | cons y ys =>
        obtain ⟨o, t⟩ := p
        simp only [tyOk, Bool.and_eq_true] at h
        simp only [tyW, Bool.and_eq_true] at hW
        obtain ⟨⟨⟨h1, h2⟩, h3⟩, h4⟩ := h
        have ho := Nat.eq_of_beq_eq_true h1
        subst ho
        simp only [Ty.size] at hl
        have hsz := sizeIs_ok h3
        obtain ⟨n, hx⟩ := hf 0 o t y rfl rfl
        rw [hsz] at hx
        simp only [List.map_cons, DataW.weightsEach, List.mem_append] at hw
        refine ⟨(cs.drop o).take a.size, cs.drop (o + a.size), ?_, by simp; omega, iha.1 t h2 hW.1 n _ y hx (fun k hk => hw k (.inl hk)), ?_⟩
        · rw [← List.drop_drop, List.take_append_drop]
        · exact ihb.2 (o + a.size) fl h4 hW.2 cs ys (by omega) (by simpa using hyl) (fun i o' t' y' h' g' => hf (i + 1) o' t' y' (by simpa using h') (by simpa using g')) (fun k hk => hw k (.inr hk))
  | struct p ih =>
    refine ⟨fun t h hW fuel cs x hd hw => ?_, fun _ _ h => by simp [tyOk] at h⟩
    simp only [tyOk] at h
    simp only [tyW] at hW
    split at h
    · rename_i fl hfl
      rw [hfl] at hW
      simp only [Bool.and_eq_true] at h
      obtain ⟨h1, h2⟩ := h
      obtain ⟨fs, hu, hmap⟩ := E.fld_ok _ _ hfl
      obtain ⟨xs, n, _, hx, hl, hxl, hfs⟩ := DataW.trod_struct hu hd
      rw [sizeIs_ok h2] at hl
      have e9 : fl.map (·.2) = fs.toList.map (·.type) := by rw [← hmap]; simp
      have := ih.2 0 fl h1 hW cs xs (by omega) (by rw [hxl, ← hmap]; simp) (fun i o t y h' g' => by
        rw [← hmap, List.getElem?_map] at h'
        cases hf : fs.toList[i]? with
        | none => rw [hf] at h'; cases h'
        | some f =>
          rw [hf] at h'
          cases h'
          have hf' : fs[i]? = some f := by simpa using hf
          have h5 := hfs i f hf'
          rw [g'] at h5
          exact ⟨n, h5⟩) (fun k hk => hw k (by rw [hx]; simp only [DataW.weights, hu]; rw [← e9]; exact hk))
      simpa [FitS] using this
    · cases h
  | array n e ih =>
    refine ⟨fun t h hW fuel cs x hd hw => ?_, fun _ _ h => by simp [tyOk] at h⟩
    simp only [tyOk] at h
    simp only [tyW] at hW
    split at h
    · rename_i m u hu
      rw [hu] at hW
      simp only [Bool.and_eq_true] at h
      obtain ⟨⟨⟨h1, h2⟩, h3⟩, h4⟩ := h
      have hm := Nat.eq_of_beq_eq_true h1
      subst hm
      have hund := E.und_ok _ _ hu
      obtain ⟨xs, q, _, hx, hl, hxl, hel⟩ := DataW.trod_array hund hd
      rw [sizeIs_ok h4] at hl
      rw [sizeIs_ok h3] at hel
      refine ⟨(List.range m).map fun i => (cs.drop (i * e.size)).take e.size, (take_drop_chunks m cs hl).symm, by simp, fun y hy => ?_⟩
      obtain ⟨i, hi, rfl⟩ := List.mem_map.1 hy
      have hi' : i < m := by simpa using hi
      have h5 := hel i hi'
      cases ht : DataW.trod enc P w base (fun _ => true) held q u ((cs.drop (i * e.size)).take e.size) with
      | none => rw [ht] at h5; rw [List.getElem?_eq_getElem (by omega)] at h5; cases h5
      | some z =>
        refine ⟨?_, ih.1 u h2 hW q _ _ ht fun k hk => hw k ?_⟩
        · have : (i + 1) * e.size ≤ m * e.size := Nat.mul_le_mul_right _ hi'
          rw [Nat.succ_mul] at this
          simp; omega
        · rw [hx]
          simp only [DataW.weights, hund]
          rw [ht] at h5
          exact weightsAll_mem (List.mem_map_of_mem (List.mem_of_getElem? h5.symm)) k hk
    · cases h
def ReadsS (P : Program) (w : World) (base : Nat) (t : TypeId) (v : Value) : Prop :=
  ∃ (H : Type) (enc : TypeId × Value → H) (d : DataW H) (ps : List MemPlace), DataW.Trod enc P w 0 (fun _ => true) true t v d ps ∧ Value.okWide P w .any base t v ∧ ∀ k ∈ d.weights P t, k ≤ reachBytes
theorem ReadsS.fit {t : TypeId} {v : Value} (E : Env P) (h : ReadsS P w base t v) (ty : Ty) (hok : tyOk E ty (.at t) = true) (hW : tyW E ty (.at t) = true) : FitS w ty v.cells.toList := by
  obtain ⟨H, enc, d, ps, ⟨fuel, hf⟩, _, hm⟩ := h
  exact (fits_of_trod E ty).1 t hok hW fuel _ _ hf hm
theorem ReadsS.slice {t e : TypeId} {v : Value} (E : Env P) (h : ReadsS P w base t v) (ht : E.und t = some (.slice e)) : ∃ A n c, v = .slice A n c := by
  obtain ⟨_, _, _, _, _, hv, _⟩ := h
  exact okWide_slice (E.und_ok _ _ ht) hv
theorem FitS.fit : ∀ {ty : Ty} {cs : List Value}, FitS w ty cs → Fit w ty cs
  | .int _, _, h => h
  | .bool, _, h => h
  | .str, _, ⟨s, h1, h2⟩ => ⟨s, h1, by unfold maxLen; omega⟩
  | .slice _, _, ⟨A, n, c, xs, h1, h2, h3, _, h5, h6, h7⟩ => ⟨A, n, c, xs, h1, h2, h3, h5, h6, fun x hx => ⟨(h7 x hx).1, FitS.fit (h7 x hx).2⟩⟩
  | .unit, _, h => h
  | .cons _ _, _, ⟨x, y, h1, h2, h3, h4⟩ => ⟨x, y, h1, h2, FitS.fit h3, FitS.fit h4⟩
  | .struct p, _, h => FitS.fit (ty := p) h
  | .array _ _, _, ⟨xs, h1, h2, h3⟩ => ⟨xs, h1, h2, fun x hx => ⟨(h3 x hx).1, FitS.fit (h3 x hx).2⟩⟩
theorem FitS.bytes {A : Option Addr} {n c : Nat} (h : FitS w (.slice (.int .u8)) [.slice A n c]) : ∃ l, Rd w A n 1 (bv l) ∧ n ≤ c ∧ c ≤ 140737488351232 := by
  obtain ⟨l, h1, h2, _⟩ := Fit.bytes h.fit
  obtain ⟨A', n', c', xs, hv, _, _, h3, _⟩ := h
  cases hv
  exact ⟨l, h1, h2, by simpa [Ty.wt] using h3⟩
theorem bytes_inS {H : Type} {enc : TypeId × Value → H} (E : Env P) {t : TypeId} {A : Option Addr} {n c : Nat} {d : DataW H} {ps : List MemPlace} (hok : tyOk E (.slice (.int .u8)) (.at t) = true) (hW : tyW E (.slice (.int .u8)) (.at t) = true)
    (h : DataW.Trod enc P w 0 (fun _ => true) true t (.slice A n c) d ps) (hw : ∀ k ∈ d.weights P t, k ≤ reachBytes) : ∃ l, Rd w A n 1 (bv l) ∧ n ≤ c ∧ c ≤ 140737488351232 := by
  obtain ⟨fuel, hf⟩ := h
  exact FitS.bytes ((fits_of_trod E _).1 t hok hW fuel _ _ hf hw)
theorem each_one {H : Type} {P : Program} {t : TypeId} {ts : List TypeId} {d : DataW H} {ds : List (DataW H)} (h : ∀ k ∈ DataW.weightsEach P (t :: ts) (d :: ds), k ≤ reachBytes) : (∀ k ∈ d.weights P t, k ≤ reachBytes) ∧ ∀ k ∈ DataW.weightsEach P ts ds, k ≤ reachBytes :=
  ⟨fun k hk => h k (by simp only [DataW.weightsEach, List.mem_append]; exact .inl hk), fun k hk => h k (by simp only [DataW.weightsEach, List.mem_append]; exact .inr hk)⟩
end
end Go.Proofs.Eng

namespace Go.Proofs.YtjlaomcankmdjaaGreat
open Go.RowKit Go.Proofs.Eng Go.Proofs.Codec Go.Proofs.Foot Go.Proofs.Journal
set_option linter.unusedVariables false set_option maxRecDepth 10000
attribute [local irreducible] T TL LV TH TA
set_option maxHeartbeats 6400000
structure BG where
  i : Nat
  c : Nat
  t : Nat
  k : DK
  L : LE
  lg : Nat
  sd : SL
  gd : Nat → Nat
  sl : SL
  es : List EM
  g : Nat → Nat
  Y : SL
  ps : List PM
structure BI (w0 w : World) (base jb d : Nat) (l : List EP) (s : BG) : Prop where
  e : Ext w0 w
  hb : w0.heap.size ≤ base
  J : JrM w base jb d s.lg s.sd s.gd s.k s.sl s.es s.g s.L 0
  I : JI s.L s.k 0 (l.take s.c) 0
  bk : BK l s.i s.c s.t
  off : s.k.off = false
  lf : s.k.lf = -1
  oy : Own w base 45 7 s.Y.1 s.Y.2.1 s.Y.2.2 (rowV pmV s.ps)
  pp : ∀ h : s.c < l.length, s.ps.map (·.p) = l[s.c].2.take s.t
  own : ∀ x ∈ s.ps, POwn w base x ∧ PFit x.p ∧ ∀ b ∈ pmB x, b ∉ blkL s.Y.1
  gy : ∀ b ∈ blkL s.Y.1, oJ jb s.gd b = 0 ∧ s.g b = 0
theorem BI.size {w0 w : World} {base jb d : Nat} {l : List EP} {s : BG} (H : BI w0 w base jb d l s) : base ≤ w.heap.size := by have := H.J.hj; have := H.J.blk.lt; omega
theorem BI.ext {w0 w w' : World} {base jb d : Nat} {l : List EP} {s : BG} (H : BI w0 w base jb d l s) (e : Ext w w') : BI w0 w' base jb d l s :=
  ⟨H.e.ext e, H.hb, H.J.ext e, H.I, H.bk, H.off, H.lf, H.oy.be e, H.pp, fun x hx => ⟨(H.own x hx).1.be e, (H.own x hx).2⟩, H.gy⟩
theorem BI.push {w0 w w' : World} {base jb d : Nat} {l : List EP} {s : BG} (H : BI w0 w base jb d l s) {A : Option Addr} {n c : Nat} {x : PM} (hc : s.c < l.length) (ht : s.t < l[s.c].2.length) (m : Eng.Mod (blkL s.Y.1) w w') (nr : Near s.Y.1 A w) (o : Own w' base 45 7 A n c (rowV pmV (s.ps ++ [x])))
    (hx : POwn w' base x) (hxo : ∀ b ∈ pmB x, b ∉ blkL s.Y.1 ∧ b < w.heap.size) (hf : PFit x.p) (hp : x.p = l[s.c].2.getD s.t pe0) : BI w0 w' base jb d l { s with i := s.i + 1, t := s.t + 1, Y := (A, n, c), ps := s.ps ++ [x] } := by
  have hnew : ∀ b, w.heap.size ≤ b → oJ jb s.gd b = 0 ∧ s.g b = 0 := fun b hb => by
    constructor
    · by_cases q : oJ jb s.gd b = 0
      · exact q
      · have := (H.J.old b q).2; omega
    · by_cases q : s.g b = 0
      · exact q
      · have := (H.J.log.old b q).2; omega
  refine ⟨H.e.step m (fun u hu => .inr (Nat.le_trans H.hb (H.oy.bl u hu).1)), H.hb, H.J.mod m H.gy, H.I, H.bk.next hc ht, H.off, H.lf, o, fun _ => ?_, fun z hz => ?_, fun b hb => (Near.mem nr b hb).elim (H.gy b) (hnew b)⟩
  · simp only
    rw [List.map_append, H.pp hc, List.take_succ_eq_append_getElem ht]
    congr 1
    rw [List.map_singleton, hp, List.getD_eq_getElem?_getD, List.getElem?_eq_getElem ht]
    rfl
  · have hn : ∀ u, u < w.heap.size → u ∉ blkL s.Y.1 → u ∉ blkL A := fun u hu hn hq => (Near.mem nr u hq).elim hn (fun q => by omega)
    rcases List.mem_append.1 hz with q | q
    · obtain ⟨q1, q2, q3⟩ := H.own z q
      exact ⟨q1.modL m q3, q2, fun u hu => hn u (q1.bl u hu).2 (q3 u hu)⟩
    · rw [List.mem_singleton.1 q]
      exact ⟨hx, hf, fun u hu => hn u (hxo u hu).2 (hxo u hu).1⟩
theorem JournalBack_c (A : Option Addr) (n c : Nat) (b : List UInt8) (w : World) (hb : Rd w A n 1 (bv b)) (hnc : n ≤ c) (hcm : c ≤ 140737488351232) :
    Ret Tryz.prog 4 [.slice A n c] w (fun v w' => v = .bool true ∧ Ext w w') := by
  have hbl : b.length = n := by simpa using hb.1
  refine ret_T (n := 132) Tryz.func4 rfl rfl ?_
  by_cases hbig : 200000 < n
  · repeat (first | refine T_seq ?_ | refine T_region ?_ | refine T_cond_true rfl ?_ | refine TL_gt_t (hk := ?_) | refine TL_nil ?_ | refine TL_move (hk := ?_) | refine TL_assign (hk := ?_) | refine TL_len TE (hk := ?_))
    refine TL_call TE (hc := jlive_c w) (hk := ?_)
    rintro _ w2 ⟨rfl, e2⟩
    repeat (first | refine TL_nil ?_ | refine TL_assign (hk := ?_))
    exact T_ret1 rfl rfl ⟨rfl, e2⟩
  repeat (first | refine T_seq ?_ | refine T_region ?_ | refine T_cond_false rfl ?_ | refine T_skip ?_ | refine TL_gt_f (hk := ?_) | refine TL_nil ?_ | refine TL_move (hk := ?_) | refine TL_assign (hk := ?_) | refine TL_len TE (hk := ?_))
  refine TL_buildSlice0 TE (hk := ?_); intro b1 w1 e1 h1 h1' k1
  have o1 : Own w1 w.heap.size 5 1 (some ⟨b1, 0, none⟩) 0 0 [] := Own.of_blk k1 h1 rfl (by decide)
  have hb1 := hb.be e1
  have z1 := e1.size
  repeat (refine TL_move (hk := ?_))
  refine TL_append TE (ho := o1) (hr := hb1) (h1 := bv_one _) (hk := ?_); intro A2 c2 w2 o2 m2 n2
  rw [List.nil_append] at o2
  have e02 : Ext w w2 := Mod.own e1 m2 o1.hi
  have z2 := e02.size
  clear k1 o1 m2
  --
  refine TL_call TE (hc := NewDisk_c A2 (0 + n) c2 b w2 o2.rd o2.cap.1 (by omega)) (hk := ?_)
  rintro _ w3 ⟨dd, sd3, gd3, rfl, e3, D3⟩
  have z3 := e3.size
  repeat (first | refine T_seq ?_ | refine T_region ?_ | refine TL_nil ?_ | refine TL_move (hk := ?_) | refine TL_assign (hk := ?_))
  refine TL_call TE (hc := Open_j w3 D3 getEn_fit) (hk := ?_)
  obtain ⟨O, hO⟩ : ∃ O, openJ (newD b) = O := ⟨_, rfl⟩
  rw [hO]
  rintro _ w4 ⟨jp, rfl, O4⟩
  have e04 : Ext w w4 := by
    obtain ⟨_, _, _, T, _⟩ := O4
    exact T.ext0 (e02.ext e3) (fun u hu => by have := (D3.old u hu).1; omega)
  repeat (first | refine T_seq ?_ | refine T_region ?_ | refine T_cond_false rfl ?_ | refine T_skip ?_ | refine TL_pnil_f TE (hk := ?_) | refine TL_nil ?_ | refine TL_move (hk := ?_) | refine TL_assign (hk := ?_) | refine TL_extract (hk := ?_))
  refine TL_call TE (hc := jnum_c _ w4) (hk := ?_)
  rintro _ w5 ⟨rfl, hw⟩
  rw [hw]
  clear hw w5
  by_cases hz : O.2.1 = 0
  case neg =>
    have hz' : ¬ ((O.2.1 : Nat) : Int) = 0 := by omega
    repeat (first | refine T_seq ?_ | refine T_region ?_ | refine T_cond_true rfl ?_ | refine TL_ne_t (hk := ?_) | refine TL_nil ?_ | refine TL_move (hk := ?_) | refine TL_no (hk := ?_) | refine TL_pick_t (hk := ?_))
    refine TL_call TE (hc := jlive_c w4) (hk := ?_)
    rintro _ w5 ⟨rfl, e5⟩
    repeat (first | refine TL_nil ?_ | refine TL_assign (hk := ?_))
    exact T_ret1 rfl rfl ⟨rfl, e04.ext e5⟩
  have hz' : ((O.2.1 : Nat) : Int) = 0 := by omega
  have hD4 : ∃ sd4 gd4, DiskM w4 w2.heap.size dd 0 sd4 gd4 O.2.2 := by
    obtain ⟨sd4, gd4, D, _, _⟩ := O4
    exact ⟨sd4, gd4, D⟩
  obtain ⟨sd4, gd4, D4⟩ := hD4
  repeat (first | refine TL_ne_f (hk := ?_) | refine TL_move (hk := ?_) | refine TL_yes (hk := ?_))
  refine TL_call TE (hc := Bytes_c w4 D4) (hk := ?_)
  rintro _ w5 ⟨y, rfl, D5, T5, o5⟩
  have e05 : Ext w w5 := T5.ext0 e04 (fun u hu => by have := (D4.old u hu).1; omega)
  repeat (first | refine TL_move (hk := ?_) | refine TL_yes (hk := ?_))
  refine TL_call TE (hc := jbytes_c y.1 A y.2.1 n y.2.2 c (bytesD O.2.2) b w5 o5.rd (hb.be e05)) (hk := ?_)
  rintro _ w6 ⟨rfl, hw⟩
  rw [hw]
  clear hw w6
  by_cases hkeep : bytesD O.2.2 = b
  case neg =>
    rw [decide_eq_false hkeep]
    repeat (first | refine T_seq ?_ | refine T_region ?_ | refine T_cond_true rfl ?_ | refine TL_nil ?_ | refine TL_move (hk := ?_) | refine TL_yes (hk := ?_) | refine TL_no (hk := ?_) | refine TL_pick_t (hk := ?_) | refine TL_pick_f (hk := ?_) | refine TL_not (hk := ?_))
    refine TL_call TE (hc := jlive_c w5) (hk := ?_)
    rintro _ w6 ⟨rfl, e6⟩
    repeat (first | refine TL_nil ?_ | refine TL_assign (hk := ?_))
    exact T_ret1 rfl rfl ⟨rfl, e05.ext e6⟩
  rw [decide_eq_true hkeep]
  cases hO1 : O.1 with
  | none =>
    obtain ⟨rfl, -⟩ := O4.no hO1
    repeat (first | refine T_seq ?_ | refine T_region ?_ | refine T_cond_true rfl ?_ | refine TL_pnil_t TE (hk := ?_) | refine TL_nil ?_ | refine TL_move (hk := ?_) | refine TL_yes (hk := ?_) | refine TL_pick_f (hk := ?_) | refine TL_not (hk := ?_))
    refine TL_call TE (hc := jlive_c w5) (hk := ?_)
    rintro _ w6 ⟨rfl, e6⟩
    repeat (first | refine TL_nil ?_ | refine TL_assign (hk := ?_))
    exact T_ret1 rfl rfl ⟨rfl, e05.ext e6⟩
  | some LL => ?_
  obtain ⟨_, _, jb0, _, _, _, _, rfl, J4, _, _⟩ := O4.jrm hO1 z3
  have hback : ∃ l, GoodF L0 l ∧ (frames b).1 = loadsF L0 l ∧ bytesE l = b := by
    refine open_back (by omega) (by rw [hO]; exact hz) ?_
    rw [hO]
    unfold bytesD at hkeep
    split at hkeep
    · rename_i hoff
      exfalso
      have hbn : b = [] := hkeep.symm
      rw [hbn, lv1] at hO
      rw [← hO] at hoff
      exact absurd hoff (by decide)
    · exact hkeep
  obtain ⟨l, hG, hfr, hby⟩ := hback
  clear J4 D4 D5 T5 o5 O4 D3 o2
  repeat (first | refine T_seq ?_ | refine T_region ?_ | refine T_cond_false rfl ?_ | refine T_skip ?_ | refine TL_pnil_f TE (hk := ?_) | refine TL_nil ?_ | refine TL_move (hk := ?_) | refine TL_yes (hk := ?_) | refine TL_pick_f (hk := ?_) | refine TL_not (hk := ?_))
  refine TL_call TE (hc := RFrames_c A n c b w5 (hb.be e05) (by omega) hnc) (hk := ?_)
  rw [hfr]
  rintro _ w6 ⟨AL, ml, cl, xs, rfl, e6, oL, hLo⟩
  have z6 := e6.size
  have z05 := e05.size
  repeat (first | refine T_seq ?_ | refine T_region ?_ | refine TL_nil ?_ | refine TL_move (hk := ?_) | refine TL_assign (hk := ?_) | refine TL_extract (hk := ?_))
  refine TL_call TE (hc := NewDisk_c none 0 0 [] w6 (Own.nil w6 0 5 1).rd (by omega) (by omega)) (hk := ?_)
  rintro _ w7 ⟨do_, sd7, gd7, rfl, e7, D7⟩
  have z7 := e7.size
  repeat (first | refine T_seq ?_ | refine T_region ?_ | refine TL_nil ?_ | refine TL_move (hk := ?_) | refine TL_assign (hk := ?_))
  refine TL_call TE (hc := Open_j w7 D7 getEn_fit) (hk := ?_)
  rintro _ w8 ⟨jp, rfl, O8⟩
  obtain ⟨sd8, gd8, jb, lg8, sl8, es8, g8, rfl, J8, T8, hjb⟩ := O8.jrm (L := ⟨[], 0⟩) (by rw [lv1]) z7
  rw [lv1] at J8 ⊢
  simp only at J8 ⊢
  have e68 : Ext w6 w8 := T8.ext0 e7 (fun u hu => (D7.old u hu).1)
  repeat (first | refine T_seq ?_ | refine T_region ?_ | refine TL_pnil_f TE (hk := ?_) | refine TL_nil ?_ | refine TL_move (hk := ?_) | refine TL_assign (hk := ?_) | refine TL_yes (hk := ?_) | refine TL_extract (hk := ?_))
  refine TL_call TE (hc := jnum_c _ w8) (hk := ?_)
  rintro _ w9 ⟨rfl, hw⟩
  rw [hw]
  clear hw w9
  have e58 := e6.ext e68
  have e08 := e05.ext e58
  have hll := hLo.len
  have hol := oL.len
  rw [Nat.mul_one] at hol
  have hfl := framesF_loads b.length b
  have hfr2 : (framesF b.length b).1 = loadsF L0 l := hfr
  rw [hfr2] at hfl
  have H8 : BI w w8 w6.heap.size jb do_ l ⟨0, 0, 0, newD [], ⟨[], 0⟩, lg8, sd8, gd8, sl8, es8, g8, (none, 0, 0), []⟩ :=
    ⟨e08, by omega, J8, JI.start, BK.start l, rfl, rfl, Own.nil _ _ _ _, fun _ => rfl, (fun x hx => by cases hx), (fun u hu => by cases hu)⟩
  clear J8 T8 D7 O8
  repeat (first | refine T_seq ?_ | refine T_region ?_ | refine T_cond_false rfl ?_ | refine T_block ?_ | refine T_skip ?_ | refine TL_ne_f (hk := ?_) | refine TL_pnil_f TE (hk := ?_) | refine TL_nil ?_ | refine TL_move (hk := ?_) | refine TL_assign (hk := ?_) | refine TL_yes (hk := ?_) | refine TL_pick_f (hk := ?_))
  refine T_loop (ι := BG) (fun s => [(13, .int .i64 (s.i : Int)), (12, .slice s.Y.1 s.Y.2.1 s.Y.2.2), (10, pB jb), (9, pB do_), (6, .slice AL ml cl), (0, .slice A n c)])
    (fun s w' => BI w w' w6.heap.size jb do_ l s ∧ Ext w6 w' ∧ s.i ≤ ml) (fun s => ml - s.i) ⟨0, 0, 0, newD [], ⟨[], 0⟩, lg8, sd8, gd8, sl8, es8, g8, (none, 0, 0), []⟩ (.c rfl (.c rfl (.c rfl (.c rfl (.c rfl (.c rfl (.n))))))) ⟨H8, e68, Nat.zero_le _⟩ ?_
  clear H8
  rintro s w9 ⟨H, e69, hi⟩ ih
  have hsz := H.size
  by_cases hlt : s.i < ml
  · have hil : s.i < (loadsF L0 l).length := by omega
    have hc := H.bk.open_ hil
    have htl := H.bk.ht hc
    obtain ⟨la, lb⟩ := load_at hc htl
    rw [← H.bk.hi] at lb
    have rL := oL.rd.be e69
    have hLn : AL ≠ none := by obtain ⟨_, _, hq, _⟩ := rL.2 (by omega); rw [hq]; simp
    obtain ⟨A', n', c', hxi, ox⟩ := jloads_get (q := s.i) (hLo.ext e69) hil
    rw [lb] at ox
    have hbigl : n' ≤ 65536 := by
      have h1 := hfl.1 _ (List.getElem_mem hil)
      have h2 : (loadsF L0 l).getD s.i [] = (loadsF L0 l)[s.i] := by rw [List.getD_eq_getElem?_getD, List.getElem?_eq_getElem hil]; rfl
      rw [← h2, lb] at h1
      have h3 := ox.len
      rw [bv_length, Nat.mul_one] at h3
      omega
    have hG9 := GoodF_at hG s.c hc
    have hokL := logF_ok L0_ok (GoodF_take s.c hG)
    by_cases ht : s.t < l[s.c].2.length
    · rw [loadE_ent _ _ _ ht] at ox
      have hE := newE_ok hokL hG9 _ (List.getElem_mem (by rw [newE_len]; exact ht))
      have hEp := congrArg EE.p (newE_at (logF L0 (l.take s.c)) l[s.c].1 l[s.c].2 s.t ht)
      obtain ⟨en, hen⟩ : ∃ en, (newE (logF L0 (l.take s.c)) l[s.c].1 l[s.c].2)[s.t]'(by rw [newE_len]; exact ht) = en := ⟨_, rfl⟩
      rw [hen] at ox hE hEp
      replace ox : Own w9 _ 5 1 A' n' c' (bv (1 :: entB [] en)) := ox
      have hg0 : gb (1 :: entB [] en) 0 = 1 := rfl
      have rx := ox.rd
      have hnx := ox.len
      have hcx := ox.cap
      rw [bv_length, Nat.mul_one, List.length_cons] at hnx
      have hA' : A' ≠ none := by obtain ⟨_, _, hq, _⟩ := rx.2 (by omega); rw [hq]; simp
      repeat (first | refine T_seq ?_ | refine T_region ?_ | refine T_cond_true rfl ?_ | refine T_cond_false rfl ?_ | refine T_block ?_ | refine T_skip ?_ | refine TL_lt_t (hk := ?_) | refine TL_eq_t (hk := ?_) | refine TL_eq_f (hk := ?_) | refine TL_nil ?_ | refine TL_move (hk := ?_) | (refine TL_load_b TE (hk := ?_); intro _) | refine TL_load_rd TE (hk := ?_) | refine TL_indexAddr1n TE (hk := ?_) | refine TL_len TE (hk := ?_) | refine TL_slice_lo TE (hk := ?_))
      refine TL_call TE (hc := reget_c en (cutA A' c' 1 1) (n' - 1) (c' - 1) w9 hE (Rd.tail1 rx (by omega) hcx.1) (by omega)) (hk := ?_)
      rintro _ w10 ⟨x, rfl, hxe, e10, px⟩
      repeat (first | refine TL_move (hk := ?_) | refine TL_extract (hk := ?_))
      refine TL_alloc TE (hk := ?_); intro b14 w11 e11 h11 h11' k11
      --
      refine TL_storea TE (hk := ?_); intro w12 m12 z12 k12
      have z10 := e10.size
      have z11 := e11.size
      have e1012 : Ext w10 w12 := e11.step m12 (fun u hu => .inr (by rw [List.mem_singleton.1 hu]; omega))
      replace k12 : Blk w12 b14 47 [.int .i64 x.sq, .int .i64 x.ep, .int .i64 x.m.p.q.cl, .int .u64 (x.m.p.q.tk : Int), .string (ofL x.m.p.q.nm), sL x.m.a, .int .i64 x.m.p.how, sL x.m.b, sL x.m.c] := k12
      have px12 : POwn w12 w9.heap.size x.m := px.be e1012
      repeat (first | refine T_seq ?_ | refine T_region ?_ | refine T_cond_false rfl ?_ | refine T_skip ?_ | refine TL_ne_f (hk := ?_) | refine TL_nil ?_ | refine TL_move (hk := ?_) | refine TL_assign (hk := ?_) | refine TL_fieldAddr TE (hk := ?_))
      refine TL_loadb TE (cs := [.int .i64 x.m.p.q.cl, .int .u64 (x.m.p.q.tk : Int), .string (ofL x.m.p.q.nm), sL x.m.a, .int .i64 x.m.p.how, sL x.m.b, sL x.m.c]) (o := 2) rfl rfl k12 rfl rfl (Nat.succ_pos _) (hk := ?_)
      --
      refine TL_buildSliceA TE (hk := ?_); intro b13 w13 e13 h13 h13' k13
      replace k13 : Blk w13 b13 45 (rowV pmV [x.m]) := k13
      have r13 : Rd w13 (some ⟨b13, 0, none⟩) 1 7 (rowV pmV [x.m]) := Rd.blk k13 rfl
      have e913 : Ext w9 w13 := (e10.ext e1012).ext e13
      have H13 := H.ext e913
      have oy13 := H13.oy
      have px13 := px12.be e13
      have z12' := e1012.size
      have z13 := e13.size
      have hyl := H.oy.len
      rw [rowV_len pmV_len] at hyl
      have hpl := congrArg List.length (H.pp hc)
      rw [List.length_map, List.length_take] at hpl
      have hG3 := hG9.2.2.1
      --
      refine TL_append TE (ho := oy13) (hr := r13) (h1 := rowV_one pmV_one _) (hk := ?_); intro A15 c15 w15 o15 m15 n15
      rw [← rowV_append] at o15
      have hxp : x.m.p = l[s.c].2.getD s.t pe0 := by
        rw [show x.m.p = (emE x).p from rfl, hxe]
        exact hEp
      have H15 := H13.push hc ht m15 n15 o15 (Own.weaken px13.ra (by omega) |> fun ra => ⟨ra.modL m15 (fun u hu hq => by have h1 := (px13.ra.bl u hu).1; have h2 := (H.oy.bl u hq).2; omega), (Own.weaken px13.rb (by omega)).modL m15 (fun u hu hq => by have h1 := (px13.rb.bl u hu).1; have h2 := (H.oy.bl u hq).2; omega), (Own.weaken px13.rc (by omega)).modL m15 (fun u hu hq => by have h1 := (px13.rc.bl u hu).1; have h2 := (H.oy.bl u hq).2; omega)⟩) (fun u hu => ⟨fun hq => by have h1 := (px13.bl u hu).1; have h2 := (H.oy.bl u hq).2; omega, (px13.bl u hu).2⟩) (by rw [show x.m.p = (emE x).p from rfl, hxe]; exact hE.ft) hxp
      repeat (first | refine T_region ?_ | refine T_exit rfl ?_ | refine TL_add (hk := ?_) | refine TL_nil ?_ | refine TL_move (hk := ?_) | refine TL_assign (hk := ?_))
      exact ih _ w15 _ (by simp only; omega) ⟨H15, (e69.ext e913).step m15 (fun u hu => .inr (H.oy.bl u hu).1), by simp only; omega⟩ (.c rfl (.c rfl (.c rfl (.c rfl (.c rfl (.c rfl (.n)))))))
    · have ht2 : s.t = l[s.c].2.length := by omega
      rw [ht2, loadE_end] at ox
      obtain ⟨ep, hepd⟩ : ∃ ep, l[s.c].1 = ep := ⟨_, rfl⟩
      obtain ⟨pl, hpld⟩ : ∃ pl, l[s.c].2 = pl := ⟨_, rfl⟩
      have hEq : l[s.c] = (ep, pl) := by rw [← hepd, ← hpld]
      rw [hepd] at ox
      have hep1 := hG9.1
      have hep2 := hG9.2.1
      have hG3 := hG9.2.2.1
      have hlep := hokL.ep
      rw [hepd] at hep1 hep2
      replace ox : Own w9 _ 5 1 A' n' c' (bv (2 :: encU ep.toNat)) := ox
      have hg0 : gb (2 :: encU ep.toNat) 0 = 2 := rfl
      have rx := ox.rd
      have hnx := ox.len
      have hcx := ox.cap
      rw [bv_length, Nat.mul_one, List.length_cons] at hnx
      have hA' : A' ≠ none := by obtain ⟨_, _, hq, _⟩ := rx.2 (by omega); rw [hq]; simp
      have l0 : Lf ⟨encU ep.toNat, 0, 0, 0, 0⟩ (encU ep.toNat) (encU ep.toNat ++ []) := by rw [List.append_nil]; exact Lf.start _
      obtain ⟨s1, q1, -⟩ := l0.num (by omega)
      have hepi : ((ep.toNat : Nat) : Int) = ep := by omega
      repeat (first | refine T_seq ?_ | refine T_region ?_ | refine T_cond_true rfl ?_ | refine T_cond_false rfl ?_ | refine T_block ?_ | refine T_skip ?_ | refine TL_lt_t (hk := ?_) | refine TL_eq_f (hk := ?_) | refine TL_nil ?_ | refine TL_move (hk := ?_) | (refine TL_load_b TE (hk := ?_); intro _) | refine TL_load_rd TE (hk := ?_) | refine TL_indexAddr1n TE (hk := ?_) | refine TL_len TE (hk := ?_) | refine TL_slice_lo TE (hk := ?_))
      refine TL_call TE (hc := RNew_l (cutA A' c' 1 1) (n' - 1) (c' - 1) (encU ep.toNat) w9 (Rd.tail1 rx (by omega) hcx.1) (by omega)) (hk := ?_)
      rintro _ w10 ⟨bR, A3, n3, c3, rfl, e10, hbR, hi3, lo3, rr⟩
      repeat (first | refine T_seq ?_ | refine T_region ?_ | refine TL_nil ?_ | refine TL_move (hk := ?_) | refine TL_assign (hk := ?_))
      refine TL_call TE (hc := RUint_c bR _ A3 n3 c3 w10 rr) (hk := ?_)
      rintro _ w11 ⟨rfl, m11, rr11⟩
      rw [q1]
      simp only
      rw [hepi]
      have e911 : Ext w9 w11 := e10.step m11 (fun u hu => .inr (by rw [List.mem_singleton.1 hu]; omega))
      have H11 := H.ext e911
      have hyl := H11.oy.len
      rw [rowV_len pmV_len] at hyl
      have hpm := H.pp hc
      rw [ht2, List.take_length, hpld] at hpm
      have hpl := congrArg List.length hpm
      rw [List.length_map] at hpl
      rw [hpld] at hG3
      have hbl2 : H11.J.ok = H11.J.ok := rfl
      have wr := Write_c ep s.Y.1 s.Y.2.1 s.Y.2.2 s.ps w11 H11.J H11.oy.rd (fun z hz => ⟨(H11.own z hz).1.lies, (H11.own z hz).2.1⟩) (fun u hu => (H11.oy.bl u hu).2) (fun z hz u hu => ((H11.own z hz).1.bl u hu).2) (by omega) (by omega)
      rw [hpm] at wr
      have hby2 : s.k.b.length + (cat (loadsE s.L (ep, pl))).length ≤ 4194304 := by
        have h1 := bytesE_all l (s.c + 1)
        have h2 : bytesE (l.take (s.c + 1)) = bytesE (l.take s.c) ++ cat (loadsE (logF L0 (l.take s.c)) l[s.c]) := by
          show cat (loadsF L0 (l.take (s.c + 1))) = cat (loadsF L0 (l.take s.c)) ++ _
          rw [List.take_succ_eq_append_getElem hc, loadsF_snoc, cat_app]
        have h3 := congrArg List.length h2
        rw [List.length_append, hEq, ← H.I.log, ← H.I.b] at h3
        have h4 := congrArg List.length hby
        omega
      rw [hEq] at hG9
      obtain ⟨wz, woff, wlf⟩ := write_ok H.I hG9 H.off H.lf hby2
      simp only at wz woff wlf
      have iw := (H.I.write (ep := ep) (ps := pl) hep2 (fun z hz => by rw [← hpm] at hz; obtain ⟨u, hu, rfl⟩ := List.mem_map.1 hz; exact (H.own u hu).2.1)).1 wz
      have htk : l.take s.c ++ [(ep, pl)] = l.take (s.c + 1) := by rw [List.take_succ_eq_append_getElem hc, hEq]
      rw [htk] at iw
      obtain ⟨r, hrd⟩ : ∃ r, writeJ s.L s.k ep pl = r := ⟨_, rfl⟩
      rw [hrd] at wr iw wz woff wlf
      rw [wz] at wr
      repeat (first | refine TL_move (hk := ?_) | refine TL_conv TE (hk := ?_))
      refine TL_call TE (hc := wr) (hk := ?_)
      rintro _ w12 ⟨rfl, lg', sd', gd', sl', es', g', J12, T12, hg12⟩
      have e912 : Ext w6 w12 := T12.ext0 (e69.ext e911) (fun u hu => (H11.J.old u hu).1)
      have e012 : Ext w w12 := T12.ext0 H11.e (fun u hu => Nat.le_trans H11.hb (H11.J.old u hu).1)
      have H12 : BI w w12 w6.heap.size jb do_ l ⟨s.i + 1, s.c + 1, 0, r.2, r.1.1, lg', sd', gd', sl', es', g', (none, 0, 0), []⟩ :=
        ⟨e012, H.hb, J12, iw, H.bk.close hc ht, woff, wlf, Own.nil _ _ _ _, fun _ => rfl, (fun x hx => by cases hx), (fun u hu => by cases hu)⟩
      repeat (first | refine T_seq ?_ | refine T_region ?_ | refine TL_nil ?_ | refine TL_move (hk := ?_) | refine TL_assign (hk := ?_) | refine TL_extract (hk := ?_))
      refine TL_call TE (hc := jnum_c _ w12) (hk := ?_)
      rintro _ w13 ⟨rfl, hw⟩
      rw [hw]
      clear hw w13
      repeat (first | refine T_region ?_ | refine T_cond_false rfl ?_ | refine T_inBlock ?_ | refine T_skip ?_ | refine TL_add (hk := ?_) | refine TL_ne_f (hk := ?_) | refine TL_nil ?_ | refine TL_move (hk := ?_) | refine TL_assign (hk := ?_))
      exact ih ⟨s.i + 1, s.c + 1, 0, r.2, r.1.1, lg', sd', gd', sl', es', g', (none, 0, 0), []⟩ w12 _ (by simp only; omega) ⟨H12, e912, by simp only; omega⟩ (.c rfl (.c rfl (.c rfl (.c rfl (.c rfl (.c rfl (.n)))))))
  · clear ih
    have hcl := H.bk.done (by omega)
    have hkb : bytesD s.k = b := by
      unfold bytesD
      rw [H.off, if_neg (by decide), H.I.b, hcl, List.take_length, hby]
    repeat (first | refine T_seq ?_ | refine T_region ?_ | refine T_cond_false rfl ?_ | refine T_exit rfl ?_ | refine TL_lt_f (hk := ?_) | refine TL_nil ?_ | refine TL_move (hk := ?_) | refine TL_len TE (hk := ?_))
    refine TL_call TE (hc := Bytes_c w9 H.J.dk) (hk := ?_)
    rintro _ w10 ⟨y2, rfl, D10, T10, o10⟩
    have e010 : Ext w w10 := T10.ext0 H.e (fun u hu => Nat.le_trans H.hb (H.J.dk.old u hu).1)
    rw [hkb] at o10
    repeat (refine TL_move (hk := ?_))
    refine TL_call TE (hc := jbytes_c y2.1 A y2.2.1 n y2.2.2 c b b w10 o10.rd (hb.be e010)) (hk := ?_)
    rintro _ w11 ⟨rfl, hw⟩
    rw [hw, decide_eq_true rfl]
    clear hw w11
    repeat (first | refine TL_move (hk := ?_) | refine TL_yes (hk := ?_))
    refine TL_call TE (hc := jlive_c w10) (hk := ?_)
    rintro _ w11 ⟨rfl, e11⟩
    repeat (first | refine TL_nil ?_ | refine TL_assign (hk := ?_) | refine TL_pick_t (hk := ?_))
    exact T_ret1 rfl rfl ⟨rfl, e010.ext e11⟩
end Go.Proofs.YtjlaomcankmdjaaGreat
