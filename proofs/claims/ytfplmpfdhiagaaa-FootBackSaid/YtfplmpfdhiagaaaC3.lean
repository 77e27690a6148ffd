import Derived.Test.YtfplmpfdhiagaaaC2
import Derived.Laws.StructEq
import Derived.SizedLaws
/- Parts: FW21 CW14 CW15 FW22 Eng17 FW23 FW24 FW25 Eng18 FW26 FW32 FLaw2 FLaw3 CLaw1 FLaw4 Eng20 FW33. -/
namespace Go.Proofs.Ytfplmpfdhiagaaa
open Go.RowKit Go.Proofs.Eng Go.Proofs.Foot Go.Proofs.Codec
set_option linter.unusedSimpArgs false
set_option linter.unusedVariables false
attribute [local irreducible] T TL LV TH TA
theorem off_none (S : List Nat) : Off none S := fun _ h => by cases h
theorem Count_s (b : Nat) (s : RS) (A : Option Addr) (n c : Nat) (w : World) (h : Rdr w 107 b s A n c) :
    Ret Try.prog 63 [ptr b, .int .i64 64] w (fun v w' => v = .int .i64 (((s.take (0 : Nat) (tLim 64 6)).1 : Nat) : Int) ∧ Mod [b] w w' ∧ Rdr w' 107 b (s.take (0 : Nat) (tLim 64 6)).2 A n c) :=
  Count_c b s A n c 64 (by decide) w h
theorem Text_s (b : Nat) (s : RS) (A : Option Addr) (n c : Nat) (w : World) (h : Rdr w 107 b s A n c) :
    Ret Try.prog 64 [ptr b, .int .i64 32] w (fun v w' => v = .string (ofL (s.take ([] : List UInt8) (tText 32)).1) ∧ Mod [b] w w' ∧ Rdr w' 107 b (s.take ([] : List UInt8) (tText 32)).2 A n c) :=
  Text_c b s A n c 32 (by decide) w h
theorem Byte_s (b : Nat) (s : RS) (A : Option Addr) (n c : Nat) (w : World) (h : Rdr w 107 b s A n c) :
    Ret Try.prog 66 [ptr b] w (fun v w' => v = .int .u8 (((s.take (0 : Nat) tByte).1 : Nat) : Int) ∧ Mod [b] w w' ∧ Rdr w' 107 b (s.take (0 : Nat) tByte).2 A n c) :=
  Byte_c b s A n c w h
/-- A list that grows by one text or stays. -/
def more (l : List Tx) (t : Tx) (z : Nat) : List Tx := if z = 0 then l else l ++ [t]
/-- What stays while a footprint is read. -/
structure GInv (tR : TypeId) (w w5 w' : World) (bR b6 : Nat) (s : RS) (A : Option Addr) (n c : Nat) (x y : Option Addr × Nat × Nat) (rd wr : List Tx) : Prop where
  ext : Ext w w'
  mod : Eng.Mod [bR, b6] w5 w'
  rdr : Rdr w' tR bR s A n c
  blk : Blk w' b6 28 [.slice x.1 x.2.1 x.2.2, .slice y.1 y.2.1 y.2.2]
  own1 : Own w' w5.heap.size 9 1 x.1 x.2.1 x.2.2 (sv rd)
  own2 : Own w' w5.heap.size 9 1 y.1 y.2.1 y.2.2 (sv wr)
  off1 : Off y.1 (blkL x.1)
  off2 : Off x.1 (blkL y.1)
  hR : w.heap.size ≤ bR
  hR5 : bR < w5.heap.size
  h6 : w.heap.size ≤ b6
  h65 : b6 < w5.heap.size
  hne : bR ≠ b6
  hA : Lo A w5.heap.size
  hA6 : Off A [b6]
theorem GInv.step {tR : TypeId} {w w5 w' w2 : World} {bR b6 : Nat} {s s' : RS} {A : Option Addr} {n c : Nat} {x y : Option Addr × Nat × Nat} {rd wr : List Tx} (I : GInv tR w w5 w' bR b6 s A n c x y rd wr) (m : Eng.Mod [bR] w' w2) (r : Rdr w2 tR bR s' A n c) : GInv tR w w5 w2 bR b6 s' A n c x y rd wr := by
  have z := I.mod.size
  have h1 := I.hR
  have h2 := I.hR5
  have h3 := I.hne
  exact ⟨Mod.step I.ext m (by simp; omega), Mod.step I.mod m (by simp), r, I.blk.mod m (by simp; omega), I.own1.mod m (Off.hi I.own1.hi (by omega)), I.own2.mod m (Off.hi I.own2.hi (by omega)), I.off1, I.off2, I.hR, I.hR5, I.h6, I.h65, I.hne, I.hA, I.hA6⟩
theorem GInv.ext2 {tR : TypeId} {w w5 w' w2 : World} {bR b6 : Nat} {s : RS} {A : Option Addr} {n c : Nat} {x y : Option Addr × Nat × Nat} {rd wr : List Tx} (I : GInv tR w w5 w' bR b6 s A n c x y rd wr) (m : Ext w' w2) : GInv tR w w5 w2 bR b6 s A n c x y rd wr :=
  ⟨I.ext.ext m, I.mod.ext m, I.rdr.ext m, I.blk.ext m, I.own1.ext m, I.own2.ext m, I.off1, I.off2, I.hR, I.hR5, I.h6, I.h65, I.hne, I.hA, I.hA6⟩
theorem Get_c (B : Option Addr) (nb cb : Nat) (b : List UInt8) (w : World) (hb : Rd w B nb 1 (bv b)) (hnb : nb ≤ 200000) :
    Ret Try.prog 18 [.slice B nb cb] w (fun v w' => ∃ u, v = .tuple #[u, .int .i64 ((getF b).1.2 : Nat), .int .i64 (getF b).2] ∧ Ext w w' ∧ FootO w' w.heap.size 9 u (getF b).1.1) := by
  have hlb := hb.1
  simp only [bv_length, Nat.mul_one] at hlb
  refine ret_T (n := 75) Try.func18 rfl rfl ?_
  repeat (first | refine T_seq ?_ | refine T_region ?_)
  refine TL_alloc TE (hk := ?_); intro b2 w2 e2 h2 h2' k2
  have z2 := e2.size
  repeat (first | refine T_seq ?_ | refine T_region ?_ | refine TL_nil ?_ | refine TL_move (hk := ?_) | refine TL_assign (hk := ?_))
  refine TL_call TE (hc := NewReader_c B nb cb b _ (hb.be e2) (by omega)) (hk := ?_)
  rintro _ w3 ⟨bR, A3, n3, c3, rfl, e3, hbR, hi3, lo3, rr⟩
  have z3 := e3.size
  have lR := rr.blk.lt
  have hn3 : b.length = n3 := rr.len
  repeat (first | refine T_seq ?_ | refine T_region ?_ | refine TL_nil ?_ | refine TL_assign (hk := ?_))
  refine TL_alloc TE (hk := ?_); intro b6 w4 e4 h6 h6' k6
  have k24 := (k2.be e3).be e4
  have rr4 := rr.ext e4
  have z4 := e4.size
  have e04 := (e2.ext e3).ext e4
  clear k2 rr
  repeat (first | refine T_seq ?_ | refine T_region ?_ | refine TL_nil ?_ | refine TL_move (hk := ?_) | refine TL_assign (hk := ?_))
  refine TL_call TE (hc := Count_s bR _ A3 n3 c3 w4 rr4) (hk := ?_)
  rintro _ w5 ⟨rfl, m5, rr5⟩
  obtain ⟨c0, hc0⟩ : ∃ c0, (RS.mk b 0 0 0 0).take (0 : Nat) (tLim 64 6) = c0 := ⟨_, rfl⟩
  have hgi : gInit b = c0 := hc0
  have hg64 := gInit_le b
  rw [hgi] at hg64
  rw [hc0] at rr5
  rw [hc0]
  have z5 := m5.size
  have e05 : Ext w w5 := Mod.step e04 m5 (by simp; omega)
  have k25 := k24.bm m5 (by simp; omega)
  have k65 := k6.bm m5 (by simp; omega)
  have hA3 : Lo A3 w5.heap.size := Lo.mono lo3 (by omega)
  obtain ⟨n0, hn0⟩ : ∃ n0, c0.1 = n0 := ⟨_, rfl⟩
  rw [hn0] at hg64 ⊢
  clear k24 k6 rr4 hb
  repeat (first | refine T_block ?_ | refine TL_nil ?_ | refine TL_move (hk := ?_))
  have I0 : GInv 107 w w5 w5 bR b6 c0.2 A3 n3 c3 (none, 0, 0) (none, 0, 0) [] [] := ⟨e05, Mod.refl _ _, rr5, k65, Own.nil _ _ _ _, Own.nil _ _ _ _, off_none _, off_none _, by omega, by omega, by omega, by omega, by omega, hA3, Off.lo lo3 (by omega)⟩
  have h25 : b2 < w3.heap.size := by omega
  refine T_loop (ι := (GS × Nat) × (Option Addr × Nat × Nat) × (Option Addr × Nat × Nat)) (fun i => [(16, .int .i64 (i.1.2 : Int)), (15, .int .i64 (n0 : Int)), (7, .string (ofL i.1.1.last)), (6, .pointer (some ⟨b6, 0, none⟩)), (5, ptr bR), (2, .pointer (some ⟨b2, 0, none⟩)), (0, .slice B nb cb)])
    (fun i w' => i.1.2 ≤ n0 ∧ i.1.1 = gIter i.1.2 ⟨c0.2, [], [], []⟩ ∧ GInv 107 w w5 w' bR b6 i.1.1.s A3 n3 c3 i.2.1 i.2.2 i.1.1.rd i.1.1.wr ∧ i.2.1.2.1 ≤ i.1.2 ∧ i.2.2.2.1 ≤ i.1.2) (fun i => n0 - i.1.2) ((⟨c0.2, [], [], []⟩, 0), (none, 0, 0), (none, 0, 0)) (.c rfl (.c rfl (.c rfl (.c rfl (.c rfl (.c rfl (.c rfl (.n))))))))
    ⟨Nat.zero_le _, rfl, I0, Nat.zero_le _, Nat.zero_le _⟩ ?_
  rintro ⟨⟨g, i⟩, x, y⟩ w6 ⟨hi, hg, I6, hnr, hnw⟩ ih
  simp only at hi hg I6 hnr hnw ih ⊢
  by_cases hlt : i < n0
  · repeat (first | refine T_seq ?_ | refine T_region ?_ | refine T_cond_true rfl ?_ | refine T_block ?_ | refine T_skip ?_ | refine TL_lt_t (hk := ?_) | refine TL_nil ?_ | refine TL_move (hk := ?_))
    refine TL_call TE (hc := Text_s bR _ A3 n3 c3 w6 I6.rdr) (hk := ?_)
    rintro _ w7 ⟨rfl, m7, rr7⟩
    have I7 := I6.step m7 rr7
    obtain ⟨p, hp⟩ : ∃ p, g.s.take ([] : List UInt8) (tText 32) = p := ⟨_, rfl⟩
    have hgt : gText g = p := hp
    have hp32 := gText_le g
    have hu256 := gUse_lt g
    rw [hgt] at hp32
    rw [hp] at I7
    rw [hp]
    repeat (first | refine T_seq ?_ | refine T_region ?_ | refine TL_nil ?_ | refine TL_move (hk := ?_) | refine TL_assign (hk := ?_))
    refine TL_call TE (hc := Valid_c p.1 (by omega) _) (hk := ?_)
    rintro _ _ ⟨rfl, rfl⟩
    repeat (first | refine TL_nil ?_ | refine TL_not (hk := ?_))
    refine T_join (ι := Unit) (fun _ => [(8, .string (ofL p.1)), (16, .int .i64 (i : Int)), (15, .int .i64 (n0 : Int)), (7, .string (ofL g.last)), (6, .pointer (some ⟨b6, 0, none⟩)), (5, ptr bR), (2, .pointer (some ⟨b2, 0, none⟩)), (0, .slice B nb cb)])
      (fun _ w' => GInv 107 w w5 w' bR b6 (gKey g) A3 n3 c3 x y g.rd g.wr) (fun kk join => ?_) ?_
    · by_cases hv : validT p.1 = true
      · rw [hv]
        repeat (first | refine T_cond_false rfl ?_ | refine T_skip ?_)
        have hgk : gKey g = p.2 := by unfold gKey; rw [hgt, if_pos hv]
        exact T.sub (join () _ (by rw [hgk]; exact I7)) (.c rfl (.c rfl (.c rfl (.c rfl (.c rfl (.c rfl (.c rfl (.c rfl (.n)))))))))
      · have hv' : validT p.1 = false := by simpa using hv
        rw [hv']
        repeat (first | refine T_region ?_ | refine T_cond_true rfl ?_ | refine TL_move (hk := ?_))
        refine TL_call TE (hc := Fail_c bR _ A3 n3 c3 30 _ I7.rdr) (hk := ?_)
        rintro _ w8 ⟨_, m8, rr8⟩
        repeat (refine TL_nil ?_)
        have hgk : gKey g = p.2.fail 30 := by unfold gKey; rw [hgt, if_neg hv]
        exact T.sub (join () _ (by rw [hgk]; exact I7.step m8 rr8)) (.c rfl (.c rfl (.c rfl (.c rfl (.c rfl (.c rfl (.c rfl (.c rfl (.n)))))))))
    rintro _ w8 I8
    clear I7 I6 rr7
    repeat (first | refine T_seq ?_ | refine T_region ?_ | refine TL_move (hk := ?_))
    refine TL_sle_d (hk := ?_)
    repeat (refine TL_nil ?_)
    refine T_join (ι := Unit) (fun _ => [(8, .string (ofL p.1)), (16, .int .i64 (i : Int)), (15, .int .i64 (n0 : Int)), (6, .pointer (some ⟨b6, 0, none⟩)), (5, ptr bR), (2, .pointer (some ⟨b2, 0, none⟩)), (0, .slice B nb cb)])
      (fun _ w' => GInv 107 w w5 w' bR b6 (gRise g) A3 n3 c3 x y g.rd g.wr) (fun kk join => ?_) ?_
    · by_cases hv : p.1 ≤ g.last
      · rw [decide_eq_true hv]
        repeat (first | refine T_region ?_ | refine T_cond_true rfl ?_ | refine TL_move (hk := ?_))
        refine TL_call TE (hc := Fail_c bR _ A3 n3 c3 31 _ I8.rdr) (hk := ?_)
        rintro _ w9 ⟨_, m9, rr9⟩
        repeat (refine TL_nil ?_)
        have hgk : gRise g = (gKey g).fail 31 := by unfold gRise; rw [hgt, if_pos hv]
        exact T.sub (join () _ (by rw [hgk]; exact I8.step m9 rr9)) (.c rfl (.c rfl (.c rfl (.c rfl (.c rfl (.c rfl (.c rfl (.n))))))))
      · rw [decide_eq_false hv]
        repeat (first | refine T_cond_false rfl ?_ | refine T_skip ?_)
        have hgk : gRise g = gKey g := by unfold gRise; rw [hgt, if_neg hv]
        exact T.sub (join () _ (by rw [hgk]; exact I8)) (.c rfl (.c rfl (.c rfl (.c rfl (.c rfl (.c rfl (.c rfl (.n))))))))
    rintro _ w9 I9
    clear I8
    repeat (first | refine T_seq ?_ | refine T_region ?_ | refine TL_nil ?_ | refine TL_move (hk := ?_) | refine TL_assign (hk := ?_))
    refine TL_call TE (hc := Byte_s bR _ A3 n3 c3 w9 I9.rdr) (hk := ?_)
    rintro _ w10 ⟨rfl, m10, rr10⟩
    have I10 := I9.step m10 rr10
    obtain ⟨q, hq⟩ : ∃ q, (gRise g).take (0 : Nat) tByte = q := ⟨_, rfl⟩
    have hgu : gUse g = q := hq
    rw [hgu] at hu256
    rw [hq] at I10
    rw [hq]
    obtain ⟨u, hu⟩ : ∃ u, q.1 = u := ⟨_, rfl⟩
    rw [hu] at hu256 ⊢
    clear I9 rr10
    repeat (first | refine TL_nil ?_ | refine TL_assign (hk := ?_))
    refine T_seq ?_
    refine T_join (ι := Unit) (fun _ => [(9, .int .u8 (u : Int)), (8, .string (ofL p.1)), (7, .string (ofL p.1)), (16, .int .i64 (i : Int)), (15, .int .i64 (n0 : Int)), (6, .pointer (some ⟨b6, 0, none⟩)), (5, ptr bR), (2, .pointer (some ⟨b2, 0, none⟩)), (0, .slice B nb cb)])
      (fun _ w' => GInv 107 w w5 w' bR b6 (gEnd g) A3 n3 c3 x y g.rd g.wr) (fun kk join => ?_) ?_
    · by_cases hv : u < 1
      · repeat (first | refine T_seq ?_ | refine T_region ?_ | refine T_cond_true rfl ?_ | refine TL_lt_t (hk := ?_) | refine TL_nil ?_ | refine TL_move (hk := ?_) | refine TL_no (hk := ?_) | refine TL_pick_t (hk := ?_))
        refine TL_call TE (hc := Fail_c bR _ A3 n3 c3 31 _ I10.rdr) (hk := ?_)
        rintro _ w11 ⟨_, m11, rr11⟩
        repeat (refine TL_nil ?_)
        have hgk : gEnd g = q.2.fail 31 := by unfold gEnd; rw [hgu, hu, if_pos (.inl hv)]
        exact T.sub (join () _ (by rw [hgk]; exact I10.step m11 rr11)) (.c rfl (.c rfl (.c rfl (.c rfl (.c rfl (.c rfl (.c rfl (.c rfl (.c rfl (.n))))))))))
      · by_cases hv3 : 3 < u
        · repeat (first | refine T_seq ?_ | refine T_region ?_ | refine T_cond_true rfl ?_ | refine TL_lt_f (hk := ?_) | refine TL_gt_t (hk := ?_) | refine TL_nil ?_ | refine TL_move (hk := ?_) | refine TL_yes (hk := ?_) | refine TL_pick_f (hk := ?_))
          refine TL_call TE (hc := Fail_c bR _ A3 n3 c3 31 _ I10.rdr) (hk := ?_)
          rintro _ w11 ⟨_, m11, rr11⟩
          repeat (refine TL_nil ?_)
          have hgk : gEnd g = q.2.fail 31 := by unfold gEnd; rw [hgu, hu, if_pos (.inr hv3)]
          exact T.sub (join () _ (by rw [hgk]; exact I10.step m11 rr11)) (.c rfl (.c rfl (.c rfl (.c rfl (.c rfl (.c rfl (.c rfl (.c rfl (.c rfl (.n))))))))))
        · repeat (first | refine T_seq ?_ | refine T_region ?_ | refine T_cond_false rfl ?_ | refine T_skip ?_ | refine TL_lt_f (hk := ?_) | refine TL_gt_f (hk := ?_) | refine TL_nil ?_ | refine TL_move (hk := ?_) | refine TL_yes (hk := ?_) | refine TL_pick_f (hk := ?_))
          have hgk : gEnd g = q.2 := by unfold gEnd; rw [hgu, hu, if_neg (by omega)]
          exact T.sub (join () _ (by rw [hgk]; exact I10)) (.c rfl (.c rfl (.c rfl (.c rfl (.c rfl (.c rfl (.c rfl (.c rfl (.c rfl (.n))))))))))
    rintro _ w11 I11
    clear I10
    repeat (first | refine T_seq ?_ | refine T_region ?_ | refine TL_move (hk := ?_))
    refine TL_and (hk := ?_); intro _
    refine TL_ne_d (hk := ?_)
    repeat (refine TL_nil ?_)
    refine T_join (ι := Option Addr × Nat × Nat) (fun _ => [(9, .int .u8 (u : Int)), (8, .string (ofL p.1)), (7, .string (ofL p.1)), (16, .int .i64 (i : Int)), (15, .int .i64 (n0 : Int)), (6, .pointer (some ⟨b6, 0, none⟩)), (5, ptr bR), (2, .pointer (some ⟨b2, 0, none⟩)), (0, .slice B nb cb)])
      (fun x' w' => GInv 107 w w5 w' bR b6 (gEnd g) A3 n3 c3 x' y (if u &&& 1 = 0 then g.rd else g.rd ++ [p.1]) g.wr ∧ x'.2.1 ≤ i + 1) (fun kk join => ?_) ?_
    · by_cases hv : u &&& 1 = 0
      · rw [if_pos hv] at join
        rw [show decide (((u &&& 1 : Nat) : Int) = 0) = true from decide_eq_true (by omega)]
        repeat (first | refine T_cond_false rfl ?_ | refine T_skip ?_)
        exact T.sub (join x _ ⟨I11, by omega⟩) (.c rfl (.c rfl (.c rfl (.c rfl (.c rfl (.c rfl (.c rfl (.c rfl (.c rfl (.n))))))))))
      · rw [if_neg hv] at join
        rw [show decide (((u &&& 1 : Nat) : Int) = 0) = false from decide_eq_false (by omega)]
        have k6 := I11.blk
        have o1 := I11.own1
        repeat (first | refine T_region ?_ | refine T_cond_true rfl ?_ | refine TL_move (hk := ?_) | refine TL_load TE (hk := ?_) | refine TL_fieldAddr TE (hk := ?_))
        refine TL_buildSlice TE (hk := ?_); intro b12 w12 e12 h12 h12' k12
        replace k12 : Blk w12 b12 9 [.string (ofL p.1)] := k12
        have z12 := e12.size
        have o12 := o1.be e12
        have z11 := I11.mod.size
        refine TL_append TE (hk := ?_); intro A13 c13 w13 o13 m13 n13
        have J12 := I11.ext2 e12
        have h65 := I11.h65
        have hRR := I11.hR5
        have hne := I11.hne
        have h6 := I11.h6
        have z13 := m13.size
        have k13 := J12.blk.mod m13 (hi_not o12.hi h65)
        have rr13 := J12.rdr.mod m13 (hi_not o12.hi hRR) (Off.lohi J12.hA o12.hi)
        have own2 := J12.own2.mod m13 J12.off1
        have e13 : Ext w w13 := J12.ext.own m13 (Hi.mono o12.hi (by have := e05.size; omega))
        have mm13 : Eng.Mod [bR, b6] w5 w13 := Mod.step J12.mod m13 (fun z hz => .inr (by
          cases hx : x.1 with
          | none => rw [hx] at hz; simp [blkL] at hz
          | some ad => rw [hx] at hz; simp [blkL] at hz; rw [hz]; exact o12.hi ad hx))
        have noff : Off y.1 (blkL A13) := by
          intro ad had hm
          cases A13 with
          | none => simp [blkL] at hm
          | some a2 =>
            simp [blkL] at hm
            rcases n13 a2 rfl with h | h
            · exact J12.off1 ad had (by rw [h]; simp [blkL, hm])
            · have := J12.own2.lo ad had; omega
        have noff2 : Off A13 (blkL y.1) := by
          intro ad had hm
          cases hy : y.1 with
          | none => rw [hy] at hm; simp [blkL] at hm
          | some a2 =>
            rw [hy] at hm
            simp [blkL] at hm
            rcases n13 ad had with h | h
            · exact J12.off2 ad h (by rw [hy]; simp [blkL, hm])
            · have := J12.own2.lo a2 hy; omega
        clear k6 o1 k12 I11
        repeat (refine TL_fieldAddr TE (hk := ?_))
        refine TL_store TE (hk := ?_); intro w14 m14 z14 k14
        repeat (refine TL_nil ?_)
        refine T.sub (join (A13, x.2.1 + 1, c13) _ ⟨⟨Mod.step e13 m14 (by simp; omega), Mod.step mm13 m14 (by simp), rr13.mod m14 (by simp; omega) J12.hA6, k14, ?_, own2.mod m14 (Off.hi own2.hi (by omega)), noff, noff2, J12.hR, J12.hR5, J12.h6, J12.h65, J12.hne, J12.hA, J12.hA6⟩, by show x.2.1 + 1 ≤ i + 1; omega⟩) (.c rfl (.c rfl (.c rfl (.c rfl (.c rfl (.c rfl (.c rfl (.c rfl (.c rfl (.n))))))))))
        rw [sv_append]
        exact o13.mod m14 (Off.hi o13.hi (by omega))
    rintro x' w12 ⟨I12, hnx⟩
    obtain ⟨rd', hrd⟩ : ∃ rd', (if u &&& 1 = 0 then g.rd else g.rd ++ [p.1]) = rd' := ⟨_, rfl⟩
    rw [hrd] at I12
    repeat (first | refine T_seq ?_ | refine T_region ?_ | refine TL_move (hk := ?_))
    refine TL_and (hk := ?_); intro _
    refine TL_ne_d (hk := ?_)
    repeat (refine TL_nil ?_)
    refine T_join (ι := Option Addr × Nat × Nat) (fun _ => [(9, .int .u8 (u : Int)), (8, .string (ofL p.1)), (7, .string (ofL p.1)), (16, .int .i64 (i : Int)), (15, .int .i64 (n0 : Int)), (6, .pointer (some ⟨b6, 0, none⟩)), (5, ptr bR), (2, .pointer (some ⟨b2, 0, none⟩)), (0, .slice B nb cb)])
      (fun y' w' => GInv 107 w w5 w' bR b6 (gEnd g) A3 n3 c3 x' y' rd' (if u &&& 2 = 0 then g.wr else g.wr ++ [p.1]) ∧ y'.2.1 ≤ i + 1) (fun kk join => ?_) ?_
    · by_cases hv : u &&& 2 = 0
      · rw [if_pos hv] at join
        rw [show decide (((u &&& 2 : Nat) : Int) = 0) = true from decide_eq_true (by omega)]
        repeat (first | refine T_cond_false rfl ?_ | refine T_skip ?_)
        exact T.sub (join y _ ⟨I12, by omega⟩) (.c rfl (.c rfl (.c rfl (.c rfl (.c rfl (.c rfl (.c rfl (.c rfl (.c rfl (.n))))))))))
      · rw [if_neg hv] at join
        rw [show decide (((u &&& 2 : Nat) : Int) = 0) = false from decide_eq_false (by omega)]
        have k6 := I12.blk
        have o1 := I12.own2
        repeat (first | refine T_region ?_ | refine T_cond_true rfl ?_ | refine TL_move (hk := ?_) | refine TL_load TE (hk := ?_) | refine TL_fieldAddr TE (hk := ?_))
        refine TL_buildSlice TE (hk := ?_); intro b12 w12 e12 h12 h12' k12
        replace k12 : Blk w12 b12 9 [.string (ofL p.1)] := k12
        have z12 := e12.size
        have o12 := o1.be e12
        have z11 := I12.mod.size
        refine TL_append TE (hk := ?_); intro A13 c13 w13 o13 m13 n13
        have J12 := I12.ext2 e12
        have h65 := I12.h65
        have hRR := I12.hR5
        have hne := I12.hne
        have h6 := I12.h6
        have z13 := m13.size
        have k13 := J12.blk.mod m13 (hi_not o12.hi h65)
        have rr13 := J12.rdr.mod m13 (hi_not o12.hi hRR) (Off.lohi J12.hA o12.hi)
        have own1 := J12.own1.mod m13 J12.off2
        have e13 : Ext w w13 := J12.ext.own m13 (Hi.mono o12.hi (by have := e05.size; omega))
        have mm13 : Eng.Mod [bR, b6] w5 w13 := Mod.step J12.mod m13 (fun z hz => .inr (by
          cases hx : y.1 with
          | none => rw [hx] at hz; simp [blkL] at hz
          | some ad => rw [hx] at hz; simp [blkL] at hz; rw [hz]; exact o12.hi ad hx))
        have noff : Off x'.1 (blkL A13) := by
          intro ad had hm
          cases A13 with
          | none => simp [blkL] at hm
          | some a2 =>
            simp [blkL] at hm
            rcases n13 a2 rfl with h | h
            · exact J12.off2 ad had (by rw [h]; simp [blkL, hm])
            · have := J12.own1.lo ad had; omega
        have noff2 : Off A13 (blkL x'.1) := by
          intro ad had hm
          cases hy : x'.1 with
          | none => rw [hy] at hm; simp [blkL] at hm
          | some a2 =>
            rw [hy] at hm
            simp [blkL] at hm
            rcases n13 ad had with h | h
            · exact J12.off1 ad h (by rw [hy]; simp [blkL, hm])
            · have := J12.own1.lo a2 hy; omega
        clear k6 o1 k12 I12
        repeat (refine TL_fieldAddr TE (hk := ?_))
        refine TL_store TE (hk := ?_); intro w14 m14 z14 k14
        repeat (refine TL_nil ?_)
        refine T.sub (join (A13, y.2.1 + 1, c13) _ ⟨⟨Mod.step e13 m14 (by simp; omega), Mod.step mm13 m14 (by simp), rr13.mod m14 (by simp; omega) J12.hA6, k14, own1.mod m14 (Off.hi own1.hi (by omega)), ?_, noff2, noff, J12.hR, J12.hR5, J12.h6, J12.h65, J12.hne, J12.hA, J12.hA6⟩, by show y.2.1 + 1 ≤ i + 1; omega⟩) (.c rfl (.c rfl (.c rfl (.c rfl (.c rfl (.c rfl (.c rfl (.c rfl (.c rfl (.n))))))))))
        rw [sv_append]
        exact o13.mod m14 (Off.hi o13.hi (by omega))
    rintro y' w13 ⟨I13, hny⟩
    obtain ⟨wr', hwr⟩ : ∃ wr', (if u &&& 2 = 0 then g.wr else g.wr ++ [p.1]) = wr' := ⟨_, rfl⟩
    rw [hwr] at I13
    have hstep : gStep g = ⟨gEnd g, p.1, rd', wr'⟩ := by unfold gStep; rw [hgt, hgu, hu, hrd, hwr]
    repeat (first | refine T_region ?_ | refine T_inBlock ?_ | refine TL_add (hk := ?_) | refine TL_nil ?_ | refine TL_move (hk := ?_))
    refine ih ((⟨gEnd g, p.1, rd', wr'⟩, i + 1), x', y') _ _ (by simp only; omega) ⟨by show i + 1 ≤ n0; omega, ?_, I13, hnx, hny⟩ (.c rfl (.c rfl (.c rfl (.c rfl (.c rfl (.c rfl (.c rfl (.n))))))))
    show _ = gStep (gIter i _)
    rw [← hg, hstep]
  · have hin : i = n0 := by omega
    have hall : gAll b = g := by unfold gAll; rw [hgi, hn0, ← hin]; exact hg.symm
    repeat (first | refine T_seq ?_ | refine T_region ?_ | refine T_cond_false rfl ?_ | refine T_exit rfl ?_ | refine TL_lt_f (hk := ?_) | refine TL_nil ?_ | refine TL_move (hk := ?_))
    refine TL_call TE (hc := Why_c bR _ A3 n3 c3 w6 I6.rdr) (hk := ?_)
    rintro _ w7 ⟨rfl, e7⟩
    have I7 := I6.ext2 e7
    have k27 : Blk w7 b2 28 [.slice none 0 0, .slice none 0 0] := (k25.mod I6.mod (by simp; omega)).ext e7
    have hrest : g.s.rest ≤ nb := by
      have h1 := I7.rdr.len
      unfold RS.rest
      split <;> omega
    clear I6
    by_cases he : g.s.err = 0
    · have hf : getF b = (((g.rd, g.wr), b.length - g.s.rest), 0) := by unfold getF; rw [hall, if_pos he]
      rw [hf]
      repeat (first | refine T_seq ?_ | refine T_region ?_ | refine T_cond_false rfl ?_ | refine T_skip ?_ | refine TL_ne_f (hk := ?_) | refine TL_nil ?_ | refine TL_move (hk := ?_) | refine TL_assign (hk := ?_) | refine TL_extract (hk := ?_))
      refine T_region_any TE.mixed [b2] ?_; intro w8 e8 z8
      have I8 := I7.ext2 e8
      have k28 := k27.ext e8
      have h62 : b6 ∉ [b2] := by simp; omega
      refine TA_take 0 rfl (by kernel_rfl) (by kernel_rfl) (by kernel_rfl) ?_
      refine TLP_loadb TE (cs := [.slice x.1 x.2.1 x.2.2, .slice y.1 y.2.1 y.2.2]) (o := 0) (hb := I8.blk) (hD := h62) (hk := ?_)
      refine TL_nil_p ?_
      (refine TA_take 1 rfl (by kernel_rfl) (by kernel_rfl) (by kernel_rfl) ?_; repeat (first | refine TL_move (hk := ?_) | refine TL_len TE (hk := ?_)); refine TL_nil_p ?_); (refine TA_take 2 rfl (by kernel_rfl) (by kernel_rfl) (by kernel_rfl) ?_; repeat (first | refine TL_move (hk := ?_) | refine TL_len TE (hk := ?_)); refine TL_nil_p ?_); (refine TA_take 3 rfl (by kernel_rfl) (by kernel_rfl) (by kernel_rfl) ?_; repeat (first | refine TL_move (hk := ?_) | refine TL_len TE (hk := ?_)); refine TL_nil_p ?_)
      refine TA_one 4 rfl (by kernel_rfl) (by kernel_rfl) ?_
      refine TL_call TE (hc := Rest_c bR _ A3 n3 c3 w8 I8.rdr) (hq := fun v w' h => h.2.un) (hk := ?_)
      rintro _ w9 ⟨rfl, e9⟩
      have I9 := I8.ext2 e9
      have k29 := k28.ext e9
      refine TL_nil_p ?_
      (refine TA_take 5 rfl (by kernel_rfl) (by kernel_rfl) (by kernel_rfl) ?_; repeat (refine TL_sub (hk := ?_)); refine TL_nil_p ?_)
      refine TA_one 6 rfl (by kernel_rfl) (by kernel_rfl) ?_
      refine TL_storea TE (hf := rfl) (hq := fun w' h _ => e9.un.trans h) (hk := ?_); intro w10 m10 z10 k10
      refine TL_nil_p ?_
      (refine TA_take 7 rfl (by kernel_rfl) (by kernel_rfl) (by kernel_rfl) ?_; repeat (refine TL_assign (hk := ?_)); refine TL_nil_p ?_); (refine TA_take 8 rfl (by kernel_rfl) (by kernel_rfl) (by kernel_rfl) ?_; repeat (refine TL_assign (hk := ?_)); refine TL_nil_p ?_)
      refine TA_done (by kernel_rfl) ?_
      --
      have hsub : (((nb : Nat) : Int) - ((g.s.rest : Nat) : Int)) = ((b.length - g.s.rest : Nat) : Int) := by omega
      have z6 := I9.mod.size
      refine T_retA3 TE (vs := [.slice x.1 x.2.1 x.2.2, .slice y.1 y.2.1 y.2.2]) (o := 0) rfl rfl rfl rfl rfl rfl k10 rfl (Nat.succ_pos _) ⟨.agg #[.slice x.1 x.2.1 x.2.2, .slice y.1 y.2.1 y.2.2], ?_, Mod.step I9.ext m10 (by simp; omega), x.1, x.2.1, x.2.2, y.1, y.2.1, y.2.2, rfl, ?_, ?_, I9.off1⟩
      · rw [hsub]
      · exact (I9.own1.mod m10 (Off.hi I9.own1.hi (by omega))).weaken (by have := e05.size; omega)
      · exact (I9.own2.mod m10 (Off.hi I9.own2.hi (by omega))).weaken (by have := e05.size; omega)
    · have hf : getF b = ((([], []), 0), g.s.err) := by unfold getF; rw [hall, if_neg he]
      rw [hf]
      repeat (first | refine T_seq ?_ | refine T_region ?_ | refine T_cond_true rfl ?_ | refine TL_ne_t (hk := ?_) | refine TL_nil ?_ | refine TL_move (hk := ?_) | refine TL_assign (hk := ?_) | refine TL_extract (hk := ?_) | refine TL_build TE (hk := ?_))
      refine TL_storea TE (hk := ?_); intro w8 m8 s8 k8
      repeat (first | refine TL_nil ?_ | refine TL_assign (hk := ?_))
      exact T_retA3 TE (vs := [.slice none 0 0, .slice none 0 0]) (o := 0) rfl rfl rfl rfl rfl rfl k8 rfl (Nat.succ_pos _) ⟨.agg #[.slice none 0 0, .slice none 0 0], rfl, Mod.step I7.ext m8 (by simp; omega), FootO.nil _ _ _⟩
end Go.Proofs.Ytfplmpfdhiagaaa

namespace Go.Proofs.Ytfplmpfdhiagaaa
open Go.RowKit Go.Proofs.Eng Go.Proofs.Codec
set_option linter.unusedSimpArgs false
set_option linter.unusedVariables false
attribute [local irreducible] T TL LV TH TA
set_option maxHeartbeats 1000000

end Go.Proofs.Ytfplmpfdhiagaaa

namespace Go.Proofs.Ytfplmpfdhiagaaa
open Go.RowKit Go.Proofs.Eng Go.Proofs.Codec
set_option linter.unusedSimpArgs false
set_option linter.unusedVariables false
attribute [local irreducible] T TL LV TH TA
set_option maxHeartbeats 1000000

end Go.Proofs.Ytfplmpfdhiagaaa

namespace Go.Proofs.Ytfplmpfdhiagaaa
open Go.RowKit Go.Proofs.Eng Go.Proofs.Foot Go.Proofs.Codec
set_option linter.unusedSimpArgs false
set_option linter.unusedVariables false
attribute [local irreducible] T TL LV TH TA
end Go.Proofs.Ytfplmpfdhiagaaa

/- Two structs that are compared. -/
namespace Go.Proofs.Eng
open Go.RowKit
set_option linter.unusedSimpArgs false
set_option linter.unusedVariables false
set_option linter.unusedSectionVars false
section
variable {q : Qm} {P : Program} {fn : Func} {R : Ending → World → Prop} {M : Md} {n : Nat} {st : Slots} {k : List Item} {w : World} {ops rest : List Oper}
  {d : Nat} {ty : TypeId} {ps : String} {af : Array Edge} {X Y : Operand} {t t2 : TypeId} {xs ys : Array Value} {r : Bool}
end
end Go.Proofs.Eng

namespace Go.Proofs.Ytfplmpfdhiagaaa
open Go.RowKit Go.Proofs.Eng Go.Proofs.Foot Go.Proofs.Codec
set_option linter.unusedSimpArgs false
set_option linter.unusedVariables false
attribute [local irreducible] T TL LV TH TA
theorem num_c3 (z : Int) (w : World) : Ret Try.prog 12 [.int .i64 z] w (fun v w' => v = .int .i64 z ∧ w' = w) := by
  refine ret_T (n := 4) Try.func12 rfl rfl ?_
  repeat (first | refine T_seq ?_ | refine T_region ?_ | refine TL_nil ?_ | refine TL_move (hk := ?_) | refine TL_assign (hk := ?_))
  exact T_ret1 rfl rfl ⟨rfl, rfl⟩
theorem long_c3 (A B : Option Addr) (n c m d : Nat) (w : World) (hn : n ≤ 9223372036854775807) (hm : m ≤ 9223372036854775807) (hnm : n + m ≤ 9223372036854775807) : Ret Try.prog 14 [.agg #[.slice A n c, .slice B m d]] w (fun v w' => v = .bool (decide (300 < n + m)) ∧ Ext w w') := by
  refine ret_T (n := 11) Try.func14 rfl rfl ?_
  repeat (first | refine T_seq ?_ | refine T_region ?_)
  refine TL_box (hk := ?_); intro b1 w1 e1 h1 h1' k1
  by_cases h : 300 < n + m
  · repeat (first | refine T_seq ?_ | refine T_region ?_ | refine TL_add (hk := ?_) | refine TL_gt_t (hk := ?_) | refine TL_nil ?_ | refine TL_assign (hk := ?_) | refine TL_load TE (hk := ?_) | refine TL_fieldAddr TE (hk := ?_) | refine TL_len TE (hk := ?_))
    exact T_ret1 rfl rfl ⟨by rw [decide_eq_true h], e1⟩
  · repeat (first | refine T_seq ?_ | refine T_region ?_ | refine TL_add (hk := ?_) | refine TL_gt_f (hk := ?_) | refine TL_nil ?_ | refine TL_assign (hk := ?_) | refine TL_load TE (hk := ?_) | refine TL_fieldAddr TE (hk := ?_) | refine TL_len TE (hk := ?_))
    exact T_ret1 rfl rfl ⟨by rw [decide_eq_false h], e1⟩
def behind : Tx := [98, 101, 104, 105, 110, 100]
/-- A footprint in lists of its own, with a text more behind each. -/
def GivenO (w : World) (base : Nat) (v : Value) (r k : List Tx) : Prop :=
  ∃ A c B d, v = .agg #[.slice A r.length c, .slice B k.length d] ∧ Own w base 9 1 A (r.length + 1) c (sv (r ++ [behind])) ∧ Own w base 9 1 B (k.length + 1) d (sv (k ++ [behind]))
end Go.Proofs.Ytfplmpfdhiagaaa

namespace Go.Proofs.Ytfplmpfdhiagaaa
open Go.RowKit Go.Proofs.Eng Go.Proofs.Foot Go.Proofs.Codec
set_option linter.unusedSimpArgs false
set_option linter.unusedVariables false
attribute [local irreducible] T TL LV TH TA
end Go.Proofs.Ytfplmpfdhiagaaa

namespace Go.Proofs.Ytfplmpfdhiagaaa
open Go.RowKit Go.Proofs.Eng Go.Proofs.Foot Go.Proofs.Codec
set_option linter.unusedSimpArgs false
set_option linter.unusedVariables false
attribute [local irreducible] T TL LV TH TA
abbrev tA : Tx := [97]
abbrev tB : Tx := [98]
theorem live_norm : normF [tB, tA, tB] [tA] = (([tA, tB], [tA]), 0) := by rw [norm_eq]; decide +kernel
theorem live_is : isNorm [tA, tB] [tA] = true := by
  have : normF [tA, tB] [tA] = (([tA, tB], [tA]), 0) := by rw [norm_eq]; decide +kernel
  unfold isNorm
  rw [this]
  decide
theorem live_put : putB (ofM [tA, tB] [tA]) = [2, 1, 97, 3, 1, 98, 1] := by
  unfold putB
  rw [keys3]
  have : setT ([tA, tB] ++ [tA]) = [tA, tB] := by decide +kernel
  rw [this]
  unfold bodyB entryB
  have h1 : bitsM (ofM [tA, tB] [tA]) tA = 3 := by decide +kernel
  have h2 : bitsM (ofM [tA, tB] [tA]) tB = 1 := by decide +kernel
  simp only [List.map_cons, List.map_nil, h1, h2, List.length_cons, List.length_nil, encU_lt (n := 0 + 1 + 1) (by decide), encU_lt (n := 0 + 1) (by decide)]
  decide
theorem live_get : getF [2, 1, 97, 3, 1, 98, 1] = ((([tA, tB], [tA]), 7), 0) := by decide +kernel
theorem short_of {l : List Tx} (h : (l.all fun x => Nat.ble x.length 32) = true) : Short l := fun i hi => by
  have h1 := List.all_eq_true.1 h (l.getD i []) (getD_mem hi)
  have := Nat.le_of_ble_eq_true h1
  omega
theorem live_c3 (w : World) : Ret Try.prog 13 [] w (fun v w' => v = .bool true ∧ Ext w w') := by
  refine ret_T (n := 74) Try.func13 rfl rfl ?_
  repeat (first | refine T_seq ?_ | refine T_region ?_ | refine TL_nil ?_ | refine TL_assign (hk := ?_))
  refine TL_buildSlice TE (hk := ?_); intro b1 w1 e1 h1 h1' k1
  replace k1 : Blk w1 b1 9 (sv [tB, tA, tB]) := k1
  refine TL_buildSlice TE (hk := ?_); intro b2 w2 e2 h2 h2' k2
  replace k2 : Blk w2 b2 9 (sv [tA]) := k2
  have e02 := e1.ext e2
  repeat (refine TL_build TE (hk := ?_))
  refine TL_call TE (hc := Norm_c (some ⟨b1, 0, none⟩) (some ⟨b2, 0, none⟩) 3 3 1 1 [tB, tA, tB] [tA] w2 (Rd.blk (k1.be e2) rfl) (Rd.blk k2 rfl) (by omega) (by omega) (short_of rfl) (short_of rfl)) (hk := ?_)
  rw [live_norm]
  rintro _ w3 ⟨_, rfl, e3, A, n, c, B, m, d, rfl, oA, oB, off⟩
  have hn : n = 2 := by have := oA.len; simpa using this.symm
  have hm : m = 1 := by have := oB.len; simpa using this.symm
  subst hn hm
  repeat (first | refine TL_move (hk := ?_) | refine TL_extract (hk := ?_))
  refine TL_alloc TE (hk := ?_); intro b4 w4 e4 h4 h4' k4
  --
  refine TL_storea TE (hk := ?_); intro w5 m5 z5 k5
  have z1 := e1.size
  have z2 := e2.size
  have z3 := e3.size
  have z4 := e4.size
  have e05 : Ext w w5 := Mod.step ((e02.ext e3).ext e4) m5 (by simp; omega)
  have oA5 := (oA.be e4).mod m5 (Off.lo oA.lo (by omega))
  have oB5 := (oB.be e4).mod m5 (Off.lo oB.lo (by omega))
  clear oA oB k1 k2 k4
  repeat (first | refine T_seq ?_ | refine T_region ?_ | refine TL_nil ?_ | refine TL_move (hk := ?_) | refine TL_assign (hk := ?_))
  refine TL_call TE (hc := num_c3 0 _) (hk := ?_)
  rintro _ _ ⟨rfl, rfl⟩
  repeat (first | refine TL_ne_f (hk := ?_) | refine TL_move (hk := ?_) | refine TL_yes (hk := ?_))
  refine TL_loadb TE (cs := [.slice A 2 c, .slice B 1 d]) (o := 0) rfl rfl k5 rfl rfl (Nat.succ_pos _) (hk := ?_)
  repeat (refine TL_yes (hk := ?_))
  refine TL_buildSlice TE (hk := ?_); intro b6 w6 e6 h6 h6' k6
  replace k6 : Blk w6 b6 9 (sv [tA, tB]) := k6
  repeat (refine TL_yes (hk := ?_))
  refine TL_buildSlice TE (hk := ?_); intro b7 w7 e7 h7 h7' k7
  replace k7 : Blk w7 b7 9 (sv [tA]) := k7
  have e57 := e6.ext e7
  repeat (first | refine TL_yes (hk := ?_) | refine TL_build TE (hk := ?_))
  refine TL_call TE (hc := Same_c A B (some ⟨b6, 0, none⟩) (some ⟨b7, 0, none⟩) 2 1 2 1 c d 2 1 [tA, tB] [tA] [tA, tB] [tA] w7 (oA5.rd.be e57) (oB5.rd.be e57) (Rd.blk (k6.be e7) rfl) (Rd.blk k7 rfl) (by omega) (by omega) (by omega) (by omega)) (hk := ?_)
  rintro _ w8 ⟨rfl, e8⟩
  have e58 := e57.ext e8
  have k58 := k5.be e58
  have oA8 := oA5.be e58
  have oB8 := oB5.be e58
  have e08 := e05.ext e58
  clear k5 oA5 oB5 k6 k7
  rw [show decide ([tA, tB] = [tA, tB] ∧ [tA] = [tA]) = true by decide]
  repeat (first | refine T_seq ?_ | refine T_region ?_ | refine T_cond_false rfl ?_ | refine T_skip ?_ | refine TL_nil ?_ | refine TL_yes (hk := ?_) | refine TL_pick_f (hk := ?_) | refine TL_not (hk := ?_))
  refine TL_loadb TE (cs := [.slice A 2 c, .slice B 1 d]) (o := 0) rfl rfl k58 rfl rfl (Nat.succ_pos _) (hk := ?_)
  refine TL_call TE (hc := Put_c none A B 0 0 2 c 1 d [] [tA, tB] [tA] w8 (Rd.nil _ _ _) oA8.rd oB8.rd (by omega) (by omega) (by omega) (short_of rfl) (short_of rfl)) (hk := ?_)
  rw [if_pos live_is, if_pos live_is, live_put]
  rintro _ w9 ⟨Q, nq, cq, rfl, e9, oQ⟩
  have hnq : nq = 7 := by have := oQ.len; simpa using this.symm
  subst hnq
  repeat (first | refine T_seq ?_ | refine T_region ?_ | refine TL_nil ?_ | refine TL_move (hk := ?_) | refine TL_assign (hk := ?_) | refine TL_extract (hk := ?_))
  refine TL_call TE (hc := Get_c Q 7 cq [2, 1, 97, 3, 1, 98, 1] w9 oQ.rd (by omega)) (hk := ?_)
  rw [live_get]
  rintro _ w10 ⟨_, rfl, e10, A2, n2, c2, B2, m2, d2, rfl, oA2, oB2, off2⟩
  have hn2 : n2 = 2 := by have := oA2.len; simpa using this.symm
  have hm2 : m2 = 1 := by have := oB2.len; simpa using this.symm
  subst hn2 hm2
  have h77 : ((((([tA, tB], [tA]), 7), 0) : ((List Tx × List Tx) × Nat) × Int).fst.snd : Int) = 7 := rfl
  have e810 := e9.ext e10
  have z8 := e08.size
  have z9 := e9.size
  have z10 := e10.size
  have k510 := k58.be e810
  have oA10 := oA8.be e810
  have oB10 := oB8.be e810
  have e010 := e08.ext e810
  clear k58 oA8 oB8 oQ
  repeat (first | refine TL_move (hk := ?_) | refine TL_extract (hk := ?_))
  refine TL_alloc TE (hk := ?_); intro b11 w11 e11 h11 h11' k11
  --
  refine TL_storea TE (hk := ?_); intro w12 m12 z12 k12
  have z11 := e11.size
  have e1012 : Ext w10 w12 := Mod.step e11 m12 (by simp; omega)
  have oA12 := oA10.be e1012
  have oB12 := oB10.be e1012
  have k512 := k510.be e1012
  have o2A := oA2.be e1012
  have o2B := oB2.be e1012
  clear oA10 oB10 k510 oA2 oB2 k11
  repeat (first | refine T_seq ?_ | refine T_region ?_ | refine TL_nil ?_ | refine TL_move (hk := ?_) | refine TL_assign (hk := ?_))
  refine TL_call TE (hc := num_c3 0 _) (hk := ?_)
  rintro _ _ ⟨rfl, rfl⟩
  repeat (first | refine TL_eq_t (hk := ?_) | refine TL_move (hk := ?_) | refine TL_yes (hk := ?_))
  refine TL_call TE (hc := num_c3 0 _) (hk := ?_)
  rintro _ _ ⟨rfl, rfl⟩
  repeat (first | refine TL_eq_t (hk := ?_) | refine TL_move (hk := ?_) | refine TL_yes (hk := ?_) | refine TL_pick_t (hk := ?_))
  refine TL_loadb TE (cs := [.slice A2 2 c2, .slice B2 1 d2]) (o := 0) rfl rfl k12 rfl rfl (Nat.succ_pos _) (hk := ?_)
  repeat (refine TL_yes (hk := ?_))
  refine TL_loadb TE (cs := [.slice A 2 c, .slice B 1 d]) (o := 0) rfl rfl k512 rfl rfl (Nat.succ_pos _) (hk := ?_)
  repeat (refine TL_yes (hk := ?_))
  refine TL_call TE (hc := Same_c A2 B2 A B 2 1 2 1 c2 d2 c d [tA, tB] [tA] [tA, tB] [tA] _ o2A.rd o2B.rd oA12.rd oB12.rd (by omega) (by omega) (by omega) (by omega)) (hk := ?_)
  rintro _ w13 ⟨rfl, e13⟩
  rw [show decide ([tA, tB] = [tA, tB] ∧ [tA] = [tA]) = true by decide]
  have k513 := k512.be e13
  have oA13 := oA12.be e13
  have oB13 := oB12.be e13
  have e013 := (e010.ext e1012).ext e13
  clear k512 oA12 oB12 o2A o2B k12
  repeat (first | refine TL_move (hk := ?_) | refine TL_yes (hk := ?_) | refine TL_pick_t (hk := ?_))
  refine TL_loadb TE (cs := [.slice A 2 c, .slice B 1 d]) (o := 0) rfl rfl k513 rfl rfl (Nat.succ_pos _) (hk := ?_)
  repeat (refine TL_yes (hk := ?_))
  refine TL_buildSlice TE (hk := ?_); intro b14 w14 e14 h14 h14' k14
  replace k14 : Blk w14 b14 9 (sv [tA]) := k14
  repeat (first | refine TL_yes (hk := ?_) | refine TL_build TE (hk := ?_))
  refine TL_call TE (hc := Clash_c A B (some ⟨b14, 0, none⟩) none 2 1 1 0 c d 1 0 [tA, tB] [tA] [tA] [] _ (oA13.rd.be e14) (oB13.rd.be e14) (Rd.blk k14 rfl) (Rd.nil _ _ _) (by omega) (by omega) (by omega) (by omega)) (hk := ?_)
  rintro _ w15 ⟨rfl, e15⟩
  rw [show (ofM [tA, tB] [tA]).any (clash1 (ofM [tA] [])) = true by decide +kernel]
  have e1315 := e14.ext e15
  have k515 := k513.be e1315
  have oA15 := oA13.be e1315
  have oB15 := oB13.be e1315
  have e015 := e013.ext e1315
  clear k513 oA13 oB13 k14
  repeat (first | refine TL_move (hk := ?_) | refine TL_yes (hk := ?_) | refine TL_pick_t (hk := ?_))
  refine TL_loadb TE (cs := [.slice A 2 c, .slice B 1 d]) (o := 0) rfl rfl k515 rfl rfl (Nat.succ_pos _) (hk := ?_)
  repeat (refine TL_yes (hk := ?_))
  refine TL_buildSlice TE (hk := ?_); intro b16 w16 e16 h16 h16' k16
  replace k16 : Blk w16 b16 9 (sv [tB]) := k16
  repeat (first | refine TL_yes (hk := ?_) | refine TL_build TE (hk := ?_))
  refine TL_call TE (hc := Clash_c A B (some ⟨b16, 0, none⟩) none 2 1 1 0 c d 1 0 [tA, tB] [tA] [tB] [] _ (oA15.rd.be e16) (oB15.rd.be e16) (Rd.blk k16 rfl) (Rd.nil _ _ _) (by omega) (by omega) (by omega) (by omega)) (hk := ?_)
  rintro _ w17 ⟨rfl, e17⟩
  rw [show (ofM [tA, tB] [tA]).any (clash1 (ofM [tB] [])) = false by decide +kernel]
  have e017 := e015.ext (e16.ext e17)
  clear k515 oA15 oB15 k16
  repeat (first | refine TL_move (hk := ?_) | refine TL_yes (hk := ?_) | refine TL_pick_t (hk := ?_) | refine TL_not (hk := ?_))
  refine TL_call TE (hc := Valid_c tA (by decide) _) (hk := ?_)
  rintro _ _ ⟨rfl, rfl⟩
  rw [show validT tA = true by decide]
  repeat (first | refine TL_move (hk := ?_) | refine TL_yes (hk := ?_) | refine TL_pick_t (hk := ?_))
  refine TL_call TE (hc := Hash_c tA (by decide) _) (hk := ?_)
  rintro _ _ ⟨rfl, rfl⟩
  rw [show hashT tA = 12638187200555641996 by decide +kernel]
  repeat (first | refine TL_eq_t (hk := ?_) | refine TL_nil ?_ | refine TL_assign (hk := ?_) | refine TL_yes (hk := ?_) | refine TL_pick_t (hk := ?_))
  exact T_ret1 rfl rfl ⟨rfl, e017⟩
end Go.Proofs.Ytfplmpfdhiagaaa

/- What an argument that reads as data looks like, when each row and text of it lies within the reach. -/
namespace Go.Proofs.Eng
open Go.RowKit Go.WideShapes
set_option linter.unusedSimpArgs false
set_option linter.unusedVariables false
/-- Bytes of a type, at least. -/
def Ty.wt : Ty → Nat
  | .int _ => 1
  | .bool => 1
  | .str => 16
  | .slice _ => 24
  | .unit => 0
  | .cons a b => a.wt + b.wt
  | .struct p => p.wt
  | .array n e => n * e.wt
def FitS (w : World) : Ty → List Value → Prop
  | .int k, cs => ∃ n, cs = [.int k n] ∧ Fits k n
  | .bool, cs => ∃ b, cs = [.bool b]
  | .str, cs => ∃ s : ByteArray, cs = [.string s] ∧ s.size ≤ 140737488351232
  | .slice e, cs => ∃ (A : Option Addr) (n c : Nat) (xs : List (List Value)), cs = [.slice A n c] ∧ n ≤ c ∧ c ≤ maxLen ∧ c * e.wt ≤ 140737488351232 ∧ xs.length = n ∧ Rd w A n e.size xs.flatten ∧ ∀ x ∈ xs, x.length = e.size ∧ FitS w e x
  | .unit, cs => cs = []
  | .cons a b, cs => ∃ x y, cs = x ++ y ∧ x.length = a.size ∧ FitS w a x ∧ FitS w b y
  | .struct p, cs => FitS w p cs
  | .array n e, cs => ∃ xs : List (List Value), cs = xs.flatten ∧ xs.length = n ∧ ∀ x ∈ xs, x.length = e.size ∧ FitS w e x
def tyW {P : Program} (E : Env P) : Ty → Where → Bool
  | .slice e, .at t => match E.und t with
    | some (.slice u) => match E.inf u with
      | some (_, b, _) => Nat.ble e.wt b && tyW E e (.at u)
      | none => false
    | _ => false
  | .array n e, .at t => match E.und t with
    | some (.array m u) => tyW E e (.at u)
    | _ => false
  | .struct p, .at t => match E.fld t with
    | some fl => tyW E p (.from 0 fl)
    | none => false
  | .cons a b, .from off ((o, t) :: fl) => tyW E a (.at t) && tyW E b (.from (off + a.size) fl)
  | _, _ => true
section
variable {H : Type} {enc : TypeId × Value → H} {P : Program} {w : World} {base : Nat} {held : Bool}
theorem weightsAll_mem {e : TypeId} : ∀ {l : List (DataW H)} {d : DataW H}, d ∈ l → ∀ k ∈ d.weights P e, k ∈ DataW.weightsAll P e l
  | a :: l, d, h, k, hk => by
    simp only [DataW.weightsAll, List.mem_append]
    rcases List.mem_cons.1 h with rfl | h
    · exact .inl hk
    · exact .inr (weightsAll_mem h k hk)
theorem fits_of_trod (E : Env P) : ∀ (ty : Ty),
    (∀ t, tyOk E ty (.at t) = true → tyW E ty (.at t) = true → ∀ fuel cs x, DataW.trod enc P w base (fun _ => true) held fuel t cs = some x → (∀ k ∈ x.1.weights P t, k ≤ reachBytes) → FitS w ty cs) ∧
    (∀ off fl, tyOk E ty (.from off fl) = true → tyW E ty (.from off fl) = true → ∀ (cs : List Value) (ys : List (DataW H × List MemPlace)), cs.length = off + ty.size → ys.length = fl.length →
      (∀ (i : Nat) (o : Nat) (t : TypeId) y, fl[i]? = some (o, t) → ys[i]? = some y → ∃ n, DataW.trod enc P w base (fun _ => true) held n t ((cs.drop o).take (P.cellsOf t)) = some y) →
      (∀ k ∈ DataW.weightsEach P (fl.map (·.2)) (ys.map (·.1)), k ≤ reachBytes) → FitS w ty (cs.drop off)) := by
  intro ty
  induction ty with
  | int k =>
    refine ⟨fun t h _ fuel cs x hd _ => ?_, fun _ _ h => by simp [tyOk] at h⟩
    obtain ⟨n, h1, h3, h2⟩ := DataW.trod_int (und_int h) hd
    exact ⟨n, h1, fits_of_wf h2⟩
  | bool =>
    refine ⟨fun t h _ fuel cs x hd _ => ?_, fun _ _ h => by simp [tyOk] at h⟩
    obtain ⟨b, h1, h3⟩ := DataW.trod_bool (und_bool h) hd
    exact ⟨b, h1⟩
  | str =>
    refine ⟨fun t h _ fuel cs x hd hw => ?_, fun _ _ h => by simp [tyOk] at h⟩
    obtain ⟨s, h1, h3, h2⟩ := DataW.trod_string (und_str h) hd
    rw [h3] at hw
    have := hw s.data.toList.length (by simp [DataW.weights])
    refine ⟨s, h1, ?_⟩
    simpa [reachBytes] using this
  | slice e ih =>
    refine ⟨fun t h hW fuel cs x hd hw => ?_, fun _ _ h => by simp [tyOk] at h⟩
    simp only [tyOk] at h
    simp only [tyW] at hW
    split at h
    · rename_i u hu
      simp only [Bool.and_eq_true] at h
      obtain ⟨⟨h1, h2⟩, h3⟩ := h
      rw [hu] at hW
      simp only at hW
      split at hW
      · rename_i s' by_ z' hinf
        simp only [Bool.and_eq_true] at hW
        obtain ⟨hW1, hW2⟩ := hW
        have hW1 := Nat.le_of_ble_eq_true hW1
        have hsz := sizeIs_ok h2
        have h0 : 0 < e.size := by simpa [Nat.blt_eq] using h3
        have hund := E.und_ok _ _ hu
        have hbytes : P.bytesOf u = by_ := by
          obtain ⟨i, i1, i2, i3, i4⟩ := E.inf_ok _ _ _ _ hinf
          simp [Program.bytesOf, i1, i3]
        rcases DataW.trod_slice hund hd with ⟨rfl, hx⟩ | ⟨a, len, cap, elems, rest, n, _, rfl, hx, hb, hl, hm, hlen, hel, hsp, _⟩
        · exact ⟨none, 0, 0, [], rfl, Nat.le_refl _, by decide, by simp, rfl, Rd.nil _ _ _, by simp⟩
        · have hrest := (hsp rfl).1
          rw [hx] at hw
          simp only [DataW.weights, hund, List.length_map, hbytes] at hw
          have hcap := hw _ (List.mem_cons_self ..)
          rw [hlen, hrest] at hcap
          have hcap2 : cap * e.wt ≤ 140737488351232 := by
            have e1 : len + (cap - len) = cap := by omega
            rw [e1] at hcap
            have := Nat.mul_le_mul_left cap hW1
            simp only [reachBytes] at hcap
            omega
          rw [hsz] at hel
          have hget : ∀ i, i < len → ∃ y z, w.cells? base (a.add (i * e.size)) e.size = some y ∧ elems[i]? = some z ∧ DataW.trod enc P w base (fun _ => true) held n u y = some z := fun i hi => by
            have h4 := hel i hi
            rw [List.getElem?_eq_getElem (by omega)] at h4
            cases hc : w.cells? base (a.add (i * e.size)) e.size with
            | none => rw [hc] at h4; simp at h4
            | some y => rw [hc] at h4; simp at h4; exact ⟨y, _, rfl, List.getElem?_eq_getElem (by omega), h4⟩
          have hsome : ∀ (i : Nat) (x : List Value), ((List.range len).map fun i => (w.cells? base (a.add (i * e.size)) e.size).getD [])[i]? = some x → w.cells? base (a.add (i * e.size)) e.size = some x ∧ x.length = e.size ∧ FitS w e x := fun i x hx => by
            have hi : i < len := by have := (List.getElem?_eq_some_iff.1 hx).1; simpa using this
            obtain ⟨y, z, hy, hz, ht⟩ := hget i hi
            rw [List.getElem?_map, List.getElem?_range hi] at hx
            simp only [Option.map_some, hy, Option.getD_some, Option.some.injEq] at hx
            subst hx
            refine ⟨hy, (World.cells?_some hy).2.1, ih.1 u h1 hW2 n y z ht fun k hk => hw k (List.mem_cons_of_mem _ (List.mem_append_left _ ?_))⟩
            exact weightsAll_mem (List.mem_map_of_mem (List.mem_of_getElem? hz)) k hk
          have hmem : ∀ x ∈ (List.range len).map (fun i => (w.cells? base (a.add (i * e.size)) e.size).getD []), x.length = e.size ∧ FitS w e x := fun x hx => by
            obtain ⟨i, hi⟩ := List.getElem?_of_mem hx
            exact (hsome i x hi).2
          exact ⟨some a, len, cap, _, rfl, hl, hm, hcap2, by simp, rows_read h0 (by simp) (fun i x hx => (hsome i x hx).1) (fun x hx => (hmem x hx).1), hmem⟩
      · cases hW
    · cases h
  | unit =>
    refine ⟨fun t h => by simp [tyOk] at h, fun off fl h _ cs ys hl _ _ _ => ?_⟩
    show cs.drop off = []
    exact List.drop_of_length_le (by simp only [Ty.size] at hl; omega)
  | cons a b iha ihb =>
    refine ⟨fun t h => by simp [tyOk] at h, fun off fl h hW cs ys hl hyl hf hw => ?_⟩
    cases fl with
    | nil => simp [tyOk] at h
    | cons p fl =>
      cases ys with
      | nil => simp at hyl
      | cons y ys =>
        obtain ⟨o, t⟩ := p
        simp only [tyOk, Bool.and_eq_true] at h
        simp only [tyW, Bool.and_eq_true] at hW
        obtain ⟨⟨⟨h1, h2⟩, h3⟩, h4⟩ := h
        have ho := Nat.eq_of_beq_eq_true h1
        subst ho
        simp only [Ty.size] at hl
        have hsz := sizeIs_ok h3
        obtain ⟨n, hx⟩ := hf 0 o t y rfl rfl
        rw [hsz] at hx
        simp only [List.map_cons, DataW.weightsEach, List.mem_append] at hw
        refine ⟨(cs.drop o).take a.size, cs.drop (o + a.size), ?_, by simp; omega, iha.1 t h2 hW.1 n _ y hx (fun k hk => hw k (.inl hk)), ?_⟩
        · rw [← List.drop_drop, List.take_append_drop]
        · exact ihb.2 (o + a.size) fl h4 hW.2 cs ys (by omega) (by simpa using hyl) (fun i o' t' y' h' g' => hf (i + 1) o' t' y' (by simpa using h') (by simpa using g')) (fun k hk => hw k (.inr hk))
  | struct p ih =>
    refine ⟨fun t h hW fuel cs x hd hw => ?_, fun _ _ h => by simp [tyOk] at h⟩
    simp only [tyOk] at h
    simp only [tyW] at hW
    split at h
    · rename_i fl hfl
      rw [hfl] at hW
      simp only [Bool.and_eq_true] at h
      obtain ⟨h1, h2⟩ := h
      obtain ⟨fs, hu, hmap⟩ := E.fld_ok _ _ hfl
      obtain ⟨xs, n, _, hx, hl, hxl, hfs⟩ := DataW.trod_struct hu hd
      rw [sizeIs_ok h2] at hl
      have e9 : fl.map (·.2) = fs.toList.map (·.type) := by rw [← hmap]; simp
      have := ih.2 0 fl h1 hW cs xs (by omega) (by rw [hxl, ← hmap]; simp) (fun i o t y h' g' => by
        rw [← hmap, List.getElem?_map] at h'
        cases hf : fs.toList[i]? with
        | none => rw [hf] at h'; cases h'
        | some f =>
          rw [hf] at h'
          cases h'
          have hf' : fs[i]? = some f := by simpa using hf
          have h5 := hfs i f hf'
          rw [g'] at h5
          exact ⟨n, h5⟩) (fun k hk => hw k (by rw [hx]; simp only [DataW.weights, hu]; rw [← e9]; exact hk))
      simpa [FitS] using this
    · cases h
  | array n e ih =>
    refine ⟨fun t h hW fuel cs x hd hw => ?_, fun _ _ h => by simp [tyOk] at h⟩
    simp only [tyOk] at h
    simp only [tyW] at hW
    split at h
    · rename_i m u hu
      rw [hu] at hW
      simp only [Bool.and_eq_true] at h
      obtain ⟨⟨⟨h1, h2⟩, h3⟩, h4⟩ := h
      have hm := Nat.eq_of_beq_eq_true h1
      subst hm
      have hund := E.und_ok _ _ hu
      obtain ⟨xs, q, _, hx, hl, hxl, hel⟩ := DataW.trod_array hund hd
      rw [sizeIs_ok h4] at hl
      rw [sizeIs_ok h3] at hel
      refine ⟨(List.range m).map fun i => (cs.drop (i * e.size)).take e.size, (take_drop_chunks m cs hl).symm, by simp, fun y hy => ?_⟩
      obtain ⟨i, hi, rfl⟩ := List.mem_map.1 hy
      have hi' : i < m := by simpa using hi
      have h5 := hel i hi'
      cases ht : DataW.trod enc P w base (fun _ => true) held q u ((cs.drop (i * e.size)).take e.size) with
      | none => rw [ht] at h5; rw [List.getElem?_eq_getElem (by omega)] at h5; cases h5
      | some z =>
        refine ⟨?_, ih.1 u h2 hW q _ _ ht fun k hk => hw k ?_⟩
        · have : (i + 1) * e.size ≤ m * e.size := Nat.mul_le_mul_right _ hi'
          rw [Nat.succ_mul] at this
          simp; omega
        · rw [hx]
          simp only [DataW.weights, hund]
          rw [ht] at h5
          exact weightsAll_mem (List.mem_map_of_mem (List.mem_of_getElem? h5.symm)) k hk
    · cases h
/-- An argument that reads as data, each row and text of it within the reach. -/
def ReadsS (P : Program) (w : World) (base : Nat) (t : TypeId) (v : Value) : Prop :=
  ∃ (H : Type) (enc : TypeId × Value → H) (d : DataW H) (ps : List MemPlace), DataW.Trod enc P w 0 (fun _ => true) true t v d ps ∧ Value.okWide P w .any base t v ∧ ∀ k ∈ d.weights P t, k ≤ reachBytes
theorem ReadsS.fit {t : TypeId} {v : Value} (E : Env P) (h : ReadsS P w base t v) (ty : Ty) (hok : tyOk E ty (.at t) = true) (hW : tyW E ty (.at t) = true) : FitS w ty v.cells.toList := by
  obtain ⟨H, enc, d, ps, ⟨fuel, hf⟩, _, hm⟩ := h
  exact (fits_of_trod E ty).1 t hok hW fuel _ _ hf hm
theorem ReadsS.slice {t e : TypeId} {v : Value} (E : Env P) (h : ReadsS P w base t v) (ht : E.und t = some (.slice e)) : ∃ A n c, v = .slice A n c := by
  obtain ⟨_, _, _, _, _, hv, _⟩ := h
  exact okWide_slice (E.und_ok _ _ ht) hv
theorem FitS.fit : ∀ {ty : Ty} {cs : List Value}, FitS w ty cs → Fit w ty cs
  | .int _, _, h => h
  | .bool, _, h => h
  | .str, _, ⟨s, h1, h2⟩ => ⟨s, h1, by unfold maxLen; omega⟩
  | .slice _, _, ⟨A, n, c, xs, h1, h2, h3, _, h5, h6, h7⟩ => ⟨A, n, c, xs, h1, h2, h3, h5, h6, fun x hx => ⟨(h7 x hx).1, FitS.fit (h7 x hx).2⟩⟩
  | .unit, _, h => h
  | .cons _ _, _, ⟨x, y, h1, h2, h3, h4⟩ => ⟨x, y, h1, h2, FitS.fit h3, FitS.fit h4⟩
  | .struct p, _, h => FitS.fit (ty := p) h
  | .array _ _, _, ⟨xs, h1, h2, h3⟩ => ⟨xs, h1, h2, fun x hx => ⟨(h3 x hx).1, FitS.fit (h3 x hx).2⟩⟩
theorem FitS.bytes {A : Option Addr} {n c : Nat} (h : FitS w (.slice (.int .u8)) [.slice A n c]) : ∃ l, Rd w A n 1 (bv l) ∧ n ≤ c ∧ c ≤ 140737488351232 := by
  obtain ⟨l, h1, h2, _⟩ := Fit.bytes h.fit
  obtain ⟨A', n', c', xs, hv, _, _, h3, _⟩ := h
  cases hv
  exact ⟨l, h1, h2, by simpa [Ty.wt] using h3⟩
theorem bytes_inS {H : Type} {enc : TypeId × Value → H} (E : Env P) {t : TypeId} {A : Option Addr} {n c : Nat} {d : DataW H} {ps : List MemPlace} (hok : tyOk E (.slice (.int .u8)) (.at t) = true) (hW : tyW E (.slice (.int .u8)) (.at t) = true)
    (h : DataW.Trod enc P w 0 (fun _ => true) true t (.slice A n c) d ps) (hw : ∀ k ∈ d.weights P t, k ≤ reachBytes) : ∃ l, Rd w A n 1 (bv l) ∧ n ≤ c ∧ c ≤ 140737488351232 := by
  obtain ⟨fuel, hf⟩ := h
  exact FitS.bytes ((fits_of_trod E _).1 t hok hW fuel _ _ hf hw)
theorem each_one {H : Type} {P : Program} {t : TypeId} {ts : List TypeId} {d : DataW H} {ds : List (DataW H)} (h : ∀ k ∈ DataW.weightsEach P (t :: ts) (d :: ds), k ≤ reachBytes) : (∀ k ∈ d.weights P t, k ≤ reachBytes) ∧ ∀ k ∈ DataW.weightsEach P ts ds, k ≤ reachBytes :=
  ⟨fun k hk => h k (by simp only [DataW.weightsEach, List.mem_append]; exact .inl hk), fun k hk => h k (by simp only [DataW.weightsEach, List.mem_append]; exact .inr hk)⟩
end
end Go.Proofs.Eng

namespace Go.Proofs.Ytfplmpfdhiagaaa
open Go.RowKit Go.Proofs.Eng Go.Proofs.Foot Go.Proofs.Codec
set_option linter.unusedSimpArgs false
set_option linter.unusedVariables false
attribute [local irreducible] T TL LV TH TA
/-- A slice of texts, out of an argument. -/
theorem texts_in {w : World} {A : Option Addr} {n c : Nat} (h : FitS w (.slice .str) [.slice A n c]) : ∃ l : List Tx, Rd w A n 1 (sv l) ∧ n ≤ c ∧ n ≤ 8796093021952 ∧ ∀ t ∈ l, t.length ≤ 140737488351232 := by
  obtain ⟨A', n', c', xs, hv, h1, h2, h3, h4, h5, h6⟩ := h
  cases hv
  refine ⟨xs.map fun x => match x with | [.string s] => s.data.toList | _ => [], ?_, h1, by simp only [Ty.wt] at h3; omega, fun t ht => ?_⟩
  · have e : sv (xs.map fun x => match x with | [.string s] => s.data.toList | _ => []) = xs.flatten := by
      clear h4 h5
      induction xs with
      | nil => rfl
      | cons x t ih =>
        obtain ⟨_, s, rfl, hs⟩ := h6 x (by simp)
        have := ih (fun y hy => h6 y (by simp [hy]))
        simp only [sv, List.map_cons, List.flatten_cons] at this ⊢
        rw [this]
        rfl
    rw [e]
    exact h5
  · obtain ⟨x, hx, rfl⟩ := List.mem_map.1 ht
    obtain ⟨_, s, rfl, hs⟩ := h6 x hx
    exact hs
abbrev tyFoot : Ty := .struct (.cons (.slice .str) (.cons (.slice .str) .unit))
theorem short_mem {l : List Tx} (h : ∀ t ∈ l, t.length ≤ 140737488351232) : Short l := fun i hi => by
  have := h _ (getD_mem hi); omega
theorem agg_two {v a b : Value} (h : v.cells.toList = [a, b]) : v = .agg #[a, b] := by
  cases v with
  | agg cs =>
    have e : cs.toList = [a, b] := h
    congr
    exact Array.toList_inj.1 (by simpa using e)
  | _ => simp [Value.cells] at h
theorem foot_in {w : World} {base : Nat} {v : Value} (h : ReadsS Try.prog w base 28 v) :
    ∃ A n c B m d r k, v = .agg #[.slice A n c, .slice B m d] ∧ Rd w A n 1 (sv r) ∧ Rd w B m 1 (sv k) ∧ n ≤ 8796093021952 ∧ m ≤ 8796093021952 ∧ Short r ∧ Short k := by
  obtain ⟨x, y, h1, h2, hx, u, z, h3, h4, hy, hz⟩ := h.fit TE tyFoot (by decide +kernel) (by decide +kernel)
  have hz : z = [] := hz
  subst hz
  simp only [List.append_nil] at h3
  subst h3
  obtain ⟨A, n, c, xs, e1, r1⟩ := hx
  obtain ⟨B, m, d, ys, e2, r2⟩ := hy
  subst e1 e2
  obtain ⟨r, hr, _, hn, sr⟩ := texts_in ⟨A, n, c, xs, rfl, r1⟩
  obtain ⟨k, hk, _, hm, sk⟩ := texts_in ⟨B, m, d, ys, rfl, r2⟩
  exact ⟨A, n, c, B, m, d, r, k, agg_two h1, hr, hk, hn, hm, short_mem sr, short_mem sk⟩
end Go.Proofs.Ytfplmpfdhiagaaa

namespace Go.Proofs.Ytfplmpfdhiagaaa
open Go.RowKit Go.Proofs.Eng Go.Proofs.Foot Go.Proofs.Codec
set_option linter.unusedSimpArgs false
set_option linter.unusedVariables false set_option maxRecDepth 10000
attribute [local irreducible] T TL LV TH TA
theorem gStep_rd (g : GS) : (gStep g).rd.length ≤ g.rd.length + 1 ∧ (gStep g).wr.length ≤ g.wr.length + 1 := by
  unfold gStep
  constructor <;> (simp only; split <;> simp)
theorem gIter_rd (g : GS) : ∀ n, (gIter n g).rd.length ≤ g.rd.length + n ∧ (gIter n g).wr.length ≤ g.wr.length + n
  | 0 => ⟨Nat.le_refl _, Nat.le_refl _⟩
  | n + 1 => by
    have h1 := gIter_rd g n
    have h2 := gStep_rd (gIter n g)
    show (gStep (gIter n g)).rd.length ≤ _ ∧ (gStep (gIter n g)).wr.length ≤ _
    omega
theorem getF_len (b : List UInt8) : (getF b).1.1.1.length ≤ 64 ∧ (getF b).1.1.2.length ≤ 64 := by
  have h1 := gInit_le b
  have h2 := gIter_rd ⟨(gInit b).2, [], [], []⟩ (gInit b).1
  unfold getF
  split
  · show (gAll b).rd.length ≤ 64 ∧ (gAll b).wr.length ≤ 64
    unfold gAll
    simp only [List.length_nil] at h2
    omega
  · simp
end Go.Proofs.Ytfplmpfdhiagaaa

/- Within and Clash, by the map and by the lists. -/
namespace Go.Proofs.Ytfplmpfdhiagaaa
open Go.Proofs.Eng Go.Proofs.Foot
set_option linter.unusedSimpArgs false
set_option linter.unusedVariables false
end Go.Proofs.Ytfplmpfdhiagaaa

/- What follows of normal forms. -/
namespace Go.Proofs.Ytfplmpfdhiagaaa
open Go.Proofs.Eng Go.Proofs.Foot
set_option linter.unusedSimpArgs false
set_option linter.unusedVariables false
theorem norm_ok {r k ra ka : List Tx} (h : normF r k = ((ra, ka), 0)) : r.all validT = true ∧ k.all validT = true ∧ ra = setT r ∧ ka = setT k ∧ (setT (r ++ k)).length ≤ 64 := by
  rw [norm_eq] at h
  by_cases q : (r.all validT && k.all validT) = true
  · rw [if_pos q] at h
    by_cases g : 64 < (setT (r ++ k)).length
    · rw [if_pos g] at h
      injection h with _ h
      cases h
    · rw [if_neg g] at h
      injection h with h _
      injection h with h1 h2
      simp only [Bool.and_eq_true] at q
      exact ⟨q.1, q.2, h1.symm, h2.symm, by omega⟩
  · rw [if_neg q] at h
    injection h with _ h
    cases h
theorem norm_ok_of {r k : List Tx} (h1 : r.all validT = true) (h2 : k.all validT = true) (h3 : (setT (r ++ k)).length ≤ 64) : normF r k = ((setT r, setT k), 0) := by
  rw [norm_eq, h1, h2, if_pos (by rfl), if_neg (by omega)]
theorem set_congr {a b : List Tx} (h : ∀ t, t ∈ a ↔ t ∈ b) : setT a = setT b := rises_eq (set_rises a) (set_rises b) fun t => by rw [set_mem, set_mem, h]
theorem set_all {l : List Tx} (h : l.all validT = true) : (setT l).all validT = true := by
  rw [List.all_eq_true] at h ⊢
  intro x hx
  exact h x ((set_mem x l).1 hx)
theorem norm_again {r k ra ka : List Tx} (h : normF r k = ((ra, ka), 0)) : normF ra ka = ((ra, ka), 0) := by
  obtain ⟨h1, h2, rfl, rfl, h5⟩ := norm_ok h
  have e : setT (setT r ++ setT k) = setT (r ++ k) := set_congr fun t => by simp [set_mem]
  have := norm_ok_of (set_all h1) (set_all h2) (by rw [e]; exact h5)
  rw [set_set, set_set] at this
  exact this
def meetL (la lb : List (Tx × Bool)) : Bool := la.any fun x => lb.any fun y => decide (x.1 = y.1) && (x.2 || y.2)
theorem short_valid {l : List Tx} (h : l.all validT = true) : Short l := fun i hi => by
  have := List.all_eq_true.1 h _ (getD_mem hi)
  simp only [validT, Bool.and_eq_true, decide_eq_true_eq] at this
  omega
end Go.Proofs.Ytfplmpfdhiagaaa

/- There and back: a number's bytes. -/
namespace Go.Proofs.Codec
open Go.Proofs.Eng
theorem pow7 (i : Nat) : 2 ^ (7 * (i + 1)) = 2 ^ (7 * i) * 128 := by rw [show 7 * (i + 1) = 7 * i + 7 from by omega, Nat.pow_add]
theorem toNat_ofNat {n : Nat} (h : n < 256) : (UInt8.ofNat n).toNat = n := by rw [UInt8.toNat_ofNat']; omega
theorem numF_enc : ∀ (f i N m : Nat) (t : List UInt8), f + i = 10 → m * 2 ^ (7 * i) < 2 ^ 64 → (0 < i → 0 < m) → numF f i N (encU m ++ t) = .ok (N + m * 2 ^ (7 * i), i + (encU m).length)
  | 0, i, N, m, t, hi, hm, h0 => by
    have h1 := h0 (by omega)
    have hp : 2 ^ 70 ≤ 2 ^ (7 * i) := Nat.pow_le_pow_right (by decide) (by omega)
    have : 1 * 2 ^ (7 * i) ≤ m * 2 ^ (7 * i) := Nat.mul_le_mul_right _ h1
    omega
  | f + 1, i, N, m, t, hi, hm, h0 => by
    have h9 : i = 9 → m < 2 := fun h => by subst h; omega
    by_cases h1 : m < 128
    · rw [encU_lt h1]
      have hc : (UInt8.ofNat m).toNat = m := toNat_ofNat (by omega)
      simp only [List.cons_append, List.nil_append, numF, hc]
      rw [if_neg (by omega), if_pos h1, if_neg (by omega), Nat.mod_eq_of_lt h1]
      rfl
    · have h8 : i ≠ 9 := fun h => by have := h9 h; omega
      rw [encU_ge h1]
      have hc : (UInt8.ofNat (m % 128 + 128)).toNat = m % 128 + 128 := toNat_ofNat (by omega)
      have hp := pow7 i
      have hd : m = m % 128 + 128 * (m / 128) := by omega
      have he : m % 128 * 2 ^ (7 * i) + m / 128 * 2 ^ (7 * (i + 1)) = m * 2 ^ (7 * i) := by
        rw [hp, Nat.mul_comm (2 ^ (7 * i)) 128, ← Nat.mul_assoc, ← Nat.add_mul]
        congr 1
        omega
      have hmod : (m % 128 + 128) % 128 = m % 128 := by omega
      simp only [List.cons_append, numF, hc]
      rw [if_neg (by omega), if_neg (by omega), numF_enc f (i + 1) _ (m / 128) t (by omega) (by omega) (by omega)]
      simp only [hmod, List.length_cons, Except.ok.injEq, Prod.mk.injEq]
      omega
theorem num0_enc {m : Nat} (t : List UInt8) (hm : m < 2 ^ 64) : num0 (encU m ++ t) = .ok (m, (encU m).length) := by
  unfold num0
  rw [numF_enc 10 0 0 m t rfl (by simpa using hm) (by omega)]
  simp
theorem numF_back : ∀ (f i N : Nat) (l : List UInt8) (r k : Nat), f + i = 10 → numF f i N l = .ok (r, k) → ∃ m, r = N + m * 2 ^ (7 * i) ∧ encU m = l.take (k - i) ∧ i < k ∧ (0 < i → 0 < m)
  | 0, _, _, _, _, _, _, h => by simp [numF] at h
  | f + 1, i, N, [], _, _, _, h => by simp [numF] at h
  | f + 1, i, N, c :: t, r, k, hi, h => by
    have hc := UInt8.toNat_lt c
    simp only [numF] at h
    split at h
    · cases h
    · split at h
      · rename_i h1
        split at h
        · cases h
        · rename_i h2
          cases h
          refine ⟨c.toNat, by rw [Nat.mod_eq_of_lt h1], ?_, by omega, by omega⟩
          rw [encU_lt h1, show i + 1 - i = 1 by omega]
          simp
      · rename_i h1
        obtain ⟨m, rfl, he, hk, h0⟩ := numF_back f (i + 1) _ t r k (by omega) h
        have h0' := h0 (by omega)
        refine ⟨c.toNat % 128 + 128 * m, ?_, ?_, by omega, by omega⟩
        · rw [pow7, Nat.add_mul, Nat.mul_comm (2 ^ (7 * i)) 128, ← Nat.mul_assoc, Nat.mul_comm m 128]
          omega
        · rw [encU_ge (by omega), show (c.toNat % 128 + 128 * m) / 128 = m by omega, he, show k - i = (k - (i + 1)) + 1 by omega, List.take_succ_cons]
          congr 1
          rw [show (c.toNat % 128 + 128 * m) % 128 + 128 = c.toNat by omega]
          simp
theorem num0_back {l : List UInt8} {r k : Nat} (h : num0 l = .ok (r, k)) : encU r = l.take k := by
  obtain ⟨m, hr, he, _⟩ := numF_back 10 0 0 l r k rfl h
  simp at hr he
  rw [hr, he]
end Go.Proofs.Codec

/- A footprint's bytes, there and back. -/
namespace Go.Proofs.Ytfplmpfdhiagaaa
open Go.Proofs.Eng Go.Proofs.Foot Go.Proofs.Codec
set_option linter.unusedSimpArgs false
set_option linter.unusedVariables false
abbrev Ent := Tx × Nat
def eB (p : Ent) : List UInt8 := (encU p.1.length ++ p.1) ++ [UInt8.ofNat p.2]
def esB (es : List Ent) : List UInt8 := (es.map eB).flatten
def rdE (es : List Ent) : List Tx := (es.filter fun p => p.2 &&& 1 != 0).map (·.1)
def wrE (es : List Ent) : List Tx := (es.filter fun p => p.2 &&& 2 != 0).map (·.1)
def lastE (es : List Ent) : Tx := ((es.map (·.1)).getLast?).getD []
theorem esB_snoc (es : List Ent) (p : Ent) : esB (es ++ [p]) = esB es ++ eB p := by simp [esB]
theorem rdE_snoc (es : List Ent) (p : Ent) : rdE (es ++ [p]) = if p.2 &&& 1 = 0 then rdE es else rdE es ++ [p.1] := by
  unfold rdE
  rw [List.filter_append, List.map_append]
  by_cases h : p.2 &&& 1 = 0
  · have : (p.2 &&& 1 != 0) = false := by rw [h]; rfl
    rw [if_pos h]
    simp only [List.filter_cons, this, Bool.false_eq_true, if_false, List.filter_nil, List.map_nil, List.append_nil]
  · have : (p.2 &&& 1 != 0) = true := by rw [bne_iff_ne]; exact h
    rw [if_neg h]
    simp only [List.filter_cons, this, if_true, List.filter_nil, List.map_cons, List.map_nil]
theorem wrE_snoc (es : List Ent) (p : Ent) : wrE (es ++ [p]) = if p.2 &&& 2 = 0 then wrE es else wrE es ++ [p.1] := by
  unfold wrE
  rw [List.filter_append, List.map_append]
  by_cases h : p.2 &&& 2 = 0
  · have : (p.2 &&& 2 != 0) = false := by rw [h]; rfl
    rw [if_pos h]
    simp only [List.filter_cons, this, Bool.false_eq_true, if_false, List.filter_nil, List.map_nil, List.append_nil]
  · have : (p.2 &&& 2 != 0) = true := by rw [bne_iff_ne]; exact h
    rw [if_neg h]
    simp only [List.filter_cons, this, if_true, List.filter_nil, List.map_cons, List.map_nil]
theorem lastE_snoc (es : List Ent) (p : Ent) : lastE (es ++ [p]) = p.1 := by simp [lastE]
structure At (b : List UInt8) (p0 : Nat) (es : List Ent) (g : GS) : Prop where
  hb : g.s.b = b
  he : g.s.err = 0
  hp : g.s.pos = p0 + (esB es).length
  hle : g.s.pos ≤ b.length
  ht : b.take g.s.pos = b.take p0 ++ esB es
  hl : g.last = lastE es
  hr : g.rd = rdE es
  hw : g.wr = wrE es
theorem tText32_ok {l v : List UInt8} {k : Nat} (h : tText 32 l = .ok (v, k)) : k = (encU v.length ++ v).length ∧ k ≤ l.length ∧ l.take k = encU v.length ++ v := by
  unfold tText tLim at h
  cases hq : num0 l with
  | error e => rw [hq] at h; cases h
  | ok x =>
    obtain ⟨n, j⟩ := x
    rw [hq] at h
    simp only at h
    have h1 := num0_ok hq
    have h2 := num0_back hq
    split at h
    · rename_i hc
      split at hc
      · cases hc
      · cases hc
        split at h
        · cases h
        · rename_i hn
          cases h
          have hlen : ((l.drop j).take n).length = n := by rw [List.length_take, List.length_drop]; omega
          rw [hlen]
          have h3 : (encU n).length = j := by rw [h2, List.length_take]; omega
          refine ⟨by rw [List.length_append, h3, hlen], by omega, ?_⟩
          rw [List.take_add, h2]
    · cases h
theorem tText32_enc (v t : List UInt8) (h : v.length ≤ 32) : tText 32 (encU v.length ++ (v ++ t)) = .ok (v, (encU v.length).length + v.length) := by
  unfold tText tLim
  rw [num0_enc _ (by omega)]
  simp only
  rw [if_neg (by omega)]
  simp only [List.length_append]
  rw [if_neg (by omega)]
  simp
theorem tLim_ne {most e x : Int} {l : List UInt8} (he : ¬ e = 0) (h : tLim most e l = .error x) : ¬ x = 0 := by
  unfold tLim at h
  cases hq : num0 l with
  | error y => rw [hq] at h; cases h; exact num0_err hq
  | ok y =>
    obtain ⟨n, j⟩ := y
    rw [hq] at h
    simp only at h
    split at h
    · cases h; exact he
    · cases h
theorem tText_ne {most x : Int} {l : List UInt8} (h : tText most l = .error x) : ¬ x = 0 := by
  unfold tText at h
  cases hq : tLim most 1 l with
  | error y => rw [hq] at h; cases h; exact tLim_ne (by decide) hq
  | ok y =>
    obtain ⟨n, j⟩ := y
    rw [hq] at h
    simp only at h
    split at h
    · cases h; decide
    · cases h
theorem fail_ne {s : RS} {e : Int} (he : ¬ e = 0) : ¬ (s.fail e).err = 0 := by
  unfold RS.fail
  split
  · exact he
  · rename_i h
    intro q
    exact h ⟨q, he⟩
theorem use_eq (g : GS) : gUse g = (gRise g).take (0 : Nat) tByte := rfl
theorem step_err {g : GS} (h : (gStep g).s.err = 0) : (gUse g).2.err = 0 ∧ 1 ≤ (gUse g).1 ∧ (gUse g).1 ≤ 3 := by
  have h : (gEnd g).err = 0 := h
  unfold gEnd at h
  split at h
  · exact absurd h (fail_ne (by decide))
  · exact ⟨h, by omega⟩
theorem take_ok_of {α : Type} {s : RS} {z : α} {t : List UInt8 → Except Int (α × Nat)} (hne : ∀ l x, t l = .error x → ¬ x = 0) (h : (s.take z t).2.err = 0) : s.err = 0 ∧ ∃ v k, t (s.b.drop s.pos) = .ok (v, k) ∧ s.take z t = (v, { s with pos := s.pos + k, last := s.pos }) := by
  unfold RS.take at h ⊢
  by_cases he : s.err = 0
  · rw [if_pos he] at h ⊢
    cases hq : t (s.b.drop s.pos) with
    | ok y =>
      obtain ⟨v, k⟩ := y
      exact ⟨he, v, k, rfl, rfl⟩
    | error x =>
      rw [hq] at h
      exact absurd h (hne _ _ hq)
  · rw [if_neg he] at h
    exact absurd h he
theorem byte_ne (l : List UInt8) (x : Int) (h : tByte l = .error x) : ¬ x = 0 := by
  unfold tByte at h
  split at h
  · cases h; decide
  · cases h
/-- A step without an error. -/
theorem step_ok {g : GS} (h : (gStep g).s.err = 0) : g.s.err = 0 ∧ ∃ v k c t, tText 32 (g.s.b.drop g.s.pos) = .ok (v, k) ∧ validT v = true ∧ ¬ v ≤ g.last ∧ g.s.b.drop (g.s.pos + k) = c :: t ∧ 1 ≤ c.toNat ∧ c.toNat ≤ 3 ∧
    gStep g = ⟨{ g.s with pos := g.s.pos + k + 1, last := g.s.pos + k }, v, if c.toNat &&& 1 = 0 then g.rd else g.rd ++ [v], if c.toNat &&& 2 = 0 then g.wr else g.wr ++ [v]⟩ := by
  obtain ⟨h1, h2, h3⟩ := step_err h
  rw [use_eq] at h1
  obtain ⟨q1, u, j, q2, q3⟩ := take_ok_of byte_ne h1
  have q0 := q1
  unfold gRise at q0
  split at q0
  · exact absurd q0 (fail_ne (by decide))
  rename_i hv
  have q4 := q0
  unfold gKey at q4
  by_cases hk : validT (gText g).1 = true
  case neg => rw [if_neg hk] at q4; exact absurd q4 (fail_ne (by decide))
  rw [if_pos hk] at q4
  obtain ⟨q5, v, k, q6, q7⟩ := take_ok_of (fun l x => tText_ne) q4
  have eT : gText g = (v, { g.s with pos := g.s.pos + k, last := g.s.pos }) := q7
  have eK : gKey g = { g.s with pos := g.s.pos + k, last := g.s.pos } := by unfold gKey; rw [if_pos hk, eT]
  have eR : gRise g = { g.s with pos := g.s.pos + k, last := g.s.pos } := by unfold gRise; rw [if_neg hv, eK]
  rw [eT] at hv hk
  rw [eR] at q2 q3
  have eU : gUse g = (u, { g.s with pos := g.s.pos + k + j, last := g.s.pos + k }) := by rw [use_eq, eR, q3]
  rw [eU] at h2 h3
  simp only at h2 h3 hv hk q2
  have hc : ∃ c t, g.s.b.drop (g.s.pos + k) = c :: t ∧ u = c.toNat ∧ j = 1 := by
    unfold tByte at q2
    split at q2
    · cases q2
    · rename_i c t hc
      cases q2
      exact ⟨c, t, hc, rfl, rfl⟩
  obtain ⟨c, t, hc, rfl, rfl⟩ := hc
  refine ⟨q5, v, k, c, t, q6, hk, hv, hc, h2, h3, ?_⟩
  have eE : gEnd g = { g.s with pos := g.s.pos + k + 1, last := g.s.pos + k } := by
    unfold gEnd
    rw [eU]
    simp only
    rw [if_neg (by omega)]
  unfold gStep
  rw [eE, eT, eU]
/-- What the step reads, stands there. -/
theorem step_fwd {g : GS} {v : List UInt8} {k : Nat} {c : UInt8} {t : List UInt8} (h0 : g.s.err = 0) (h1 : tText 32 (g.s.b.drop g.s.pos) = .ok (v, k)) (h2 : validT v = true) (h3 : ¬ v ≤ g.last) (h4 : g.s.b.drop (g.s.pos + k) = c :: t) (h5 : 1 ≤ c.toNat) (h6 : c.toNat ≤ 3) :
    gStep g = ⟨{ g.s with pos := g.s.pos + k + 1, last := g.s.pos + k }, v, if c.toNat &&& 1 = 0 then g.rd else g.rd ++ [v], if c.toNat &&& 2 = 0 then g.wr else g.wr ++ [v]⟩ := by
  have eT : gText g = (v, { g.s with pos := g.s.pos + k, last := g.s.pos }) := by
    unfold gText RS.take
    rw [if_pos h0, h1]
  have eK : gKey g = { g.s with pos := g.s.pos + k, last := g.s.pos } := by unfold gKey; rw [eT, if_pos h2]
  have eR : gRise g = { g.s with pos := g.s.pos + k, last := g.s.pos } := by unfold gRise; rw [eT, if_neg h3, eK]
  have eU : gUse g = (c.toNat, { g.s with pos := g.s.pos + k + 1, last := g.s.pos + k }) := by
    rw [use_eq, eR]
    unfold RS.take
    rw [if_pos h0]
    simp only [h4, tByte]
  have eE : gEnd g = { g.s with pos := g.s.pos + k + 1, last := g.s.pos + k } := by
    unfold gEnd
    rw [eU]
    simp only
    rw [if_neg (by omega)]
  unfold gStep
  rw [eE, eT, eU]
def Ok1 (p : Ent) : Prop := validT p.1 = true ∧ 1 ≤ p.2 ∧ p.2 ≤ 3
theorem At.snoc {b : List UInt8} {p0 : Nat} {es : List Ent} {g : GS} (h : At b p0 es g) {v : List UInt8} {k : Nat} {c : UInt8} {t : List UInt8} (h1 : k = (encU v.length ++ v).length) (h2 : (b.drop g.s.pos).take k = encU v.length ++ v) (h4 : b.drop (g.s.pos + k) = c :: t) :
    At b p0 (es ++ [(v, c.toNat)]) ⟨{ g.s with pos := g.s.pos + k + 1, last := g.s.pos + k }, v, if c.toNat &&& 1 = 0 then g.rd else g.rd ++ [v], if c.toNat &&& 2 = 0 then g.wr else g.wr ++ [v]⟩ where
  hb := h.hb
  he := h.he
  hp := by
    have := h.hp
    rw [esB_snoc]
    simp only [eB, List.length_append, List.length_cons, List.length_nil] at h1 ⊢
    omega
  hle := by
    show g.s.pos + k + 1 ≤ b.length
    have : (b.drop (g.s.pos + k)).length = (c :: t).length := by rw [h4]
    rw [List.length_drop, List.length_cons] at this
    omega
  ht := by
    show b.take (g.s.pos + k + 1) = _
    rw [List.take_add, List.take_add, h.ht, h2, h4, esB_snoc]
    simp [eB, UInt8.ofNat_toNat]
  hl := by rw [lastE_snoc]
  hr := by rw [rdE_snoc, h.hr]
  hw := by rw [wrE_snoc, h.hw]
theorem le_of_not_lt' {a b : Tx} (h : ¬ a ≤ b) : b < a := by
  rcases Classical.em (b < a) with q | q
  · exact q
  · exact absurd (show a ≤ b from q) h
theorem last_mem {es : List Ent} {x : Tx} (hr : Rises (es.map (·.1))) (hx : x ∈ es.map (·.1)) : x = lastE es ∨ x < lastE es := by
  unfold lastE
  generalize es.map (·.1) = l at hr hx
  induction l with
  | nil => cases hx
  | cons y l ih =>
    have hr' := List.pairwise_cons.1 hr
    cases l with
    | nil => left; simpa using hx
    | cons z l =>
      have e : ((y :: z :: l).getLast?).getD [] = ((z :: l).getLast?).getD [] := by simp [List.getLast?_cons_cons]
      rw [e]
      rcases List.mem_cons.1 hx with q | q
      · right
        rw [q]
        refine hr'.1 _ ?_
        rw [List.getLast?_eq_some_getLast (List.cons_ne_nil _ _)]
        exact List.getLast_mem _
      · exact ih hr'.2 q
theorem rises_snoc {es : List Ent} {p : Ent} (hr : Rises (es.map (·.1))) (h : lastE es < p.1) : Rises ((es ++ [p]).map (·.1)) := by
  rw [List.map_append]
  refine List.pairwise_append.2 ⟨hr, by simp, fun x hx y hy => ?_⟩
  simp only [List.map_cons, List.map_nil, List.mem_singleton] at hy
  subst hy
  rcases last_mem hr hx with q | q
  · rw [q]; exact h
  · exact tx_trans q h
structure Good (es : List Ent) : Prop where
  up : Rises (es.map (·.1))
  ok : ∀ p ∈ es, Ok1 p
/-- Backward: steps without an error have read entries. -/
theorem run_back {b : List UInt8} {p0 : Nat} {g0 : GS} (h0 : At b p0 [] g0) : ∀ n, (gIter n g0).s.err = 0 → ∃ es, es.length = n ∧ Good es ∧ At b p0 es (gIter n g0)
  | 0, _ => ⟨[], rfl, ⟨List.Pairwise.nil, fun p hp => by cases hp⟩, h0⟩
  | n + 1, h => by
    have h : (gStep (gIter n g0)).s.err = 0 := h
    obtain ⟨q0, v, k, c, t, q1, q2, q3, q4, q5, q6, q7⟩ := step_ok h
    obtain ⟨es, e1, e2, e3⟩ := run_back h0 n q0
    obtain ⟨a1, a2, a3⟩ := tText32_ok q1
    rw [e3.hb] at q1 a2 a3 q4
    refine ⟨es ++ [(v, c.toNat)], by simp [e1], ⟨rises_snoc e2.up (by rw [← e3.hl]; exact le_of_not_lt' q3), fun p hp => ?_⟩, ?_⟩
    · rcases List.mem_append.1 hp with hp | hp
      · exact e2.ok p hp
      · simp only [List.mem_singleton] at hp
        subst hp
        exact ⟨q2, q5, q6⟩
    · show At b p0 _ (gStep (gIter n g0))
      rw [q7]
      exact e3.snoc a1 a3 q4
theorem valid_pos {t : Tx} (h : validT t = true) : 1 ≤ t.length ∧ t.length ≤ 32 := by
  simp only [validT, Bool.and_eq_true, decide_eq_true_eq] at h
  exact h.2
/-- Forward: entries are read. -/
theorem run_fwd {b tail : List UInt8} {p0 : Nat} {g0 : GS} {es : List Ent} (h0 : At b p0 [] g0) (hg : Good es) (hb : b.drop p0 = esB es ++ tail) : ∀ n, n ≤ es.length → At b p0 (es.take n) (gIter n g0)
  | 0, _ => h0
  | n + 1, hn => by
    have ih := run_fwd h0 hg hb n (by omega)
    obtain ⟨p, hp⟩ : ∃ p, es[n] = p := ⟨_, rfl⟩
    have e1 : es.take (n + 1) = es.take n ++ [p] := by rw [List.take_succ_eq_append_getElem (by omega), hp]
    have e2 : es = es.take n ++ p :: es.drop (n + 1) := by
      rw [← hp, ← List.drop_eq_getElem_cons (by omega), List.take_append_drop]
    have hok := hg.ok p (by rw [← hp]; exact List.getElem_mem _)
    obtain ⟨v, u⟩ := p
    obtain ⟨o1, o2, o3⟩ := hok
    simp only at o1 o2 o3
    have hv := valid_pos o1
    have hd : b.drop (gIter n g0).s.pos = encU v.length ++ (v ++ (UInt8.ofNat u :: (esB (es.drop (n + 1)) ++ tail))) := by
      rw [ih.hp, ← List.drop_drop, hb]
      have e3 : esB es = esB (es.take n) ++ (eB (v, u) ++ esB (es.drop (n + 1))) := by
        conv => lhs; rw [e2]
        simp [esB]
      rw [e3, List.append_assoc, List.drop_left]
      simp [eB]
    have ht := tText32_enc v (UInt8.ofNat u :: (esB (es.drop (n + 1)) ++ tail)) hv.2
    rw [← hd] at ht
    have hc : b.drop ((gIter n g0).s.pos + ((encU v.length).length + v.length)) = UInt8.ofNat u :: (esB (es.drop (n + 1)) ++ tail) := by
      rw [← List.drop_drop, hd, ← List.append_assoc, ← List.length_append, List.drop_left]
    have hu : (UInt8.ofNat u).toNat = u := toNat_ofNat (by omega)
    have hlt : ¬ v ≤ (gIter n g0).last := by
      rw [ih.hl]
      have hup := hg.up
      rw [e2, List.map_append] at hup
      have h3 := (List.pairwise_append.1 hup).2.2
      intro hle
      have hlast : lastE (es.take n) < v := by
        unfold lastE
        cases hq : ((es.take n).map (·.1)).getLast? with
        | none =>
          simp only [Option.getD_none]
          cases v with
          | nil => simp at hv
          | cons a l => exact List.nil_lt_cons _ _
        | some x =>
          simp only [Option.getD_some]
          exact h3 x (List.mem_of_getLast? hq) v (by simp)
      exact (show ¬ lastE (es.take n) < v from hle) hlast
    have hs := step_fwd (g := gIter n g0) ih.he (by rw [ih.hb]; exact ht) o1 hlt (by rw [ih.hb]; exact hc) (by rw [hu]; exact o2) (by rw [hu]; exact o3)
    have h5 := ih.snoc (v := v) (k := (encU v.length).length + v.length) (by rw [List.length_append]) (by rw [hd, ← List.append_assoc, ← List.length_append, List.take_left]) hc
    show At b p0 _ (gStep (gIter n g0))
    rw [hs, e1]
    rw [hu] at h5 ⊢
    exact h5
/-! ### Entries and footprints -/
theorem bits13 : ∀ u : Fin 4, 1 ≤ u.val → (if u.val &&& 1 ≠ 0 then 1 else 0) + (if u.val &&& 2 ≠ 0 then 2 else 0) = u.val := by decide
theorem mem_rdE {es : List Ent} {t : Tx} : t ∈ rdE es ↔ ∃ u, (t, u) ∈ es ∧ u &&& 1 ≠ 0 := by
  unfold rdE
  simp only [List.mem_map, List.mem_filter, bne_iff_ne]
  exact ⟨fun ⟨p, ⟨h1, h2⟩, e⟩ => ⟨p.2, by rw [← e]; exact h1, h2⟩, fun ⟨u, h1, h2⟩ => ⟨(t, u), ⟨h1, h2⟩, rfl⟩⟩
theorem mem_wrE {es : List Ent} {t : Tx} : t ∈ wrE es ↔ ∃ u, (t, u) ∈ es ∧ u &&& 2 ≠ 0 := by
  unfold wrE
  simp only [List.mem_map, List.mem_filter, bne_iff_ne]
  exact ⟨fun ⟨p, ⟨h1, h2⟩, e⟩ => ⟨p.2, by rw [← e]; exact h1, h2⟩, fun ⟨u, h1, h2⟩ => ⟨(t, u), ⟨h1, h2⟩, rfl⟩⟩
theorem uniq {es : List Ent} (hr : Rises (es.map (·.1))) {t : Tx} {u v : Nat} (h1 : (t, u) ∈ es) (h2 : (t, v) ∈ es) : u = v := by
  induction es with
  | nil => cases h1
  | cons p es ih =>
    have hr' := List.pairwise_cons.1 hr
    rcases List.mem_cons.1 h1 with q1 | q1 <;> rcases List.mem_cons.1 h2 with q2 | q2
    · rw [← q1] at q2; injection q2 with _ q; exact q.symm
    · have := hr'.1 t (List.mem_map.2 ⟨_, q2, rfl⟩); rw [← q1] at this; exact absurd this (tx_irrefl t)
    · have := hr'.1 t (List.mem_map.2 ⟨_, q1, rfl⟩); rw [← q2] at this; exact absurd this (tx_irrefl t)
    · exact ih hr'.2 q1 q2
theorem rises_rdE {es : List Ent} (h : Rises (es.map (·.1))) : Rises (rdE es) := h.sublist (List.Sublist.map _ List.filter_sublist)
theorem rises_wrE {es : List Ent} (h : Rises (es.map (·.1))) : Rises (wrE es) := h.sublist (List.Sublist.map _ List.filter_sublist)
theorem ent_set {es : List Ent} (h : Good es) : setT (rdE es ++ wrE es) = es.map (·.1) :=
  rises_eq (set_rises _) h.up fun t => by
    rw [set_mem, List.mem_append, mem_rdE, mem_wrE, List.mem_map]
    constructor
    · rintro (⟨u, h1, _⟩ | ⟨u, h1, _⟩) <;> exact ⟨_, h1, rfl⟩
    · rintro ⟨⟨t', u⟩, h1, rfl⟩
      have ho := h.ok _ h1
      have hb := bits13 ⟨u, by have := ho.2.2; simp at this; omega⟩ ho.2.1
      simp only at hb
      have := ho.2.1
      simp only at this
      by_cases q : u &&& 1 ≠ 0
      · exact .inl ⟨u, h1, q⟩
      · by_cases q2 : u &&& 2 ≠ 0
        · exact .inr ⟨u, h1, q2⟩
        · rw [if_neg q, if_neg q2] at hb; omega
theorem ent_bits {es : List Ent} (h : Good es) {t : Tx} {u : Nat} (hm : (t, u) ∈ es) : bitsM (ofM (rdE es) (wrE es)) t = u := by
  have ho := h.ok _ hm
  have hb := bits13 ⟨u, by have := ho.2.2; simp at this; omega⟩ ho.2.1
  simp only at hb
  rw [bits_of]
  have e1 : (t ∈ rdE es) ↔ u &&& 1 ≠ 0 := by
    rw [mem_rdE]
    exact ⟨fun ⟨v, h1, h2⟩ => by rw [uniq h.up hm h1]; exact h2, fun q => ⟨u, hm, q⟩⟩
  have e2 : (t ∈ wrE es) ↔ u &&& 2 ≠ 0 := by
    rw [mem_wrE]
    exact ⟨fun ⟨v, h1, h2⟩ => by rw [uniq h.up hm h1]; exact h2, fun q => ⟨u, hm, q⟩⟩
  simp only [e1, e2]
  exact hb
theorem ent_put {es : List Ent} (h : Good es) : putB (ofM (rdE es) (wrE es)) = encU es.length ++ esB es := by
  unfold putB bodyB esB
  rw [keys3, ent_set h, List.length_map, List.map_map]
  congr 2
  refine List.map_congr_left fun p hp => ?_
  obtain ⟨t, u⟩ := p
  show entryB _ t = eB (t, u)
  unfold entryB eB
  rw [ent_bits h hp]
theorem ent_norm {es : List Ent} (h : Good es) (hl : es.length ≤ 64) : isNorm (rdE es) (wrE es) = true := by
  have a1 : (rdE es).all validT = true := by
    rw [List.all_eq_true]
    intro t ht
    obtain ⟨u, hu, _⟩ := mem_rdE.1 ht
    exact (h.ok _ hu).1
  have a2 : (wrE es).all validT = true := by
    rw [List.all_eq_true]
    intro t ht
    obtain ⟨u, hu, _⟩ := mem_wrE.1 ht
    exact (h.ok _ hu).1
  have := norm_ok_of a1 a2 (by rw [ent_set h, List.length_map]; exact hl)
  unfold isNorm
  rw [this, set_of_rises (rises_rdE h.up), set_of_rises (rises_wrE h.up)]
  simp
theorem norm_of_is {r k : List Tx} (h : isNorm r k = true) : normF r k = ((r, k), 0) := by
  unfold isNorm at h
  have h := of_decide_eq_true h
  generalize normF r k = x at h
  obtain ⟨⟨a, b⟩, e⟩ := x
  obtain ⟨h1, h2, h3⟩ := h
  simp only at h1 h2 h3
  rw [h1, h2, h3]
theorem is_of_norm {r k : List Tx} (h : normF r k = ((r, k), 0)) : isNorm r k = true := by
  unfold isNorm
  rw [h]
  simp
def entsOf (r k : List Tx) : List Ent := (setT (r ++ k)).map fun t => (t, bitsM (ofM r k) t)
theorem ents_good {r k : List Tx} (h : isNorm r k = true) : Good (entsOf r k) ∧ (entsOf r k).length ≤ 64 ∧ rdE (entsOf r k) = r ∧ wrE (entsOf r k) = k := by
  obtain ⟨h1, h2, h3, h4, h5⟩ := norm_ok (norm_of_is h)
  have em : (entsOf r k).map (·.1) = setT (r ++ k) := by unfold entsOf; rw [List.map_map]; exact List.map_id' _
  have hm : ∀ p, p ∈ entsOf r k ↔ (p.1 ∈ r ∨ p.1 ∈ k) ∧ p.2 = bitsM (ofM r k) p.1 := fun p => by
    unfold entsOf
    rw [List.mem_map]
    constructor
    · rintro ⟨t, ht, rfl⟩
      rw [set_mem, List.mem_append] at ht
      exact ⟨ht, rfl⟩
    · rintro ⟨a, b⟩
      exact ⟨p.1, by rw [set_mem, List.mem_append]; exact a, by rw [← b]⟩
  have up : Rises ((entsOf r k).map (·.1)) := by rw [em]; exact set_rises _
  have hr' : Rises r := by rw [h3]; exact set_rises _
  have hk' : Rises k := by rw [h4]; exact set_rises _
  refine ⟨⟨up, fun p hp => ?_⟩, by unfold entsOf; rw [List.length_map]; exact h5, ?_, ?_⟩
  · obtain ⟨a, b⟩ := (hm p).1 hp
    refine ⟨?_, ?_⟩
    · rcases a with a | a
      · exact List.all_eq_true.1 h1 _ a
      · exact List.all_eq_true.1 h2 _ a
    · rw [b, bits_of]
      rcases a with a | a <;> (rw [if_pos a]; split <;> omega)
  · refine rises_eq (rises_rdE up) hr' fun t => ?_
    rw [mem_rdE]
    constructor
    · rintro ⟨u, hu, hb⟩
      obtain ⟨a, b⟩ := (hm _).1 hu
      simp only at a b
      rw [b, bits_of] at hb
      apply Classical.byContradiction
      intro hn
      rw [if_neg hn] at hb
      split at hb <;> simp at hb
    · intro ht
      refine ⟨bitsM (ofM r k) t, (hm _).2 ⟨.inl ht, rfl⟩, ?_⟩
      rw [bits_of, if_pos ht]
      split <;> decide
  · refine rises_eq (rises_wrE up) hk' fun t => ?_
    rw [mem_wrE]
    constructor
    · rintro ⟨u, hu, hb⟩
      obtain ⟨a, b⟩ := (hm _).1 hu
      simp only at a b
      rw [b, bits_of] at hb
      apply Classical.byContradiction
      intro hn
      rw [if_neg hn] at hb
      split at hb <;> simp at hb
    · intro ht
      refine ⟨bitsM (ofM r k) t, (hm _).2 ⟨.inr ht, rfl⟩, ?_⟩
      rw [bits_of, if_pos ht]
      split <;> decide
/-! ### There and back -/
theorem init_at {b : List UInt8} {n j : Nat} (h : num0 b = .ok (n, j)) (hn : n ≤ 64) : gInit b = (n, ⟨b, j, 0, 0, 0⟩) := by
  unfold gInit RS.take tLim
  simp only [if_true, List.drop_zero]
  rw [h]
  simp only
  rw [if_neg (by omega)]
  simp
theorem at0 {b : List UInt8} {n j : Nat} (h : num0 b = .ok (n, j)) : At b j [] ⟨⟨b, j, 0, 0, 0⟩, [], [], []⟩ :=
  ⟨rfl, rfl, by simp [esB], (num0_ok h).2.2, by simp [esB], rfl, rfl, rfl⟩
theorem get_put {r k : List Tx} (tail : List UInt8) (h : isNorm r k = true) : getF (putB (ofM r k) ++ tail) = (((r, k), (putB (ofM r k)).length), 0) := by
  obtain ⟨hg, hl, e1, e2⟩ := ents_good h
  generalize entsOf r k = es at hg hl e1 e2
  rw [← e1, ← e2, ent_put hg]
  have hb : num0 (encU es.length ++ esB es ++ tail) = .ok (es.length, (encU es.length).length) := by
    rw [List.append_assoc]
    exact num0_enc _ (by omega)
  generalize hB : encU es.length ++ esB es ++ tail = b at hb
  have ha := run_fwd (at0 hb) hg (tail := tail) (by rw [← hB, List.append_assoc, List.drop_left]) es.length (Nat.le_refl _)
  rw [List.take_length] at ha
  have hA : gAll b = gIter es.length ⟨⟨b, (encU es.length).length, 0, 0, 0⟩, [], [], []⟩ := by
    unfold gAll
    rw [init_at hb hl]
  rw [← hA] at ha
  unfold getF
  rw [if_pos ha.he]
  have hrest : (gAll b).s.rest = b.length - (gAll b).s.pos := by unfold RS.rest; rw [if_pos ha.he, ha.hb]
  have hle := ha.hle
  have hp := ha.hp
  rw [hrest, ha.hr, ha.hw]
  congr 2
  rw [List.length_append]
  omega
theorem put_get {b : List UInt8} (h : (getF b).2 = 0) : isNorm (getF b).1.1.1 (getF b).1.1.2 = true ∧ (getF b).1.2 ≤ b.length ∧ putB (ofM (getF b).1.1.1 (getF b).1.1.2) = b.take (getF b).1.2 := by
  by_cases he : (gAll b).s.err = 0
  case neg => unfold getF at h; rw [if_neg he] at h; exact absurd h he
  have hn : ∃ n j, num0 b = .ok (n, j) ∧ n ≤ 64 := by
    have h1 : ∀ n, ∀ g : GS, ¬ g.s.err = 0 → ¬ (gIter n g).s.err = 0 := by
      intro n g hg
      induction n with
      | zero => exact hg
      | succ n ih => exact fun q => ih (step_ok (g := gIter n g) q).1
    have h2 : (gInit b).2.err = 0 := Classical.byContradiction fun q => h1 (gInit b).1 ⟨(gInit b).2, [], [], []⟩ q he
    obtain ⟨_, v, k, h3, _⟩ := take_ok_of (fun l x hx => tLim_ne (by decide) hx) h2
    have h4 := tLim_le h3
    unfold tLim at h3
    cases hq : num0 b with
    | error e => simp only [List.drop_zero] at h3; rw [hq] at h3; cases h3
    | ok y =>
      obtain ⟨n, j⟩ := y
      simp only [List.drop_zero] at h3
      rw [hq] at h3
      simp only at h3
      split at h3
      · cases h3
      · cases h3
        exact ⟨_, _, rfl, by omega⟩
  obtain ⟨n, j, hb, hn⟩ := hn
  have hA : gAll b = gIter n ⟨⟨b, j, 0, 0, 0⟩, [], [], []⟩ := by
    unfold gAll
    rw [init_at hb hn]
  obtain ⟨es, e1, e2, e3⟩ := run_back (at0 hb) n (by rw [← hA]; exact he)
  rw [← hA] at e3
  have hrest : (gAll b).s.rest = b.length - (gAll b).s.pos := by unfold RS.rest; rw [if_pos he, e3.hb]
  have hle := e3.hle
  have hg : getF b = (((rdE es, wrE es), (gAll b).s.pos), 0) := by
    unfold getF
    rw [if_pos he, hrest, e3.hr, e3.hw]
    congr 2
    omega
  rw [hg]
  refine ⟨ent_norm e2 (by omega), hle, ?_⟩
  rw [ent_put e2]
  show _ = b.take (gAll b).s.pos
  rw [e3.ht, e1, num0_back hb]
end Go.Proofs.Ytfplmpfdhiagaaa

/- In a region walked move by move: bytes as a text. -/
namespace Go.Proofs.Eng
open Go.RowKit
set_option linter.unusedSimpArgs false
set_option linter.unusedVariables false
section
variable {P : Program} {fn : Func} {R : Ending → World → Prop} {M : Md} {n : Nat} {st : Slots} {k : List Item} {w w0 : World} {ops rest : List Oper} {D : List Nat}
  {d : Nat} {ty : TypeId} {ps : String} {af : Array Edge} {X : Operand} {t t2 e : TypeId} {m c : Nat} {A : Option Addr} {zz : Option Nat} {bb : Array Bool} {pp : Nat} {fr : Bool} {fuel : Nat}
theorem TLP_conv_bs {l : List UInt8} (E : Env P) (hx : ev st X = some (.slice A m c) := by exact rfl) (h1 : E.und t = some (.slice e) := by exact rfl) (h2 : E.und t2 = some .string := by exact rfl) (h3 : E.und e = some (.int .u8) := by exact rfl) (hd : Nat.blt d n = true := by exact rfl) (hr : Rd w0 A m 1 (bv l) := by focus ((repeat (first | assumption | (apply Own.rd; assumption) | (apply Rd.blk; assumption; exact rfl) | (apply Blk.be; assumption) | (apply Rd.be; assumption) | (apply Own.be; assumption) | (apply Blk.bm; assumption; focus (first | assumption | (simp only [List.mem_cons, List.not_mem_nil, or_false]; omega))) | (apply Rd.bm; assumption; focus assumption) | (apply Own.bm; assumption; focus assumption))); done)) (hD : Off A D := by first | assumption | exact Off.nil _)
    (hk : TL (.pick w0 D zz bb pp fr fuel) P fn R M n ((d, .string (ofL l)) :: st) ops rest k w) : TL (.pick w0 D zz bb pp fr fuel) P fn R M n st ops (⟨some d, .convert t t2 X, ty, ps, af, none⟩ :: rest) k w :=
  TL_val hd (fun w' hw ρ h => by
    have hr' := hr.mod hw hD
    have hl : l.length = m := by have := hr.1; simpa using this
    cases A with
    | none =>
      have hm : m = 0 := by
        rcases Nat.eq_zero_or_pos m with h0 | h0
        · exact h0
        · obtain ⟨b, off, hc, _⟩ := hr.2 h0; cases hc
      subst hm
      have : l = [] := List.eq_nil_of_length_eq_zero hl
      subst this
      simp [execOp, h _ _ hx, convert, run_underlying (E.und_ok _ _ h1), run_underlying (E.und_ok _ _ h2), run_underlying (E.und_ok _ _ h3), Conv.bytesToString, ofL]
      rfl
    | some a0 =>
      have hcells : (loadCells a0 m).run P w' = .ok (bv l).toArray w' := by
        have := loadCellsFrom_eq (P := P) (w := w') (a := a0) (bv l) 0 #[] (fun j u hu => by
          have h9 := hr'.cell hu
          have hlt : j < (bv l).length := by
            rcases Nat.lt_or_ge j (bv l).length with hl | hl
            · exact hl
            · rw [List.getElem?_eq_none hl] at hu; cases hu
          obtain ⟨b, off, hab, _, _⟩ := hr'.2 (by simp at hlt; omega)
          cases hab
          rw [← h9]
          congr 1
          unfold Addr.add adr
          split <;> simp_all)
        simp only [bv_length, hl] at this
        simpa [loadCells] using this
      have hf := bytes_fold (P := P) (w := w') l ByteArray.empty
      simp only [execOp, h _ _ hx, convert, Sem.run_bind, run_underlying (E.und_ok _ _ h1), run_underlying (E.und_ok _ _ h2), run_underlying (E.und_ok _ _ h3), Result.andThen_ok, Conv.bytesToString, hcells]
      rw [List.forIn_toArray]
      erw [hf]
      simp [ofL]) hk
end
end Go.Proofs.Eng

namespace Go.Proofs.Ytfplmpfdhiagaaa
open Go.RowKit Go.Proofs.Eng Go.Proofs.Foot Go.Proofs.Codec
set_option linter.unusedSimpArgs false
set_option linter.unusedVariables false set_option maxRecDepth 10000
attribute [local irreducible] T TL LV TH TA
theorem bv_take (l : List UInt8) (n : Nat) : bv (l.take n) = (bv l).take n := by simp [bv, List.map_take]
theorem bodyB_len' (m : TM) : ∀ l : List Tx, (∀ t ∈ l, t.length ≤ 32) → (bodyB m l).length ≤ 43 * l.length
  | [], _ => by simp [bodyB]
  | t :: l, h => by
    have h1 := entryB_len m t (h t (by simp))
    have h2 := bodyB_len' m l (fun x hx => h x (by simp [hx]))
    unfold bodyB at h2 ⊢
    simp only [List.map_cons, List.flatten_cons, List.length_append, List.length_cons]
    omega
theorem putB_len {r k : List Tx} (h : isNorm r k = true) : (putB (ofM r k)).length ≤ 4000 := by
  have h1 := (norm_short h).2
  rw [of_len3] at h1
  have h2 := bodyB_len' (ofM r k) _ (keys3_short h)
  have h3 := encU_len64 (n := (keysM (ofM r k) 3).length) (by omega)
  unfold putB
  rw [List.length_append]
  omega
theorem FootBack_c (v : Value) (B : Option Addr) (m d : Nat) (l2 : List UInt8) (w : World) {base : Nat} (hv : ReadsS Try.prog w base 28 v) (hB : Rd w B m 1 (bv l2)) (hmd : m ≤ d) (hdm : d ≤ 140737488351232) :
    Ret Try.prog 5 [v, .slice B m d] w (fun v w' => v = .bool true ∧ Ext w w') := by
  obtain ⟨X, nx, cx, Y, ny, cy, r, k, rfl, hX, hY, hnx, hny, sr, sk⟩ := foot_in hv
  have hll2 : l2.length = m := by simpa using hB.1
  refine ret_T (n := 105) Try.func5 rfl rfl ?_
  repeat (first | refine T_seq ?_ | refine T_region ?_)
  refine TL_box (hk := ?_); intro b1 w1 e1 h1 h1' k1
  have z1 := e1.size
  repeat (first | refine T_seq ?_ | refine T_region ?_ | refine TL_nil ?_ | refine TL_assign (hk := ?_))
  refine TL_loadb TE (cs := [.slice X nx cx, .slice Y ny cy]) (o := 0) rfl rfl k1 rfl rfl (Nat.succ_pos _) (hk := ?_)
  refine TL_call TE (hc := long_c3 X Y nx cx ny cy _ (by omega) (by omega) (by omega)) (hk := ?_)
  rintro _ w2 ⟨rfl, e2⟩
  have z2 := e2.size
  have e02 := e1.ext e2
  have k12 := k1.be e2
  clear k1
  by_cases hbig : 300 < nx + ny
  · rw [decide_eq_true hbig]
    repeat (first | refine T_seq ?_ | refine T_region ?_ | refine T_cond_true rfl ?_ | refine TL_nil ?_ | refine TL_move (hk := ?_) | refine TL_no (hk := ?_) | refine TL_pick_t (hk := ?_))
    refine TL_call TE (hc := live_c3 _) (hk := ?_)
    rintro _ w3 ⟨rfl, e3⟩
    repeat (first | refine TL_nil ?_ | refine TL_assign (hk := ?_))
    exact T_ret1 rfl rfl ⟨rfl, e02.ext e3⟩
  rw [decide_eq_false hbig]
  by_cases hbig1 : 100000 < m
  · repeat (first | refine T_seq ?_ | refine T_region ?_ | refine T_cond_true rfl ?_ | refine TL_gt_t (hk := ?_) | refine TL_nil ?_ | refine TL_move (hk := ?_) | refine TL_len TE (hk := ?_) | refine TL_yes (hk := ?_) | refine TL_pick_f (hk := ?_))
    refine TL_call TE (hc := live_c3 _) (hk := ?_)
    rintro _ w3 ⟨rfl, e3⟩
    repeat (first | refine TL_nil ?_ | refine TL_assign (hk := ?_))
    exact T_ret1 rfl rfl ⟨rfl, e02.ext e3⟩
  have hX2 := hX.be e02
  have hY2 := hY.be e02
  have hB2 := hB.be e02
  clear hB hX hY
  repeat (first | refine T_seq ?_ | refine T_region ?_ | refine T_cond_false rfl ?_ | refine T_skip ?_ | refine TL_gt_f (hk := ?_) | refine TL_nil ?_ | refine TL_move (hk := ?_) | refine TL_len TE (hk := ?_) | refine TL_yes (hk := ?_) | refine TL_pick_f (hk := ?_))
  refine TL_loadb TE (cs := [.slice X nx cx, .slice Y ny cy]) (o := 0) rfl rfl k12 rfl rfl (Nat.succ_pos _) (hk := ?_)
  refine TL_call TE (hc := Norm_c X Y nx cx ny cy r k _ hX2 hY2 (by omega) (by omega) sr sk) (hk := ?_)
  rintro _ w3 ⟨_, rfl, e3, XA, xn, xc, XB, xm, xd, rfl, oXA, oXB, offX⟩
  have z3 := e3.size
  repeat (first | refine TL_move (hk := ?_) | refine TL_extract (hk := ?_))
  refine TL_alloc TE (hk := ?_); intro b3 w4 e4 h3 h3' k3
  --
  refine TL_storea TE (hk := ?_); intro w5 m5 z5 k35
  have z4 := e4.size
  have e35 : Ext w3 w5 := Mod.step e4 m5 (by simp; omega)
  have e25 := e3.ext e35
  have e05 := e02.ext e25
  have hB5 := hB2.be e25
  obtain ⟨⟨⟨ra, ka⟩, en⟩, hN⟩ : ∃ x, normF r k = x := ⟨_, rfl⟩
  have hnl := normF_len r k
  rw [hN] at oXA oXB hnl ⊢
  simp only at oXA oXB hnl ⊢
  clear k12 hX2 hY2 hB2 k3
  repeat (first | refine T_seq ?_ | refine T_region ?_ | refine TL_nil ?_ | refine TL_move (hk := ?_) | refine TL_assign (hk := ?_))
  refine TL_call TE (hc := num_c3 en _) (hk := ?_)
  rintro _ w5 ⟨rfl, rfl⟩
  by_cases he : en = 0
  case neg =>
    repeat (first | refine T_seq ?_ | refine T_region ?_ | refine T_cond_true rfl ?_ | refine TL_ne_t (hk := ?_) | refine TL_nil ?_)
    refine TL_call TE (hc := live_c3 _) (hk := ?_)
    rintro _ w6 ⟨rfl, e6⟩
    repeat (first | refine TL_nil ?_ | refine TL_assign (hk := ?_))
    exact T_ret1 rfl rfl ⟨rfl, e05.ext e6⟩
  subst he
  have hI := is_of_norm (norm_again hN)
  obtain ⟨q1, q2, q3, q4, q5⟩ := norm_ok (norm_again hN)
  have oXA5 := oXA.be e35
  have oXB5 := oXB.be e35
  have lXA := oXA5.len
  have lXB := oXB5.len
  rw [sv_length] at lXA lXB
  have hpl := putB_len hI
  clear oXA oXB
  repeat (first | refine T_seq ?_ | refine T_region ?_ | refine T_cond_false rfl ?_ | refine T_skip ?_ | refine TL_ne_f (hk := ?_) | refine TL_nil ?_)
  refine TL_loadb TE (cs := [.slice XA xn xc, .slice XB xm xd]) (o := 0) rfl rfl k35 rfl rfl (Nat.succ_pos _) (hk := ?_)
  --
  refine TL_call TE (hc := Put_c none XA XB 0 0 xn xc xm xd [] ra ka _ (Own.nil _ 0 5 1).rd oXA5.rd oXB5.rd (by omega) (by omega) (by omega) (short_valid q1) (short_valid q2)) (hk := ?_)
  rintro _ w6 ⟨P, np, cp, rfl, e6, oP⟩
  rw [if_pos hI, List.nil_append] at oP
  rw [if_pos hI]
  have lP := oP.len
  rw [bv_length, Nat.mul_one] at lP
  have z6 := e6.size
  have hB6 := hB5.be e6
  have k36 := k35.be e6
  repeat (first | refine T_seq ?_ | refine T_region ?_ | refine TL_nil ?_ | refine TL_move (hk := ?_) | refine TL_assign (hk := ?_) | refine TL_extract (hk := ?_))
  refine TL_buildSlice TE (hk := ?_); intro b7 w7 e7 h7 h7' k7
  have o7 : Own w7 w6.heap.size 5 1 (some ⟨b7, 0, none⟩) 0 0 [] := Own.of_blk k7 h7 rfl (by decide)
  have rP7 := oP.rd.be e7
  have z7 := e7.size
  repeat (refine TL_move (hk := ?_))
  refine TL_append TE (hk := ?_); intro F1 c1 w8 o8 m8 n8
  have e68 : Ext w6 w8 := e7.own m8 o7.hi
  rw [List.nil_append] at o8
  have hB8 := hB6.be e68
  have z68 := e68.size
  clear o7 rP7 k7
  repeat (refine TL_move (hk := ?_))
  refine TL_append TE (hk := ?_); intro F cf w9 o9 m9 n9
  have e69 : Ext w6 w9 := e68.own m9 o8.hi
  rw [← bv_append] at o9
  have z69 := e69.size
  rw [show 0 + np = np by omega] at o9
  rw [show 0 + np = np by omega]
  clear o8 hB8
  --
  refine TL_call TE (hc := Get_c F (np + m) cf (putB (ofM ra ka) ++ l2) _ o9.rd (by omega)) (hk := ?_)
  rw [get_put l2 hI]
  rintro _ w10 ⟨_, rfl, e10, YA, yn, yc, YB, ym, yd, rfl, oYA, oYB, offY⟩
  rw [show ((((ra, ka), (putB (ofM ra ka)).length), (0 : Int)).1.2 : Nat) = np from lP, show (((((ra, ka), (putB (ofM ra ka)).length), (0 : Int)).2 : Int)) = 0 from rfl]
  have z10 := e10.size
  repeat (first | refine TL_move (hk := ?_) | refine TL_extract (hk := ?_))
  refine TL_alloc TE (hk := ?_); intro b11 w11 e11 h11 h11' k11
  --
  refine TL_storea TE (hk := ?_); intro w12 m12 z12 ky
  have z11 := e11.size
  have e1012 : Ext w10 w12 := Mod.step e11 m12 (by simp; omega)
  have e612 := (e69.ext e10).ext e1012
  have e512 := e6.ext e612
  have oYA12 := oYA.be e1012
  have oYB12 := oYB.be e1012
  have lYA := oYA.len
  have lYB := oYB.len
  rw [sv_length] at lYA lYB
  have k312 := k36.be e612
  have oXA12 := oXA5.be e512
  have oXB12 := oXB5.be e512
  have hB12 := hB6.be e612
  simp only at lYA lYB
  clear k11 oYA oYB oXA5 oXB5 hB6 k36 o9
  repeat (first | refine T_seq ?_ | refine T_region ?_ | refine TL_nil ?_ | refine TL_move (hk := ?_) | refine TL_assign (hk := ?_))
  refine TL_call TE (hc := num_c3 0 _) (hk := ?_)
  rintro _ w12 ⟨rfl, rfl⟩
  repeat (first | refine TL_ne_f (hk := ?_) | refine TL_move (hk := ?_) | refine TL_yes (hk := ?_))
  refine TL_call TE (hc := num_c3 0 _) (hk := ?_)
  rintro _ w12 ⟨rfl, rfl⟩
  repeat (first | refine TL_ne_f (hk := ?_) | refine TL_move (hk := ?_) | refine TL_len TE (hk := ?_) | refine TL_yes (hk := ?_) | refine TL_pick_f (hk := ?_))
  refine TL_loadb TE (cs := [.slice YA yn yc, .slice YB ym yd]) (o := 0) rfl rfl ky rfl rfl (Nat.succ_pos _) (hk := ?_)
  repeat (refine TL_yes (hk := ?_))
  refine TL_loadb TE (cs := [.slice XA xn xc, .slice XB xm xd]) (o := 0) rfl rfl k312 rfl rfl (Nat.succ_pos _) (hk := ?_)
  repeat (refine TL_yes (hk := ?_))
  refine TL_call TE (hc := Same_c YA YB XA XB yn ym xn xm yc yd xc xd _ _ _ _ _ oYA12.rd oYB12.rd oXA12.rd oXB12.rd (by omega) (by omega) (by omega) (by omega)) (hk := ?_)
  rintro _ w13 ⟨rfl, e13⟩
  rw [show decide (ra = ra ∧ ka = ka) = true by simp]
  have hB13 := hB12.be e13
  have e013 := (e05.ext e512).ext e13
  have z13 := e13.size
  clear ky k312 oXA12 oXB12 oYA12 oYB12 hB12
  repeat (first | refine T_seq ?_ | refine T_region ?_ | refine T_cond_false rfl ?_ | refine T_skip ?_ | refine TL_nil ?_ | refine TL_move (hk := ?_) | refine TL_yes (hk := ?_) | refine TL_pick_f (hk := ?_) | refine TL_not (hk := ?_))
  refine TL_call TE (hc := Get_c B m d l2 _ hB13 (by omega)) (hk := ?_)
  rintro _ w14 ⟨_, rfl, e14, ZA, zn, zc, ZB, zm, zd, rfl, oZA, oZB, offZ⟩
  have z14 := e14.size
  repeat (first | refine TL_move (hk := ?_) | refine TL_extract (hk := ?_))
  refine TL_alloc TE (hk := ?_); intro b15 w15 e15 h15 h15' k15
  --
  refine TL_storea TE (hk := ?_); intro w16 m16 z16 kz
  have z15 := e15.size
  have e1416 : Ext w14 w16 := Mod.step e15 m16 (by simp; omega)
  have e1316 := e14.ext e1416
  have oZA16 := oZA.be e1416
  have oZB16 := oZB.be e1416
  have lZA := oZA.len
  have lZB := oZB.len
  rw [sv_length] at lZA lZB
  have hB16 := hB13.be e1316
  have hgl := getF_len l2
  have hpg := fun h => put_get (b := l2) h
  obtain ⟨⟨⟨⟨rz, kz'⟩, nz⟩, ez⟩, hG⟩ : ∃ x, getF l2 = x := ⟨_, rfl⟩
  rw [hG] at oZA16 oZB16 lZA lZB hgl hpg ⊢
  simp only at oZA16 oZB16 lZA lZB hgl hpg ⊢
  clear k15 oZA oZB hB13
  repeat (first | refine T_seq ?_ | refine T_region ?_ | refine TL_nil ?_ | refine TL_move (hk := ?_) | refine TL_assign (hk := ?_))
  refine TL_call TE (hc := num_c3 ez _) (hk := ?_)
  rintro _ w16 ⟨rfl, rfl⟩
  by_cases he : ez = 0
  case neg =>
    repeat (first | refine T_seq ?_ | refine T_region ?_ | refine T_cond_true rfl ?_ | refine TL_ne_t (hk := ?_) | refine TL_nil ?_)
    refine TL_call TE (hc := live_c3 _) (hk := ?_)
    rintro _ w17 ⟨rfl, e17⟩
    repeat (first | refine TL_nil ?_ | refine TL_assign (hk := ?_))
    exact T_ret1 rfl rfl ⟨rfl, (e013.ext e1316).ext e17⟩
  subst he
  obtain ⟨hI2, hnz, hpb⟩ := hpg rfl
  obtain ⟨q6, q7, q8, q9, q10⟩ := norm_ok (norm_of_is hI2)
  repeat (first | refine T_seq ?_ | refine T_region ?_ | refine T_cond_false rfl ?_ | refine T_skip ?_ | refine TL_ne_f (hk := ?_) | refine TL_nil ?_)
  refine TL_loadb TE (cs := [.slice ZA zn zc, .slice ZB zm zd]) (o := 0) rfl rfl kz rfl rfl (Nat.succ_pos _) (hk := ?_)
  --
  refine TL_call TE (hc := Put_c none ZA ZB 0 0 zn zc zm zd [] rz kz' _ (Own.nil _ 0 5 1).rd oZA16.rd oZB16.rd (by omega) (by omega) (by omega) (short_valid q6) (short_valid q7)) (hk := ?_)
  rintro _ w17 ⟨Q, nq, cq, rfl, e17, oQ⟩
  rw [if_pos hI2, List.nil_append, hpb] at oQ
  rw [if_pos hI2]
  have hB17 := hB16.be e17
  have hT17 : Rd w17 B nz 1 (bv (l2.take nz)) := by
    have := hB17.take (h := nz) (by omega)
    rw [Nat.mul_one] at this
    rw [bv_take]
    exact this
  have rQ := oQ.rd
  repeat (first | refine T_seq ?_ | refine TL_nil ?_ | refine TL_move (hk := ?_) | refine TL_assign (hk := ?_) | refine TL_extract (hk := ?_))
  refine T_region_any TE.mixed [] ?_; intro w18 e18 z18
  have rQ18 := rQ.be e18
  have hT18 := hT17.be e18
  have hn18 : nz ≤ m := by omega
  (refine TA_take 0 rfl (by kernel_rfl) (by kernel_rfl) (by kernel_rfl) ?_; (repeat (refine TL_move (hk := ?_))); refine TL_nil_p ?_)
  refine TA_one 1 rfl (by kernel_rfl) (by kernel_rfl) ?_; (try refine TL_yes (hk := ?_)); refine TL_call TE (hc := num_c3 _ _) (hq := fun v w' h => h.2 ▸ Mod.refl _ _) (hk := ?_)
  rintro _ w18 ⟨rfl, rfl⟩
  refine TL_nil_p ?_
  (refine TA_take 2 rfl (by kernel_rfl) (by kernel_rfl) (by kernel_rfl) ?_; (repeat (first | refine TL_le_t (hk := ?_) | refine TL_eq_t (hk := ?_) | refine TL_seq_t (hk := ?_) | refine TL_move (hk := ?_) | refine TL_len TE (hk := ?_) | refine TL_yes (hk := ?_) | refine TL_pick_t (hk := ?_) | refine TL_slice_hi TE (hk := ?_) | refine TLP_conv_bs TE (hk := ?_))); refine TL_nil_p ?_); (refine TA_take 3 rfl (by kernel_rfl) (by kernel_rfl) (by kernel_rfl) ?_; (repeat (first | refine TL_le_t (hk := ?_) | refine TL_eq_t (hk := ?_) | refine TL_seq_t (hk := ?_) | refine TL_move (hk := ?_) | refine TL_len TE (hk := ?_) | refine TL_yes (hk := ?_) | refine TL_pick_t (hk := ?_) | refine TL_slice_hi TE (hk := ?_) | refine TLP_conv_bs TE (hk := ?_))); refine TL_nil_p ?_); (refine TA_take 4 rfl (by kernel_rfl) (by kernel_rfl) (by kernel_rfl) ?_; (repeat (first | refine TL_le_t (hk := ?_) | refine TL_eq_t (hk := ?_) | refine TL_seq_t (hk := ?_) | refine TL_move (hk := ?_) | refine TL_len TE (hk := ?_) | refine TL_yes (hk := ?_) | refine TL_pick_t (hk := ?_) | refine TL_slice_hi TE (hk := ?_) | refine TLP_conv_bs TE (hk := ?_))); refine TL_nil_p ?_); (refine TA_take 5 rfl (by kernel_rfl) (by kernel_rfl) (by kernel_rfl) ?_; (repeat (first | refine TL_le_t (hk := ?_) | refine TL_eq_t (hk := ?_) | refine TL_seq_t (hk := ?_) | refine TL_move (hk := ?_) | refine TL_len TE (hk := ?_) | refine TL_yes (hk := ?_) | refine TL_pick_t (hk := ?_) | refine TL_slice_hi TE (hk := ?_) | refine TLP_conv_bs TE (hk := ?_))); refine TL_nil_p ?_); (refine TA_take 6 rfl (by kernel_rfl) (by kernel_rfl) (by kernel_rfl) ?_; (repeat (first | refine TL_le_t (hk := ?_) | refine TL_eq_t (hk := ?_) | refine TL_seq_t (hk := ?_) | refine TL_move (hk := ?_) | refine TL_len TE (hk := ?_) | refine TL_yes (hk := ?_) | refine TL_pick_t (hk := ?_) | refine TL_slice_hi TE (hk := ?_) | refine TLP_conv_bs TE (hk := ?_))); refine TL_nil_p ?_); (refine TA_take 7 rfl (by kernel_rfl) (by kernel_rfl) (by kernel_rfl) ?_; (repeat (first | refine TL_le_t (hk := ?_) | refine TL_eq_t (hk := ?_) | refine TL_seq_t (hk := ?_) | refine TL_move (hk := ?_) | refine TL_len TE (hk := ?_) | refine TL_yes (hk := ?_) | refine TL_pick_t (hk := ?_) | refine TL_slice_hi TE (hk := ?_) | refine TLP_conv_bs TE (hk := ?_))); refine TL_nil_p ?_); (refine TA_take 8 rfl (by kernel_rfl) (by kernel_rfl) (by kernel_rfl) ?_; (repeat (first | refine TL_le_t (hk := ?_) | refine TL_eq_t (hk := ?_) | refine TL_seq_t (hk := ?_) | refine TL_move (hk := ?_) | refine TL_len TE (hk := ?_) | refine TL_yes (hk := ?_) | refine TL_pick_t (hk := ?_) | refine TL_slice_hi TE (hk := ?_) | refine TLP_conv_bs TE (hk := ?_))); refine TL_nil_p ?_); (refine TA_take 9 rfl (by kernel_rfl) (by kernel_rfl) (by kernel_rfl) ?_; (repeat (first | refine TL_le_t (hk := ?_) | refine TL_eq_t (hk := ?_) | refine TL_seq_t (hk := ?_) | refine TL_move (hk := ?_) | refine TL_len TE (hk := ?_) | refine TL_yes (hk := ?_) | refine TL_pick_t (hk := ?_) | refine TL_slice_hi TE (hk := ?_) | refine TLP_conv_bs TE (hk := ?_))); refine TL_nil_p ?_); (refine TA_take 10 rfl (by kernel_rfl) (by kernel_rfl) (by kernel_rfl) ?_; (repeat (first | refine TL_le_t (hk := ?_) | refine TL_eq_t (hk := ?_) | refine TL_seq_t (hk := ?_) | refine TL_move (hk := ?_) | refine TL_len TE (hk := ?_) | refine TL_yes (hk := ?_) | refine TL_pick_t (hk := ?_) | refine TL_slice_hi TE (hk := ?_) | refine TLP_conv_bs TE (hk := ?_))); refine TL_nil_p ?_); (refine TA_take 11 rfl (by kernel_rfl) (by kernel_rfl) (by kernel_rfl) ?_; (repeat (first | refine TL_le_t (hk := ?_) | refine TL_eq_t (hk := ?_) | refine TL_seq_t (hk := ?_) | refine TL_move (hk := ?_) | refine TL_len TE (hk := ?_) | refine TL_yes (hk := ?_) | refine TL_pick_t (hk := ?_) | refine TL_slice_hi TE (hk := ?_) | refine TLP_conv_bs TE (hk := ?_))); refine TL_nil_p ?_); (refine TA_take 12 rfl (by kernel_rfl) (by kernel_rfl) (by kernel_rfl) ?_; (repeat (first | refine TL_le_t (hk := ?_) | refine TL_eq_t (hk := ?_) | refine TL_seq_t (hk := ?_) | refine TL_move (hk := ?_) | refine TL_len TE (hk := ?_) | refine TL_yes (hk := ?_) | refine TL_pick_t (hk := ?_) | refine TL_slice_hi TE (hk := ?_) | refine TLP_conv_bs TE (hk := ?_))); refine TL_nil_p ?_); (refine TA_take 13 rfl (by kernel_rfl) (by kernel_rfl) (by kernel_rfl) ?_; (repeat (first | refine TL_le_t (hk := ?_) | refine TL_eq_t (hk := ?_) | refine TL_seq_t (hk := ?_) | refine TL_move (hk := ?_) | refine TL_len TE (hk := ?_) | refine TL_yes (hk := ?_) | refine TL_pick_t (hk := ?_) | refine TL_slice_hi TE (hk := ?_) | refine TLP_conv_bs TE (hk := ?_))); refine TL_nil_p ?_); (refine TA_take 14 rfl (by kernel_rfl) (by kernel_rfl) (by kernel_rfl) ?_; (repeat (first | refine TL_le_t (hk := ?_) | refine TL_eq_t (hk := ?_) | refine TL_seq_t (hk := ?_) | refine TL_move (hk := ?_) | refine TL_len TE (hk := ?_) | refine TL_yes (hk := ?_) | refine TL_pick_t (hk := ?_) | refine TL_slice_hi TE (hk := ?_) | refine TLP_conv_bs TE (hk := ?_))); refine TL_nil_p ?_); (refine TA_take 15 rfl (by kernel_rfl) (by kernel_rfl) (by kernel_rfl) ?_; (repeat (first | refine TL_le_t (hk := ?_) | refine TL_eq_t (hk := ?_) | refine TL_seq_t (hk := ?_) | refine TL_move (hk := ?_) | refine TL_len TE (hk := ?_) | refine TL_yes (hk := ?_) | refine TL_pick_t (hk := ?_) | refine TL_slice_hi TE (hk := ?_) | refine TLP_conv_bs TE (hk := ?_))); refine TL_nil_p ?_); (refine TA_take 16 rfl (by kernel_rfl) (by kernel_rfl) (by kernel_rfl) ?_; (repeat (first | refine TL_le_t (hk := ?_) | refine TL_eq_t (hk := ?_) | refine TL_seq_t (hk := ?_) | refine TL_move (hk := ?_) | refine TL_len TE (hk := ?_) | refine TL_yes (hk := ?_) | refine TL_pick_t (hk := ?_) | refine TL_slice_hi TE (hk := ?_) | refine TLP_conv_bs TE (hk := ?_))); refine TL_nil_p ?_); (refine TA_take 17 rfl (by kernel_rfl) (by kernel_rfl) (by kernel_rfl) ?_; (repeat (first | refine TL_le_t (hk := ?_) | refine TL_eq_t (hk := ?_) | refine TL_seq_t (hk := ?_) | refine TL_move (hk := ?_) | refine TL_len TE (hk := ?_) | refine TL_yes (hk := ?_) | refine TL_pick_t (hk := ?_) | refine TL_slice_hi TE (hk := ?_) | refine TLP_conv_bs TE (hk := ?_))); refine TL_nil_p ?_); (refine TA_take 18 rfl (by kernel_rfl) (by kernel_rfl) (by kernel_rfl) ?_; (repeat (first | refine TL_le_t (hk := ?_) | refine TL_eq_t (hk := ?_) | refine TL_seq_t (hk := ?_) | refine TL_move (hk := ?_) | refine TL_len TE (hk := ?_) | refine TL_yes (hk := ?_) | refine TL_pick_t (hk := ?_) | refine TL_slice_hi TE (hk := ?_) | refine TLP_conv_bs TE (hk := ?_))); refine TL_nil_p ?_)
  refine TA_one 19 rfl (by kernel_rfl) (by kernel_rfl) ?_; (try refine TL_yes (hk := ?_)); refine TL_call TE (hc := live_c3 _) (hq := fun v w' h => h.2) (hk := ?_)
  rintro _ w19 ⟨rfl, e19⟩
  refine TL_nil_p ?_
  (refine TA_take 20 rfl (by kernel_rfl) (by kernel_rfl) (by kernel_rfl) ?_; (repeat (first | refine TL_assign (hk := ?_) | refine TL_pick_t (hk := ?_))); refine TL_nil_p ?_); (refine TA_take 21 rfl (by kernel_rfl) (by kernel_rfl) (by kernel_rfl) ?_; (repeat (first | refine TL_assign (hk := ?_) | refine TL_pick_t (hk := ?_))); refine TL_nil_p ?_)
  refine TA_done (by kernel_rfl) ?_
  --
  exact T_ret1 rfl rfl ⟨rfl, (((e013.ext e1316).ext e17).ext e18).ext e19⟩
end Go.Proofs.Ytfplmpfdhiagaaa
