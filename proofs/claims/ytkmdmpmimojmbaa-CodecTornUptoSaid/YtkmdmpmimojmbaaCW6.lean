import Derived.Test.YtkmdmpmimojmbaaCW1
import Derived.Test.YtkmdmpmimojmbaaEng5
import Derived.Test.YtkmdmpmimojmbaaCRead
namespace Go.Proofs.Ytkmdmpmimojmbaa
open Go.RowKit Go.Proofs.Eng Go.Proofs.Codec
set_option linter.unusedSimpArgs false
set_option linter.unusedVariables false
attribute [local irreducible] T TL LV TH
set_option maxHeartbeats 1000000

/-- A Reader (of either package: t is its type's number). -/
structure Rdr (w : World) (t : TypeId) (b : Nat) (s : RS) (A : Option Addr) (n c : Nat) : Prop where
  blk : Blk w b t [.slice A n c, .int .i64 (s.pos : Int), .int .i64 (s.last : Int), .int .i64 s.err, .int .i64 (s.spot : Int)]
  rd : Rd w A n 1 (bv s.b)
  off : Off A [b]
  len : s.b.length = n
  pos : s.pos ≤ n
  last : s.last ≤ n
  big : n ≤ 7036874417
  cap : n ≤ c
theorem Rdr.mod {w w' : World} {t : TypeId} {b : Nat} {s : RS} {A : Option Addr} {n c : Nat} {S : List Nat} (h : Rdr w t b s A n c) (hm : Mod S w w') (hb : b ∉ S) (hA : Off A S) : Rdr w' t b s A n c :=
  ⟨h.blk.mod hm hb, h.rd.mod hm hA, h.off, h.len, h.pos, h.last, h.big, h.cap⟩
theorem Rdr.ext {w w' : World} {t : TypeId} {b : Nat} {s : RS} {A : Option Addr} {n c : Nat} (h : Rdr w t b s A n c) (hm : Ext w w') : Rdr w' t b s A n c := h.mod hm (by simp) (.nil A)
def gave (e : Int) : List PanicEntry := [{ v := .iface 82 (.agg #[.int .i64 e]), recovered := false }]
abbrev ptr (b : Nat) : Value := .pointer (some ⟨b, 0, none⟩)
/-- What an inner reading does: it answers v and moves the place on; or it gives up. -/
def Took (w : World) (b : Nat) (s : RS) (A : Option Addr) (n c : Nat) {α : Type} (V : α → Value) (r : Except Int (α × Nat)) : Ending → World → Prop
  | .returned v, w' => ∃ x k, r = .ok (x, k) ∧ v = V x ∧ Mod [b] w w' ∧ Rdr w' 76 b { s with pos := s.pos + k } A n c
  | .panicked ch, w' => ∃ e p, r = .error e ∧ ch = gave e ∧ Mod [b] w w' ∧ Rdr w' 76 b { s with pos := p } A n c
  | .outgrown, _ => False

theorem gb_get (l : List UInt8) (i : Nat) (h : i < l.length) : gb l i = (l[i]).toNat := by simp [gb, h]
theorem Took.ok {w w' : World} {b : Nat} {s : RS} {A : Option Addr} {n c : Nat} {α : Type} {V : α → Value} {r : Except Int (α × Nat)} {v : Value} (x : α) (k : Nat) (hr : r = .ok (x, k)) (hv : v = V x) (hm : Mod [b] w w')
    (h : Rdr w' 76 b { s with pos := s.pos + k } A n c) : Took w b s A n c V r (.returned v) w' := ⟨x, k, hr, hv, hm, h⟩
theorem Took.no {w w' : World} {b : Nat} {s : RS} {A : Option Addr} {n c : Nat} {α : Type} {V : α → Value} {r : Except Int (α × Nat)} (e : Int) (p : Nat) (hr : r = .error e) (hm : Mod [b] w w')
    (h : Rdr w' 76 b { s with pos := p } A n c) : Took w b s A n c V r (.panicked (gave e)) w' := ⟨e, p, hr, rfl, hm, h⟩

theorem byte_c (b : Nat) (s : RS) (A : Option Addr) (n c : Nat) (w : World) (h : Rdr w 76 b s A n c) :
    Calls Try.prog 63 #[ptr b] w (Took w b s A n c (fun x : Nat => .int .u8 (x : Int)) (tByte (s.b.drop s.pos))) := by
  have h0 := h
  obtain ⟨hb, hr, ho, hl, hp, hla, hbig, hcap⟩ := h
  refine calls_T (n := 33) (args := [ptr b]) Try.func63 rfl rfl ?_
  by_cases g : s.pos < n
  · repeat (first | refine T_seq ?_ | refine T_region ?_ | refine T_region_q TE.mixed (by kernel_rfl) ?_ | refine TL_ge_f (hk := ?_) | refine TL_nil ?_ | refine TL_move (hk := ?_) | refine TL_assign (hk := ?_) | refine TL_load TE (hk := ?_) | refine TL_fieldAddr TE (hk := ?_) | refine TL_len TE (hk := ?_) | refine TL_nilCheck (hk := ?_))
    refine TL_nil_q ?_; intro w1 e1
    repeat (first | refine T_seq ?_ | refine T_region ?_ | refine T_cond_false rfl ?_ | refine T_skip ?_ | refine TL_add (hk := ?_) | refine TL_move (hk := ?_) | refine TL_load TE (hk := ?_) | refine TL_fieldAddr TE (hk := ?_) | refine TL_nilCheck (hk := ?_))
    refine TL_store TE (hk := ?_); intro w2 m2 s2 k2
    repeat (first | refine T_seq ?_ | refine T_region_q TE.mixed (by kernel_rfl) ?_ | refine TL_sub (hk := ?_) | refine TL_nil ?_ | refine TL_move (hk := ?_) | refine TL_assign (hk := ?_) | refine TL_load TE (hk := ?_) | (refine TL_load_b TE (hk := ?_); intro _) | refine TL_fieldAddr TE (hk := ?_) | refine TL_indexAddr1 TE (hk := ?_) | refine TL_nilCheck (hk := ?_))
    refine TL_nil_q ?_; intro w3 e3
    refine T_ret1' rfl rfl ?_
    have hd : s.b.drop s.pos = s.b[s.pos] :: s.b.drop (s.pos + 1) := List.drop_eq_getElem_cons _
    have hm : Mod [b] w w3 := (e1.mod.trans m2).ext e3
    refine Took.ok (s.b[s.pos]).toNat 1 (by rw [hd]; rfl) ?_ hm ?_
    · show Value.int .u8 (gb s.b ((s.pos : Int) + 1 - 1).toNat : Nat) = _
      rw [show ((s.pos : Int) + 1 - 1).toNat = s.pos by omega, gb_get _ _ (by omega)]
    · exact ⟨k2.be e3, hr.mod hm (by focus ((repeat (first | assumption | (apply Own.rd; assumption) | (apply Rd.blk; assumption; exact rfl) | (apply Blk.be; assumption) | (apply Rd.be; assumption) | (apply Own.be; assumption) | (apply Blk.bm; assumption; focus (first | assumption | (simp only [List.mem_cons, List.not_mem_nil, or_false]; omega))) | (apply Rd.bm; assumption; focus assumption) | (apply Own.bm; assumption; focus assumption))); done)), ho, hl, g, hla, hbig, hcap⟩
  · repeat (first | refine T_seq ?_ | refine T_region ?_ | refine T_region_q TE.mixed (by kernel_rfl) ?_ | refine TL_ge_t (hk := ?_) | refine TL_nil ?_ | refine TL_move (hk := ?_) | refine TL_assign (hk := ?_) | refine TL_load TE (hk := ?_) | refine TL_fieldAddr TE (hk := ?_) | refine TL_len TE (hk := ?_) | refine TL_nilCheck (hk := ?_))
    refine TL_nil_q ?_; intro w1 e1
    repeat (first | refine T_region ?_ | refine T_cond_true rfl ?_ | refine TL_makeIface_s TE (hk := ?_) | refine TL_build TE (hk := ?_))
    refine TL_panic rfl ?_
    refine LV_panic ?_
    exact Took.no 3 s.pos (by rw [List.drop_of_length_le (by omega)]; rfl) e1.mod (h0.ext e1)

theorem lor_add {a b i : Nat} (h : a < 2 ^ i) : a ||| (b * 2 ^ i) = a + b * 2 ^ i := by
  rw [Nat.or_comm, Nat.mul_comm b, ← Nat.two_pow_add_eq_or_of_lt h, Nat.add_comm]
theorem tByte_ok {l : List UInt8} {x k : Nat} (h : tByte l = .ok (x, k)) : ∃ c t, l = c :: t ∧ x = c.toNat ∧ k = 1 := by
  cases l with
  | nil => cases h
  | cons c t => cases h; exact ⟨c, t, rfl, rfl, rfl⟩
theorem tByte_no {l : List UInt8} {e : Int} (h : tByte l = .error e) : l = [] ∧ e = 3 := by
  cases l with
  | nil => cases h; exact ⟨rfl, rfl⟩
  | cons c t => cases h

theorem uint_c (b : Nat) (s : RS) (A : Option Addr) (n c : Nat) (w : World) (h : Rdr w 76 b s A n c) :
    Calls Try.prog 47 #[ptr b] w (Took w b s A n c (fun x : Nat => .int .u64 (x : Int)) (num0 (s.b.drop s.pos))) := by
  refine calls_T (n := 39) (args := [ptr b]) Try.func47 rfl rfl ?_
  repeat (first | refine T_seq ?_ | refine T_region ?_ | refine T_block ?_ | refine TL_nil ?_ | refine TL_move (hk := ?_) | refine TL_assign (hk := ?_))
  refine T_loop (ι := Nat × Nat) (fun i => [(6, .int .i64 (i.1 : Int)), (3, .int .u64 (i.2 : Int)), (0, ptr b)])
    (fun i w' => Rdr w' 76 b { s with pos := s.pos + i.1 } A n c ∧ Mod [b] w w' ∧ i.1 ≤ 9 ∧ i.2 < 2 ^ (7 * i.1) ∧ numF (10 - i.1) i.1 i.2 (s.b.drop (s.pos + i.1)) = num0 (s.b.drop s.pos)) (fun i => 10 - i.1) (0, 0) (.c rfl (.c rfl (.c rfl (.n)))) ⟨h, Mod.refl _ _, by decide, by decide, rfl⟩ ?_
  rintro ⟨i, N⟩ w1 ⟨h1, m1, hi, hN, hF⟩ ih
  simp only at h1 hi hN hF ih ⊢
  obtain ⟨f, hf⟩ : ∃ f, 10 - i = f + 1 := ⟨9 - i, by omega⟩
  have hp9 : 2 ^ (7 * i) ≤ 2 ^ 63 := Nat.pow_le_pow_right (by decide) (by omega)
  rw [hf] at hF
  repeat (first | refine T_seq ?_ | refine T_region ?_ | refine T_cond_true rfl ?_ | refine T_block ?_ | refine T_skip ?_ | refine TL_lt_t (hk := ?_) | refine TL_nil ?_ | refine TL_move (hk := ?_) | refine TL_assign (hk := ?_))
  refine TL_callc TE (fst := []) (cap := []) rfl rfl rfl rfl (byte_c b _ A n c _ h1) ?_ ?_ (fun _ h => h)
  · rintro _ w2 ⟨x, k, hx, rfl, m2, h2⟩
    obtain ⟨ch, t, hl, rfl, rfl⟩ := tByte_ok hx
    simp only at hl h2
    have hl2 : s.b.drop (s.pos + (i + 1)) = t := by
      have := congrArg List.tail hl
      simpa [List.tail_drop, Nat.add_assoc] using this
    have hc := UInt8.toNat_lt ch
    have m3 := m1.trans m2
    rw [hl] at hF
    simp only [numF] at hF
    by_cases h9 : i = 9 ∧ 1 < ch.toNat
    · rw [if_pos h9] at hF
      obtain ⟨rfl, h91⟩ := h9
      repeat (first | refine T_seq ?_ | refine T_region ?_ | refine T_cond_true rfl ?_ | refine TL_gt_t (hk := ?_) | refine TL_eq_t (hk := ?_) | refine TL_nil ?_ | refine TL_move (hk := ?_) | refine TL_assign (hk := ?_) | refine TL_yes (hk := ?_) | refine TL_pick_t (hk := ?_) | refine TL_makeIface_s TE (hk := ?_) | refine TL_build TE (hk := ?_))
      refine TL_panic rfl ?_
      exact LV_panic (Took.no 11 _ hF.symm m3 h2)
    · rw [if_neg h9] at hF
      have hp : 2 ^ (7 * (i + 1)) = 2 ^ (7 * i) * 128 := by rw [show 7 * (i + 1) = 7 * i + 7 from by omega, Nat.pow_add]
      have hm : N + ch.toNat % 128 * 2 ^ (7 * i) < 2 ^ (7 * (i + 1)) := by
        rw [hp]
        have : ch.toNat % 128 * 2 ^ (7 * i) ≤ 127 * 2 ^ (7 * i) := Nat.mul_le_mul_right _ (by omega)
        omega
      have hb : ch.toNat % 128 * 2 ^ (7 * i) < 2 ^ 64 := by
        by_cases h9' : i = 9
        · have : ch.toNat % 128 * 2 ^ (7 * i) ≤ 1 * 2 ^ (7 * i) := Nat.mul_le_mul_right _ (by omega)
          omega
        · have : 2 ^ (7 * (i + 1)) ≤ 2 ^ 63 := Nat.pow_le_pow_right (by decide) (by omega)
          omega
      have hor : N ||| (ch.toNat % 128 * 2 ^ (7 * i) % 2 ^ 64) = N + ch.toNat % 128 * 2 ^ (7 * i) := by rw [Nat.mod_eq_of_lt hb, lor_add hN]
      have hN64 : N < 2 ^ 64 := by omega
      have hpl := h2.pos
      by_cases i9 : i = 9
      · repeat (first | refine T_seq ?_ | refine T_region ?_ | refine T_cond_false rfl ?_ | refine T_skip ?_ | refine TL_mul (hk := ?_) | refine TL_gt_f (hk := ?_) | refine TL_eq_t (hk := ?_) | (refine TL_andNot80 (hk := ?_); intro _) | refine TL_nil ?_ | refine TL_move (hk := ?_) | refine TL_assign (hk := ?_) | refine TL_yes (hk := ?_) | refine TL_pick_t (hk := ?_) | refine TL_conv TE (hk := ?_))
        refine TL_shl rfl rfl (a := ch.toNat % 128) (c := 7 * i) rfl (by omega) rfl (by omega) rfl ?_
        repeat (first | refine T_seq ?_ | refine T_region ?_ | refine T_cond_true rfl ?_ | refine TL_lt_t (hk := ?_) | refine TL_gt_t (hk := ?_) | (refine TL_or (hk := ?_); intro _) | refine TL_nil ?_ | refine TL_move (hk := ?_) | refine TL_assign (hk := ?_) | refine TL_yes (hk := ?_))
        by_cases hlt : ch.toNat < 128
        · rw [if_pos hlt] at hF
          by_cases h0 : 0 < i
          · by_cases hz : ch.toNat = 0
            · rw [if_pos ⟨h0, hz⟩] at hF
              repeat (first | refine T_region ?_ | refine T_cond_true rfl ?_ | refine TL_eq_t (hk := ?_) | refine TL_nil ?_ | refine TL_pick_t (hk := ?_) | refine TL_makeIface_s TE (hk := ?_) | refine TL_build TE (hk := ?_))
              refine TL_panic rfl ?_
              exact LV_panic (Took.no 10 _ hF.symm m3 h2)
            · rw [if_neg (by omega)] at hF
              repeat (first | refine T_seq ?_ | refine T_region ?_ | refine T_cond_false rfl ?_ | refine T_skip ?_ | refine T_exit rfl ?_ | refine TL_eq_f (hk := ?_) | refine TL_nil ?_ | refine TL_move (hk := ?_) | refine TL_assign (hk := ?_) | refine TL_pick_t (hk := ?_))
              exact T_ret1' rfl rfl (Took.ok _ (i + 1) hF.symm (by rw [← hor]) m3 h2)
          · first
            | (exfalso; omega)
            | skip
              rw [if_neg (by omega)] at hF
              --
              exact T_ret1' rfl rfl (Took.ok _ (i + 1) hF.symm (by rw [← hor]) m3 h2)
        · first
          | (exfalso; omega)
          | skip
            rw [if_neg hlt] at hF
            --
            refine ih (i + 1, N + ch.toNat % 128 * 2 ^ (7 * i)) _ _ (by simp only; omega) ⟨h2, m3, by simp only; omega, hm, ?_⟩ ?_
            · simp only
              rw [hl2, show 10 - (i + 1) = f by omega]
              exact hF
            · rw [← hor]
              exact (.c rfl (.c rfl (.c rfl (.n))))
      · repeat (first | refine T_seq ?_ | refine T_region ?_ | refine T_cond_false rfl ?_ | refine T_skip ?_ | refine TL_mul (hk := ?_) | refine TL_eq_f (hk := ?_) | (refine TL_andNot80 (hk := ?_); intro _) | refine TL_nil ?_ | refine TL_move (hk := ?_) | refine TL_assign (hk := ?_) | refine TL_no (hk := ?_) | refine TL_pick_f (hk := ?_) | refine TL_conv TE (hk := ?_))
        refine TL_shl rfl rfl (a := ch.toNat % 128) (c := 7 * i) rfl (by omega) rfl (by omega) rfl ?_
        repeat (first | refine T_seq ?_ | refine T_region ?_ | (refine TL_or (hk := ?_); intro _) | refine TL_nil ?_ | refine TL_move (hk := ?_) | refine TL_assign (hk := ?_))
        by_cases hlt : ch.toNat < 128
        · rw [if_pos hlt] at hF
          by_cases h0 : 0 < i
          · by_cases hz : ch.toNat = 0
            · rw [if_pos ⟨h0, hz⟩] at hF
              repeat (first | refine T_seq ?_ | refine T_region ?_ | refine T_cond_true rfl ?_ | refine TL_lt_t (hk := ?_) | refine TL_gt_t (hk := ?_) | refine TL_eq_t (hk := ?_) | refine TL_nil ?_ | refine TL_move (hk := ?_) | refine TL_yes (hk := ?_) | refine TL_pick_t (hk := ?_) | refine TL_makeIface_s TE (hk := ?_) | refine TL_build TE (hk := ?_))
              refine TL_panic rfl ?_
              exact LV_panic (Took.no 10 _ hF.symm m3 h2)
            · rw [if_neg (by omega)] at hF
              repeat (first | refine T_seq ?_ | refine T_region ?_ | refine T_cond_true rfl ?_ | refine T_cond_false rfl ?_ | refine T_skip ?_ | refine T_exit rfl ?_ | refine TL_lt_t (hk := ?_) | refine TL_gt_t (hk := ?_) | refine TL_eq_f (hk := ?_) | refine TL_nil ?_ | refine TL_move (hk := ?_) | refine TL_assign (hk := ?_) | refine TL_yes (hk := ?_) | refine TL_pick_t (hk := ?_))
              exact T_ret1' rfl rfl (Took.ok _ (i + 1) hF.symm (by rw [← hor]) m3 h2)
          · first
            | (exfalso; omega)
            | skip
              rw [if_neg (by omega)] at hF
              repeat (first | refine T_seq ?_ | refine T_region ?_ | refine T_cond_true rfl ?_ | refine T_cond_false rfl ?_ | refine T_skip ?_ | refine T_exit rfl ?_ | refine TL_lt_t (hk := ?_) | refine TL_gt_f (hk := ?_) | refine TL_nil ?_ | refine TL_move (hk := ?_) | refine TL_assign (hk := ?_) | refine TL_no (hk := ?_) | refine TL_pick_f (hk := ?_))
              exact T_ret1' rfl rfl (Took.ok _ (i + 1) hF.symm (by rw [← hor]) m3 h2)
        · first
          | (exfalso; omega)
          | skip
            rw [if_neg hlt] at hF
            repeat (first | refine T_region ?_ | refine T_cond_false rfl ?_ | refine T_inBlock ?_ | refine T_skip ?_ | refine TL_add (hk := ?_) | refine TL_lt_f (hk := ?_) | refine TL_nil ?_ | refine TL_move (hk := ?_))
            refine ih (i + 1, N + ch.toNat % 128 * 2 ^ (7 * i)) _ _ (by simp only; omega) ⟨h2, m3, by simp only; omega, hm, ?_⟩ ?_
            · simp only
              rw [hl2, show 10 - (i + 1) = f by omega]
              exact hF
            · rw [← hor]
              exact (.c rfl (.c rfl (.c rfl (.n))))
  · rintro ch w2 ⟨e, p, he, rfl, m2, h2⟩
    obtain ⟨hl, rfl⟩ := tByte_no he
    simp only at hl h2
    rw [hl] at hF
    exact LV_panic (Took.no 3 p hF.symm (m1.trans m2) h2)
end Go.Proofs.Ytkmdmpmimojmbaa
