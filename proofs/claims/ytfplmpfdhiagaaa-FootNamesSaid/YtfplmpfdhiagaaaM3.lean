import Derived.Test.YtfplmpfdhiagaaaM2
import Derived.Laws.StructEq
/- Parts: Eng16 CSpec CRead FSpec5 CW1 CW6 CW7 CW8 CW8n CW9 CW2 CW4 CW10 FW18 FW19 CW13 FW20 FSpec6 FW21 CW14 CW15 FW22 Eng17. -/
/- Maps in a region that draws its order, move by move. -/
namespace Go.Proofs.Eng
open Go.RowKit
set_option linter.unusedSimpArgs false
set_option linter.unusedVariables false
set_option linter.unusedSectionVars false
section
variable {κ α : Type} [DecidableEq κ] {K : κ → Value} {V : α → Value} {l : List (κ × α)} {key : κ} {w0 : World} {D : List Nat} {bb : Array Bool} {pp : Nat} {fr : Bool} {fuel : Nat}
  {P : Program} {fn : Func} {R : Ending → World → Prop} {M : Md} {n : Nat} {st : Slots} {k : List Item} {w : World} {ops rest : List Oper}
  {d b s by_ : Nat} {ty : TypeId} {ps : String} {af : Array Edge} {X Y : Operand} {t kt et : TypeId} {z : Value} {dsc : TypeDesc}
theorem TLP_lookup (E : Env P) (u0 : α) (hm : Mp w0 dsc b K V l) (hD : b ∉ D) (hx : ev st X = some (.map (some b)) := by exact rfl) (ht : E.und t = some (.map kt et) := by exact rfl) (hkt : E.und kt = some dsc := by exact rfl) (he : E.inf et = some (s, by_, z) := by exact rfl) (hd : Nat.blt d n = true := by exact rfl)
    (hK : Keys dsc K := by first | exact keys_tx | exact keys_str | exact keys_int _) (hy : ev st Y = some (K key) := by exact rfl) (hz : z = V u0 := by exact rfl)
    (hk : TL (.pick w0 D bb pp fr fuel) P fn R M n ((d, V ((mget l key).getD u0)) :: st) ops rest k w) : TL (.pick w0 D bb pp fr fuel) P fn R M n st ops (⟨some d, .lookup t X Y false, ty, ps, af, none⟩ :: rest) k w :=
  TL_val hd (fun w' hw ρ h => by
    have h1 := run_lookup (key := key) E ht hkt he hK (hm.mod hw hD) false
    have h2 : (mget l key).elim z V = V ((mget l key).getD u0) := by cases mget l key <;> simp [hz]
    simp only [Bool.false_eq_true, if_false, h2] at h1
    simp [execOp, h _ _ hx, h _ _ hy, h1]) hk
theorem TLP_lookup_ok (E : Env P) (u0 : α) (hm : Mp w0 dsc b K V l) (hD : b ∉ D) (hx : ev st X = some (.map (some b)) := by exact rfl) (ht : E.und t = some (.map kt et) := by exact rfl) (hkt : E.und kt = some dsc := by exact rfl) (he : E.inf et = some (s, by_, z) := by exact rfl) (hd : Nat.blt d n = true := by exact rfl)
    (hK : Keys dsc K := by first | exact keys_tx | exact keys_str | exact keys_int _) (hy : ev st Y = some (K key) := by exact rfl) (hz : z = V u0 := by exact rfl)
    (hk : TL (.pick w0 D bb pp fr fuel) P fn R M n ((d, .tuple #[V ((mget l key).getD u0), .bool (mget l key).isSome]) :: st) ops rest k w) : TL (.pick w0 D bb pp fr fuel) P fn R M n st ops (⟨some d, .lookup t X Y true, ty, ps, af, none⟩ :: rest) k w :=
  TL_val hd (fun w' hw ρ h => by
    have h1 := run_lookup (key := key) E ht hkt he hK (hm.mod hw hD) true
    have h2 : (mget l key).elim z V = V ((mget l key).getD u0) := by cases mget l key <;> simp [hz]
    simp only [if_true, h2] at h1
    simp [execOp, h _ _ hx, h _ _ hy, h1]) hk
end
section
variable {q : Qm} {P : Program} {fn : Func} {R : Ending → World → Prop} {M : Md} {n : Nat} {st : Slots} {k : List Item} {w : World} {ops rest : List Oper}
  {d : Nat} {ty : TypeId} {ps : String} {af : Array Edge} {X Y : Operand} {t t2 : TypeId} {K : IntKind} {x y : Int} {S S2 : List UInt8}
theorem TL_lt_d (hx : ev st X = some (.int K x) := by exact rfl) (hy : ev st Y = some (.int K y) := by exact rfl) (hd : Nat.blt d n = true := by exact rfl) (hk : TL q P fn R M n ((d, .bool (decide (x < y))) :: st) ops rest k w) : TL q P fn R M n st ops (⟨some d, .binOp .lss t X Y t2, ty, ps, af, none⟩ :: rest) k w := by
  by_cases h : (x < y)
  · rw [decide_eq_true h] at hk; exact TL_lt_t hx hy h hd hk
  · rw [decide_eq_false h] at hk; exact TL_lt_f hx hy h hd hk
theorem TL_le_d (hx : ev st X = some (.int K x) := by exact rfl) (hy : ev st Y = some (.int K y) := by exact rfl) (hd : Nat.blt d n = true := by exact rfl) (hk : TL q P fn R M n ((d, .bool (decide (x ≤ y))) :: st) ops rest k w) : TL q P fn R M n st ops (⟨some d, .binOp .leq t X Y t2, ty, ps, af, none⟩ :: rest) k w := by
  by_cases h : (x ≤ y)
  · rw [decide_eq_true h] at hk; exact TL_le_t hx hy h hd hk
  · rw [decide_eq_false h] at hk; exact TL_le_f hx hy h hd hk
theorem TL_gt_d (hx : ev st X = some (.int K x) := by exact rfl) (hy : ev st Y = some (.int K y) := by exact rfl) (hd : Nat.blt d n = true := by exact rfl) (hk : TL q P fn R M n ((d, .bool (decide (y < x))) :: st) ops rest k w) : TL q P fn R M n st ops (⟨some d, .binOp .gtr t X Y t2, ty, ps, af, none⟩ :: rest) k w := by
  by_cases h : (y < x)
  · rw [decide_eq_true h] at hk; exact TL_gt_t hx hy h hd hk
  · rw [decide_eq_false h] at hk; exact TL_gt_f hx hy h hd hk
theorem TL_ge_d (hx : ev st X = some (.int K x) := by exact rfl) (hy : ev st Y = some (.int K y) := by exact rfl) (hd : Nat.blt d n = true := by exact rfl) (hk : TL q P fn R M n ((d, .bool (decide (y ≤ x))) :: st) ops rest k w) : TL q P fn R M n st ops (⟨some d, .binOp .geq t X Y t2, ty, ps, af, none⟩ :: rest) k w := by
  by_cases h : (y ≤ x)
  · rw [decide_eq_true h] at hk; exact TL_ge_t hx hy h hd hk
  · rw [decide_eq_false h] at hk; exact TL_ge_f hx hy h hd hk
theorem TL_eq_d (hx : ev st X = some (.int K x) := by exact rfl) (hy : ev st Y = some (.int K y) := by exact rfl) (hd : Nat.blt d n = true := by exact rfl) (hk : TL q P fn R M n ((d, .bool (decide (x = y))) :: st) ops rest k w) : TL q P fn R M n st ops (⟨some d, .binOp .eql t X Y t2, ty, ps, af, none⟩ :: rest) k w := by
  by_cases h : (x = y)
  · rw [decide_eq_true h] at hk; exact TL_eq_t hx hy h hd hk
  · rw [decide_eq_false h] at hk; exact TL_eq_f hx hy h hd hk
theorem TL_ne_d (hx : ev st X = some (.int K x) := by exact rfl) (hy : ev st Y = some (.int K y) := by exact rfl) (hd : Nat.blt d n = true := by exact rfl) (hk : TL q P fn R M n ((d, .bool (!decide (x = y))) :: st) ops rest k w) : TL q P fn R M n st ops (⟨some d, .binOp .neq t X Y t2, ty, ps, af, none⟩ :: rest) k w := by
  by_cases h : x = y
  · rw [decide_eq_true h] at hk; exact TL_ne_f hx hy h hd hk
  · rw [decide_eq_false h] at hk; exact TL_ne_t hx hy h hd hk
theorem TL_slt_d (hx : ev st X = some (.string (ofL S)) := by exact rfl) (hy : ev st Y = some (.string (ofL S2)) := by exact rfl) (hd : Nat.blt d n = true := by exact rfl)
    (hk : TL q P fn R M n ((d, .bool (decide (S < S2))) :: st) ops rest k w) : TL q P fn R M n st ops (⟨some d, .binOp .lss t X Y t2, ty, ps, af, none⟩ :: rest) k w := by
  by_cases h : (S < S2)
  · rw [decide_eq_true h] at hk; exact TL_slt_t hx hy h hd hk
  · rw [decide_eq_false h] at hk; exact TL_slt_f hx hy h hd hk
theorem TL_sle_d (hx : ev st X = some (.string (ofL S)) := by exact rfl) (hy : ev st Y = some (.string (ofL S2)) := by exact rfl) (hd : Nat.blt d n = true := by exact rfl)
    (hk : TL q P fn R M n ((d, .bool (decide (S ≤ S2))) :: st) ops rest k w) : TL q P fn R M n st ops (⟨some d, .binOp .leq t X Y t2, ty, ps, af, none⟩ :: rest) k w := by
  by_cases h : (S ≤ S2)
  · rw [decide_eq_true h] at hk; exact TL_sle_t hx hy h hd hk
  · rw [decide_eq_false h] at hk; exact TL_sle_f hx hy h hd hk
end
/-- Where two ways meet: what holds behind them is said once. -/
theorem T_join {ι : Type} {P : Program} {fn : Func} {R : Ending → World → Prop} {M : Md} {n : Nat} {st : Slots} {k : List Item} {w : World} {x : Code} (st' : ι → Slots) (J : ι → World → Prop)
    (hx : ∀ k', (∀ i w', J i w' → T P fn R M n (st' i) k' w') → T P fn R M n st (.code x :: k') w) (hk : ∀ i w', J i w' → T P fn R M n (st' i) k w') : T P fn R M n st (.code x :: k) w := hx k hk
theorem T_join2 {ι : Type} {P : Program} {fn : Func} {R : Ending → World → Prop} {M : Md} {n : Nat} {st : Slots} {k : List Item} {w : World} {x y z : Code} (st' : ι → Slots) (J : ι → World → Prop)
    (hx : ∀ z' k', (∀ i w', J i w' → T P fn R M n (st' i) (.code z' :: k') w') → T P fn R M n st (.code x :: .code (.seq y z') :: k') w) (hk : ∀ i w', J i w' → T P fn R M n (st' i) (.code z :: k) w') : T P fn R M n st (.code x :: .code (.seq y z) :: k) w := hx z k hk
theorem Ext.un {D : List Nat} {a b : World} (h : Ext a b) : Mod D a b := h.mono (fun x hx => by cases hx)
end Go.Proofs.Eng

/- Plain facts on numbers' bytes: no program in sight. -/
namespace Go.Proofs.Codec
open Go.Proofs.Eng
/-- The bytes of a number. -/
def encU (n : Nat) : List UInt8 := if n < 128 then [UInt8.ofNat n] else UInt8.ofNat (n % 128 + 128) :: encU (n / 128)
termination_by n
decreasing_by omega
theorem encU_lt {n : Nat} (h : n < 128) : encU n = [UInt8.ofNat n] := by rw [encU, if_pos h]
theorem encU_ge {n : Nat} (h : ¬ n < 128) : encU n = UInt8.ofNat (n % 128 + 128) :: encU (n / 128) := by rw [encU, if_neg h]
theorem encU_len (k : Nat) : ∀ n, n < 2 ^ (7 * k + 7) → (encU n).length ≤ k + 1 := by
  induction k with
  | zero => intro n h; rw [encU_lt (by simpa using h)]; simp
  | succ k ih =>
    intro n h
    by_cases h1 : n < 128
    · rw [encU_lt h1]; simp
    · rw [encU_ge h1, List.length_cons]
      have := ih (n / 128) (by
        rw [Nat.div_lt_iff_lt_mul (by decide)]
        have : 2 ^ (7 * (k + 1) + 7) = 2 ^ (7 * k + 7) * 128 := by rw [show 7 * (k + 1) + 7 = (7 * k + 7) + 7 from by omega, Nat.pow_add]
        omega)
      omega
theorem encU_len64 {n : Nat} (h : n < 2 ^ 64) : (encU n).length ≤ 10 := encU_len 9 n (Nat.lt_of_lt_of_le h (by decide))
theorem encU_pos (n : Nat) : 0 < (encU n).length := by rw [encU]; split <;> simp
theorem or128 : ∀ b, b < 256 → b ||| 128 = b % 128 + 128 := by decide +kernel
theorem ofNat_u8 {n : Nat} (h : n < 256) : ((UInt8.ofNat n).toNat : Int) = (n : Int) := by
  rw [UInt8.toNat_ofNat']; omega
theorem bv_snoc (l : List UInt8) (n : Nat) (h : n < 256) : bv l ++ [.int .u8 (n : Int)] = bv (l ++ [UInt8.ofNat n]) := by
  rw [bv_append]; simp only [bv, List.map_cons, List.map_nil, ofNat_u8 h]
/-- An int as a number. -/
def zig (i : Int) : Nat := if 0 ≤ i then 2 * i.toNat else 2 * (-(i + 1)).toNat + 1
theorem zig_lt {i : Int} (h : -9223372036854775808 ≤ i ∧ i ≤ 9223372036854775807) : zig i < 2 ^ 64 := by unfold zig; split <;> omega
/-- A number of four bytes. -/
def four (n : Nat) : List UInt8 := [UInt8.ofNat (n % 256), UInt8.ofNat (n / 2 ^ 8 % 256), UInt8.ofNat (n / 2 ^ 16 % 256), UInt8.ofNat (n / 2 ^ 24 % 256)]
def le4 (l : List UInt8) : Nat := ((gb l 0 ||| gb l 1 * 2 ^ 8 % 2 ^ 32) ||| gb l 2 * 2 ^ 16 % 2 ^ 32) ||| gb l 3 * 2 ^ 24 % 2 ^ 32
theorem le4_lt (l : List UInt8) : le4 l < 2 ^ 32 := by
  have := gb_lt l 0
  unfold le4
  exact Nat.or_lt_two_pow (Nat.or_lt_two_pow (Nat.or_lt_two_pow (by omega) (by omega)) (by omega)) (by omega)
/-- The sum. -/
def crcStep (c : Nat) : Nat := if c % 2 = 1 then (c / 2) ^^^ 3988292384 else c / 2
def crc8 : Nat → Nat → Nat
  | 0, c => c
  | j + 1, c => crc8 j (crcStep c)
def crcAll : List UInt8 → Nat → Nat
  | [], c => c
  | b :: l, c => crcAll l (crc8 8 (c ^^^ b.toNat))
def crc (l : List UInt8) : Nat := 4294967295 ^^^ crcAll l 4294967295
theorem crc8_succ (j c : Nat) : crc8 (j + 1) c = crc8 j (crcStep c) := rfl
theorem crcStep_odd {c : Nat} (h : c % 2 = 1) : crcStep c = (c / 2 ^ 1) ^^^ 3988292384 := by unfold crcStep; rw [if_pos h]
theorem crcStep_even {c : Nat} (h : ¬ c % 2 = 1) : crcStep c = c / 2 ^ 1 := by unfold crcStep; rw [if_neg h]
theorem crcStep_lt {c : Nat} (h : c < 2 ^ 32) : crcStep c < 2 ^ 32 := by
  unfold crcStep
  split
  · exact Nat.xor_lt_two_pow (by omega) (by decide)
  · omega
theorem crc8_lt : ∀ (j : Nat) {c : Nat}, c < 2 ^ 32 → crc8 j c < 2 ^ 32
  | 0, _, h => h
  | j + 1, _, h => crc8_lt j (crcStep_lt h)
theorem crcAll_lt : ∀ (l : List UInt8) {c : Nat}, c < 2 ^ 32 → crcAll l c < 2 ^ 32
  | [], _, h => h
  | b :: l, _, h => crcAll_lt l (crc8_lt 8 (Nat.xor_lt_two_pow h (Nat.lt_of_lt_of_le (UInt8.toNat_lt b) (by decide))))
theorem crc_lt (l : List UInt8) : crc l < 2 ^ 32 := Nat.xor_lt_two_pow (by decide) (crcAll_lt l (by decide))
theorem crcAll_take (l : List UInt8) (c k : Nat) (h : k < l.length) : crcAll (l.drop k) c = crcAll (l.drop (k + 1)) (crc8 8 (c ^^^ gb l k)) := by
  rw [List.drop_eq_getElem_cons h]
  simp only [crcAll, gb, List.getD_eq_getElem?_getD, List.getElem?_eq_getElem h, Option.getD_some]
theorem and1 (c : Nat) : c &&& 1 = c % 2 := Nat.and_one_is_mod c
theorem xor_ones {a : Nat} (h : a < 2 ^ 64) : a ^^^ (2 ^ 64 - 1) = 2 ^ 64 - 1 - a := by
  have e := congrArg BitVec.toNat (BitVec.xor_allOnes (x := BitVec.ofNat 64 a))
  rw [BitVec.toNat_xor, BitVec.toNat_not, BitVec.toNat_allOnes, BitVec.toNat_ofNat, Nat.mod_eq_of_lt h] at e
  exact e
end Go.Proofs.Codec

/- What a reading answers: plain functions on bytes. -/
namespace Go.Proofs.Codec
open Go.Proofs.Eng
/-- A number from the front: how many bytes are left to it, the place, what has been read. -/
def numF : Nat → Nat → Nat → List UInt8 → Except Int (Nat × Nat)
  | 0, _, _, _ => .error 11
  | f + 1, i, n, l => match l with
    | [] => .error 3
    | c :: t =>
      if i = 9 ∧ 1 < c.toNat then .error 11 else
      if c.toNat < 128 then (if 0 < i ∧ c.toNat = 0 then .error 10 else .ok (n + c.toNat % 128 * 2 ^ (7 * i), i + 1))
      else numF f (i + 1) (n + c.toNat % 128 * 2 ^ (7 * i)) t
def num0 (l : List UInt8) : Except Int (Nat × Nat) := numF 10 0 0 l
theorem numF_ok : ∀ (f i n : Nat) (l : List UInt8) (r k : Nat), f + i = 10 → n < 2 ^ (7 * i) → numF f i n l = .ok (r, k) → r < 2 ^ 64 ∧ i < k ∧ k ≤ i + l.length
  | 0, _, _, _, _, _, _, _, h => by simp [numF] at h
  | f + 1, i, n, [], _, _, _, _, h => by simp [numF] at h
  | f + 1, i, n, c :: t, r, k, hi, hn, h => by
    have hc := UInt8.toNat_lt c
    have hp : 2 ^ (7 * (i + 1)) = 2 ^ (7 * i) * 128 := by rw [show 7 * (i + 1) = 7 * i + 7 from by omega, Nat.pow_add]
    have hm : n + c.toNat % 128 * 2 ^ (7 * i) < 2 ^ (7 * (i + 1)) := by
      rw [hp]
      have : c.toNat % 128 * 2 ^ (7 * i) ≤ 127 * 2 ^ (7 * i) := Nat.mul_le_mul_right _ (by omega)
      omega
    simp only [numF] at h
    by_cases h9 : i = 9 ∧ 1 < c.toNat
    · rw [if_pos h9] at h; cases h
    · rw [if_neg h9] at h
      by_cases h1 : c.toNat < 128
      · rw [if_pos h1] at h
        by_cases h0 : 0 < i ∧ c.toNat = 0
        · rw [if_pos h0] at h; cases h
        · rw [if_neg h0] at h
          cases h
          refine ⟨?_, by omega, by simp⟩
          by_cases hi9 : i = 9
          · subst hi9
            have : c.toNat % 128 ≤ 1 := by omega
            have : c.toNat % 128 * 2 ^ (7 * 9) ≤ 1 * 2 ^ (7 * 9) := Nat.mul_le_mul_right _ this
            omega
          · have : 2 ^ (7 * (i + 1)) ≤ 2 ^ 63 := Nat.pow_le_pow_right (by decide) (by omega)
            omega
      · rw [if_neg h1] at h
        have := numF_ok f (i + 1) _ t r k (by omega) hm h
        simp only [List.length_cons]
        omega
theorem num0_ok {l : List UInt8} {r k : Nat} (h : num0 l = .ok (r, k)) : r < 2 ^ 64 ∧ 0 < k ∧ k ≤ l.length := by
  have := numF_ok 10 0 0 l r k rfl (by decide) h
  omega
theorem numF_err : ∀ (f i n : Nat) (l : List UInt8) (e : Int), numF f i n l = .error e → ¬ e = 0
  | 0, _, _, _, e, h => by simp [numF] at h; omega
  | f + 1, _, _, [], e, h => by simp [numF] at h; omega
  | f + 1, i, n, c :: t, e, h => by
    simp only [numF] at h
    split at h
    · cases h; decide
    · split at h
      · split at h
        · cases h; decide
        · cases h
      · exact numF_err f _ _ t e h
theorem num0_err {l : List UInt8} {e : Int} (h : num0 l = .error e) : ¬ e = 0 := numF_err _ _ _ _ _ h
/-- An int of a number. -/
def zag (n : Nat) : Int := if n % 2 = 0 then (n / 2 : Nat) else -((n / 2 : Nat) : Int) - 1
theorem zag_zig (i : Int) : zag (zig i) = i := by
  unfold zag zig
  split <;> split <;> omega
/-! The takings: of what stands behind the place: the value and how many bytes, or the error. -/
def tByte (l : List UInt8) : Except Int (Nat × Nat) := match l with
  | [] => .error 3
  | c :: _ => .ok (c.toNat, 1)
def tInt (l : List UInt8) : Except Int (Int × Nat) := match num0 l with
  | .ok (n, k) => .ok (zag n, k)
  | .error e => .error e
def tLim (most : Int) (e : Int) (l : List UInt8) : Except Int (Nat × Nat) := match num0 l with
  | .ok (n, k) => if most < 0 ∨ most < (n : Int) then .error e else .ok (n, k)
  | .error e => .error e
def tText (most : Int) (l : List UInt8) : Except Int (List UInt8 × Nat) := match tLim most 1 l with
  | .ok (n, k) => if l.length < k + n then .error 3 else .ok ((l.drop k).take n, k + n)
  | .error e => .error e
/-- A reader's state. -/
structure RS where
  b : List UInt8
  pos : Nat
  last : Nat
  err : Int
  spot : Nat
def RS.take {α : Type} (s : RS) (zero : α) (t : List UInt8 → Except Int (α × Nat)) : α × RS :=
  if s.err = 0 then match t (s.b.drop s.pos) with
    | .ok (v, k) => (v, { s with pos := s.pos + k, last := s.pos })
    | .error e => (zero, { s with err := e, spot := s.pos })
  else (zero, s)
def RS.fail (s : RS) (e : Int) : RS := if s.err = 0 ∧ e ≠ 0 then { s with err := e, spot := s.last } else s
def RS.fin (s : RS) : RS := if s.err = 0 ∧ s.pos < s.b.length then { s with err := 4, spot := s.pos } else s
def RS.rest (s : RS) : Nat := if s.err = 0 then s.b.length - s.pos else 0
end Go.Proofs.Codec

/- A footprint's bytes. -/
namespace Go.Proofs.Foot
open Go.Proofs.Eng Go.Proofs.Codec
set_option linter.unusedSimpArgs false
set_option linter.unusedVariables false
def entryB (m : TM) (t : Tx) : List UInt8 := (encU t.length ++ t) ++ [UInt8.ofNat (bitsM m t)]
def bodyB (m : TM) (l : List Tx) : List UInt8 := (l.map (entryB m)).flatten
def putB (m : TM) : List UInt8 := encU (keysM m 3).length ++ bodyB m (keysM m 3)
theorem bodyB_take (m : TM) (l : List Tx) (i : Nat) (hi : i < l.length) : bodyB m (l.take (i + 1)) = bodyB m (l.take i) ++ entryB m (l.getD i []) := by
  unfold bodyB
  rw [List.take_succ_eq_append_getElem hi, List.map_append, List.flatten_append]
  simp [List.getD_eq_getElem?_getD, List.getElem?_eq_getElem hi]
theorem of_len3 (r k : List Tx) : (ofM r k).length = (keysM (ofM r k) 3).length := by rw [of_len, keys3]
end Go.Proofs.Foot

namespace Go.Proofs.Ytfplmpfdhiagaaa
open Go.RowKit Go.Proofs.Eng Go.Proofs.Codec
set_option linter.unusedSimpArgs false
set_option linter.unusedVariables false
attribute [local irreducible] T TL LV TH TA

theorem Clone_c (A : Option Addr) (n c : Nat) (l : List UInt8) (w : World) (h : Rd w A n 1 (bv l)) (hn : n ≤ 70368744177664) :
    Ret Try.prog 85 [.slice A n c] w (fun v w' => ∃ A' c', v = .slice A' n c' ∧ Ext w w' ∧ Own w' w.heap.size 5 1 A' n c' (bv l)) := by
  cases A with
  | none =>
    obtain ⟨rfl, hl⟩ := h.none
    rw [hl]
    refine ret_T (n := 8) Try.func85 rfl rfl ?_
    repeat (first | refine T_seq ?_ | refine T_region ?_ | refine T_cond_true rfl ?_ | refine TL_nil_t TE (hk := ?_) | refine TL_nil ?_ | refine TL_move (hk := ?_) | refine TL_assign (hk := ?_))
    exact T_ret1 rfl rfl ⟨none, 0, rfl, Mod.refl _ _, Own.nil _ _ _ _⟩
  | some a =>
    refine ret_T (n := 8) Try.func85 rfl rfl ?_
    repeat (first | refine T_seq ?_ | refine T_region ?_ | refine T_cond_false rfl ?_ | refine T_skip ?_ | refine TL_nil_f TE (hk := ?_) | refine TL_nil ?_ | refine TL_move (hk := ?_) | refine TL_assign (hk := ?_))
    refine TL_buildSlice TE (hk := ?_); intro b1 w1 e1 h1 h2 k1
    have o1 : Own w1 w.heap.size 5 1 (some ⟨b1, 0, none⟩) 0 0 [] := Own.of_blk k1 h1 rfl (by decide)
    have s1 := e1.size
    repeat (refine TL_move (hk := ?_))
    refine TL_append TE (hk := ?_); intro A2 c2 w2 o2 m2 n2
    repeat (first | refine TL_nil ?_ | refine TL_assign (hk := ?_))
    refine T_ret1 rfl rfl ⟨A2, c2, by simp, e1.step m2 (fun x hx => .inr (by simp [blkL] at hx; omega)), ?_⟩
    simpa using o2

theorem PutUint_c (A : Option Addr) (n c : Nat) (l : List UInt8) (x : Nat) (w : World) {z : Int} (hz : z = (x : Int)) (h : Rd w A n 1 (bv l)) (hn : n ≤ 70368744177000) (hx : x < 2 ^ 64) :
    Ret Try.prog 55 [.slice A n c, .int .u64 z] w (fun v w' => ∃ A' n' c', v = .slice A' n' c' ∧ Ext w w' ∧ Own w' w.heap.size 5 1 A' n' c' (bv (l ++ encU x))) := by
  subst hz
  have hlen : l.length = n := by simpa using h.1
  refine ret_T (n := 23) Try.func55 rfl rfl ?_
  repeat (first | refine T_seq ?_ | refine T_region ?_ | refine TL_nil ?_ | refine TL_move (hk := ?_) | refine TL_assign (hk := ?_))
  refine TL_call TE (hc := Clone_c A n c l w h (by omega)) (hk := ?_)
  rintro _ w1 ⟨A1, c1, rfl, e1, o1⟩
  have s1 := e1.size
  repeat (first | refine T_seq ?_ | refine T_block ?_ | refine TL_nil ?_ | refine TL_assign (hk := ?_))
  refine T_loop (ι := (Option Addr × Nat × Nat) × List UInt8 × Nat) (fun i => [(5, .slice i.1.1 i.1.2.1 i.1.2.2), (1, .int .u64 (i.2.2 : Int))])
    (fun i w' => Ext w w' ∧ Own w' w.heap.size 5 1 i.1.1 i.1.2.1 i.1.2.2 (bv (l ++ i.2.1)) ∧ i.2.1 ++ encU i.2.2 = encU x ∧ i.2.2 < 2 ^ 64) (fun i => i.2.2) ((A1, n, c1), [], x) (.c rfl (.c rfl (.n))) ⟨e1, by simpa using o1, rfl, hx⟩ ?_
  rintro ⟨⟨A2, n2, c2⟩, pre, m⟩ w2 ⟨e2, o2, hpre, hm⟩ ih
  simp only at e2 o2 hpre hm ih ⊢
  have s2 := e2.size
  have hn2 := o2.len
  have hl10 := encU_len64 hx
  rw [← hpre] at hl10
  simp only [bv_length, List.length_append, Nat.mul_one] at hn2 hl10
  have hp := encU_pos m
  by_cases h128 : m < 128
  · repeat (first | refine T_seq ?_ | refine T_region ?_ | refine T_cond_false rfl ?_ | refine T_exit rfl ?_ | refine TL_ge_f (hk := ?_) | refine TL_nil ?_ | refine TL_move (hk := ?_) | refine TL_conv TE (hk := ?_))
    refine TL_buildSlice TE (hk := ?_); intro b3 w3 e3 h31 h32 k3
    have s3 := e3.size
    --
    refine TL_append TE (hk := ?_); intro A4 c4 w4 o4 m4 n4
    repeat (first | refine TL_nil ?_ | refine TL_assign (hk := ?_))
    refine T_ret1 rfl rfl ⟨A4, _, c4, rfl, (e2.ext e3).step m4 (fun y hy => .inr ?_), ?_⟩
    · cases A2 with
      | none => simp [blkL] at hy
      | some ad => simp [blkL] at hy; rw [hy]; exact o2.hi ad rfl
    · rw [bv_snoc _ _ (by omega), List.append_assoc] at o4
      rw [← hpre, encU_lt h128]
      exact o4
  · repeat (first | refine T_seq ?_ | refine T_region ?_ | refine T_cond_true rfl ?_ | refine T_block ?_ | refine T_skip ?_ | refine TL_ge_t (hk := ?_) | (refine TL_or (hk := ?_); intro _) | refine TL_nil ?_ | refine TL_move (hk := ?_) | refine TL_conv_nat TE (hk := ?_))
    refine TL_buildSlice TE (hk := ?_); intro b3 w3 e3 h31 h32 k3
    have s3 := e3.size
    --
    refine TL_append TE (hk := ?_); intro A4 c4 w4 o4 m4 n4
    repeat (first | refine T_region ?_ | refine T_inBlock ?_ | refine TL_shr (hk := ?_) | refine TL_nil ?_ | refine TL_move (hk := ?_) | refine TL_assign (hk := ?_))
    have ho : Own w4 w.heap.size 5 1 A4 (n2 + 1) c4 (bv (l ++ (pre ++ [UInt8.ofNat (m % 128 + 128)]))) := by
      have e : m % 2 ^ 8 ||| 128 = m % 128 + 128 := by rw [or128 _ (by omega)]; omega
      have o5 : Own w4 w.heap.size 5 1 A4 (n2 + 1) c4 (bv (l ++ pre) ++ [.int .u8 ((m % 2 ^ 8 ||| 128 : Nat) : Int)]) := o4
      rw [e, bv_snoc _ _ (by omega), List.append_assoc] at o5
      exact o5
    refine ih ⟨(A4, n2 + 1, c4), pre ++ [UInt8.ofNat (m % 128 + 128)], m / 128⟩ w4 _ (by simp only; omega) ⟨(e2.ext e3).step m4 (fun y hy => .inr ?_), ho, ?_, by simp only; omega⟩ (.c rfl (.c rfl (.n)))
    · cases A2 with
      | none => simp [blkL] at hy
      | some ad => simp [blkL] at hy; rw [hy]; exact o2.hi ad rfl
    · rw [← hpre, encU_ge h128]; simp
end Go.Proofs.Ytfplmpfdhiagaaa

namespace Go.Proofs.Ytfplmpfdhiagaaa
open Go.RowKit Go.Proofs.Eng Go.Proofs.Codec
set_option linter.unusedSimpArgs false
set_option linter.unusedVariables false
attribute [local irreducible] T TL LV TH TA
set_option maxHeartbeats 1000000

/-- A Reader (of either package: t is its type's number). -/
structure Rdr (w : World) (t : TypeId) (b : Nat) (s : RS) (A : Option Addr) (n c : Nat) : Prop where
  blk : Blk w b t [.slice A n c, .int .i64 (s.pos : Int), .int .i64 (s.last : Int), .int .i64 s.err, .int .i64 (s.spot : Int)]
  rd : Rd w A n 1 (bv s.b)
  off : Off A [b]
  len : s.b.length = n
  pos : s.pos ≤ n
  last : s.last ≤ n
  big : n ≤ 7036874417
  cap : n ≤ c
theorem Rdr.mod {w w' : World} {t : TypeId} {b : Nat} {s : RS} {A : Option Addr} {n c : Nat} {S : List Nat} (h : Rdr w t b s A n c) (hm : Mod S w w') (hb : b ∉ S) (hA : Off A S) : Rdr w' t b s A n c :=
  ⟨h.blk.mod hm hb, h.rd.mod hm hA, h.off, h.len, h.pos, h.last, h.big, h.cap⟩
theorem Rdr.ext {w w' : World} {t : TypeId} {b : Nat} {s : RS} {A : Option Addr} {n c : Nat} (h : Rdr w t b s A n c) (hm : Ext w w') : Rdr w' t b s A n c := h.mod hm (by simp) (.nil A)
def gave (e : Int) : List PanicEntry := [{ v := .iface 112 (.agg #[.int .i64 e]), recovered := false }]
abbrev ptr (b : Nat) : Value := .pointer (some ⟨b, 0, none⟩)
/-- What an inner reading does: it answers v and moves the place on; or it gives up. -/
def Took (w : World) (b : Nat) (s : RS) (A : Option Addr) (n c : Nat) {α : Type} (V : α → Value) (r : Except Int (α × Nat)) : Ending → World → Prop
  | .returned v, w' => ∃ x k, r = .ok (x, k) ∧ v = V x ∧ Mod [b] w w' ∧ Rdr w' 107 b { s with pos := s.pos + k } A n c
  | .panicked ch, w' => ∃ e p, r = .error e ∧ ch = gave e ∧ Mod [b] w w' ∧ Rdr w' 107 b { s with pos := p } A n c
  | .outgrown, _ => False

theorem gb_get (l : List UInt8) (i : Nat) (h : i < l.length) : gb l i = (l[i]).toNat := by simp [gb, h]
theorem Took.ok {w w' : World} {b : Nat} {s : RS} {A : Option Addr} {n c : Nat} {α : Type} {V : α → Value} {r : Except Int (α × Nat)} {v : Value} (x : α) (k : Nat) (hr : r = .ok (x, k)) (hv : v = V x) (hm : Mod [b] w w')
    (h : Rdr w' 107 b { s with pos := s.pos + k } A n c) : Took w b s A n c V r (.returned v) w' := ⟨x, k, hr, hv, hm, h⟩
theorem Took.no {w w' : World} {b : Nat} {s : RS} {A : Option Addr} {n c : Nat} {α : Type} {V : α → Value} {r : Except Int (α × Nat)} (e : Int) (p : Nat) (hr : r = .error e) (hm : Mod [b] w w')
    (h : Rdr w' 107 b { s with pos := p } A n c) : Took w b s A n c V r (.panicked (gave e)) w' := ⟨e, p, hr, rfl, hm, h⟩

theorem byte_c (b : Nat) (s : RS) (A : Option Addr) (n c : Nat) (w : World) (h : Rdr w 107 b s A n c) :
    Calls Try.prog 93 #[ptr b] w (Took w b s A n c (fun x : Nat => .int .u8 (x : Int)) (tByte (s.b.drop s.pos))) := by
  have h0 := h
  obtain ⟨hb, hr, ho, hl, hp, hla, hbig, hcap⟩ := h
  refine calls_T (n := 33) (args := [ptr b]) Try.func93 rfl rfl ?_
  by_cases g : s.pos < n
  · repeat (first | refine T_seq ?_ | refine T_region ?_ | refine T_region_q TE.mixed (by kernel_rfl) ?_ | refine TL_ge_f (hk := ?_) | refine TL_nil ?_ | refine TL_move (hk := ?_) | refine TL_assign (hk := ?_) | refine TL_load TE (hk := ?_) | refine TL_fieldAddr TE (hk := ?_) | refine TL_len TE (hk := ?_) | refine TL_nilCheck (hk := ?_))
    refine TL_nil_q ?_; intro w1 e1
    repeat (first | refine T_seq ?_ | refine T_region ?_ | refine T_cond_false rfl ?_ | refine T_skip ?_ | refine TL_add (hk := ?_) | refine TL_move (hk := ?_) | refine TL_load TE (hk := ?_) | refine TL_fieldAddr TE (hk := ?_) | refine TL_nilCheck (hk := ?_))
    refine TL_store TE (hk := ?_); intro w2 m2 s2 k2
    repeat (first | refine T_seq ?_ | refine T_region_q TE.mixed (by kernel_rfl) ?_ | refine TL_sub (hk := ?_) | refine TL_nil ?_ | refine TL_move (hk := ?_) | refine TL_assign (hk := ?_) | refine TL_load TE (hk := ?_) | (refine TL_load_b TE (hk := ?_); intro _) | refine TL_fieldAddr TE (hk := ?_) | refine TL_indexAddr1 TE (hk := ?_) | refine TL_nilCheck (hk := ?_))
    refine TL_nil_q ?_; intro w3 e3
    refine T_ret1' rfl rfl ?_
    have hd : s.b.drop s.pos = s.b[s.pos] :: s.b.drop (s.pos + 1) := List.drop_eq_getElem_cons _
    have hm : Mod [b] w w3 := (e1.mod.trans m2).ext e3
    refine Took.ok (s.b[s.pos]).toNat 1 (by rw [hd]; rfl) ?_ hm ?_
    · show Value.int .u8 (gb s.b ((s.pos : Int) + 1 - 1).toNat : Nat) = _
      rw [show ((s.pos : Int) + 1 - 1).toNat = s.pos by omega, gb_get _ _ (by omega)]
    · exact ⟨k2.be e3, hr.mod hm (by focus ((repeat (first | assumption | (apply Own.rd; assumption) | (apply Rd.blk; assumption; exact rfl) | (apply Blk.be; assumption) | (apply Rd.be; assumption) | (apply Own.be; assumption) | (apply Blk.bm; assumption; focus (first | assumption | (simp only [List.mem_cons, List.not_mem_nil, or_false]; omega))) | (apply Rd.bm; assumption; focus assumption) | (apply Own.bm; assumption; focus assumption))); done)), ho, hl, g, hla, hbig, hcap⟩
  · repeat (first | refine T_seq ?_ | refine T_region ?_ | refine T_region_q TE.mixed (by kernel_rfl) ?_ | refine TL_ge_t (hk := ?_) | refine TL_nil ?_ | refine TL_move (hk := ?_) | refine TL_assign (hk := ?_) | refine TL_load TE (hk := ?_) | refine TL_fieldAddr TE (hk := ?_) | refine TL_len TE (hk := ?_) | refine TL_nilCheck (hk := ?_))
    refine TL_nil_q ?_; intro w1 e1
    repeat (first | refine T_region ?_ | refine T_cond_true rfl ?_ | refine TL_makeIface_s TE (hk := ?_) | refine TL_build TE (hk := ?_))
    refine TL_panic rfl ?_
    refine LV_panic ?_
    exact Took.no 3 s.pos (by rw [List.drop_of_length_le (by omega)]; rfl) e1.mod (h0.ext e1)

theorem lor_add {a b i : Nat} (h : a < 2 ^ i) : a ||| (b * 2 ^ i) = a + b * 2 ^ i := by
  rw [Nat.or_comm, Nat.mul_comm b, ← Nat.two_pow_add_eq_or_of_lt h, Nat.add_comm]
theorem tByte_ok {l : List UInt8} {x k : Nat} (h : tByte l = .ok (x, k)) : ∃ c t, l = c :: t ∧ x = c.toNat ∧ k = 1 := by
  cases l with
  | nil => cases h
  | cons c t => cases h; exact ⟨c, t, rfl, rfl, rfl⟩
theorem tByte_no {l : List UInt8} {e : Int} (h : tByte l = .error e) : l = [] ∧ e = 3 := by
  cases l with
  | nil => cases h; exact ⟨rfl, rfl⟩
  | cons c t => cases h

theorem uint_c (b : Nat) (s : RS) (A : Option Addr) (n c : Nat) (w : World) (h : Rdr w 107 b s A n c) :
    Calls Try.prog 103 #[ptr b] w (Took w b s A n c (fun x : Nat => .int .u64 (x : Int)) (num0 (s.b.drop s.pos))) := by
  refine calls_T (n := 39) (args := [ptr b]) Try.func103 rfl rfl ?_
  repeat (first | refine T_seq ?_ | refine T_region ?_ | refine T_block ?_ | refine TL_nil ?_ | refine TL_move (hk := ?_) | refine TL_assign (hk := ?_))
  refine T_loop (ι := Nat × Nat) (fun i => [(6, .int .i64 (i.1 : Int)), (3, .int .u64 (i.2 : Int)), (0, ptr b)])
    (fun i w' => Rdr w' 107 b { s with pos := s.pos + i.1 } A n c ∧ Mod [b] w w' ∧ i.1 ≤ 9 ∧ i.2 < 2 ^ (7 * i.1) ∧ numF (10 - i.1) i.1 i.2 (s.b.drop (s.pos + i.1)) = num0 (s.b.drop s.pos)) (fun i => 10 - i.1) (0, 0) (.c rfl (.c rfl (.c rfl (.n)))) ⟨h, Mod.refl _ _, by decide, by decide, rfl⟩ ?_
  rintro ⟨i, N⟩ w1 ⟨h1, m1, hi, hN, hF⟩ ih
  simp only at h1 hi hN hF ih ⊢
  obtain ⟨f, hf⟩ : ∃ f, 10 - i = f + 1 := ⟨9 - i, by omega⟩
  have hp9 : 2 ^ (7 * i) ≤ 2 ^ 63 := Nat.pow_le_pow_right (by decide) (by omega)
  rw [hf] at hF
  repeat (first | refine T_seq ?_ | refine T_region ?_ | refine T_cond_true rfl ?_ | refine T_block ?_ | refine T_skip ?_ | refine TL_lt_t (hk := ?_) | refine TL_nil ?_ | refine TL_move (hk := ?_) | refine TL_assign (hk := ?_))
  refine TL_callc TE (fst := []) (cap := []) rfl rfl rfl rfl (byte_c b _ A n c _ h1) ?_ ?_ (fun _ h => h)
  · rintro _ w2 ⟨x, k, hx, rfl, m2, h2⟩
    obtain ⟨ch, t, hl, rfl, rfl⟩ := tByte_ok hx
    simp only at hl h2
    have hl2 : s.b.drop (s.pos + (i + 1)) = t := by
      have := congrArg List.tail hl
      simpa [List.tail_drop, Nat.add_assoc] using this
    have hc := UInt8.toNat_lt ch
    have m3 := m1.trans m2
    rw [hl] at hF
    simp only [numF] at hF
    by_cases h9 : i = 9 ∧ 1 < ch.toNat
    · rw [if_pos h9] at hF
      obtain ⟨rfl, h91⟩ := h9
      repeat (first | refine T_seq ?_ | refine T_region ?_ | refine T_cond_true rfl ?_ | refine TL_gt_t (hk := ?_) | refine TL_eq_t (hk := ?_) | refine TL_nil ?_ | refine TL_move (hk := ?_) | refine TL_assign (hk := ?_) | refine TL_yes (hk := ?_) | refine TL_pick_t (hk := ?_) | refine TL_makeIface_s TE (hk := ?_) | refine TL_build TE (hk := ?_))
      refine TL_panic rfl ?_
      exact LV_panic (Took.no 11 _ hF.symm m3 h2)
    · rw [if_neg h9] at hF
      have hp : 2 ^ (7 * (i + 1)) = 2 ^ (7 * i) * 128 := by rw [show 7 * (i + 1) = 7 * i + 7 from by omega, Nat.pow_add]
      have hm : N + ch.toNat % 128 * 2 ^ (7 * i) < 2 ^ (7 * (i + 1)) := by
        rw [hp]
        have : ch.toNat % 128 * 2 ^ (7 * i) ≤ 127 * 2 ^ (7 * i) := Nat.mul_le_mul_right _ (by omega)
        omega
      have hb : ch.toNat % 128 * 2 ^ (7 * i) < 2 ^ 64 := by
        by_cases h9' : i = 9
        · have : ch.toNat % 128 * 2 ^ (7 * i) ≤ 1 * 2 ^ (7 * i) := Nat.mul_le_mul_right _ (by omega)
          omega
        · have : 2 ^ (7 * (i + 1)) ≤ 2 ^ 63 := Nat.pow_le_pow_right (by decide) (by omega)
          omega
      have hor : N ||| (ch.toNat % 128 * 2 ^ (7 * i) % 2 ^ 64) = N + ch.toNat % 128 * 2 ^ (7 * i) := by rw [Nat.mod_eq_of_lt hb, lor_add hN]
      have hN64 : N < 2 ^ 64 := by omega
      have hpl := h2.pos
      by_cases i9 : i = 9
      · repeat (first | refine T_seq ?_ | refine T_region ?_ | refine T_cond_false rfl ?_ | refine T_skip ?_ | refine TL_mul (hk := ?_) | refine TL_gt_f (hk := ?_) | refine TL_eq_t (hk := ?_) | (refine TL_andNot80 (hk := ?_); intro _) | refine TL_nil ?_ | refine TL_move (hk := ?_) | refine TL_assign (hk := ?_) | refine TL_yes (hk := ?_) | refine TL_pick_t (hk := ?_) | refine TL_conv TE (hk := ?_))
        refine TL_shl rfl rfl (a := ch.toNat % 128) (c := 7 * i) rfl (by omega) rfl (by omega) rfl ?_
        repeat (first | refine T_seq ?_ | refine T_region ?_ | refine T_cond_true rfl ?_ | refine TL_lt_t (hk := ?_) | refine TL_gt_t (hk := ?_) | (refine TL_or (hk := ?_); intro _) | refine TL_nil ?_ | refine TL_move (hk := ?_) | refine TL_assign (hk := ?_) | refine TL_yes (hk := ?_))
        by_cases hlt : ch.toNat < 128
        · rw [if_pos hlt] at hF
          by_cases h0 : 0 < i
          · by_cases hz : ch.toNat = 0
            · rw [if_pos ⟨h0, hz⟩] at hF
              repeat (first | refine T_region ?_ | refine T_cond_true rfl ?_ | refine TL_eq_t (hk := ?_) | refine TL_nil ?_ | refine TL_pick_t (hk := ?_) | refine TL_makeIface_s TE (hk := ?_) | refine TL_build TE (hk := ?_))
              refine TL_panic rfl ?_
              exact LV_panic (Took.no 10 _ hF.symm m3 h2)
            · rw [if_neg (by omega)] at hF
              repeat (first | refine T_seq ?_ | refine T_region ?_ | refine T_cond_false rfl ?_ | refine T_skip ?_ | refine T_exit rfl ?_ | refine TL_eq_f (hk := ?_) | refine TL_nil ?_ | refine TL_move (hk := ?_) | refine TL_assign (hk := ?_) | refine TL_pick_t (hk := ?_))
              exact T_ret1' rfl rfl (Took.ok _ (i + 1) hF.symm (by rw [← hor]) m3 h2)
          · first
            | (exfalso; omega)
            | skip
              rw [if_neg (by omega)] at hF
              --
              exact T_ret1' rfl rfl (Took.ok _ (i + 1) hF.symm (by rw [← hor]) m3 h2)
        · first
          | (exfalso; omega)
          | skip
            rw [if_neg hlt] at hF
            --
            refine ih (i + 1, N + ch.toNat % 128 * 2 ^ (7 * i)) _ _ (by simp only; omega) ⟨h2, m3, by simp only; omega, hm, ?_⟩ ?_
            · simp only
              rw [hl2, show 10 - (i + 1) = f by omega]
              exact hF
            · rw [← hor]
              exact (.c rfl (.c rfl (.c rfl (.n))))
      · repeat (first | refine T_seq ?_ | refine T_region ?_ | refine T_cond_false rfl ?_ | refine T_skip ?_ | refine TL_mul (hk := ?_) | refine TL_eq_f (hk := ?_) | (refine TL_andNot80 (hk := ?_); intro _) | refine TL_nil ?_ | refine TL_move (hk := ?_) | refine TL_assign (hk := ?_) | refine TL_no (hk := ?_) | refine TL_pick_f (hk := ?_) | refine TL_conv TE (hk := ?_))
        refine TL_shl rfl rfl (a := ch.toNat % 128) (c := 7 * i) rfl (by omega) rfl (by omega) rfl ?_
        repeat (first | refine T_seq ?_ | refine T_region ?_ | (refine TL_or (hk := ?_); intro _) | refine TL_nil ?_ | refine TL_move (hk := ?_) | refine TL_assign (hk := ?_))
        by_cases hlt : ch.toNat < 128
        · rw [if_pos hlt] at hF
          by_cases h0 : 0 < i
          · by_cases hz : ch.toNat = 0
            · rw [if_pos ⟨h0, hz⟩] at hF
              repeat (first | refine T_seq ?_ | refine T_region ?_ | refine T_cond_true rfl ?_ | refine TL_lt_t (hk := ?_) | refine TL_gt_t (hk := ?_) | refine TL_eq_t (hk := ?_) | refine TL_nil ?_ | refine TL_move (hk := ?_) | refine TL_yes (hk := ?_) | refine TL_pick_t (hk := ?_) | refine TL_makeIface_s TE (hk := ?_) | refine TL_build TE (hk := ?_))
              refine TL_panic rfl ?_
              exact LV_panic (Took.no 10 _ hF.symm m3 h2)
            · rw [if_neg (by omega)] at hF
              repeat (first | refine T_seq ?_ | refine T_region ?_ | refine T_cond_true rfl ?_ | refine T_cond_false rfl ?_ | refine T_skip ?_ | refine T_exit rfl ?_ | refine TL_lt_t (hk := ?_) | refine TL_gt_t (hk := ?_) | refine TL_eq_f (hk := ?_) | refine TL_nil ?_ | refine TL_move (hk := ?_) | refine TL_assign (hk := ?_) | refine TL_yes (hk := ?_) | refine TL_pick_t (hk := ?_))
              exact T_ret1' rfl rfl (Took.ok _ (i + 1) hF.symm (by rw [← hor]) m3 h2)
          · first
            | (exfalso; omega)
            | skip
              rw [if_neg (by omega)] at hF
              repeat (first | refine T_seq ?_ | refine T_region ?_ | refine T_cond_true rfl ?_ | refine T_cond_false rfl ?_ | refine T_skip ?_ | refine T_exit rfl ?_ | refine TL_lt_t (hk := ?_) | refine TL_gt_f (hk := ?_) | refine TL_nil ?_ | refine TL_move (hk := ?_) | refine TL_assign (hk := ?_) | refine TL_no (hk := ?_) | refine TL_pick_f (hk := ?_))
              exact T_ret1' rfl rfl (Took.ok _ (i + 1) hF.symm (by rw [← hor]) m3 h2)
        · first
          | (exfalso; omega)
          | skip
            rw [if_neg hlt] at hF
            repeat (first | refine T_region ?_ | refine T_cond_false rfl ?_ | refine T_inBlock ?_ | refine T_skip ?_ | refine TL_add (hk := ?_) | refine TL_lt_f (hk := ?_) | refine TL_nil ?_ | refine TL_move (hk := ?_))
            refine ih (i + 1, N + ch.toNat % 128 * 2 ^ (7 * i)) _ _ (by simp only; omega) ⟨h2, m3, by simp only; omega, hm, ?_⟩ ?_
            · simp only
              rw [hl2, show 10 - (i + 1) = f by omega]
              exact hF
            · rw [← hor]
              exact (.c rfl (.c rfl (.c rfl (.n))))
  · rintro ch w2 ⟨e, p, he, rfl, m2, h2⟩
    obtain ⟨hl, rfl⟩ := tByte_no he
    simp only at hl h2
    rw [hl] at hF
    exact LV_panic (Took.no 3 p hF.symm (m1.trans m2) h2)
end Go.Proofs.Ytfplmpfdhiagaaa

namespace Go.Proofs.Ytfplmpfdhiagaaa
open Go.RowKit Go.Proofs.Eng Go.Proofs.Codec
set_option linter.unusedSimpArgs false
set_option linter.unusedVariables false
attribute [local irreducible] T TL LV TH TA
set_option maxHeartbeats 1000000























theorem limited_c (b : Nat) (s : RS) (A : Option Addr) (n c : Nat) (most e : Int) (hmo : -9223372036854775808 ≤ most ∧ most ≤ 9223372036854775807) (w : World) (h : Rdr w 107 b s A n c) :
    Calls Try.prog 89 #[ptr b, .int .i64 most, .int .i64 e] w (Took w b s A n c (fun x : Nat => .int .i64 (x : Int)) (tLim most e (s.b.drop s.pos))) := by
  refine calls_T (n := 23) (args := [ptr b, .int .i64 most, .int .i64 e]) Try.func89 rfl rfl ?_
  repeat (first | refine T_seq ?_ | refine T_region ?_ | refine TL_nil ?_ | refine TL_move (hk := ?_) | refine TL_assign (hk := ?_))
  refine TL_callc TE (fst := []) (cap := []) rfl rfl rfl rfl (uint_c b s A n c w h) ?_ ?_ (fun _ h => h)
  · rintro _ w1 ⟨x, k, hx, rfl, m1, h1⟩
    have hlt := (num0_ok hx).1
    by_cases hm : most < 0
    · have hi : tLim most e (s.b.drop s.pos) = .error e := by unfold tLim; rw [hx]; simp only; rw [if_pos (.inl hm)]
      repeat (first | refine T_seq ?_ | refine T_region ?_ | refine T_cond_true rfl ?_ | refine TL_lt_t (hk := ?_) | refine TL_nil ?_ | refine TL_move (hk := ?_) | refine TL_assign (hk := ?_) | refine TL_no (hk := ?_) | refine TL_pick_t (hk := ?_) | refine TL_makeIface_s TE (hk := ?_) | refine TL_build TE (hk := ?_))
      refine TL_panic rfl ?_
      exact LV_panic (Took.no e _ hi m1 h1)
    · by_cases hg : most < (x : Int)
      · have hi : tLim most e (s.b.drop s.pos) = .error e := by unfold tLim; rw [hx]; simp only; rw [if_pos (.inr hg)]
        repeat (first | refine T_seq ?_ | refine T_region ?_ | refine T_cond_true rfl ?_ | refine TL_lt_f (hk := ?_) | refine TL_gt_t (hk := ?_) | refine TL_nil ?_ | refine TL_move (hk := ?_) | refine TL_assign (hk := ?_) | refine TL_yes (hk := ?_) | refine TL_pick_f (hk := ?_) | refine TL_makeIface_s TE (hk := ?_) | refine TL_conv TE (hk := ?_) | refine TL_build TE (hk := ?_))
        refine TL_panic rfl ?_
        exact LV_panic (Took.no e _ hi m1 h1)
      · have hi : tLim most e (s.b.drop s.pos) = .ok (x, k) := by unfold tLim; rw [hx]; simp only; rw [if_neg (by omega)]
        repeat (first | refine T_seq ?_ | refine T_region ?_ | refine T_cond_false rfl ?_ | refine T_skip ?_ | refine TL_lt_f (hk := ?_) | refine TL_gt_f (hk := ?_) | refine TL_nil ?_ | refine TL_move (hk := ?_) | refine TL_assign (hk := ?_) | refine TL_yes (hk := ?_) | refine TL_pick_f (hk := ?_) | refine TL_conv TE (hk := ?_))
        exact T_ret1' rfl rfl (Took.ok x k hi rfl m1 h1)
  · rintro ch w1 ⟨e, p, he, rfl, m1, h1⟩
    exact LV_panic (Took.no e p (by unfold tLim; rw [he]) m1 h1)

theorem Count1_c (b x y : Nat) (tx ty : TypeId) (s : RS) (A : Option Addr) (n c : Nat) (most : Int) (hmo : -9223372036854775808 ≤ most ∧ most ≤ 9223372036854775807) (w : World) (h : Rdr w 107 b s A n c) (hx : Blk w x tx [ptr b]) (hy : Blk w y ty [.int .i64 most]) :
    Calls Try.prog 88 #[ptr x, ptr y] w (Took w b s A n c (fun x : Nat => .int .i64 (x : Int)) (tLim most 6 (s.b.drop s.pos))) := by
  refine calls_T (n := 6) (args := [ptr x, ptr y]) Try.func88 rfl rfl ?_
  repeat (first | refine T_seq ?_ | refine T_region ?_ | refine TL_nil ?_ | refine TL_assign (hk := ?_) | refine TL_load TE (hk := ?_))
  refine TL_callc TE (fst := []) (cap := []) rfl rfl rfl rfl (limited_c b s A n c most 6 hmo w h) ?_ ?_ (fun _ h => h)
  · rintro _ w1 ⟨z, k, hz, rfl, m1, h1⟩
    repeat (first | refine TL_nil ?_ | refine TL_assign (hk := ?_))
    exact T_ret1' rfl rfl (Took.ok _ k hz rfl m1 h1)
  · rintro ch w1 ⟨e, p, he, rfl, m1, h1⟩
    exact LV_panic (Took.no e p he m1 h1)
theorem tLim_le {most e : Int} {l : List UInt8} {z k : Nat} (hz : tLim most e l = .ok (z, k)) : (z : Int) ≤ most := by
  unfold tLim at hz
  split at hz
  · split at hz
    · cases hz
    · cases hz; omega
  · cases hz
theorem Text1_c (b x y : Nat) (tx ty : TypeId) (s : RS) (A : Option Addr) (n c : Nat) (most : Int) (hmo : -9223372036854775808 ≤ most ∧ most ≤ 9223372036854775807) (w : World) (h : Rdr w 107 b s A n c) (hx : Blk w x tx [ptr b]) (hy : Blk w y ty [.int .i64 most]) (hxb : x ≠ b) :
    Calls Try.prog 91 #[ptr x, ptr y] w (Took w b s A n c (fun x : List UInt8 => .string ⟨x.toArray⟩) (tText most (s.b.drop s.pos))) := by
  refine calls_T (n := 45) (args := [ptr x, ptr y]) Try.func91 rfl rfl ?_
  repeat (first | refine T_seq ?_ | refine T_region ?_ | refine TL_nil ?_ | refine TL_assign (hk := ?_) | refine TL_load TE (hk := ?_))
  refine TL_callc TE (fst := []) (cap := []) rfl rfl rfl rfl (limited_c b s A n c most 1 hmo w h) ?_ ?_ (fun _ h => h)
  · rintro _ w1 ⟨z, k, hz, rfl, m1, h1⟩
    have hx1 := hx.mod m1 (by simpa using hxb)
    obtain ⟨hb, hr, ho, hl, hp, hla, hbig, hcap⟩ := h1
    simp only at hb hr hl hp hla
    have hnl : (s.b.drop s.pos).length = n - s.pos := by rw [List.length_drop, hl]
    have hz0 : (z : Int) ≤ most := tLim_le hz
    by_cases g : (s.b.drop s.pos).length < k + z
    · have hi : tText most (s.b.drop s.pos) = .error 3 := by unfold tText; rw [hz]; simp only; rw [if_pos g]
      repeat (first | refine T_seq ?_ | refine T_region_q TE.mixed (by kernel_rfl) ?_ | refine TL_sub (hk := ?_) | refine TL_gt_t (hk := ?_) | refine TL_nil ?_ | refine TL_move (hk := ?_) | refine TL_assign (hk := ?_) | refine TL_load TE (hk := ?_) | refine TL_fieldAddr TE (hk := ?_) | refine TL_len TE (hk := ?_) | refine TL_nilCheck (hk := ?_))
      refine TL_nil_q ?_; intro w2 e2
      repeat (first | refine T_region ?_ | refine T_cond_true rfl ?_ | refine TL_makeIface_s TE (hk := ?_) | refine TL_build TE (hk := ?_))
      refine TL_panic rfl ?_
      exact LV_panic (Took.no 3 _ hi (m1.ext e2) ⟨hb.be e2, hr.be e2, ho, hl, hp, hla, hbig, hcap⟩)
    · have hi : tText most (s.b.drop s.pos) = .ok (((s.b.drop s.pos).drop k).take z, k + z) := by unfold tText; rw [hz]; simp only; rw [if_neg g]
      repeat (first | refine T_seq ?_ | refine T_region_q TE.mixed (by kernel_rfl) ?_ | refine TL_sub (hk := ?_) | refine TL_gt_f (hk := ?_) | refine TL_nil ?_ | refine TL_move (hk := ?_) | refine TL_assign (hk := ?_) | refine TL_load TE (hk := ?_) | refine TL_fieldAddr TE (hk := ?_) | refine TL_len TE (hk := ?_) | refine TL_nilCheck (hk := ?_))
      refine TL_nil_q ?_; intro w2 e2
      repeat (first | refine T_seq ?_ | refine T_region ?_ | refine T_cond_false rfl ?_ | refine T_skip ?_ | refine TL_add (hk := ?_) | refine TL_move (hk := ?_) | refine TL_load TE (hk := ?_) | refine TL_fieldAddr TE (hk := ?_) | refine TL_nilCheck (hk := ?_))
      refine TL_store TE (hk := ?_); intro w3 m3 s3 k3
      have q1 : ((↑(s.pos + k) : Int) + ↑z - ↑z).toNat = s.pos + k := by omega
      have q2 : ((↑(s.pos + k) : Int) + ↑z).toNat = s.pos + k + z := by omega
      have r3 : Rd w3 A n 1 (bv s.b) := (hr.ext e2).mod m3 ho
      have r4 : Rd w3 (cutA A c (s.pos + k) 1) (s.pos + k + z - (s.pos + k)) 1 (bv (((s.b.drop s.pos).drop k).take z)) := by
        have := r3.cut (c := c) (l := s.pos + k) (h := s.pos + k + z) (by omega) (by omega) (by omega)
        rw [show bv (((s.b.drop s.pos).drop k).take z) = ((bv s.b).drop ((s.pos + k) * 1)).take ((s.pos + k + z - (s.pos + k)) * 1) from by
          simp only [bv, List.map_take, List.map_drop, List.drop_drop, Nat.mul_one, Nat.add_sub_cancel_left]]
        exact this
      repeat (first | refine T_seq ?_ | refine T_region_q TE.mixed (by kernel_rfl) ?_ | refine TL_sub (hk := ?_) | refine TL_nil ?_ | refine TL_move (hk := ?_) | refine TL_load TE (hk := ?_) | refine TL_fieldAddr TE (hk := ?_) | refine TL_nilCheck (hk := ?_) | refine TL_slice_lh TE (hk := ?_))
      rw [q1, q2]
      repeat (first | refine TL_assign (hk := ?_) | refine TL_conv_bs TE (hk := ?_))
      refine TL_nil_q ?_; intro w4 e4
      have hm : Mod [b] w w4 := ((m1.ext e2).trans m3).ext e4
      refine T_ret1' rfl rfl (Took.ok _ (k + z) hi rfl hm ⟨?_, r3.be e4, ho, hl, ?_, hla, hbig, hcap⟩)
      · rw [show s.pos + (k + z) = s.pos + k + z by omega]
        have := k3.be e4
        simpa using this
      · simp only; omega
  · rintro ch w1 ⟨e, p, he, rfl, m1, h1⟩
    exact LV_panic (Took.no e p (by unfold tText; rw [he]) m1 h1)
end Go.Proofs.Ytfplmpfdhiagaaa

namespace Go.Proofs.Ytfplmpfdhiagaaa
open Go.RowKit Go.Proofs.Eng Go.Proofs.Codec
set_option linter.unusedSimpArgs false
set_option linter.unusedVariables false
attribute [local irreducible] T TL LV TH TA
set_option maxHeartbeats 1000000
theorem st_params (args : List Value) (n m : Nat) : ∀ a : Act, a.tmps = args.toArray ++ Array.replicate (n - args.length) undef → ∀ i v, Eng.look (params 0 args) i = some v → a.tmps.getD i undef = v := by
  intro a ha i v hv
  obtain ⟨_, hi⟩ := look_params args 0 i v hv
  have h1 : args[i]? = some v := by simpa using hi
  have h2 : i < args.length := (List.getElem?_eq_some_iff.1 h1).1
  rw [ha, Array.getD_eq_getD_getElem?, Array.getElem?_append_left (by simpa using h2)]
  simp [h1]
theorem Rd.mod0 {w w' : World} {A : Option Addr} {n s : Nat} {xs : List Value} {S : List Nat} (h : Rd w A n s xs) (hm : Mod S w w') (hS : 0 < n → Off A S) : Rd w' A n s xs := by
  rcases Nat.eq_zero_or_pos n with rfl | hn
  · exact ⟨h.1, fun hn => by omega⟩
  · exact h.mod hm (hS hn)
theorem Rd.offNew {w : World} {A : Option Addr} {n s x : Nat} {xs : List Value} (h : Rd w A n s xs) (hx : w.heap.size ≤ x) (hn : 0 < n) : Off A [x] := by
  obtain ⟨b, off, rfl, hb, _⟩ := h.2 (by omega)
  intro ad e hq
  cases e
  simp only [List.mem_singleton] at hq
  omega
theorem take_ok {α : Type} {s : RS} {z0 v : α} {k : Nat} {t : List UInt8 → Except Int (α × Nat)} (he : s.err = 0) (h : t (s.b.drop s.pos) = .ok (v, k)) : s.take z0 t = (v, { s with pos := s.pos + k, last := s.pos }) := by
  unfold RS.take; rw [if_pos he, h]
theorem take_err {α : Type} {s : RS} {z0 : α} {e : Int} {t : List UInt8 → Except Int (α × Nat)} (he : s.err = 0) (h : t (s.b.drop s.pos) = .error e) : s.take z0 t = (z0, { s with err := e, spot := s.pos }) := by
  unfold RS.take; rw [if_pos he, h]








































































































































































































































































































































theorem rdd0_string (w : World) (x y z : Nat) : CallsD Try.prog 104 #[ptr x, ptr y, ptr z] .returning w (fun e u w' => u = .returning ∧ e = .returned (.tuple #[]) ∧ w' = w) := by
  refine callsD_recover (n := 32) (args := [ptr x, ptr y, ptr z]) (st := params 0 [ptr x, ptr y, ptr z]) Try.func104 rfl rfl (st_params _ _ 0) rfl (.inl ⟨rfl, rfl, rfl⟩) ?_
  repeat (first | refine T_seq ?_ | refine T_region ?_ | refine T_cond_false rfl ?_ | refine T_skip ?_ | refine TL_ine_f TE (hk := ?_) | refine TL_nil ?_ | refine TL_move (hk := ?_) | refine TL_assign (hk := ?_))
  refine T_end0' rfl ⟨rfl, rfl⟩
theorem rdd1_string (b : Nat) (s : RS) (A : Option Addr) (n c : Nat) (e : Int) (w : World) (x y z : Nat) (tx ty tz : TypeId) (p : Nat) (v0 : Value) (h : Rdr w 107 b s A n c) (hx : Blk w x tx [.int .i64 (p : Int)]) (hy : Blk w y ty [v0]) (hz : Blk w z tz [ptr b])
    (hyb : y ≠ b) (hxb : x ≠ b) (hzb : z ≠ b) (hxy : x ≠ y) (hzy : z ≠ y) (hyA : 0 < n → Off A [y]) (hp : p ≤ n) :
    CallsD Try.prog 104 #[ptr x, ptr y, ptr z] (.panicking (gave e)) w (fun e' u w' => u = .panicking [{ v := .iface 112 (.agg #[.int .i64 e]), recovered := true }] ∧ e' = .returned (.tuple #[]) ∧ Mod [y, b] w w' ∧ Rdr w' 107 b { s with pos := p, err := e, spot := p } A n c ∧ Blk w' y ty [.string ⟨#[]⟩]) := by
  refine callsD_recover (n := 32) (args := [ptr x, ptr y, ptr z]) (st := params 0 [ptr x, ptr y, ptr z]) Try.func104 rfl rfl (st_params _ _ 0) rfl (.inr ⟨_, _, rfl, rfl, rfl⟩) ?_
  obtain ⟨hb, hr, ho, hl, hpp, hla, hbig, hcap⟩ := h
  repeat (first | refine T_seq ?_ | refine T_region ?_ | refine T_cond_true rfl ?_ | refine TL_ine_t TE (hk := ?_) | refine TL_nil ?_ | refine TL_move (hk := ?_) | refine TL_assign (hk := ?_) | refine TL_extract (hk := ?_) | refine TL_assert_t TE (hk := ?_))
  refine TL_alloc TE (hk := ?_); intro g w1 e1 g1 g2 kg
  --
  refine TL_store1 TE rfl rfl rfl rfl rfl (by exact kg) (by decide) (hk := ?_); intro w2 m2 s2 k2
  have e2 : Ext w w2 := Mod.step e1 m2 (fun y hy => .inr (by simp only [List.mem_singleton] at hy; omega))
  repeat (first | refine T_seq ?_ | refine T_region ?_ | refine T_cond_false rfl ?_ | refine T_skip ?_ | refine TL_nil ?_ | refine TL_move (hk := ?_) | refine TL_assign (hk := ?_) | refine TL_not (hk := ?_))
  have hxl := hx.be e2
  have hzl := hz.be e2
  have hyl := hy.be e2
  have hbl := hb.be e2
  refine T_region_h TE (fun w' => Blk w' x tx [.int .i64 (p : Int)] ∧ Blk w' z tz [ptr b] ∧ Blk w' g 112 [.int .i64 e]) (fun w3 e3 s3 => ⟨⟨hxl.be e3, hzl.be e3, k2.be e3⟩, ?_⟩)
  have hx3 := hxl.be e3
  have hz3 := hzl.be e3
  have hy3 := hyl.be e3
  have hb3 := hbl.be e3
  have hg3 := k2.be e3
  refine TH_load 0 TE rfl (by kernel_rfl) (by kernel_rfl) (by kernel_rfl) rfl rfl rfl rfl (by rintro w' ⟨h1, h2, h3⟩; first | exact h1 | exact h2 | exact h3) (by exact rfl) ?_; refine TH_load 1 TE rfl (by kernel_rfl) (by kernel_rfl) (by kernel_rfl) rfl rfl rfl rfl (by rintro w' ⟨h1, h2, h3⟩; first | exact h1 | exact h2 | exact h3) (by exact rfl) ?_; refine TH_load 2 TE rfl (by kernel_rfl) (by kernel_rfl) (by kernel_rfl) rfl rfl rfl rfl (by rintro w' ⟨h1, h2, h3⟩; first | exact h1 | exact h2 | exact h3) (by exact rfl) ?_
  refine TH_move 3 rfl (by kernel_rfl) (by kernel_rfl) (by kernel_rfl) rfl rfl ?_
  refine TH_load 4 TE rfl (by kernel_rfl) (by kernel_rfl) (by kernel_rfl) rfl rfl rfl rfl (by rintro w' ⟨h1, h2, h3⟩; first | exact h1 | exact h2 | exact h3) (by exact rfl) ?_
  refine TH_fieldAddr 5 TE rfl (by kernel_rfl) (by kernel_rfl) (by kernel_rfl) rfl rfl rfl rfl rfl rfl ?_
  refine TH_load 6 TE rfl (by kernel_rfl) (by kernel_rfl) (by kernel_rfl) rfl rfl rfl rfl (by rintro w' ⟨h1, h2, h3⟩; first | exact h1 | exact h2 | exact h3) (by exact rfl) ?_; refine TH_load 7 TE rfl (by kernel_rfl) (by kernel_rfl) (by kernel_rfl) rfl rfl rfl rfl (by rintro w' ⟨h1, h2, h3⟩; first | exact h1 | exact h2 | exact h3) (by exact rfl) ?_
  have yg : y < g := Nat.lt_of_lt_of_le hy.lt g1
  have bg : b < g := Nat.lt_of_lt_of_le hb.lt g1
  refine TH_store 8 TE rfl (by kernel_rfl) rfl rfl rfl rfl (by focus ((repeat (first | assumption | (apply Own.rd; assumption) | (apply Rd.blk; assumption; exact rfl) | (apply Blk.be; assumption) | (apply Rd.be; assumption) | (apply Own.be; assumption) | (apply Blk.bm; assumption; focus (first | assumption | (simp only [List.mem_cons, List.not_mem_nil, or_false]; omega))) | (apply Rd.bm; assumption; focus assumption) | (apply Own.bm; assumption; focus assumption))); done)) (by first | decide | (simp; done) | (simp; omega)) ?_; intro w4 m4 s4 k4
  have hx4 := hx3.mod m4 (by simpa using hxy)
  have hz4 := hz3.mod m4 (by simpa using hzy)
  have hg4 := hg3.mod m4 (by simp; omega)
  have hb4 := hb3.mod m4 (by simpa using Ne.symm hyb)
  refine ⟨⟨hx4, hz4, hg4⟩, ?_⟩
  refine TH_nilCheck 9 rfl (by kernel_rfl) (by kernel_rfl) (by kernel_rfl) rfl rfl ?_
  refine TH_fieldAddr 10 TE rfl (by kernel_rfl) (by kernel_rfl) (by kernel_rfl) rfl rfl rfl rfl rfl rfl ?_
  refine TH_store 11 TE rfl (by kernel_rfl) rfl rfl rfl rfl (by focus ((repeat (first | assumption | (apply Own.rd; assumption) | (apply Rd.blk; assumption; exact rfl) | (apply Blk.be; assumption) | (apply Rd.be; assumption) | (apply Own.be; assumption) | (apply Blk.bm; assumption; focus (first | assumption | (simp only [List.mem_cons, List.not_mem_nil, or_false]; omega))) | (apply Rd.bm; assumption; focus assumption) | (apply Own.bm; assumption; focus assumption))); done)) (by first | decide | (simp; done) | (simp; omega)) ?_; intro w5 m5 s5 k5
  have hx5 := hx4.mod m5 (by simpa using hxb)
  have hz5 := hz4.mod m5 (by simpa using hzb)
  have hg5 := hg4.mod m5 (by simp; omega)
  have hy5 := k4.mod m5 (by simpa using hyb)
  refine ⟨⟨hx5, hz5, hg5⟩, ?_⟩
  refine TH_nilCheck 12 rfl (by kernel_rfl) (by kernel_rfl) (by kernel_rfl) rfl rfl ?_
  refine TH_fieldAddr 13 TE rfl (by kernel_rfl) (by kernel_rfl) (by kernel_rfl) rfl rfl rfl rfl rfl rfl ?_
  refine TH_store 14 TE rfl (by kernel_rfl) rfl rfl rfl rfl (by focus ((repeat (first | assumption | (apply Own.rd; assumption) | (apply Rd.blk; assumption; exact rfl) | (apply Blk.be; assumption) | (apply Rd.be; assumption) | (apply Own.be; assumption) | (apply Blk.bm; assumption; focus (first | assumption | (simp only [List.mem_cons, List.not_mem_nil, or_false]; omega))) | (apply Rd.bm; assumption; focus assumption) | (apply Own.bm; assumption; focus assumption))); done)) (by first | decide | (simp; done) | (simp; omega)) ?_; intro w6 m6 s6 k6
  have hx6 := hx5.mod m6 (by simpa using hxb)
  have hz6 := hz5.mod m6 (by simpa using hzb)
  have hg6 := hg5.mod m6 (by simp; omega)
  have hy6 := hy5.mod m6 (by simpa using hyb)
  refine ⟨⟨hx6, hz6, hg6⟩, ?_⟩
  refine TH_nilCheck 15 rfl (by kernel_rfl) (by kernel_rfl) (by kernel_rfl) rfl rfl ?_
  refine TH_fieldAddr 16 TE rfl (by kernel_rfl) (by kernel_rfl) (by kernel_rfl) rfl rfl rfl rfl rfl rfl ?_
  refine TH_store 17 TE rfl (by kernel_rfl) rfl rfl rfl rfl (by focus ((repeat (first | assumption | (apply Own.rd; assumption) | (apply Rd.blk; assumption; exact rfl) | (apply Blk.be; assumption) | (apply Rd.be; assumption) | (apply Own.be; assumption) | (apply Blk.bm; assumption; focus (first | assumption | (simp only [List.mem_cons, List.not_mem_nil, or_false]; omega))) | (apply Rd.bm; assumption; focus assumption) | (apply Own.bm; assumption; focus assumption))); done)) (by first | decide | (simp; done) | (simp; omega)) ?_; intro w7 m7 s7 k7
  have hx7 := hx6.mod m7 (by simpa using hxb)
  have hz7 := hz6.mod m7 (by simpa using hzb)
  have hg7 := hg6.mod m7 (by simp; omega)
  have hy7 := hy6.mod m7 (by simpa using hyb)
  refine ⟨⟨hx7, hz7, hg7⟩, ?_⟩
  refine TH_done (by kernel_rfl) ?_
  have hm : Mod [y, b] w w7 := by
    have a1 : Mod [y, b] w w3 := Ext.mod (Mod.ext e2 e3)
    have a2 := a1.step m4 (fun q hq => .inl (by simp only [List.mem_cons, List.not_mem_nil, or_false] at hq ⊢; omega))
    have a3 := a2.step m5 (fun q hq => .inl (by simp only [List.mem_cons, List.not_mem_nil, or_false] at hq ⊢; omega))
    have a4 := a3.step m6 (fun q hq => .inl (by simp only [List.mem_cons, List.not_mem_nil, or_false] at hq ⊢; omega))
    exact a4.step m7 (fun q hq => .inl (by simp only [List.mem_cons, List.not_mem_nil, or_false] at hq ⊢; omega))
  refine T_end0' rfl ⟨rfl, hm, ⟨k7, Rd.mod0 hr hm ?_, ho, hl, hp, hla, hbig, hcap⟩, hy7⟩
  intro hn0 ad ea hq
  simp only [List.mem_cons, List.not_mem_nil, or_false] at hq
  rcases hq with hq | hq
  · exact hyA hn0 ad ea (by simpa using hq)
  · exact ho ad ea (by simpa using hq)
theorem rd_string {α : Type} (b : Nat) (s : RS) (A : Option Addr) (n c : Nat) (w : World) (g : Nat) (fst cap : List Value) (V : α → Value) (z0 : α) (hV : V z0 = .string ⟨#[]⟩) (hV1 : ∀ x, (V x).oneCell' = true) (t : List UInt8 → Except Int (α × Nat)) (hE : TE.fn g = true) (h : Rdr w 107 b s A n c)
    (hc : ∀ w', Ext w w' → Calls Try.prog g (fst ++ cap).toArray w' (Took w' b s A n c V (t (s.b.drop s.pos)))) :
    Ret Try.prog 90 [ptr b, .func (.func g) fst.toArray cap.toArray] w (fun v w' => v = V (s.take z0 t).1 ∧ Mod [b] w w' ∧ Rdr w' 107 b (s.take z0 t).2 A n c) := by
  have h0 := h
  obtain ⟨hb, hr, ho, hl, hpp, hla, hbig, hcap⟩ := h
  refine ret_T (n := 28) Try.func90 rfl rfl ?_
  repeat (first | refine T_seq ?_ | refine T_region ?_)
  refine TL_box (hk := ?_); intro x1 w1 e1 g1 g1' k1
  --
  refine TL_alloc TE (hk := ?_); intro x2 w2 e2 g2 g2' k2
  have e02 : Ext w w2 := e1.ext e2
  have hb2 := hb.be e02
  have k12 : Blk w2 x1 _ [ptr b] := k1.be e2
  have k22 : Blk w2 x2 _ [.string ⟨#[]⟩] := k2
  have lb := hb.lt
  have ls1 := e1.size
  by_cases he : s.err = 0
  · rw [he] at hb2
    repeat (first | refine T_seq ?_ | refine T_region ?_ | refine T_cond_false rfl ?_ | refine T_skip ?_ | refine TL_ne_f (hk := ?_) | refine TL_pnil_f TE (hk := ?_) | refine TL_nil ?_ | refine TL_move (hk := ?_) | refine TL_load TE (hk := ?_) | refine TL_fieldAddr TE (hk := ?_) | refine TL_yes (hk := ?_) | refine TL_pick_f (hk := ?_) | refine TL_nilCheck (hk := ?_))
    refine TL_alloc TE (hk := ?_); intro x3 w3 e3 g3 g3' k3
    --
    refine TL_store TE (hk := ?_); intro w4 m4 s4 k4
    have e34 : Ext w2 w4 := Mod.step e3 m4 (fun y hy => .inr (by simp only [List.mem_singleton] at hy; omega))
    have e04 : Ext w w4 := e02.ext e34
    have k14 := k12.be e34
    have k24 := k22.be e34
    have k34 : Blk w4 x3 _ [.int .i64 (s.pos : Int)] := k4
    have hc4 := hc w4 e04
    have l12 : x1 < x2 := by omega
    have ls2 := e2.size
    have l23 : x2 < x3 := by omega
    repeat (first | refine T_seq ?_ | refine T_region ?_ | refine TL_nil ?_ | refine TL_makeFunc (hk := ?_))
    refine TL_defer rfl rfl rfl ?_
    repeat (first | refine T_seq ?_ | refine T_region ?_ | refine TL_nil ?_ | refine TL_move (hk := ?_))
    refine TL_callc TE (fst := fst) (cap := cap) (vs := []) rfl rfl hE rfl (by simpa using hc4) ?_ ?_ (fun _ h => h)
    · rintro _ w5 ⟨x, k, hx, rfl, m5, h5⟩
      rw [take_ok he hx]
      have k15 := k14.mod m5 (by simp; omega)
      have k25 := k24.mod m5 (by simp; omega)
      have k35 := k34.mod m5 (by simp; omega)
      obtain ⟨hb5, hr5, _, _, hp5, _, _, _⟩ := h5
      simp only at hb5 hr5 hp5
      refine TL_store TE rfl rfl (hV1 x) rfl (by exact k25) (by decide) (hk := ?_); intro w6 m6 s6 k6
      have k16 := k15.mod m6 (by simp; omega)
      have k36 := k35.mod m6 (by simp; omega)
      have hb6 := hb5.mod m6 (by simp; omega)
      have hr6 := Rd.mod0 hr5 m6 (Rd.offNew hr (by omega))
      repeat (first | refine T_seq ?_ | refine T_region ?_ | refine TL_nil ?_ | refine TL_load TE (hk := ?_) | refine TL_fieldAddr TE (hk := ?_) | refine TL_nilCheck (hk := ?_))
      refine TL_store TE (hk := ?_); intro w7 m7 s7 k7
      have k17 := k16.mod m7 (by simp; omega)
      have k37 := k36.mod m7 (by simp; omega)
      have k27 : Blk w7 x2 _ [V x] := k6.mod m7 (by simp; omega)
      have hr7 := hr6.mod m7 ho
      repeat (first | refine T_seq ?_ | refine T_region ?_ | refine TL_nil ?_ | refine TL_load TE (hk := ?_))
      refine TL_store TE rfl rfl (hV1 x) rfl (by exact k27) (by simp) (hk := ?_); intro w8 m8 s8 k8
      have hb8 := k7.mod m8 (by simp; omega)
      have hr8 := Rd.mod0 hr7 m8 (Rd.offNew hr (by omega))
      have hm : Mod [b] w w8 := by
        have a1 : Mod [b] w w5 := (Ext.mod e04).trans m5
        have a2 := a1.step m6 (fun q hq => .inr (by simp only [List.mem_singleton] at hq; omega))
        have a3 := a2.trans m7
        exact a3.step m8 (fun q hq => .inr (by simp only [List.mem_singleton] at hq; omega))
      repeat (refine TL_nil ?_)
      refine T_leave ?_
      refine LV_defer TE (args := []) (cap := [ptr x3, ptr x2, ptr x1]) rfl (by simp) (rdd0_string w8 x3 x2 x1) ?_ ?_ ?_
      · rintro v u' w9 ⟨rfl, hv, rfl⟩
        refine LV_ret rfl (res1c TE rfl rfl rfl rfl k8 rfl) ?_
        exact ⟨rfl, hm, ⟨hb8, hr8, ho, hl, hp5, hpp, hbig, hcap⟩⟩
      · rintro ch u' w9 ⟨_, hv, _⟩; cases hv
      · rintro u' w9 ⟨_, hv, _⟩; cases hv
    · rintro ch w5 ⟨e, p, hx, rfl, m5, h5⟩
      rw [take_err he hx]
      have k15 := k14.mod m5 (by simp; omega)
      have k25 := k24.mod m5 (by simp; omega)
      have k35 := k34.mod m5 (by simp; omega)
      refine LV_defer TE (args := []) (cap := [ptr x3, ptr x2, ptr x1]) rfl (by simp) (rdd1_string b _ A n c e w5 x3 x2 x1 _ _ _ s.pos _ h5 k35 k25 k15 (by omega) (by omega) (by omega) (by omega) (by omega) (Rd.offNew hr (by omega)) hpp) ?_ ?_ ?_
      · rintro v u' w9 ⟨rfl, hv, m9, h9, k9⟩
        refine LV_ret rfl (res1c TE rfl rfl rfl rfl k9 rfl) ?_
        refine ⟨hV.symm, ?_, h9⟩
        exact ((Ext.mod e04).trans m5).step m9 (fun q hq => by simp only [List.mem_cons, List.not_mem_nil, or_false] at hq ⊢; omega)
      · rintro ch u' w9 ⟨_, hv, _⟩; cases hv
      · rintro u' w9 ⟨_, hv, _⟩; cases hv
  · have hs0 : s.take z0 t = (z0, s) := by unfold RS.take; rw [if_neg he]
    rw [hs0]
    repeat (first | refine T_seq ?_ | refine T_region ?_ | refine T_cond_true rfl ?_ | refine TL_ne_t (hk := ?_) | refine TL_pnil_f TE (hk := ?_) | refine TL_nil ?_ | refine TL_move (hk := ?_) | refine TL_load TE (hk := ?_) | refine TL_fieldAddr TE (hk := ?_) | refine TL_yes (hk := ?_) | refine TL_pick_f (hk := ?_) | refine TL_nilCheck (hk := ?_))
    refine TL_store TE (hk := ?_); intro w3 m3 s3 k3
    have hm : Ext w w3 := Mod.step e02 m3 (fun y hy => .inr (by simp only [List.mem_singleton] at hy; omega))
    repeat (refine TL_nil ?_)
    exact T_ret1c TE rfl rfl rfl rfl k3 rfl ⟨hV.symm, Ext.mod hm, h0.ext hm⟩
theorem rdd0_byte (w : World) (x y z : Nat) : CallsD Try.prog 105 #[ptr x, ptr y, ptr z] .returning w (fun e u w' => u = .returning ∧ e = .returned (.tuple #[]) ∧ w' = w) := by
  refine callsD_recover (n := 32) (args := [ptr x, ptr y, ptr z]) (st := params 0 [ptr x, ptr y, ptr z]) Try.func105 rfl rfl (st_params _ _ 0) rfl (.inl ⟨rfl, rfl, rfl⟩) ?_
  repeat (first | refine T_seq ?_ | refine T_region ?_ | refine T_cond_false rfl ?_ | refine T_skip ?_ | refine TL_ine_f TE (hk := ?_) | refine TL_nil ?_ | refine TL_move (hk := ?_) | refine TL_assign (hk := ?_))
  refine T_end0' rfl ⟨rfl, rfl⟩
theorem rdd1_byte (b : Nat) (s : RS) (A : Option Addr) (n c : Nat) (e : Int) (w : World) (x y z : Nat) (tx ty tz : TypeId) (p : Nat) (v0 : Value) (h : Rdr w 107 b s A n c) (hx : Blk w x tx [.int .i64 (p : Int)]) (hy : Blk w y ty [v0]) (hz : Blk w z tz [ptr b])
    (hyb : y ≠ b) (hxb : x ≠ b) (hzb : z ≠ b) (hxy : x ≠ y) (hzy : z ≠ y) (hyA : 0 < n → Off A [y]) (hp : p ≤ n) :
    CallsD Try.prog 105 #[ptr x, ptr y, ptr z] (.panicking (gave e)) w (fun e' u w' => u = .panicking [{ v := .iface 112 (.agg #[.int .i64 e]), recovered := true }] ∧ e' = .returned (.tuple #[]) ∧ Mod [y, b] w w' ∧ Rdr w' 107 b { s with pos := p, err := e, spot := p } A n c ∧ Blk w' y ty [.int .u8 0]) := by
  refine callsD_recover (n := 32) (args := [ptr x, ptr y, ptr z]) (st := params 0 [ptr x, ptr y, ptr z]) Try.func105 rfl rfl (st_params _ _ 0) rfl (.inr ⟨_, _, rfl, rfl, rfl⟩) ?_
  obtain ⟨hb, hr, ho, hl, hpp, hla, hbig, hcap⟩ := h
  repeat (first | refine T_seq ?_ | refine T_region ?_ | refine T_cond_true rfl ?_ | refine TL_ine_t TE (hk := ?_) | refine TL_nil ?_ | refine TL_move (hk := ?_) | refine TL_assign (hk := ?_) | refine TL_extract (hk := ?_) | refine TL_assert_t TE (hk := ?_))
  refine TL_alloc TE (hk := ?_); intro g w1 e1 g1 g2 kg
  --
  refine TL_store1 TE rfl rfl rfl rfl rfl (by exact kg) (by decide) (hk := ?_); intro w2 m2 s2 k2
  have e2 : Ext w w2 := Mod.step e1 m2 (fun y hy => .inr (by simp only [List.mem_singleton] at hy; omega))
  repeat (first | refine T_seq ?_ | refine T_region ?_ | refine T_cond_false rfl ?_ | refine T_skip ?_ | refine TL_nil ?_ | refine TL_move (hk := ?_) | refine TL_assign (hk := ?_) | refine TL_not (hk := ?_))
  have hxl := hx.be e2
  have hzl := hz.be e2
  have hyl := hy.be e2
  have hbl := hb.be e2
  refine T_region_h TE (fun w' => Blk w' x tx [.int .i64 (p : Int)] ∧ Blk w' z tz [ptr b] ∧ Blk w' g 112 [.int .i64 e]) (fun w3 e3 s3 => ⟨⟨hxl.be e3, hzl.be e3, k2.be e3⟩, ?_⟩)
  have hx3 := hxl.be e3
  have hz3 := hzl.be e3
  have hy3 := hyl.be e3
  have hb3 := hbl.be e3
  have hg3 := k2.be e3
  refine TH_load 0 TE rfl (by kernel_rfl) (by kernel_rfl) (by kernel_rfl) rfl rfl rfl rfl (by rintro w' ⟨h1, h2, h3⟩; first | exact h1 | exact h2 | exact h3) (by exact rfl) ?_; refine TH_load 1 TE rfl (by kernel_rfl) (by kernel_rfl) (by kernel_rfl) rfl rfl rfl rfl (by rintro w' ⟨h1, h2, h3⟩; first | exact h1 | exact h2 | exact h3) (by exact rfl) ?_; refine TH_load 2 TE rfl (by kernel_rfl) (by kernel_rfl) (by kernel_rfl) rfl rfl rfl rfl (by rintro w' ⟨h1, h2, h3⟩; first | exact h1 | exact h2 | exact h3) (by exact rfl) ?_
  refine TH_move 3 rfl (by kernel_rfl) (by kernel_rfl) (by kernel_rfl) rfl rfl ?_
  refine TH_load 4 TE rfl (by kernel_rfl) (by kernel_rfl) (by kernel_rfl) rfl rfl rfl rfl (by rintro w' ⟨h1, h2, h3⟩; first | exact h1 | exact h2 | exact h3) (by exact rfl) ?_
  refine TH_fieldAddr 5 TE rfl (by kernel_rfl) (by kernel_rfl) (by kernel_rfl) rfl rfl rfl rfl rfl rfl ?_
  refine TH_load 6 TE rfl (by kernel_rfl) (by kernel_rfl) (by kernel_rfl) rfl rfl rfl rfl (by rintro w' ⟨h1, h2, h3⟩; first | exact h1 | exact h2 | exact h3) (by exact rfl) ?_; refine TH_load 7 TE rfl (by kernel_rfl) (by kernel_rfl) (by kernel_rfl) rfl rfl rfl rfl (by rintro w' ⟨h1, h2, h3⟩; first | exact h1 | exact h2 | exact h3) (by exact rfl) ?_
  have yg : y < g := Nat.lt_of_lt_of_le hy.lt g1
  have bg : b < g := Nat.lt_of_lt_of_le hb.lt g1
  refine TH_store 8 TE rfl (by kernel_rfl) rfl rfl rfl rfl (by focus ((repeat (first | assumption | (apply Own.rd; assumption) | (apply Rd.blk; assumption; exact rfl) | (apply Blk.be; assumption) | (apply Rd.be; assumption) | (apply Own.be; assumption) | (apply Blk.bm; assumption; focus (first | assumption | (simp only [List.mem_cons, List.not_mem_nil, or_false]; omega))) | (apply Rd.bm; assumption; focus assumption) | (apply Own.bm; assumption; focus assumption))); done)) (by first | decide | (simp; done) | (simp; omega)) ?_; intro w4 m4 s4 k4
  have hx4 := hx3.mod m4 (by simpa using hxy)
  have hz4 := hz3.mod m4 (by simpa using hzy)
  have hg4 := hg3.mod m4 (by simp; omega)
  have hb4 := hb3.mod m4 (by simpa using Ne.symm hyb)
  refine ⟨⟨hx4, hz4, hg4⟩, ?_⟩
  refine TH_nilCheck 9 rfl (by kernel_rfl) (by kernel_rfl) (by kernel_rfl) rfl rfl ?_
  refine TH_fieldAddr 10 TE rfl (by kernel_rfl) (by kernel_rfl) (by kernel_rfl) rfl rfl rfl rfl rfl rfl ?_
  refine TH_store 11 TE rfl (by kernel_rfl) rfl rfl rfl rfl (by focus ((repeat (first | assumption | (apply Own.rd; assumption) | (apply Rd.blk; assumption; exact rfl) | (apply Blk.be; assumption) | (apply Rd.be; assumption) | (apply Own.be; assumption) | (apply Blk.bm; assumption; focus (first | assumption | (simp only [List.mem_cons, List.not_mem_nil, or_false]; omega))) | (apply Rd.bm; assumption; focus assumption) | (apply Own.bm; assumption; focus assumption))); done)) (by first | decide | (simp; done) | (simp; omega)) ?_; intro w5 m5 s5 k5
  have hx5 := hx4.mod m5 (by simpa using hxb)
  have hz5 := hz4.mod m5 (by simpa using hzb)
  have hg5 := hg4.mod m5 (by simp; omega)
  have hy5 := k4.mod m5 (by simpa using hyb)
  refine ⟨⟨hx5, hz5, hg5⟩, ?_⟩
  refine TH_nilCheck 12 rfl (by kernel_rfl) (by kernel_rfl) (by kernel_rfl) rfl rfl ?_
  refine TH_fieldAddr 13 TE rfl (by kernel_rfl) (by kernel_rfl) (by kernel_rfl) rfl rfl rfl rfl rfl rfl ?_
  refine TH_store 14 TE rfl (by kernel_rfl) rfl rfl rfl rfl (by focus ((repeat (first | assumption | (apply Own.rd; assumption) | (apply Rd.blk; assumption; exact rfl) | (apply Blk.be; assumption) | (apply Rd.be; assumption) | (apply Own.be; assumption) | (apply Blk.bm; assumption; focus (first | assumption | (simp only [List.mem_cons, List.not_mem_nil, or_false]; omega))) | (apply Rd.bm; assumption; focus assumption) | (apply Own.bm; assumption; focus assumption))); done)) (by first | decide | (simp; done) | (simp; omega)) ?_; intro w6 m6 s6 k6
  have hx6 := hx5.mod m6 (by simpa using hxb)
  have hz6 := hz5.mod m6 (by simpa using hzb)
  have hg6 := hg5.mod m6 (by simp; omega)
  have hy6 := hy5.mod m6 (by simpa using hyb)
  refine ⟨⟨hx6, hz6, hg6⟩, ?_⟩
  refine TH_nilCheck 15 rfl (by kernel_rfl) (by kernel_rfl) (by kernel_rfl) rfl rfl ?_
  refine TH_fieldAddr 16 TE rfl (by kernel_rfl) (by kernel_rfl) (by kernel_rfl) rfl rfl rfl rfl rfl rfl ?_
  refine TH_store 17 TE rfl (by kernel_rfl) rfl rfl rfl rfl (by focus ((repeat (first | assumption | (apply Own.rd; assumption) | (apply Rd.blk; assumption; exact rfl) | (apply Blk.be; assumption) | (apply Rd.be; assumption) | (apply Own.be; assumption) | (apply Blk.bm; assumption; focus (first | assumption | (simp only [List.mem_cons, List.not_mem_nil, or_false]; omega))) | (apply Rd.bm; assumption; focus assumption) | (apply Own.bm; assumption; focus assumption))); done)) (by first | decide | (simp; done) | (simp; omega)) ?_; intro w7 m7 s7 k7
  have hx7 := hx6.mod m7 (by simpa using hxb)
  have hz7 := hz6.mod m7 (by simpa using hzb)
  have hg7 := hg6.mod m7 (by simp; omega)
  have hy7 := hy6.mod m7 (by simpa using hyb)
  refine ⟨⟨hx7, hz7, hg7⟩, ?_⟩
  refine TH_done (by kernel_rfl) ?_
  have hm : Mod [y, b] w w7 := by
    have a1 : Mod [y, b] w w3 := Ext.mod (Mod.ext e2 e3)
    have a2 := a1.step m4 (fun q hq => .inl (by simp only [List.mem_cons, List.not_mem_nil, or_false] at hq ⊢; omega))
    have a3 := a2.step m5 (fun q hq => .inl (by simp only [List.mem_cons, List.not_mem_nil, or_false] at hq ⊢; omega))
    have a4 := a3.step m6 (fun q hq => .inl (by simp only [List.mem_cons, List.not_mem_nil, or_false] at hq ⊢; omega))
    exact a4.step m7 (fun q hq => .inl (by simp only [List.mem_cons, List.not_mem_nil, or_false] at hq ⊢; omega))
  refine T_end0' rfl ⟨rfl, hm, ⟨k7, Rd.mod0 hr hm ?_, ho, hl, hp, hla, hbig, hcap⟩, hy7⟩
  intro hn0 ad ea hq
  simp only [List.mem_cons, List.not_mem_nil, or_false] at hq
  rcases hq with hq | hq
  · exact hyA hn0 ad ea (by simpa using hq)
  · exact ho ad ea (by simpa using hq)
theorem rd_byte {α : Type} (b : Nat) (s : RS) (A : Option Addr) (n c : Nat) (w : World) (g : Nat) (fst cap : List Value) (V : α → Value) (z0 : α) (hV : V z0 = .int .u8 0) (hV1 : ∀ x, (V x).oneCell' = true) (t : List UInt8 → Except Int (α × Nat)) (hE : TE.fn g = true) (h : Rdr w 107 b s A n c)
    (hc : ∀ w', Ext w w' → Calls Try.prog g (fst ++ cap).toArray w' (Took w' b s A n c V (t (s.b.drop s.pos)))) :
    Ret Try.prog 92 [ptr b, .func (.func g) fst.toArray cap.toArray] w (fun v w' => v = V (s.take z0 t).1 ∧ Mod [b] w w' ∧ Rdr w' 107 b (s.take z0 t).2 A n c) := by
  have h0 := h
  obtain ⟨hb, hr, ho, hl, hpp, hla, hbig, hcap⟩ := h
  refine ret_T (n := 28) Try.func92 rfl rfl ?_
  repeat (first | refine T_seq ?_ | refine T_region ?_)
  refine TL_box (hk := ?_); intro x1 w1 e1 g1 g1' k1
  --
  refine TL_alloc TE (hk := ?_); intro x2 w2 e2 g2 g2' k2
  have e02 : Ext w w2 := e1.ext e2
  have hb2 := hb.be e02
  have k12 : Blk w2 x1 _ [ptr b] := k1.be e2
  have k22 : Blk w2 x2 _ [.int .u8 0] := k2
  have lb := hb.lt
  have ls1 := e1.size
  by_cases he : s.err = 0
  · rw [he] at hb2
    repeat (first | refine T_seq ?_ | refine T_region ?_ | refine T_cond_false rfl ?_ | refine T_skip ?_ | refine TL_ne_f (hk := ?_) | refine TL_pnil_f TE (hk := ?_) | refine TL_nil ?_ | refine TL_move (hk := ?_) | refine TL_load TE (hk := ?_) | refine TL_fieldAddr TE (hk := ?_) | refine TL_yes (hk := ?_) | refine TL_pick_f (hk := ?_) | refine TL_nilCheck (hk := ?_))
    refine TL_alloc TE (hk := ?_); intro x3 w3 e3 g3 g3' k3
    --
    refine TL_store TE (hk := ?_); intro w4 m4 s4 k4
    have e34 : Ext w2 w4 := Mod.step e3 m4 (fun y hy => .inr (by simp only [List.mem_singleton] at hy; omega))
    have e04 : Ext w w4 := e02.ext e34
    have k14 := k12.be e34
    have k24 := k22.be e34
    have k34 : Blk w4 x3 _ [.int .i64 (s.pos : Int)] := k4
    have hc4 := hc w4 e04
    have l12 : x1 < x2 := by omega
    have ls2 := e2.size
    have l23 : x2 < x3 := by omega
    repeat (first | refine T_seq ?_ | refine T_region ?_ | refine TL_nil ?_ | refine TL_makeFunc (hk := ?_))
    refine TL_defer rfl rfl rfl ?_
    repeat (first | refine T_seq ?_ | refine T_region ?_ | refine TL_nil ?_ | refine TL_move (hk := ?_))
    refine TL_callc TE (fst := fst) (cap := cap) (vs := []) rfl rfl hE rfl (by simpa using hc4) ?_ ?_ (fun _ h => h)
    · rintro _ w5 ⟨x, k, hx, rfl, m5, h5⟩
      rw [take_ok he hx]
      have k15 := k14.mod m5 (by simp; omega)
      have k25 := k24.mod m5 (by simp; omega)
      have k35 := k34.mod m5 (by simp; omega)
      obtain ⟨hb5, hr5, _, _, hp5, _, _, _⟩ := h5
      simp only at hb5 hr5 hp5
      refine TL_store TE rfl rfl (hV1 x) rfl (by exact k25) (by decide) (hk := ?_); intro w6 m6 s6 k6
      have k16 := k15.mod m6 (by simp; omega)
      have k36 := k35.mod m6 (by simp; omega)
      have hb6 := hb5.mod m6 (by simp; omega)
      have hr6 := Rd.mod0 hr5 m6 (Rd.offNew hr (by omega))
      repeat (first | refine T_seq ?_ | refine T_region ?_ | refine TL_nil ?_ | refine TL_load TE (hk := ?_) | refine TL_fieldAddr TE (hk := ?_) | refine TL_nilCheck (hk := ?_))
      refine TL_store TE (hk := ?_); intro w7 m7 s7 k7
      have k17 := k16.mod m7 (by simp; omega)
      have k37 := k36.mod m7 (by simp; omega)
      have k27 : Blk w7 x2 _ [V x] := k6.mod m7 (by simp; omega)
      have hr7 := hr6.mod m7 ho
      repeat (first | refine T_seq ?_ | refine T_region ?_ | refine TL_nil ?_ | refine TL_load TE (hk := ?_))
      refine TL_store TE rfl rfl (hV1 x) rfl (by exact k27) (by simp) (hk := ?_); intro w8 m8 s8 k8
      have hb8 := k7.mod m8 (by simp; omega)
      have hr8 := Rd.mod0 hr7 m8 (Rd.offNew hr (by omega))
      have hm : Mod [b] w w8 := by
        have a1 : Mod [b] w w5 := (Ext.mod e04).trans m5
        have a2 := a1.step m6 (fun q hq => .inr (by simp only [List.mem_singleton] at hq; omega))
        have a3 := a2.trans m7
        exact a3.step m8 (fun q hq => .inr (by simp only [List.mem_singleton] at hq; omega))
      repeat (refine TL_nil ?_)
      refine T_leave ?_
      refine LV_defer TE (args := []) (cap := [ptr x3, ptr x2, ptr x1]) rfl (by simp) (rdd0_byte w8 x3 x2 x1) ?_ ?_ ?_
      · rintro v u' w9 ⟨rfl, hv, rfl⟩
        refine LV_ret rfl (res1c TE rfl rfl rfl rfl k8 rfl) ?_
        exact ⟨rfl, hm, ⟨hb8, hr8, ho, hl, hp5, hpp, hbig, hcap⟩⟩
      · rintro ch u' w9 ⟨_, hv, _⟩; cases hv
      · rintro u' w9 ⟨_, hv, _⟩; cases hv
    · rintro ch w5 ⟨e, p, hx, rfl, m5, h5⟩
      rw [take_err he hx]
      have k15 := k14.mod m5 (by simp; omega)
      have k25 := k24.mod m5 (by simp; omega)
      have k35 := k34.mod m5 (by simp; omega)
      refine LV_defer TE (args := []) (cap := [ptr x3, ptr x2, ptr x1]) rfl (by simp) (rdd1_byte b _ A n c e w5 x3 x2 x1 _ _ _ s.pos _ h5 k35 k25 k15 (by omega) (by omega) (by omega) (by omega) (by omega) (Rd.offNew hr (by omega)) hpp) ?_ ?_ ?_
      · rintro v u' w9 ⟨rfl, hv, m9, h9, k9⟩
        refine LV_ret rfl (res1c TE rfl rfl rfl rfl k9 rfl) ?_
        refine ⟨hV.symm, ?_, h9⟩
        exact ((Ext.mod e04).trans m5).step m9 (fun q hq => by simp only [List.mem_cons, List.not_mem_nil, or_false] at hq ⊢; omega)
      · rintro ch u' w9 ⟨_, hv, _⟩; cases hv
      · rintro u' w9 ⟨_, hv, _⟩; cases hv
  · have hs0 : s.take z0 t = (z0, s) := by unfold RS.take; rw [if_neg he]
    rw [hs0]
    repeat (first | refine T_seq ?_ | refine T_region ?_ | refine T_cond_true rfl ?_ | refine TL_ne_t (hk := ?_) | refine TL_pnil_f TE (hk := ?_) | refine TL_nil ?_ | refine TL_move (hk := ?_) | refine TL_load TE (hk := ?_) | refine TL_fieldAddr TE (hk := ?_) | refine TL_yes (hk := ?_) | refine TL_pick_f (hk := ?_) | refine TL_nilCheck (hk := ?_))
    refine TL_store TE (hk := ?_); intro w3 m3 s3 k3
    have hm : Ext w w3 := Mod.step e02 m3 (fun y hy => .inr (by simp only [List.mem_singleton] at hy; omega))
    repeat (refine TL_nil ?_)
    exact T_ret1c TE rfl rfl rfl rfl k3 rfl ⟨hV.symm, Ext.mod hm, h0.ext hm⟩
theorem rdd0_int (w : World) (x y z : Nat) : CallsD Try.prog 102 #[ptr x, ptr y, ptr z] .returning w (fun e u w' => u = .returning ∧ e = .returned (.tuple #[]) ∧ w' = w) := by
  refine callsD_recover (n := 32) (args := [ptr x, ptr y, ptr z]) (st := params 0 [ptr x, ptr y, ptr z]) Try.func102 rfl rfl (st_params _ _ 0) rfl (.inl ⟨rfl, rfl, rfl⟩) ?_
  repeat (first | refine T_seq ?_ | refine T_region ?_ | refine T_cond_false rfl ?_ | refine T_skip ?_ | refine TL_ine_f TE (hk := ?_) | refine TL_nil ?_ | refine TL_move (hk := ?_) | refine TL_assign (hk := ?_))
  refine T_end0' rfl ⟨rfl, rfl⟩
theorem rdd1_int (b : Nat) (s : RS) (A : Option Addr) (n c : Nat) (e : Int) (w : World) (x y z : Nat) (tx ty tz : TypeId) (p : Nat) (v0 : Value) (h : Rdr w 107 b s A n c) (hx : Blk w x tx [.int .i64 (p : Int)]) (hy : Blk w y ty [v0]) (hz : Blk w z tz [ptr b])
    (hyb : y ≠ b) (hxb : x ≠ b) (hzb : z ≠ b) (hxy : x ≠ y) (hzy : z ≠ y) (hyA : 0 < n → Off A [y]) (hp : p ≤ n) :
    CallsD Try.prog 102 #[ptr x, ptr y, ptr z] (.panicking (gave e)) w (fun e' u w' => u = .panicking [{ v := .iface 112 (.agg #[.int .i64 e]), recovered := true }] ∧ e' = .returned (.tuple #[]) ∧ Mod [y, b] w w' ∧ Rdr w' 107 b { s with pos := p, err := e, spot := p } A n c ∧ Blk w' y ty [.int .i64 0]) := by
  refine callsD_recover (n := 32) (args := [ptr x, ptr y, ptr z]) (st := params 0 [ptr x, ptr y, ptr z]) Try.func102 rfl rfl (st_params _ _ 0) rfl (.inr ⟨_, _, rfl, rfl, rfl⟩) ?_
  obtain ⟨hb, hr, ho, hl, hpp, hla, hbig, hcap⟩ := h
  repeat (first | refine T_seq ?_ | refine T_region ?_ | refine T_cond_true rfl ?_ | refine TL_ine_t TE (hk := ?_) | refine TL_nil ?_ | refine TL_move (hk := ?_) | refine TL_assign (hk := ?_) | refine TL_extract (hk := ?_) | refine TL_assert_t TE (hk := ?_))
  refine TL_alloc TE (hk := ?_); intro g w1 e1 g1 g2 kg
  --
  refine TL_store1 TE rfl rfl rfl rfl rfl (by exact kg) (by decide) (hk := ?_); intro w2 m2 s2 k2
  have e2 : Ext w w2 := Mod.step e1 m2 (fun y hy => .inr (by simp only [List.mem_singleton] at hy; omega))
  repeat (first | refine T_seq ?_ | refine T_region ?_ | refine T_cond_false rfl ?_ | refine T_skip ?_ | refine TL_nil ?_ | refine TL_move (hk := ?_) | refine TL_assign (hk := ?_) | refine TL_not (hk := ?_))
  have hxl := hx.be e2
  have hzl := hz.be e2
  have hyl := hy.be e2
  have hbl := hb.be e2
  refine T_region_h TE (fun w' => Blk w' x tx [.int .i64 (p : Int)] ∧ Blk w' z tz [ptr b] ∧ Blk w' g 112 [.int .i64 e]) (fun w3 e3 s3 => ⟨⟨hxl.be e3, hzl.be e3, k2.be e3⟩, ?_⟩)
  have hx3 := hxl.be e3
  have hz3 := hzl.be e3
  have hy3 := hyl.be e3
  have hb3 := hbl.be e3
  have hg3 := k2.be e3
  refine TH_load 0 TE rfl (by kernel_rfl) (by kernel_rfl) (by kernel_rfl) rfl rfl rfl rfl (by rintro w' ⟨h1, h2, h3⟩; first | exact h1 | exact h2 | exact h3) (by exact rfl) ?_; refine TH_load 1 TE rfl (by kernel_rfl) (by kernel_rfl) (by kernel_rfl) rfl rfl rfl rfl (by rintro w' ⟨h1, h2, h3⟩; first | exact h1 | exact h2 | exact h3) (by exact rfl) ?_; refine TH_load 2 TE rfl (by kernel_rfl) (by kernel_rfl) (by kernel_rfl) rfl rfl rfl rfl (by rintro w' ⟨h1, h2, h3⟩; first | exact h1 | exact h2 | exact h3) (by exact rfl) ?_
  refine TH_move 3 rfl (by kernel_rfl) (by kernel_rfl) (by kernel_rfl) rfl rfl ?_
  refine TH_load 4 TE rfl (by kernel_rfl) (by kernel_rfl) (by kernel_rfl) rfl rfl rfl rfl (by rintro w' ⟨h1, h2, h3⟩; first | exact h1 | exact h2 | exact h3) (by exact rfl) ?_
  refine TH_fieldAddr 5 TE rfl (by kernel_rfl) (by kernel_rfl) (by kernel_rfl) rfl rfl rfl rfl rfl rfl ?_
  refine TH_load 6 TE rfl (by kernel_rfl) (by kernel_rfl) (by kernel_rfl) rfl rfl rfl rfl (by rintro w' ⟨h1, h2, h3⟩; first | exact h1 | exact h2 | exact h3) (by exact rfl) ?_; refine TH_load 7 TE rfl (by kernel_rfl) (by kernel_rfl) (by kernel_rfl) rfl rfl rfl rfl (by rintro w' ⟨h1, h2, h3⟩; first | exact h1 | exact h2 | exact h3) (by exact rfl) ?_
  have yg : y < g := Nat.lt_of_lt_of_le hy.lt g1
  have bg : b < g := Nat.lt_of_lt_of_le hb.lt g1
  refine TH_store 8 TE rfl (by kernel_rfl) rfl rfl rfl rfl (by focus ((repeat (first | assumption | (apply Own.rd; assumption) | (apply Rd.blk; assumption; exact rfl) | (apply Blk.be; assumption) | (apply Rd.be; assumption) | (apply Own.be; assumption) | (apply Blk.bm; assumption; focus (first | assumption | (simp only [List.mem_cons, List.not_mem_nil, or_false]; omega))) | (apply Rd.bm; assumption; focus assumption) | (apply Own.bm; assumption; focus assumption))); done)) (by first | decide | (simp; done) | (simp; omega)) ?_; intro w4 m4 s4 k4
  have hx4 := hx3.mod m4 (by simpa using hxy)
  have hz4 := hz3.mod m4 (by simpa using hzy)
  have hg4 := hg3.mod m4 (by simp; omega)
  have hb4 := hb3.mod m4 (by simpa using Ne.symm hyb)
  refine ⟨⟨hx4, hz4, hg4⟩, ?_⟩
  refine TH_nilCheck 9 rfl (by kernel_rfl) (by kernel_rfl) (by kernel_rfl) rfl rfl ?_
  refine TH_fieldAddr 10 TE rfl (by kernel_rfl) (by kernel_rfl) (by kernel_rfl) rfl rfl rfl rfl rfl rfl ?_
  refine TH_store 11 TE rfl (by kernel_rfl) rfl rfl rfl rfl (by focus ((repeat (first | assumption | (apply Own.rd; assumption) | (apply Rd.blk; assumption; exact rfl) | (apply Blk.be; assumption) | (apply Rd.be; assumption) | (apply Own.be; assumption) | (apply Blk.bm; assumption; focus (first | assumption | (simp only [List.mem_cons, List.not_mem_nil, or_false]; omega))) | (apply Rd.bm; assumption; focus assumption) | (apply Own.bm; assumption; focus assumption))); done)) (by first | decide | (simp; done) | (simp; omega)) ?_; intro w5 m5 s5 k5
  have hx5 := hx4.mod m5 (by simpa using hxb)
  have hz5 := hz4.mod m5 (by simpa using hzb)
  have hg5 := hg4.mod m5 (by simp; omega)
  have hy5 := k4.mod m5 (by simpa using hyb)
  refine ⟨⟨hx5, hz5, hg5⟩, ?_⟩
  refine TH_nilCheck 12 rfl (by kernel_rfl) (by kernel_rfl) (by kernel_rfl) rfl rfl ?_
  refine TH_fieldAddr 13 TE rfl (by kernel_rfl) (by kernel_rfl) (by kernel_rfl) rfl rfl rfl rfl rfl rfl ?_
  refine TH_store 14 TE rfl (by kernel_rfl) rfl rfl rfl rfl (by focus ((repeat (first | assumption | (apply Own.rd; assumption) | (apply Rd.blk; assumption; exact rfl) | (apply Blk.be; assumption) | (apply Rd.be; assumption) | (apply Own.be; assumption) | (apply Blk.bm; assumption; focus (first | assumption | (simp only [List.mem_cons, List.not_mem_nil, or_false]; omega))) | (apply Rd.bm; assumption; focus assumption) | (apply Own.bm; assumption; focus assumption))); done)) (by first | decide | (simp; done) | (simp; omega)) ?_; intro w6 m6 s6 k6
  have hx6 := hx5.mod m6 (by simpa using hxb)
  have hz6 := hz5.mod m6 (by simpa using hzb)
  have hg6 := hg5.mod m6 (by simp; omega)
  have hy6 := hy5.mod m6 (by simpa using hyb)
  refine ⟨⟨hx6, hz6, hg6⟩, ?_⟩
  refine TH_nilCheck 15 rfl (by kernel_rfl) (by kernel_rfl) (by kernel_rfl) rfl rfl ?_
  refine TH_fieldAddr 16 TE rfl (by kernel_rfl) (by kernel_rfl) (by kernel_rfl) rfl rfl rfl rfl rfl rfl ?_
  refine TH_store 17 TE rfl (by kernel_rfl) rfl rfl rfl rfl (by focus ((repeat (first | assumption | (apply Own.rd; assumption) | (apply Rd.blk; assumption; exact rfl) | (apply Blk.be; assumption) | (apply Rd.be; assumption) | (apply Own.be; assumption) | (apply Blk.bm; assumption; focus (first | assumption | (simp only [List.mem_cons, List.not_mem_nil, or_false]; omega))) | (apply Rd.bm; assumption; focus assumption) | (apply Own.bm; assumption; focus assumption))); done)) (by first | decide | (simp; done) | (simp; omega)) ?_; intro w7 m7 s7 k7
  have hx7 := hx6.mod m7 (by simpa using hxb)
  have hz7 := hz6.mod m7 (by simpa using hzb)
  have hg7 := hg6.mod m7 (by simp; omega)
  have hy7 := hy6.mod m7 (by simpa using hyb)
  refine ⟨⟨hx7, hz7, hg7⟩, ?_⟩
  refine TH_done (by kernel_rfl) ?_
  have hm : Mod [y, b] w w7 := by
    have a1 : Mod [y, b] w w3 := Ext.mod (Mod.ext e2 e3)
    have a2 := a1.step m4 (fun q hq => .inl (by simp only [List.mem_cons, List.not_mem_nil, or_false] at hq ⊢; omega))
    have a3 := a2.step m5 (fun q hq => .inl (by simp only [List.mem_cons, List.not_mem_nil, or_false] at hq ⊢; omega))
    have a4 := a3.step m6 (fun q hq => .inl (by simp only [List.mem_cons, List.not_mem_nil, or_false] at hq ⊢; omega))
    exact a4.step m7 (fun q hq => .inl (by simp only [List.mem_cons, List.not_mem_nil, or_false] at hq ⊢; omega))
  refine T_end0' rfl ⟨rfl, hm, ⟨k7, Rd.mod0 hr hm ?_, ho, hl, hp, hla, hbig, hcap⟩, hy7⟩
  intro hn0 ad ea hq
  simp only [List.mem_cons, List.not_mem_nil, or_false] at hq
  rcases hq with hq | hq
  · exact hyA hn0 ad ea (by simpa using hq)
  · exact ho ad ea (by simpa using hq)
theorem rd_int {α : Type} (b : Nat) (s : RS) (A : Option Addr) (n c : Nat) (w : World) (g : Nat) (fst cap : List Value) (V : α → Value) (z0 : α) (hV : V z0 = .int .i64 0) (hV1 : ∀ x, (V x).oneCell' = true) (t : List UInt8 → Except Int (α × Nat)) (hE : TE.fn g = true) (h : Rdr w 107 b s A n c)
    (hc : ∀ w', Ext w w' → Calls Try.prog g (fst ++ cap).toArray w' (Took w' b s A n c V (t (s.b.drop s.pos)))) :
    Ret Try.prog 87 [ptr b, .func (.func g) fst.toArray cap.toArray] w (fun v w' => v = V (s.take z0 t).1 ∧ Mod [b] w w' ∧ Rdr w' 107 b (s.take z0 t).2 A n c) := by
  have h0 := h
  obtain ⟨hb, hr, ho, hl, hpp, hla, hbig, hcap⟩ := h
  refine ret_T (n := 28) Try.func87 rfl rfl ?_
  repeat (first | refine T_seq ?_ | refine T_region ?_)
  refine TL_box (hk := ?_); intro x1 w1 e1 g1 g1' k1
  --
  refine TL_alloc TE (hk := ?_); intro x2 w2 e2 g2 g2' k2
  have e02 : Ext w w2 := e1.ext e2
  have hb2 := hb.be e02
  have k12 : Blk w2 x1 _ [ptr b] := k1.be e2
  have k22 : Blk w2 x2 _ [.int .i64 0] := k2
  have lb := hb.lt
  have ls1 := e1.size
  by_cases he : s.err = 0
  · rw [he] at hb2
    repeat (first | refine T_seq ?_ | refine T_region ?_ | refine T_cond_false rfl ?_ | refine T_skip ?_ | refine TL_ne_f (hk := ?_) | refine TL_pnil_f TE (hk := ?_) | refine TL_nil ?_ | refine TL_move (hk := ?_) | refine TL_load TE (hk := ?_) | refine TL_fieldAddr TE (hk := ?_) | refine TL_yes (hk := ?_) | refine TL_pick_f (hk := ?_) | refine TL_nilCheck (hk := ?_))
    refine TL_alloc TE (hk := ?_); intro x3 w3 e3 g3 g3' k3
    --
    refine TL_store TE (hk := ?_); intro w4 m4 s4 k4
    have e34 : Ext w2 w4 := Mod.step e3 m4 (fun y hy => .inr (by simp only [List.mem_singleton] at hy; omega))
    have e04 : Ext w w4 := e02.ext e34
    have k14 := k12.be e34
    have k24 := k22.be e34
    have k34 : Blk w4 x3 _ [.int .i64 (s.pos : Int)] := k4
    have hc4 := hc w4 e04
    have l12 : x1 < x2 := by omega
    have ls2 := e2.size
    have l23 : x2 < x3 := by omega
    repeat (first | refine T_seq ?_ | refine T_region ?_ | refine TL_nil ?_ | refine TL_makeFunc (hk := ?_))
    refine TL_defer rfl rfl rfl ?_
    repeat (first | refine T_seq ?_ | refine T_region ?_ | refine TL_nil ?_ | refine TL_move (hk := ?_))
    refine TL_callc TE (fst := fst) (cap := cap) (vs := []) rfl rfl hE rfl (by simpa using hc4) ?_ ?_ (fun _ h => h)
    · rintro _ w5 ⟨x, k, hx, rfl, m5, h5⟩
      rw [take_ok he hx]
      have k15 := k14.mod m5 (by simp; omega)
      have k25 := k24.mod m5 (by simp; omega)
      have k35 := k34.mod m5 (by simp; omega)
      obtain ⟨hb5, hr5, _, _, hp5, _, _, _⟩ := h5
      simp only at hb5 hr5 hp5
      refine TL_store TE rfl rfl (hV1 x) rfl (by exact k25) (by decide) (hk := ?_); intro w6 m6 s6 k6
      have k16 := k15.mod m6 (by simp; omega)
      have k36 := k35.mod m6 (by simp; omega)
      have hb6 := hb5.mod m6 (by simp; omega)
      have hr6 := Rd.mod0 hr5 m6 (Rd.offNew hr (by omega))
      repeat (first | refine T_seq ?_ | refine T_region ?_ | refine TL_nil ?_ | refine TL_load TE (hk := ?_) | refine TL_fieldAddr TE (hk := ?_) | refine TL_nilCheck (hk := ?_))
      refine TL_store TE (hk := ?_); intro w7 m7 s7 k7
      have k17 := k16.mod m7 (by simp; omega)
      have k37 := k36.mod m7 (by simp; omega)
      have k27 : Blk w7 x2 _ [V x] := k6.mod m7 (by simp; omega)
      have hr7 := hr6.mod m7 ho
      repeat (first | refine T_seq ?_ | refine T_region ?_ | refine TL_nil ?_ | refine TL_load TE (hk := ?_))
      refine TL_store TE rfl rfl (hV1 x) rfl (by exact k27) (by simp) (hk := ?_); intro w8 m8 s8 k8
      have hb8 := k7.mod m8 (by simp; omega)
      have hr8 := Rd.mod0 hr7 m8 (Rd.offNew hr (by omega))
      have hm : Mod [b] w w8 := by
        have a1 : Mod [b] w w5 := (Ext.mod e04).trans m5
        have a2 := a1.step m6 (fun q hq => .inr (by simp only [List.mem_singleton] at hq; omega))
        have a3 := a2.trans m7
        exact a3.step m8 (fun q hq => .inr (by simp only [List.mem_singleton] at hq; omega))
      repeat (refine TL_nil ?_)
      refine T_leave ?_
      refine LV_defer TE (args := []) (cap := [ptr x3, ptr x2, ptr x1]) rfl (by simp) (rdd0_int w8 x3 x2 x1) ?_ ?_ ?_
      · rintro v u' w9 ⟨rfl, hv, rfl⟩
        refine LV_ret rfl (res1c TE rfl rfl rfl rfl k8 rfl) ?_
        exact ⟨rfl, hm, ⟨hb8, hr8, ho, hl, hp5, hpp, hbig, hcap⟩⟩
      · rintro ch u' w9 ⟨_, hv, _⟩; cases hv
      · rintro u' w9 ⟨_, hv, _⟩; cases hv
    · rintro ch w5 ⟨e, p, hx, rfl, m5, h5⟩
      rw [take_err he hx]
      have k15 := k14.mod m5 (by simp; omega)
      have k25 := k24.mod m5 (by simp; omega)
      have k35 := k34.mod m5 (by simp; omega)
      refine LV_defer TE (args := []) (cap := [ptr x3, ptr x2, ptr x1]) rfl (by simp) (rdd1_int b _ A n c e w5 x3 x2 x1 _ _ _ s.pos _ h5 k35 k25 k15 (by omega) (by omega) (by omega) (by omega) (by omega) (Rd.offNew hr (by omega)) hpp) ?_ ?_ ?_
      · rintro v u' w9 ⟨rfl, hv, m9, h9, k9⟩
        refine LV_ret rfl (res1c TE rfl rfl rfl rfl k9 rfl) ?_
        refine ⟨hV.symm, ?_, h9⟩
        exact ((Ext.mod e04).trans m5).step m9 (fun q hq => by simp only [List.mem_cons, List.not_mem_nil, or_false] at hq ⊢; omega)
      · rintro ch u' w9 ⟨_, hv, _⟩; cases hv
      · rintro u' w9 ⟨_, hv, _⟩; cases hv
  · have hs0 : s.take z0 t = (z0, s) := by unfold RS.take; rw [if_neg he]
    rw [hs0]
    repeat (first | refine T_seq ?_ | refine T_region ?_ | refine T_cond_true rfl ?_ | refine TL_ne_t (hk := ?_) | refine TL_pnil_f TE (hk := ?_) | refine TL_nil ?_ | refine TL_move (hk := ?_) | refine TL_load TE (hk := ?_) | refine TL_fieldAddr TE (hk := ?_) | refine TL_yes (hk := ?_) | refine TL_pick_f (hk := ?_) | refine TL_nilCheck (hk := ?_))
    refine TL_store TE (hk := ?_); intro w3 m3 s3 k3
    have hm : Ext w w3 := Mod.step e02 m3 (fun y hy => .inr (by simp only [List.mem_singleton] at hy; omega))
    repeat (refine TL_nil ?_)
    exact T_ret1c TE rfl rfl rfl rfl k3 rfl ⟨hV.symm, Ext.mod hm, h0.ext hm⟩
end Go.Proofs.Ytfplmpfdhiagaaa

namespace Go.Proofs.Ytfplmpfdhiagaaa
open Go.RowKit Go.Proofs.Eng Go.Proofs.Codec
set_option linter.unusedSimpArgs false
set_option linter.unusedVariables false
attribute [local irreducible] T TL LV TH TA
set_option maxHeartbeats 1000000






























theorem rdn_string (w : World) (f : Fn) (fst cap : List Value) :
    Ret Try.prog 90 [.pointer none, .func f fst.toArray cap.toArray] w (fun v w' => v = .string ⟨#[]⟩ ∧ Ext w w') := by
  refine ret_T (n := 28) Try.func90 rfl rfl ?_
  repeat (first | refine T_seq ?_ | refine T_region ?_)
  refine TL_box (hk := ?_); intro x1 w1 e1 g1 g1' k1
  --
  refine TL_alloc TE (hk := ?_); intro x2 w2 e2 g2 g2' k2
  have k12 := k1.be e2
  have e02 : Ext w w2 := e1.ext e2
  have ls1 := e1.size
  repeat (first | refine T_seq ?_ | refine T_region ?_ | refine T_cond_true rfl ?_ | refine TL_pnil_t TE (hk := ?_) | refine TL_nil ?_ | refine TL_move (hk := ?_) | refine TL_load TE (hk := ?_) | refine TL_no (hk := ?_) | refine TL_pick_t (hk := ?_))
  refine TL_store TE (hk := ?_); intro w3 m3 s3 k3
  have hm : Ext w w3 := Mod.step e02 m3 (fun y hy => .inr (by simp only [List.mem_singleton] at hy; omega))
  repeat (refine TL_nil ?_)
  exact T_ret1c TE rfl rfl rfl rfl k3 rfl ⟨rfl, hm⟩
theorem rdn_byte (w : World) (f : Fn) (fst cap : List Value) :
    Ret Try.prog 92 [.pointer none, .func f fst.toArray cap.toArray] w (fun v w' => v = .int .u8 0 ∧ Ext w w') := by
  refine ret_T (n := 28) Try.func92 rfl rfl ?_
  repeat (first | refine T_seq ?_ | refine T_region ?_)
  refine TL_box (hk := ?_); intro x1 w1 e1 g1 g1' k1
  --
  refine TL_alloc TE (hk := ?_); intro x2 w2 e2 g2 g2' k2
  have k12 := k1.be e2
  have e02 : Ext w w2 := e1.ext e2
  have ls1 := e1.size
  repeat (first | refine T_seq ?_ | refine T_region ?_ | refine T_cond_true rfl ?_ | refine TL_pnil_t TE (hk := ?_) | refine TL_nil ?_ | refine TL_move (hk := ?_) | refine TL_load TE (hk := ?_) | refine TL_no (hk := ?_) | refine TL_pick_t (hk := ?_))
  refine TL_store TE (hk := ?_); intro w3 m3 s3 k3
  have hm : Ext w w3 := Mod.step e02 m3 (fun y hy => .inr (by simp only [List.mem_singleton] at hy; omega))
  repeat (refine TL_nil ?_)
  exact T_ret1c TE rfl rfl rfl rfl k3 rfl ⟨rfl, hm⟩
theorem rdn_int (w : World) (f : Fn) (fst cap : List Value) :
    Ret Try.prog 87 [.pointer none, .func f fst.toArray cap.toArray] w (fun v w' => v = .int .i64 0 ∧ Ext w w') := by
  refine ret_T (n := 28) Try.func87 rfl rfl ?_
  repeat (first | refine T_seq ?_ | refine T_region ?_)
  refine TL_box (hk := ?_); intro x1 w1 e1 g1 g1' k1
  --
  refine TL_alloc TE (hk := ?_); intro x2 w2 e2 g2 g2' k2
  have k12 := k1.be e2
  have e02 : Ext w w2 := e1.ext e2
  have ls1 := e1.size
  repeat (first | refine T_seq ?_ | refine T_region ?_ | refine T_cond_true rfl ?_ | refine TL_pnil_t TE (hk := ?_) | refine TL_nil ?_ | refine TL_move (hk := ?_) | refine TL_load TE (hk := ?_) | refine TL_no (hk := ?_) | refine TL_pick_t (hk := ?_))
  refine TL_store TE (hk := ?_); intro w3 m3 s3 k3
  have hm : Ext w w3 := Mod.step e02 m3 (fun y hy => .inr (by simp only [List.mem_singleton] at hy; omega))
  repeat (refine TL_nil ?_)
  exact T_ret1c TE rfl rfl rfl rfl k3 rfl ⟨rfl, hm⟩
end Go.Proofs.Ytfplmpfdhiagaaa

namespace Go.Proofs.Ytfplmpfdhiagaaa
open Go.RowKit Go.Proofs.Eng Go.Proofs.Codec
set_option linter.unusedSimpArgs false
set_option linter.unusedVariables false
attribute [local irreducible] T TL LV TH TA
set_option maxHeartbeats 1000000
theorem Byte_c (b : Nat) (s : RS) (A : Option Addr) (n c : Nat) (w : World) (h : Rdr w 107 b s A n c) :
    Ret Try.prog 66 [ptr b] w (fun v w' => v = (fun x : Nat => Value.int .u8 (x : Int)) (s.take (0 : Nat) tByte).1 ∧ Mod [b] w w' ∧ Rdr w' 107 b (s.take (0 : Nat) tByte).2 A n c) := by
  refine ret_T (n := 7) Try.func66 rfl rfl ?_
  repeat (first | refine T_seq ?_ | refine T_region ?_ | refine TL_nil ?_ | refine TL_move (hk := ?_) | refine TL_assign (hk := ?_) | refine TL_makeFunc (hk := ?_))
  refine TL_call TE (hc := rd_byte b s A n c w 93 [ptr b] [] (fun x : Nat => Value.int .u8 (x : Int)) (0 : Nat) rfl (fun _ => rfl) tByte rfl h (fun w' e => byte_c b s A n c w' (h.ext e))) (hk := ?_)
  rintro _ w1 ⟨rfl, m1, h1⟩
  repeat (first | refine TL_nil ?_ | refine TL_assign (hk := ?_))
  exact T_ret1 rfl rfl ⟨rfl, m1, h1⟩
theorem Byte_n (w : World) : Ret Try.prog 66 [.pointer none] w (fun v w' => v = (fun x : Nat => Value.int .u8 (x : Int)) (0 : Nat) ∧ Ext w w') := by
  refine ret_T (n := 7) Try.func66 rfl rfl ?_
  repeat (first | refine T_seq ?_ | refine T_region ?_ | refine TL_nil ?_ | refine TL_move (hk := ?_) | refine TL_assign (hk := ?_) | refine TL_makeFunc (hk := ?_))
  refine TL_call TE (hc := rdn_byte w (.func 93) [.pointer none] []) (hk := ?_)
  rintro _ w1 ⟨rfl, m1⟩
  repeat (first | refine TL_nil ?_ | refine TL_assign (hk := ?_))
  exact T_ret1 rfl rfl ⟨rfl, m1⟩






























theorem Count_c (b : Nat) (s : RS) (A : Option Addr) (n c : Nat) (most : Int) (hmo : -9223372036854775808 ≤ most ∧ most ≤ 9223372036854775807) (w : World) (h : Rdr w 107 b s A n c) :
    Ret Try.prog 63 [ptr b, .int .i64 most] w (fun v w' => v = (fun x : Nat => Value.int .i64 (x : Int)) (s.take (0 : Nat) (tLim most 6)).1 ∧ Mod [b] w w' ∧ Rdr w' 107 b (s.take (0 : Nat) (tLim most 6)).2 A n c) := by
  refine ret_T (n := 8) Try.func63 rfl rfl ?_
  repeat (first | refine T_seq ?_ | refine T_region ?_)
  refine TL_box (hk := ?_); intro x1 w1 e1 g1 g1' k1
  --
  refine TL_box (hk := ?_); intro x2 w2 e2 g2 g2' k2
  have k12 : Blk w2 x1 _ [ptr b] := k1.be e2
  have k22 : Blk w2 x2 _ [.int .i64 most] := k2
  have e02 : Ext w w2 := e1.ext e2
  have lb := h.blk.lt
  repeat (first | refine T_seq ?_ | refine T_region ?_ | refine TL_nil ?_ | refine TL_assign (hk := ?_) | refine TL_load TE (hk := ?_) | refine TL_makeFunc (hk := ?_))
  refine TL_call TE (hc := rd_int b s A n c w2 88 [] [ptr x1, ptr x2] (fun x : Nat => Value.int .i64 (x : Int)) (0 : Nat) rfl (fun _ => rfl) (tLim most 6) rfl (h.ext e02) (fun w' e => Count1_c b x1 x2 _ _ s A n c most hmo w' ((h.ext e02).ext e) (k12.ext e) (k22.ext e) )) (hk := ?_)
  rintro _ w3 ⟨rfl, m3, h3⟩
  repeat (first | refine TL_nil ?_ | refine TL_assign (hk := ?_))
  exact T_ret1 rfl rfl ⟨rfl, (Ext.mod e02).trans m3, h3⟩
theorem Count_n (most : Int) (w : World) : Ret Try.prog 63 [.pointer none, .int .i64 most] w (fun v w' => v = (fun x : Nat => Value.int .i64 (x : Int)) (0 : Nat) ∧ Ext w w') := by
  refine ret_T (n := 8) Try.func63 rfl rfl ?_
  repeat (first | refine T_seq ?_ | refine T_region ?_)
  refine TL_box (hk := ?_); intro x1 w1 e1 g1 g1' k1
  --
  refine TL_box (hk := ?_); intro x2 w2 e2 g2 g2' k2
  have k12 := k1.be e2
  repeat (first | refine T_seq ?_ | refine T_region ?_ | refine TL_nil ?_ | refine TL_assign (hk := ?_) | refine TL_load TE (hk := ?_) | refine TL_makeFunc (hk := ?_))
  refine TL_call TE (hc := rdn_int w2 (.func 88) [] [ptr x1, ptr x2]) (hk := ?_)
  rintro _ w3 ⟨rfl, m3⟩
  repeat (first | refine TL_nil ?_ | refine TL_assign (hk := ?_))
  exact T_ret1 rfl rfl ⟨rfl, (e1.ext e2).ext m3⟩
theorem Text_c (b : Nat) (s : RS) (A : Option Addr) (n c : Nat) (most : Int) (hmo : -9223372036854775808 ≤ most ∧ most ≤ 9223372036854775807) (w : World) (h : Rdr w 107 b s A n c) :
    Ret Try.prog 64 [ptr b, .int .i64 most] w (fun v w' => v = (fun x : List UInt8 => Value.string ⟨x.toArray⟩) (s.take ([] : List UInt8) (tText most)).1 ∧ Mod [b] w w' ∧ Rdr w' 107 b (s.take ([] : List UInt8) (tText most)).2 A n c) := by
  refine ret_T (n := 8) Try.func64 rfl rfl ?_
  repeat (first | refine T_seq ?_ | refine T_region ?_)
  refine TL_box (hk := ?_); intro x1 w1 e1 g1 g1' k1
  --
  refine TL_box (hk := ?_); intro x2 w2 e2 g2 g2' k2
  have k12 : Blk w2 x1 _ [ptr b] := k1.be e2
  have k22 : Blk w2 x2 _ [.int .i64 most] := k2
  have e02 : Ext w w2 := e1.ext e2
  have lb := h.blk.lt
  repeat (first | refine T_seq ?_ | refine T_region ?_ | refine TL_nil ?_ | refine TL_assign (hk := ?_) | refine TL_load TE (hk := ?_) | refine TL_makeFunc (hk := ?_))
  refine TL_call TE (hc := rd_string b s A n c w2 91 [] [ptr x1, ptr x2] (fun x : List UInt8 => Value.string ⟨x.toArray⟩) ([] : List UInt8) rfl (fun _ => rfl) (tText most) rfl (h.ext e02) (fun w' e => Text1_c b x1 x2 _ _ s A n c most hmo w' ((h.ext e02).ext e) (k12.ext e) (k22.ext e) (by omega))) (hk := ?_)
  rintro _ w3 ⟨rfl, m3, h3⟩
  repeat (first | refine TL_nil ?_ | refine TL_assign (hk := ?_))
  exact T_ret1 rfl rfl ⟨rfl, (Ext.mod e02).trans m3, h3⟩
theorem Text_n (most : Int) (w : World) : Ret Try.prog 64 [.pointer none, .int .i64 most] w (fun v w' => v = (fun x : List UInt8 => Value.string ⟨x.toArray⟩) ([] : List UInt8) ∧ Ext w w') := by
  refine ret_T (n := 8) Try.func64 rfl rfl ?_
  repeat (first | refine T_seq ?_ | refine T_region ?_)
  refine TL_box (hk := ?_); intro x1 w1 e1 g1 g1' k1
  --
  refine TL_box (hk := ?_); intro x2 w2 e2 g2 g2' k2
  have k12 := k1.be e2
  repeat (first | refine T_seq ?_ | refine T_region ?_ | refine TL_nil ?_ | refine TL_assign (hk := ?_) | refine TL_load TE (hk := ?_) | refine TL_makeFunc (hk := ?_))
  refine TL_call TE (hc := rdn_string w2 (.func 91) [] [ptr x1, ptr x2]) (hk := ?_)
  rintro _ w3 ⟨rfl, m3⟩
  repeat (first | refine TL_nil ?_ | refine TL_assign (hk := ?_))
  exact T_ret1 rfl rfl ⟨rfl, (e1.ext e2).ext m3⟩
theorem Fail_c (b : Nat) (s : RS) (A : Option Addr) (n c : Nat) (e : Int) (w : World) (h : Rdr w 107 b s A n c) :
    Ret Try.prog 65 [ptr b, .int .i64 e] w (fun v w' => v = .tuple #[] ∧ Mod [b] w w' ∧ Rdr w' 107 b (s.fail e) A n c) := by
  have h0 := h
  obtain ⟨hb, hr, ho, hl, hp, hla, hbig, hcap⟩ := h
  refine ret_T (n := 28) Try.func65 rfl rfl ?_
  by_cases he : s.err = 0
  · by_cases he2 : e = 0
    · have hs : s.fail e = s := by unfold RS.fail; rw [if_neg (by omega)]
      rw [hs]
      repeat (first | refine T_seq ?_ | refine T_region ?_ | refine T_cond_false rfl ?_ | refine T_skip ?_ | refine TL_eq_t (hk := ?_) | refine TL_ne_f (hk := ?_) | refine TL_pnn_t TE (hk := ?_) | refine TL_nil ?_ | refine TL_move (hk := ?_) | refine TL_load TE (hk := ?_) | refine TL_fieldAddr TE (hk := ?_) | refine TL_yes (hk := ?_) | refine TL_pick_t (hk := ?_) | refine TL_nilCheck (hk := ?_))
      exact T_end0 rfl ⟨rfl, Mod.refl _ _, h0⟩
    · have hs : s.fail e = { s with err := e, spot := s.last } := by unfold RS.fail; rw [if_pos ⟨he, he2⟩]
      rw [hs]
      repeat (first | refine T_seq ?_ | refine T_region ?_ | refine T_cond_true rfl ?_ | refine TL_eq_t (hk := ?_) | refine TL_ne_t (hk := ?_) | refine TL_pnn_t TE (hk := ?_) | refine TL_nil ?_ | refine TL_move (hk := ?_) | refine TL_load TE (hk := ?_) | refine TL_fieldAddr TE (hk := ?_) | refine TL_yes (hk := ?_) | refine TL_pick_t (hk := ?_) | refine TL_nilCheck (hk := ?_))
      refine TL_store TE (hk := ?_); intro w1 m1 s1 k1
      repeat (first | refine TL_fieldAddr TE (hk := ?_) | refine TL_nilCheck (hk := ?_))
      refine TL_store TE (hk := ?_); intro w2 m2 s2 k2
      repeat (refine TL_nil ?_)
      have hm := m1.trans m2
      exact T_end0 rfl ⟨rfl, hm, ⟨k2, hr.mod hm ho, ho, hl, hp, hla, hbig, hcap⟩⟩
  · have hs : s.fail e = s := by unfold RS.fail; rw [if_neg (by omega)]
    rw [hs]
    repeat (first | refine T_seq ?_ | refine T_region ?_ | refine T_cond_false rfl ?_ | refine T_skip ?_ | refine TL_eq_f (hk := ?_) | refine TL_pnn_t TE (hk := ?_) | refine TL_nil ?_ | refine TL_move (hk := ?_) | refine TL_load TE (hk := ?_) | refine TL_fieldAddr TE (hk := ?_) | refine TL_yes (hk := ?_) | refine TL_no (hk := ?_) | refine TL_pick_t (hk := ?_) | refine TL_pick_f (hk := ?_) | refine TL_nilCheck (hk := ?_))
    exact T_end0 rfl ⟨rfl, Mod.refl _ _, h0⟩
theorem Fail_n (e : Int) (w : World) : Ret Try.prog 65 [.pointer none, .int .i64 e] w (fun v w' => v = .tuple #[] ∧ w' = w) := by
  refine ret_T (n := 28) Try.func65 rfl rfl ?_
  repeat (first | refine T_seq ?_ | refine T_region ?_ | refine T_cond_false rfl ?_ | refine T_skip ?_ | refine TL_pnn_f TE (hk := ?_) | refine TL_nil ?_ | refine TL_move (hk := ?_) | refine TL_no (hk := ?_) | refine TL_pick_f (hk := ?_))
  exact T_end0 rfl ⟨rfl, rfl⟩


































theorem Why_c (b : Nat) (s : RS) (A : Option Addr) (n c : Nat) (w : World) (h : Rdr w 107 b s A n c) :
    Ret Try.prog 67 [ptr b] w (fun v w' => v = .tuple #[.int .i64 s.err, .int .i64 ((if s.err = 0 then 0 else s.spot : Nat) : Int)] ∧ Ext w w') := by
  have h0 := h
  obtain ⟨hb, hr, ho, hl, hp, hla, hbig, hcap⟩ := h
  refine ret_T (n := 21) Try.func67 rfl rfl ?_
  by_cases he : s.err = 0
  · rw [if_pos he, he]
    repeat (first | refine T_seq ?_ | refine T_region ?_ | refine T_cond_true rfl ?_ | refine TL_eq_t (hk := ?_) | refine TL_pnil_f TE (hk := ?_) | refine TL_nil ?_ | refine TL_move (hk := ?_) | refine TL_assign (hk := ?_) | refine TL_load TE (hk := ?_) | refine TL_fieldAddr TE (hk := ?_) | refine TL_yes (hk := ?_) | refine TL_pick_f (hk := ?_) | refine TL_nilCheck (hk := ?_))
    exact T_ret2 rfl rfl rfl ⟨rfl, Mod.refl _ _⟩
  · rw [if_neg he]
    repeat (first | refine T_seq ?_ | refine T_region ?_ | refine T_region_q TE.mixed (by kernel_rfl) ?_ | refine T_cond_false rfl ?_ | refine T_skip ?_ | refine TL_eq_f (hk := ?_) | refine TL_pnil_f TE (hk := ?_) | refine TL_nil ?_ | refine TL_move (hk := ?_) | refine TL_assign (hk := ?_) | refine TL_load TE (hk := ?_) | refine TL_fieldAddr TE (hk := ?_) | refine TL_yes (hk := ?_) | refine TL_pick_f (hk := ?_) | refine TL_nilCheck (hk := ?_))
    refine TL_nil_q ?_; intro w1 e1
    exact T_ret2 rfl rfl rfl ⟨rfl, e1⟩
theorem Why_n (w : World) : Ret Try.prog 67 [.pointer none] w (fun v w' => v = .tuple #[.int .i64 0, .int .i64 0] ∧ w' = w) := by
  refine ret_T (n := 21) Try.func67 rfl rfl ?_
  repeat (first | refine T_seq ?_ | refine T_region ?_ | refine T_cond_true rfl ?_ | refine TL_pnil_t TE (hk := ?_) | refine TL_nil ?_ | refine TL_move (hk := ?_) | refine TL_assign (hk := ?_) | refine TL_no (hk := ?_) | refine TL_pick_t (hk := ?_))
  exact T_ret2 rfl rfl rfl ⟨rfl, rfl⟩
theorem Rest_c (b : Nat) (s : RS) (A : Option Addr) (n c : Nat) (w : World) (h : Rdr w 107 b s A n c) :
    Ret Try.prog 68 [ptr b] w (fun v w' => v = .int .i64 (s.rest : Int) ∧ Ext w w') := by
  have h0 := h
  obtain ⟨hb, hr, ho, hl, hp, hla, hbig, hcap⟩ := h
  refine ret_T (n := 22) Try.func68 rfl rfl ?_
  by_cases he : s.err = 0
  · have hs : s.rest = n - s.pos := by unfold RS.rest; rw [if_pos he, hl]
    rw [hs]
    repeat (first | refine T_seq ?_ | refine T_region ?_ | refine T_region_q TE.mixed (by kernel_rfl) ?_ | refine T_cond_false rfl ?_ | refine T_skip ?_ | refine TL_sub (hk := ?_) | refine TL_ne_f (hk := ?_) | refine TL_pnil_f TE (hk := ?_) | refine TL_nil ?_ | refine TL_move (hk := ?_) | refine TL_assign (hk := ?_) | refine TL_load TE (hk := ?_) | refine TL_fieldAddr TE (hk := ?_) | refine TL_len TE (hk := ?_) | refine TL_yes (hk := ?_) | refine TL_pick_f (hk := ?_) | refine TL_nilCheck (hk := ?_))
    refine TL_nil_q ?_; intro w1 e1
    refine T_ret1 rfl rfl ⟨?_, e1⟩
    show Value.int .i64 ((n : Int) - (s.pos : Int)) = _
    rw [show ((n - s.pos : Nat) : Int) = (n : Int) - (s.pos : Int) by omega]
  · have hs : s.rest = 0 := by unfold RS.rest; rw [if_neg he]
    rw [hs]
    repeat (first | refine T_seq ?_ | refine T_region ?_ | refine T_cond_true rfl ?_ | refine TL_ne_t (hk := ?_) | refine TL_pnil_f TE (hk := ?_) | refine TL_nil ?_ | refine TL_move (hk := ?_) | refine TL_assign (hk := ?_) | refine TL_load TE (hk := ?_) | refine TL_fieldAddr TE (hk := ?_) | refine TL_yes (hk := ?_) | refine TL_pick_f (hk := ?_) | refine TL_nilCheck (hk := ?_))
    exact T_ret1 rfl rfl ⟨rfl, Mod.refl _ _⟩
theorem Rest_n (w : World) : Ret Try.prog 68 [.pointer none] w (fun v w' => v = .int .i64 0 ∧ w' = w) := by
  refine ret_T (n := 22) Try.func68 rfl rfl ?_
  repeat (first | refine T_seq ?_ | refine T_region ?_ | refine T_cond_true rfl ?_ | refine TL_pnil_t TE (hk := ?_) | refine TL_nil ?_ | refine TL_move (hk := ?_) | refine TL_assign (hk := ?_) | refine TL_no (hk := ?_) | refine TL_pick_t (hk := ?_))
  exact T_ret1 rfl rfl ⟨rfl, rfl⟩
end Go.Proofs.Ytfplmpfdhiagaaa

namespace Go.Proofs.Ytfplmpfdhiagaaa
open Go.RowKit Go.Proofs.Eng Go.Proofs.Codec
set_option linter.unusedSimpArgs false
set_option linter.unusedVariables false
attribute [local irreducible] T TL LV TH TA
















































































end Go.Proofs.Ytfplmpfdhiagaaa

namespace Go.Proofs.Ytfplmpfdhiagaaa
open Go.RowKit Go.Proofs.Eng Go.Proofs.Codec
set_option linter.unusedSimpArgs false
set_option linter.unusedVariables false
attribute [local irreducible] T TL LV TH TA
set_option maxHeartbeats 1000000

theorem RPutUint_c (A : Option Addr) (n c : Nat) (l : List UInt8) (x : Nat) (w : World) {z : Int} (hz : z = (x : Int)) (h : Rd w A n 1 (bv l)) (hn : n ≤ 70368744177000) (hx : x < 2 ^ 64) :
    Ret Try.prog 59 [.slice A n c, .int .u64 z] w (fun v w' => ∃ A' n' c', v = .slice A' n' c' ∧ Ext w w' ∧ Own w' w.heap.size 5 1 A' n' c' (bv (l ++ encU x))) := by
  subst hz
  have hlen : l.length = n := by simpa using h.1
  refine ret_T (n := 25) Try.func59 rfl rfl ?_
  repeat (first | refine T_seq ?_ | refine T_region ?_ | refine TL_nil ?_ | refine TL_assign (hk := ?_))
  refine TL_buildSlice TE (hk := ?_); intro b1 w1 e1 h1 h2 k1
  have o1 : Own w1 w.heap.size 5 1 (some ⟨b1, 0, none⟩) 0 0 [] := Own.of_blk k1 h1 rfl (by decide)
  have s1 := e1.size
  repeat (refine TL_move (hk := ?_))
  refine TL_append TE (hk := ?_); intro A1 c1 wb ob mb nb
  have e1 : Ext w wb := e1.own mb o1.hi
  have s1 := mb.size
  repeat (first | refine T_seq ?_ | refine T_block ?_ | refine TL_nil ?_ | refine TL_assign (hk := ?_))
  refine T_loop (ι := (Option Addr × Nat × Nat) × List UInt8 × Nat) (fun i => [(5, .slice i.1.1 i.1.2.1 i.1.2.2), (1, .int .u64 (i.2.2 : Int))])
    (fun i w' => Ext w w' ∧ Own w' w.heap.size 5 1 i.1.1 i.1.2.1 i.1.2.2 (bv (l ++ i.2.1)) ∧ i.2.1 ++ encU i.2.2 = encU x ∧ i.2.2 < 2 ^ 64) (fun i => i.2.2) ((A1, 0 + n, c1), [], x) (.c rfl (.c rfl (.n))) ⟨e1, by simpa using ob, rfl, hx⟩ ?_
  rintro ⟨⟨A2, n2, c2⟩, pre, m⟩ w2 ⟨e2, o2, hpre, hm⟩ ih
  simp only at e2 o2 hpre hm ih ⊢
  have s2 := e2.size
  have hn2 := o2.len
  have hl10 := encU_len64 hx
  rw [← hpre] at hl10
  simp only [bv_length, List.length_append, Nat.mul_one] at hn2 hl10
  have hp := encU_pos m
  by_cases h128 : m < 128
  · repeat (first | refine T_seq ?_ | refine T_region ?_ | refine T_cond_false rfl ?_ | refine T_exit rfl ?_ | refine TL_gt_f (hk := ?_) | refine TL_nil ?_ | refine TL_move (hk := ?_) | refine TL_conv TE (hk := ?_))
    refine TL_buildSlice TE (hk := ?_); intro b3 w3 e3 h31 h32 k3
    have s3 := e3.size
    --
    refine TL_append TE (hk := ?_); intro A4 c4 w4 o4 m4 n4
    repeat (first | refine TL_nil ?_ | refine TL_assign (hk := ?_))
    refine T_ret1 rfl rfl ⟨A4, _, c4, rfl, (e2.ext e3).own m4 o2.hi, ?_⟩
    rw [bv_snoc _ _ (by omega), List.append_assoc] at o4
    rw [← hpre, encU_lt h128]
    exact o4
  · repeat (first | refine T_seq ?_ | refine T_region ?_ | refine T_cond_true rfl ?_ | refine T_block ?_ | refine T_skip ?_ | refine TL_add (hk := ?_) | refine TL_rem (hk := ?_) | refine TL_gt_t (hk := ?_) | refine TL_nil ?_ | refine TL_move (hk := ?_) | refine TL_conv TE (hk := ?_))
    refine TL_buildSlice TE (hk := ?_); intro b3 w3 e3 h31 h32 k3
    have s3 := e3.size
    --
    refine TL_append TE (hk := ?_); intro A4 c4 w4 o4 m4 n4
    repeat (first | refine T_region ?_ | refine T_inBlock ?_ | refine TL_quo (hk := ?_) | refine TL_nil ?_ | refine TL_move (hk := ?_) | refine TL_assign (hk := ?_))
    have ho : Own w4 w.heap.size 5 1 A4 (n2 + 1) c4 (bv (l ++ (pre ++ [UInt8.ofNat (m % 128 + 128)]))) := by
      have o5 : Own w4 w.heap.size 5 1 A4 (n2 + 1) c4 (bv (l ++ pre) ++ [.int .u8 ((m % 128 + 128 : Nat) : Int)]) := o4
      rw [bv_snoc _ _ (by omega), List.append_assoc] at o5
      exact o5
    refine ih ⟨(A4, n2 + 1, c4), pre ++ [UInt8.ofNat (m % 128 + 128)], m / 128⟩ w4 _ (by simp only; omega) ⟨(e2.ext e3).own m4 o2.hi, ho, ?_, by simp only; omega⟩ (.c rfl (.c rfl (.n)))
    rw [← hpre, encU_ge h128]; simp

theorem fdiv63 (i : Int) (h : -9223372036854775808 ≤ i ∧ i ≤ 9223372036854775807) : Int.fdiv i (2 ^ 63) = if 0 ≤ i then 0 else -1 := by
  rw [Int.fdiv_eq_ediv_of_nonneg _ (by decide)]
  split <;> omega






































theorem PutText_c (A : Option Addr) (n c : Nat) (l : List UInt8) (S : ByteArray) (w : World) (h : Rd w A n 1 (bv l)) (hn : n ≤ 7036874417) (hs : S.size ≤ 7036874417) :
    Ret Try.prog 57 [.slice A n c, .string S] w (fun v w' => ∃ A' n' c', v = .slice A' n' c' ∧ Ext w w' ∧ Own w' w.heap.size 5 1 A' n' c' (bv (l ++ (encU S.size ++ S.data.toList)))) := by
  have hlen : l.length = n := by simpa using h.1
  refine ret_T (n := 12) Try.func57 rfl rfl ?_
  repeat (first | refine T_seq ?_ | refine T_region ?_ | refine TL_nil ?_ | refine TL_move (hk := ?_) | refine TL_assign (hk := ?_) | refine TL_len_s TE (hk := ?_) | refine TL_conv TE (hk := ?_))
  refine TL_call TE (hc := PutUint_c A n c l S.size w rfl h (by omega) (by omega)) (hk := ?_)
  rintro _ w1 ⟨A1, n1, c1, rfl, e1, o1⟩
  have s1 := e1.size
  have hn1 := o1.len
  have h10 := encU_len64 (n := S.size) (by omega)
  simp only [bv_length, List.length_append, Nat.mul_one] at hn1
  repeat (refine TL_move (hk := ?_))
  refine TL_append_s TE (hk := ?_); intro A2 c2 w2 o2 m2 n2
  repeat (first | refine TL_nil ?_ | refine TL_assign (hk := ?_))
  refine T_ret1 rfl rfl ⟨A2, _, c2, rfl, e1.own m2 o1.hi, ?_⟩
  rw [← bv_append, List.append_assoc] at o2
  exact o2
























end Go.Proofs.Ytfplmpfdhiagaaa

namespace Go.Proofs.Ytfplmpfdhiagaaa
open Go.RowKit Go.Proofs.Eng Go.Proofs.Codec
set_option linter.unusedSimpArgs false
set_option linter.unusedVariables false
attribute [local irreducible] T TL LV TH TA
set_option maxHeartbeats 1000000
theorem NewReader_c (A : Option Addr) (n c : Nat) (l : List UInt8) (w : World) (h : Rd w A n 1 (bv l)) (hn : n ≤ 7036874417) :
    Ret Try.prog 62 [.slice A n c] w (fun v w' => ∃ b A' n' c', v = ptr b ∧ Ext w w' ∧ w.heap.size ≤ b ∧ Hi A' w.heap.size ∧ Lo A' w'.heap.size ∧ Rdr w' 107 b ⟨l, 0, 0, 0, 0⟩ A' n' c') := by
  refine ret_T (n := 7) Try.func62 rfl rfl ?_
  repeat (first | refine T_seq ?_ | refine T_region ?_ | refine TL_nil ?_ | refine TL_move (hk := ?_) | refine TL_assign (hk := ?_))
  refine TL_call TE (hc := Clone_c A n c l w h (by omega)) (hk := ?_)
  rintro _ w1 ⟨A1, c1, rfl, e1, o1⟩
  repeat (refine TL_build TE (hk := ?_))
  refine TL_box (hk := ?_); intro b w2 e2 h1 h2 k
  repeat (first | refine TL_nil ?_ | refine TL_assign (hk := ?_))
  have hs := e1.size
  refine T_ret1 rfl rfl ⟨b, A1, n, c1, rfl, e1.ext e2, by omega, o1.hi, o1.lo.mono e2.size, ?_⟩
  exact ⟨k, (o1.be e2).rd, Off.lo o1.lo h1, by have := h.1; simpa using this, Nat.zero_le _, Nat.zero_le _, hn, o1.cap.1⟩
end Go.Proofs.Ytfplmpfdhiagaaa

namespace Go.Proofs.Ytfplmpfdhiagaaa
open Go.RowKit Go.Proofs.Eng Go.Proofs.Foot Go.Proofs.Codec
set_option linter.unusedSimpArgs false
set_option linter.unusedVariables false
attribute [local irreducible] T TL LV TH TA
theorem norm_short {r k : List Tx} (h : isNorm r k = true) : (∀ t ∈ r ++ k, t.length ≤ 32) ∧ (ofM r k).length ≤ 64 := by
  unfold isNorm at h
  have h := of_decide_eq_true h
  have e := norm_eq r k
  rw [← of_len] at e
  rw [e] at h
  by_cases q : (r.all validT && k.all validT) = true
  · rw [if_pos q] at h
    by_cases g : 64 < (ofM r k).length
    · rw [if_pos g] at h; exact absurd h.1 (by decide)
    · refine ⟨fun t ht => ?_, by omega⟩
      simp only [Bool.and_eq_true, List.all_eq_true] at q
      have hv : validT t = true := by
        rcases List.mem_append.1 ht with h | h
        · exact q.1 t h
        · exact q.2 t h
      simp only [validT, Bool.and_eq_true, decide_eq_true_eq] at hv
      exact hv.2.2
  · rw [if_neg q] at h; exact absurd h.1 (by decide)
theorem keys3_short {r k : List Tx} (h : isNorm r k = true) : ∀ t ∈ keysM (ofM r k) 3, t.length ≤ 32 := fun t ht => by
  rw [keys3, set_mem] at ht
  exact (norm_short h).1 t ht
theorem entryB_len (m : TM) (t : Tx) (h : t.length ≤ 32) : (entryB m t).length ≤ 43 := by
  have := encU_len64 (n := t.length) (by omega)
  simp only [entryB, List.length_append, List.length_cons, List.length_nil]
  omega
theorem Put_c (B A C : Option Addr) (nb cb n c m d : Nat) (ahead : List UInt8) (r k : List Tx) (w : World) (hb : Rd w B nb 1 (bv ahead)) (h : Rd w A n 1 (sv r)) (g : Rd w C m 1 (sv k)) (hnb : nb ≤ 200000) (hn : n ≤ 50000) (hm : m ≤ 50000) (sr : Short r) (sk : Short k) :
    Ret Try.prog 16 [.slice B nb cb, .agg #[.slice A n c, .slice C m d]] w (fun v w' => ∃ P np cp, v = .tuple #[.slice P np cp, .int .i64 (if isNorm r k = true then 0 else 31)] ∧ Ext w w' ∧ Own w' w.heap.size 5 1 P np cp (if isNorm r k = true then bv (ahead ++ putB (ofM r k)) else [])) := by
  refine ret_T (n := 36) Try.func16 rfl rfl ?_
  repeat (first | refine T_seq ?_ | refine T_region ?_)
  refine TL_box (hk := ?_); intro b1 w1 e1 h1 h1' k1
  repeat (first | refine T_seq ?_ | refine T_region ?_ | refine TL_nil ?_ | refine TL_assign (hk := ?_))
  refine TL_loadb TE (cs := [.slice A n c, .slice C m d]) (o := 0) rfl rfl k1 rfl rfl (Nat.succ_pos _) (hk := ?_)
  refine TL_call TE (hc := normal_c A C n c m d r k _ (h.be e1) (g.be e1) hn hm sr sk) (hk := ?_)
  rintro _ w2 ⟨rfl, e2⟩
  by_cases hN : isNorm r k = true
  · rw [if_pos hN, if_pos hN]
    have hshort := keys3_short hN
    have h64 := (norm_short hN).2
    have hl3 := of_len3 r k
    rw [hN]
    have k12 := k1.be e2
    have e02 := e1.ext e2
    have hb2 := hb.be e02
    have hA2 := h.be e02
    have hC2 := g.be e02
    clear k1 h g
    repeat (first | refine T_seq ?_ | refine T_region ?_ | refine T_cond_false rfl ?_ | refine T_skip ?_ | refine TL_nil ?_ | refine TL_not (hk := ?_))
    refine TL_loadb TE (cs := [.slice A n c, .slice C m d]) (o := 0) rfl rfl k12 rfl rfl (Nat.succ_pos _) (hk := ?_)
    refine TL_call TE (hc := of_c A C n c m d r k _ hA2 hC2 (by omega) (by omega)) (hk := ?_)
    rintro _ w3 ⟨bm, rfl, e3, hbm, mp⟩
    have hb3 := hb2.be e3
    have z3 := e02.size
    have z3' := e3.size
    repeat (first | refine T_seq ?_ | refine T_region ?_ | refine TL_nil ?_ | refine TL_move (hk := ?_) | refine TL_assign (hk := ?_) | refine TL_conv TE (hk := ?_) | refine TL_len_m TE (hk := ?_))
    refine TL_call TE (hc := PutUint_c B nb cb ahead (ofM r k).length _ rfl hb3 (by omega) (by omega)) (hk := ?_)
    rintro _ w4 ⟨A4, n4, c4, rfl, e4, o4⟩
    have mp4 := mp.be e4
    have z4 := e4.size
    have hlb := hb.1
    have hlen4 := o4.len
    have henc := encU_len64 (n := (ofM r k).length) (by omega)
    simp only [bv_length, List.length_append, Nat.mul_one] at hlen4 hlb
    repeat (first | refine T_seq ?_ | refine T_region ?_ | refine TL_nil ?_ | refine TL_move (hk := ?_) | refine TL_assign (hk := ?_))
    refine TL_call TE (hc := keys_c bm 3 (ofM r k) _ mp4 (by decide) (of_lt4 r k) (by omega)) (hk := ?_)
    rintro _ w5 ⟨A5, n5, c5, rfl, e5, o5⟩
    have mp5 := mp4.be e5
    have z5 := e5.size
    obtain ⟨ks, hks⟩ : ∃ ks, keysM (ofM r k) 3 = ks := ⟨_, rfl⟩
    rw [hks] at o5 hshort hl3
    have hkl : ks.length = n5 := by simpa using o5.len
    have o45 := o4.be e5
    have e05 := ((e02.ext e3).ext e4).ext e5
    have hi5 := o5.hi
    clear mp mp4 o4 hb2 hb3 hA2 hC2
    repeat (first | refine T_block ?_ | refine TL_nil ?_ | refine TL_move (hk := ?_) | refine TL_len TE (hk := ?_))
    refine T_loop (ι := (Option Addr × Nat × Nat) × Nat) (fun i => [(22, .int .i64 (i.2 : Int)), (21, .int .i64 (n5 : Int)), (20, .slice A5 n5 c5), (6, .map (some bm)), (0, .slice i.1.1 i.1.2.1 i.1.2.2)])
      (fun i w' => Ext w w' ∧ Ext w5 w' ∧ i.2 ≤ n5 ∧ i.1.2.1 ≤ 200010 + 43 * i.2 ∧ Own w' w.heap.size 5 1 i.1.1 i.1.2.1 i.1.2.2 (bv (ahead ++ (encU n5 ++ bodyB (ofM r k) (ks.take i.2))))) (fun i => n5 - i.2) ((A4, n4, c4), 0) (.c rfl (.c rfl (.c rfl (.c rfl (.c rfl (.n))))))
      ⟨e05, Mod.refl _ _, Nat.zero_le _, by show n4 ≤ 200010 + 43 * 0; omega, ?_⟩ ?_
    · have := o45.weaken (base' := w.heap.size) (by omega)
      rw [hl3, hkl] at this
      simpa [bodyB] using this
    rintro ⟨⟨A6, n6, c6⟩, i⟩ w6 ⟨e6, e56, hi, hn6, o6⟩ ih
    simp only at hi hn6 o6 ih ⊢
    have z6 := e6.size
    by_cases hlt : i < n5
    · obtain ⟨t, ht⟩ : ∃ t, ks.getD i [] = t := ⟨_, rfl⟩
      have htm : t ∈ ks := by rw [← ht]; exact getD_mem (by omega)
      have ht32 := hshort t htm
      have hbt := bodyB_take (ofM r k) ks i (by omega)
      rw [ht] at hbt
      have hel := entryB_len (ofM r k) t ht32
      have hb4 := bits_lt4 r k t
      obtain ⟨u, hu⟩ : ∃ u, (mget (ofM r k) t).getD 0 = u := ⟨_, rfl⟩
      have hu' : bitsM (ofM r k) t = u := hu
      have mp6 := mp5.be e56
      have o56 := o5.be e56
      have e1t := encU_len64 (n := t.length) (by omega)
      have hsz := ofL_size t
      rw [hu'] at hb4
      clear hshort
      repeat (first | refine T_seq ?_ | refine T_region ?_ | refine T_cond_true rfl ?_ | refine T_block ?_ | refine T_skip ?_ | refine TL_lt_t (hk := ?_) | refine TL_nil ?_ | refine TL_assign (hk := ?_) | refine TL_indexAddr1n TE (hk := ?_) | refine TL_load_s TE (hk := ?_))
      rw [ht]
      --
      refine T_region_any TE.mixed [] ?_; intro w7 e7 z7
      have hd7 : Eng.Mod [] w7 w7 := Mod.refl _ _
      have mp7 := mp6.be e7
      have o7 := o6.be e7
      have e07 := e6.ext e7
      clear o6 mp6
      (refine TA_take 0 rfl (by kernel_rfl) (by kernel_rfl) (by kernel_rfl) ?_; repeat (refine TL_move (hk := ?_)); refine TL_nil_p ?_); (refine TA_take 1 rfl (by kernel_rfl) (by kernel_rfl) (by kernel_rfl) ?_; repeat (refine TL_move (hk := ?_)); refine TL_nil_p ?_); (refine TA_take 3 rfl (by kernel_rfl) (by kernel_rfl) (by kernel_rfl) ?_; repeat (refine TL_move (hk := ?_)); refine TL_nil_p ?_); (refine TA_take 4 rfl (by kernel_rfl) (by kernel_rfl) (by kernel_rfl) ?_; repeat (refine TL_move (hk := ?_)); refine TL_nil_p ?_)
      refine TA_take 5 rfl (by kernel_rfl) (by kernel_rfl) (by kernel_rfl) ?_
      refine TLP_lookup TE 0 mp7 (by simp) (hk := ?_)
      rw [hu]
      refine TL_nil_p ?_
      refine TA_two 2 6 rfl rfl (by kernel_rfl) (by kernel_rfl) ?_ ?_
      · refine TL_call TE (hc := PutText_c A6 n6 c6 _ (ofL t) w7 o7.rd (by omega) (by omega)) (hq := fun v w' ⟨_, _, _, _, h, _⟩ => hd7.ext h) (hk := ?_)
        rintro _ w8 ⟨A8, n8, c8, rfl, e8, o8⟩
        have z8 := e8.size
        refine TL_nil_p ?_
        refine TA_one 6 rfl (by kernel_rfl) (by kernel_rfl) ?_
        refine TL_buildSlice TE (hf := rfl) (hq := fun w' h => (hd7.ext e8).ext h) (hk := ?_); intro b9 w9 e9 h9 h9' k9
        have z9 := e9.size
        have o89 := o8.be e9
        have hl8 := o8.len
        simp only [bv_length, List.length_append, Nat.mul_one, ofL_toList, ofL_size] at hl8
        have hl7 := o7.len
        simp only [bv_length, List.length_append, Nat.mul_one] at hl7
        have E9 := e8.ext e9
        refine TL_nil_p ?_
        refine TA_one 7 rfl (by kernel_rfl) (by kernel_rfl) ?_
        refine TL_append TE (hf := rfl) (hq := fun w' m => Mod.own E9 m o8.hi) (hk := ?_); intro A10 c10 w10 o10 m10 n10
        have E10 : Ext w7 w10 := (Mod.own E9 m10 o8.hi)
        refine TL_nil_p ?_
        (refine TA_one 8 rfl (by kernel_rfl) (by kernel_rfl) ?_; repeat (refine TL_assign (hk := ?_)); refine TL_nil_p ?_)
        refine TA_done (by kernel_rfl) ?_
        repeat (first | refine T_region ?_ | refine T_inBlock ?_ | refine TL_add (hk := ?_) | refine TL_nil ?_ | refine TL_move (hk := ?_))
        refine ih ((A10, n8 + 1, c10), i + 1) _ _ (by simp only; omega) ⟨e07.ext E10, (e56.ext e7).ext E10, by show i + 1 ≤ n5; omega, by show n8 + 1 ≤ 200010 + 43 * (i + 1); omega, ?_⟩ (.c rfl (.c rfl (.c rfl (.c rfl (.c rfl (.n))))))
        have o11 := o10.weaken (base' := w.heap.size) (by have := e07.size; omega)
        simp only
        rw [hbt, entryB, hu']
        have hv := bv_snoc (ahead ++ (encU n5 ++ bodyB (ofM r k) (ks.take i)) ++ (encU (ofL t).size ++ (ofL t).data.toList)) u (by omega)
        have hv2 : bv (ahead ++ (encU n5 ++ bodyB (ofM r k) (ks.take i)) ++ (encU (ofL t).size ++ (ofL t).data.toList)) ++ [uV u] = bv (ahead ++ (encU n5 ++ (bodyB (ofM r k) (ks.take i) ++ (encU t.length ++ t ++ [UInt8.ofNat u])))) := by
          rw [show uV u = Value.int .u8 (u : Int) from rfl, hv, ofL_toList, ofL_size]
          simp only [List.append_assoc]
        rw [← hv2]
        exact o11
      · refine TL_buildSlice TE (hf := rfl) (hq := fun w' h => hd7.ext h) (hk := ?_); intro b9 w9 e9 h9 h9' k9
        have z9 := e9.size
        have o79 := o7.be e9
        refine TL_nil_p ?_
        refine TA_one 2 rfl (by kernel_rfl) (by kernel_rfl) ?_
        refine TL_call TE (hc := PutText_c A6 n6 c6 _ (ofL t) w9 o79.rd (by omega) (by omega)) (hq := fun v w' ⟨_, _, _, _, h, _⟩ => (hd7.ext e9).ext h) (hk := ?_)
        rintro _ w8 ⟨A8, n8, c8, rfl, e8, o8⟩
        have z8 := e8.size
        have o89 := o8.weaken (base' := w7.heap.size) (by omega)
        have hl8 := o8.len
        simp only [bv_length, List.length_append, Nat.mul_one, ofL_toList, ofL_size] at hl8
        have hl7 := o7.len
        simp only [bv_length, List.length_append, Nat.mul_one] at hl7
        have k98 := k9.be e8
        have E9 := e9.ext e8
        refine TL_nil_p ?_
        refine TA_one 7 rfl (by kernel_rfl) (by kernel_rfl) ?_
        refine TL_append TE (hf := rfl) (hq := fun w' m => Mod.own E9 m o89.hi) (hk := ?_); intro A10 c10 w10 o10 m10 n10
        have E10 : Ext w7 w10 := (Mod.own E9 m10 o89.hi)
        refine TL_nil_p ?_
        (refine TA_one 8 rfl (by kernel_rfl) (by kernel_rfl) ?_; repeat (refine TL_assign (hk := ?_)); refine TL_nil_p ?_)
        refine TA_done (by kernel_rfl) ?_
        repeat (first | refine T_region ?_ | refine T_inBlock ?_ | refine TL_add (hk := ?_) | refine TL_nil ?_ | refine TL_move (hk := ?_))
        refine ih ((A10, n8 + 1, c10), i + 1) _ _ (by simp only; omega) ⟨e07.ext E10, (e56.ext e7).ext E10, by show i + 1 ≤ n5; omega, by show n8 + 1 ≤ 200010 + 43 * (i + 1); omega, ?_⟩ (.c rfl (.c rfl (.c rfl (.c rfl (.c rfl (.n))))))
        have o11 := o10.weaken (base' := w.heap.size) (by have := e07.size; omega)
        simp only
        rw [hbt, entryB, hu']
        have hv := bv_snoc (ahead ++ (encU n5 ++ bodyB (ofM r k) (ks.take i)) ++ (encU (ofL t).size ++ (ofL t).data.toList)) u (by omega)
        have hv2 : bv (ahead ++ (encU n5 ++ bodyB (ofM r k) (ks.take i)) ++ (encU (ofL t).size ++ (ofL t).data.toList)) ++ [uV u] = bv (ahead ++ (encU n5 ++ (bodyB (ofM r k) (ks.take i) ++ (encU t.length ++ t ++ [UInt8.ofNat u])))) := by
          rw [show uV u = Value.int .u8 (u : Int) from rfl, hv, ofL_toList, ofL_size]
          simp only [List.append_assoc]
        rw [← hv2]
        exact o11
    · have hin : i = n5 := by omega
      have hall : ks.take i = ks := List.take_of_length_le (by omega)
      repeat (first | refine T_seq ?_ | refine T_region ?_ | refine T_cond_false rfl ?_ | refine T_exit rfl ?_ | refine TL_lt_f (hk := ?_) | refine TL_nil ?_ | refine TL_move (hk := ?_) | refine TL_assign (hk := ?_))
      refine T_ret2 rfl rfl rfl ⟨A6, n6, c6, rfl, e6, ?_⟩
      rw [hall] at o6
      unfold putB
      rw [hks, hkl]
      exact o6
  · have hN' : isNorm r k = false := by simpa using hN
    rw [hN']
    repeat (first | refine T_seq ?_ | refine T_region ?_ | refine T_cond_true rfl ?_ | refine TL_nil ?_ | refine TL_assign (hk := ?_) | refine TL_not (hk := ?_))
    exact T_ret2 rfl rfl rfl ⟨none, 0, 0, rfl, e1.ext e2, Own.nil _ _ _ _⟩
end Go.Proofs.Ytfplmpfdhiagaaa

namespace Go.Proofs.Ytfplmpfdhiagaaa
open Go.RowKit Go.Proofs.Eng Go.Proofs.Foot Go.Proofs.Codec
set_option linter.unusedSimpArgs false
set_option linter.unusedVariables false
attribute [local irreducible] T TL LV TH TA
theorem locks_eq (r k : List Tx) : locksM (ofM r k) = (setT (r ++ k)).map fun t => (t, decide (t ∈ k)) := by
  unfold locksM
  rw [keys3]
  apply List.map_congr_left
  intro t _
  rw [bits_of]
  by_cases h : t ∈ r <;> by_cases g : t ∈ k <;> simp [h, g]
theorem RLocks_c (A B : Option Addr) (n c m d : Nat) (r k : List Tx) (w : World) (h : Rd w A n 1 (sv r)) (g : Rd w B m 1 (sv k)) (hn : n ≤ 50000) (hm : m ≤ 50000) :
    Ret Try.prog 32 [.agg #[.slice A n c, .slice B m d]] w (fun v w' => ∃ A' n' c', v = .slice A' n' c' ∧ Ext w w' ∧ Own w' w.heap.size 57 2 A' n' c' (lv (locksM (ofM r k)))) := by
  rw [locks_eq]
  refine ret_T (n := 34) Try.func32 rfl rfl ?_
  repeat (first | refine T_seq ?_ | refine T_region ?_)
  refine TL_box (hk := ?_); intro b1 w1 e1 h1 h1' k1
  have z1 := e1.size
  repeat (first | refine T_seq ?_ | refine T_region ?_ | refine TL_nil ?_ | refine TL_assign (hk := ?_) | refine TL_load TE (hk := ?_) | refine TL_fieldAddr TE (hk := ?_))
  refine TL_call TE (hc := both_c A B n m c d r k _ (h.be e1) (g.be e1) (by omega) (by omega)) (hk := ?_)
  rintro _ w2 ⟨A2, c2, rfl, e2, o2⟩
  have z2 := e2.size
  have hl0 := o2.len
  simp only [sv_length, Nat.mul_one] at hl0
  have hsl := setT_len (r ++ k)
  refine TL_call TE (hc := Set_c A2 (n + m) c2 (r ++ k) _ o2.rd (by omega)) (hk := ?_)
  rintro _ w3 ⟨A3, c3, rfl, e3, o3⟩
  have z3 := e3.size
  obtain ⟨ks, hks⟩ : ∃ ks, setT (r ++ k) = ks := ⟨_, rfl⟩
  obtain ⟨n3, hn3⟩ : ∃ n3, ks.length = n3 := ⟨_, rfl⟩
  rw [hks, hn3] at o3
  rw [hks] at hsl ⊢
  rw [hn3]
  have e03 := (e1.ext e2).ext e3
  have k13 := (k1.be e2).be e3
  have hB3 := g.be e03
  have rd3 := o3.rd
  have lo3 := o3.lo
  have l13 : b1 < w3.heap.size := by omega
  have hlB : 0 < m → Lo B w.heap.size := fun q => g.lo q
  clear k1 h o2 o3
  repeat (first | refine T_seq ?_ | refine T_region ?_ | refine T_block ?_ | refine TL_nil ?_ | refine TL_assign (hk := ?_))
  refine T_loop (ι := (Option Addr × Nat × Nat) × Nat) (fun i => [(5, .int .i64 (i.2 : Int)), (3, .slice A3 n3 c3), (1, .pointer (some ⟨b1, 0, none⟩)), (4, .slice i.1.1 i.1.2.1 i.1.2.2)])
    (fun i w' => Ext w3 w' ∧ i.2 ≤ n3 ∧ i.1.2.1 = i.2 ∧ Own w' w3.heap.size 57 2 i.1.1 i.1.2.1 i.1.2.2 (lv ((ks.take i.2).map fun t => (t, decide (t ∈ k))))) (fun i => n3 - i.2) ((none, 0, 0), 0) (.c rfl (.c rfl (.c rfl (.c rfl (.n)))))
    ⟨Mod.refl _ _, Nat.zero_le _, rfl, by simpa [lv] using Own.nil _ _ _ _⟩ ?_
  rintro ⟨⟨A4, n4, c4⟩, i⟩ w4 ⟨e4, hi, hni, o4⟩ ih
  simp only at e4 hi hni o4 ih
  subst hni
  change T _ _ _ _ _ [(5, .int .i64 (n4 : Int)), (3, .slice A3 n3 c3), (1, .pointer (some ⟨b1, 0, none⟩)), (4, .slice A4 n4 c4)] _ _
  have rd4 := rd3.be e4
  have z4 := e4.size
  have hB4 := hB3.be e4
  have k14 := k13.be e4
  by_cases hlt : n4 < n3
  · obtain ⟨t, ht⟩ : ∃ t, ks.getD n4 [] = t := ⟨_, rfl⟩
    have htk : (ks.take (n4 + 1)).map (fun t => (t, decide (t ∈ k))) = (ks.take n4).map (fun t => (t, decide (t ∈ k))) ++ [(t, decide (t ∈ k))] := by
      rw [List.take_succ_eq_append_getElem (by omega), List.map_append]
      have e : ks[n4]'(by omega) = t := by rw [← ht, List.getD_eq_getElem?_getD, List.getElem?_eq_getElem (by omega)]; rfl
      simp [e]
    repeat (first | refine T_seq ?_ | refine T_region ?_ | refine T_cond_true rfl ?_ | refine T_block ?_ | refine T_skip ?_ | refine TL_lt_t (hk := ?_) | refine TL_nil ?_ | refine TL_move (hk := ?_) | refine TL_len TE (hk := ?_))
    refine T_region_any TE.mixed (blkL A4) ?_; intro w5 e5 z5
    have hd5 : Eng.Mod (blkL A4) w5 w5 := Mod.refl _ _
    have rd5 := rd4.be e5
    have k15 := k14.be e5
    have hB5 := hB4.be e5
    have o5 := o4.be e5
    have off3 : Off A3 (blkL A4) := Off.lohi lo3 o4.hi
    have hb1 : b1 ∉ blkL A4 := hi_not o4.hi l13
    clear rd4 k14 hB4 o4
    (refine TA_take 0 rfl (by kernel_rfl) (by kernel_rfl) (by kernel_rfl) ?_; repeat (first | refine TL_move (hk := ?_) | refine TLP_load TE (hk := ?_) | refine TLP_load_s TE (hk := ?_) | refine TL_fieldAddr TE (hk := ?_) | refine TL_indexAddr1n TE (hk := ?_)); refine TL_nil_p ?_); (refine TA_take 1 rfl (by kernel_rfl) (by kernel_rfl) (by kernel_rfl) ?_; repeat (first | refine TL_move (hk := ?_) | refine TLP_load TE (hk := ?_) | refine TLP_load_s TE (hk := ?_) | refine TL_fieldAddr TE (hk := ?_) | refine TL_indexAddr1n TE (hk := ?_)); refine TL_nil_p ?_); (refine TA_take 2 rfl (by kernel_rfl) (by kernel_rfl) (by kernel_rfl) ?_; repeat (first | refine TL_move (hk := ?_) | refine TLP_load TE (hk := ?_) | refine TLP_load_s TE (hk := ?_) | refine TL_fieldAddr TE (hk := ?_) | refine TL_indexAddr1n TE (hk := ?_)); refine TL_nil_p ?_); (refine TA_take 3 rfl (by kernel_rfl) (by kernel_rfl) (by kernel_rfl) ?_; repeat (first | refine TL_move (hk := ?_) | refine TLP_load TE (hk := ?_) | refine TLP_load_s TE (hk := ?_) | refine TL_fieldAddr TE (hk := ?_) | refine TL_indexAddr1n TE (hk := ?_)); refine TL_nil_p ?_); (refine TA_take 4 rfl (by kernel_rfl) (by kernel_rfl) (by kernel_rfl) ?_; repeat (first | refine TL_move (hk := ?_) | refine TLP_load TE (hk := ?_) | refine TLP_load_s TE (hk := ?_) | refine TL_fieldAddr TE (hk := ?_) | refine TL_indexAddr1n TE (hk := ?_)); refine TL_nil_p ?_); (refine TA_take 5 rfl (by kernel_rfl) (by kernel_rfl) (by kernel_rfl) ?_; repeat (first | refine TL_move (hk := ?_) | refine TLP_load TE (hk := ?_) | refine TLP_load_s TE (hk := ?_) | refine TL_fieldAddr TE (hk := ?_) | refine TL_indexAddr1n TE (hk := ?_)); refine TL_nil_p ?_); (refine TA_take 6 rfl (by kernel_rfl) (by kernel_rfl) (by kernel_rfl) ?_; repeat (first | refine TL_move (hk := ?_) | refine TLP_load TE (hk := ?_) | refine TLP_load_s TE (hk := ?_) | refine TL_fieldAddr TE (hk := ?_) | refine TL_indexAddr1n TE (hk := ?_)); refine TL_nil_p ?_); (refine TA_take 7 rfl (by kernel_rfl) (by kernel_rfl) (by kernel_rfl) ?_; repeat (first | refine TL_move (hk := ?_) | refine TLP_load TE (hk := ?_) | refine TLP_load_s TE (hk := ?_) | refine TL_fieldAddr TE (hk := ?_) | refine TL_indexAddr1n TE (hk := ?_)); refine TL_nil_p ?_); (refine TA_take 8 rfl (by kernel_rfl) (by kernel_rfl) (by kernel_rfl) ?_; repeat (first | refine TL_move (hk := ?_) | refine TLP_load TE (hk := ?_) | refine TLP_load_s TE (hk := ?_) | refine TL_fieldAddr TE (hk := ?_) | refine TL_indexAddr1n TE (hk := ?_)); refine TL_nil_p ?_); (refine TA_take 9 rfl (by kernel_rfl) (by kernel_rfl) (by kernel_rfl) ?_; repeat (first | refine TL_move (hk := ?_) | refine TLP_load TE (hk := ?_) | refine TLP_load_s TE (hk := ?_) | refine TL_fieldAddr TE (hk := ?_) | refine TL_indexAddr1n TE (hk := ?_)); refine TL_nil_p ?_); (refine TA_take 10 rfl (by kernel_rfl) (by kernel_rfl) (by kernel_rfl) ?_; repeat (first | refine TL_move (hk := ?_) | refine TLP_load TE (hk := ?_) | refine TLP_load_s TE (hk := ?_) | refine TL_fieldAddr TE (hk := ?_) | refine TL_indexAddr1n TE (hk := ?_)); refine TL_nil_p ?_)
    rw [ht]
    refine TA_one 11 rfl (by kernel_rfl) (by kernel_rfl) ?_
    refine TL_call TE (hc := Has_c B m d k t w5 hB5 (by omega)) (hq := fun v w' ⟨_, h⟩ => h ▸ hd5) (hk := ?_)
    rintro _ w5 ⟨rfl, rfl⟩
    refine TL_nil_p ?_
    (refine TA_take 12 rfl (by kernel_rfl) (by kernel_rfl) (by kernel_rfl) ?_; repeat (refine TL_build TE (hk := ?_)); refine TL_nil_p ?_)
    refine TA_one 13 rfl (by kernel_rfl) (by kernel_rfl) ?_
    refine TL_buildSliceA TE (hf := rfl) (hq := fun w' h => hd5.ext h) (hk := ?_); intro b6 w6 e6 h6 h6' k6
    replace k6 : Blk w6 b6 57 [.string (ofL t), .bool (decide (t ∈ k))] := k6
    have z6 := e6.size
    have o6 := o5.be e6
    refine TL_nil_p ?_
    refine TA_one 14 rfl (by kernel_rfl) (by kernel_rfl) ?_
    refine TL_append TE (hf := rfl) (hq := fun w' m => (hd5.ext e6).trans m) (hk := ?_); intro A7 c7 w7 o7 m7 n7
    refine TL_nil_p ?_
    (refine TA_one 15 rfl (by kernel_rfl) (by kernel_rfl) ?_; repeat (refine TL_assign (hk := ?_)); refine TL_nil_p ?_)
    refine TA_done (by kernel_rfl) ?_
    repeat (first | refine T_region ?_ | refine T_inBlock ?_ | refine TL_add (hk := ?_) | refine TL_nil ?_ | refine TL_move (hk := ?_) | refine TL_assign (hk := ?_))
    refine ih ((A7, n4 + 1, c7), n4 + 1) _ _ (by simp only; omega) ⟨((e4.ext e5).ext e6).own m7 o6.hi, by show n4 + 1 ≤ n3; omega, rfl, ?_⟩ (.c rfl (.c rfl (.c rfl (.c rfl (.n)))))
    simp only
    rw [htk, lv_append]
    exact o7
  · have hin : n4 = n3 := by omega
    have hall : ks.take n4 = ks := List.take_of_length_le (by omega)
    repeat (first | refine T_seq ?_ | refine T_region ?_ | refine T_cond_false rfl ?_ | refine T_exit rfl ?_ | refine TL_lt_f (hk := ?_) | refine TL_nil ?_ | refine TL_move (hk := ?_) | refine TL_assign (hk := ?_) | refine TL_len TE (hk := ?_))
    refine T_ret1 rfl rfl ⟨A4, n4, c4, rfl, e03.ext e4, ?_⟩
    rw [hall] at o4
    exact o4.weaken (by omega)
end Go.Proofs.Ytfplmpfdhiagaaa

namespace Go.Proofs.Ytfplmpfdhiagaaa
open Go.RowKit Go.Proofs.Eng Go.Proofs.Codec
set_option linter.unusedSimpArgs false
set_option linter.unusedVariables false
attribute [local irreducible] T TL LV TH TA
set_option maxHeartbeats 1000000

theorem RPutText_c (A : Option Addr) (n c : Nat) (l : List UInt8) (S : ByteArray) (w : World) (h : Rd w A n 1 (bv l)) (hn : n ≤ 7036874417) (hs : S.size ≤ 7036874417) :
    Ret Try.prog 60 [.slice A n c, .string S] w (fun v w' => ∃ A' n' c', v = .slice A' n' c' ∧ Ext w w' ∧ Own w' w.heap.size 5 1 A' n' c' (bv (l ++ (encU S.size ++ S.data.toList)))) := by
  have hlen : l.length = n := by simpa using h.1
  refine ret_T (n := 12) Try.func60 rfl rfl ?_
  repeat (first | refine T_seq ?_ | refine T_region ?_ | refine TL_nil ?_ | refine TL_move (hk := ?_) | refine TL_assign (hk := ?_) | refine TL_len_s TE (hk := ?_) | refine TL_conv TE (hk := ?_))
  refine TL_call TE (hc := RPutUint_c A n c l S.size w rfl h (by omega) (by omega)) (hk := ?_)
  rintro _ w1 ⟨A1, n1, c1, rfl, e1, o1⟩
  have s1 := e1.size
  have hn1 := o1.len
  have h10 := encU_len64 (n := S.size) (by omega)
  simp only [bv_length, List.length_append, Nat.mul_one] at hn1
  repeat (refine TL_move (hk := ?_))
  refine TL_append_s TE (hk := ?_); intro A2 c2 w2 o2 m2 n2
  repeat (first | refine TL_nil ?_ | refine TL_assign (hk := ?_))
  refine T_ret1 rfl rfl ⟨A2, _, c2, rfl, e1.own m2 o1.hi, ?_⟩
  rw [← bv_append, List.append_assoc] at o2
  exact o2

def numV : Except Int (Nat × Nat) → Value
  | .ok (r, k) => .tuple #[.int .u64 (r : Int), .int .i64 (k : Int), .int .i64 0]
  | .error e => .tuple #[.int .u64 0, .int .i64 0, .int .i64 e]
theorem number_c (A : Option Addr) (n c : Nat) (l : List UInt8) (w : World) (h : Rd w A n 1 (bv l)) (hn : n ≤ 70368744177664) :
    Ret Try.prog 94 [.slice A n c] w (fun v w' => v = numV (num0 l) ∧ w' = w) := by
  have hlen : l.length = n := by simpa using h.1
  refine ret_T (n := 53) Try.func94 rfl rfl ?_
  repeat (first | refine T_seq ?_ | refine T_region ?_ | refine T_block ?_ | refine TL_nil ?_ | refine TL_assign (hk := ?_))
  refine T_loop (ι := Nat × Nat) (fun i => [(6, .int .i64 (i.1 : Int)), (5, .int .u64 (i.2 : Int)), (0, .slice A n c)])
    (fun i w' => w' = w ∧ i.1 ≤ 9 ∧ i.2 < 2 ^ (7 * i.1) ∧ numF (10 - i.1) i.1 i.2 (l.drop i.1) = num0 l) (fun i => 10 - i.1) (0, 0) (.c rfl (.c rfl (.c rfl (.n)))) ⟨rfl, by decide, by decide, rfl⟩ ?_
  rintro ⟨i, N⟩ w1 ⟨rfl, hi, hN, hF⟩ ih
  simp only at hi hN hF ih ⊢
  obtain ⟨f, hf⟩ : ∃ f, 10 - i = f + 1 := ⟨9 - i, by omega⟩
  rw [hf] at hF
  by_cases hin : i < n
  · have hd : l.drop i = l[i] :: l.drop (i + 1) := List.drop_eq_getElem_cons _
    have hg := gb_get l i (by omega)
    have hc := gb_lt l i
    rw [hd] at hF
    simp only [numF, ← hg] at hF
    by_cases h9 : i = 9 ∧ 1 < gb l i
    · rw [if_pos h9] at hF
      obtain ⟨rfl, h91⟩ := h9
      repeat (first | refine T_seq ?_ | refine T_region ?_ | refine T_cond_true rfl ?_ | refine T_cond_false rfl ?_ | refine T_block ?_ | refine T_skip ?_ | refine TL_lt_t (hk := ?_) | refine TL_gt_t (hk := ?_) | refine TL_ge_f (hk := ?_) | refine TL_eq_t (hk := ?_) | refine TL_nil ?_ | refine TL_move (hk := ?_) | refine TL_assign (hk := ?_) | (refine TL_load_b TE (hk := ?_); intro _) | refine TL_indexAddr1n TE (hk := ?_) | refine TL_len TE (hk := ?_) | refine TL_yes (hk := ?_) | refine TL_pick_t (hk := ?_))
      exact T_ret3 rfl rfl rfl rfl ⟨by rw [← hF]; rfl, rfl⟩
    · rw [if_neg h9] at hF
      have hp : 2 ^ (7 * (i + 1)) = 2 ^ (7 * i) * 128 := by rw [show 7 * (i + 1) = 7 * i + 7 from by omega, Nat.pow_add]
      have hm : N + gb l i % 128 * 2 ^ (7 * i) < 2 ^ (7 * (i + 1)) := by
        rw [hp]
        have : gb l i % 128 * 2 ^ (7 * i) ≤ 127 * 2 ^ (7 * i) := Nat.mul_le_mul_right _ (by omega)
        omega
      have hp9 : 2 ^ (7 * i) ≤ 2 ^ 63 := Nat.pow_le_pow_right (by decide) (by omega)
      have hb : N + gb l i % 128 * 2 ^ (7 * i) < 2 ^ 64 := by
        by_cases h9' : i = 9
        · have : gb l i % 128 * 2 ^ (7 * i) ≤ 1 * 2 ^ (7 * i) := Nat.mul_le_mul_right _ (by omega)
          omega
        · have : 2 ^ (7 * (i + 1)) ≤ 2 ^ 63 := Nat.pow_le_pow_right (by decide) (by omega)
          omega
      have hor : gb l i % 128 * 2 ^ (7 * i) % 2 ^ 64 = gb l i % 128 * 2 ^ (7 * i) := Nat.mod_eq_of_lt (by omega)
      have hq : N + gb l i % 128 * 2 ^ (7 * i) % 2 ^ 64 < 2 ^ 64 := by rw [hor]; exact hb
      by_cases i9 : i = 9
      · repeat (first | refine T_seq ?_ | refine T_region ?_ | refine T_cond_true rfl ?_ | refine T_cond_false rfl ?_ | refine T_block ?_ | refine T_skip ?_ | refine TL_mul (hk := ?_) | refine TL_rem (hk := ?_) | refine TL_lt_t (hk := ?_) | refine TL_gt_f (hk := ?_) | refine TL_ge_f (hk := ?_) | refine TL_eq_t (hk := ?_) | refine TL_nil ?_ | refine TL_move (hk := ?_) | (refine TL_load_b TE (hk := ?_); intro _) | refine TL_indexAddr1n TE (hk := ?_) | refine TL_len TE (hk := ?_) | refine TL_yes (hk := ?_) | refine TL_pick_t (hk := ?_) | refine TL_conv TE (hk := ?_))
        refine TL_shl rfl rfl (a := gb l i % 128) (c := 7 * i) (by omega) (by omega) rfl (by omega) rfl ?_
        repeat (first | refine T_seq ?_ | refine T_region ?_ | refine T_cond_true rfl ?_ | refine TL_add (hk := ?_) | refine TL_lt_t (hk := ?_) | refine TL_gt_t (hk := ?_) | refine TL_nil ?_ | refine TL_move (hk := ?_) | refine TL_assign (hk := ?_) | (refine TL_load_b TE (hk := ?_); intro _) | refine TL_indexAddr1n TE (hk := ?_) | refine TL_yes (hk := ?_))
        by_cases hlt : gb l i < 128
        · rw [if_pos hlt] at hF
          by_cases h0 : 0 < i
          · by_cases hz : gb l i = 0
            · rw [if_pos ⟨h0, hz⟩] at hF
              repeat (first | refine T_seq ?_ | refine T_region ?_ | refine T_cond_true rfl ?_ | refine TL_eq_t (hk := ?_) | refine TL_nil ?_ | refine TL_assign (hk := ?_) | refine TL_pick_t (hk := ?_))
              exact T_ret3 rfl rfl rfl rfl ⟨by rw [← hF]; rfl, rfl⟩
            · rw [if_neg (by omega)] at hF
              repeat (first | refine T_seq ?_ | refine T_region ?_ | refine T_cond_false rfl ?_ | refine T_skip ?_ | refine TL_add (hk := ?_) | refine TL_eq_f (hk := ?_) | refine TL_nil ?_ | refine TL_move (hk := ?_) | refine TL_assign (hk := ?_) | refine TL_pick_t (hk := ?_))
              exact T_ret3 rfl rfl rfl rfl ⟨by rw [← hF, hor]; rfl, rfl⟩
          · first
            | (exfalso; omega)
            | skip
              rw [if_neg (by omega)] at hF
              --
              exact T_ret3 rfl rfl rfl rfl ⟨by rw [← hF, hor]; rfl, rfl⟩
        · first
          | (exfalso; omega)
          | skip
            rw [if_neg hlt] at hF
            --
            refine ih (i + 1, N + gb l i % 128 * 2 ^ (7 * i)) _ _ (by simp only; omega) ⟨rfl, by simp only; omega, hm, ?_⟩ ?_
            · simp only
              rw [show 10 - (i + 1) = f by omega]
              exact hF
            · rw [hor]
              exact (.c rfl (.c rfl (.c rfl (.n))))
      · repeat (first | refine T_seq ?_ | refine T_region ?_ | refine T_cond_true rfl ?_ | refine T_cond_false rfl ?_ | refine T_block ?_ | refine T_skip ?_ | refine TL_mul (hk := ?_) | refine TL_rem (hk := ?_) | refine TL_lt_t (hk := ?_) | refine TL_ge_f (hk := ?_) | refine TL_eq_f (hk := ?_) | refine TL_nil ?_ | refine TL_move (hk := ?_) | (refine TL_load_b TE (hk := ?_); intro _) | refine TL_indexAddr1n TE (hk := ?_) | refine TL_len TE (hk := ?_) | refine TL_no (hk := ?_) | refine TL_pick_f (hk := ?_) | refine TL_conv TE (hk := ?_))
        refine TL_shl rfl rfl (a := gb l i % 128) (c := 7 * i) (by omega) (by omega) rfl (by omega) rfl ?_
        repeat (first | refine T_seq ?_ | refine T_region ?_ | refine TL_add (hk := ?_) | refine TL_nil ?_ | refine TL_move (hk := ?_) | refine TL_assign (hk := ?_) | (refine TL_load_b TE (hk := ?_); intro _) | refine TL_indexAddr1n TE (hk := ?_))
        by_cases hlt : gb l i < 128
        · rw [if_pos hlt] at hF
          by_cases h0 : 0 < i
          · by_cases hz : gb l i = 0
            · rw [if_pos ⟨h0, hz⟩] at hF
              repeat (first | refine T_seq ?_ | refine T_region ?_ | refine T_cond_true rfl ?_ | refine TL_lt_t (hk := ?_) | refine TL_gt_t (hk := ?_) | refine TL_eq_t (hk := ?_) | refine TL_nil ?_ | refine TL_move (hk := ?_) | refine TL_assign (hk := ?_) | (refine TL_load_b TE (hk := ?_); intro _) | refine TL_indexAddr1n TE (hk := ?_) | refine TL_yes (hk := ?_) | refine TL_pick_t (hk := ?_))
              exact T_ret3 rfl rfl rfl rfl ⟨by rw [← hF]; rfl, rfl⟩
            · rw [if_neg (by omega)] at hF
              repeat (first | refine T_seq ?_ | refine T_region ?_ | refine T_cond_true rfl ?_ | refine T_cond_false rfl ?_ | refine T_skip ?_ | refine TL_add (hk := ?_) | refine TL_lt_t (hk := ?_) | refine TL_gt_t (hk := ?_) | refine TL_eq_f (hk := ?_) | refine TL_nil ?_ | refine TL_move (hk := ?_) | refine TL_assign (hk := ?_) | (refine TL_load_b TE (hk := ?_); intro _) | refine TL_indexAddr1n TE (hk := ?_) | refine TL_yes (hk := ?_) | refine TL_pick_t (hk := ?_))
              exact T_ret3 rfl rfl rfl rfl ⟨by rw [← hF, hor]; rfl, rfl⟩
          · first
            | (exfalso; omega)
            | skip
              rw [if_neg (by omega)] at hF
              repeat (first | refine T_seq ?_ | refine T_region ?_ | refine T_cond_true rfl ?_ | refine T_cond_false rfl ?_ | refine T_skip ?_ | refine TL_add (hk := ?_) | refine TL_lt_t (hk := ?_) | refine TL_gt_f (hk := ?_) | refine TL_nil ?_ | refine TL_move (hk := ?_) | refine TL_assign (hk := ?_) | refine TL_no (hk := ?_) | refine TL_pick_f (hk := ?_))
              exact T_ret3 rfl rfl rfl rfl ⟨by rw [← hF, hor]; rfl, rfl⟩
        · first
          | (exfalso; omega)
          | skip
            rw [if_neg hlt] at hF
            repeat (first | refine T_region ?_ | refine T_cond_false rfl ?_ | refine T_inBlock ?_ | refine T_skip ?_ | refine TL_add (hk := ?_) | refine TL_lt_f (hk := ?_) | refine TL_nil ?_ | refine TL_move (hk := ?_) | refine TL_assign (hk := ?_))
            refine ih (i + 1, N + gb l i % 128 * 2 ^ (7 * i)) _ _ (by simp only; omega) ⟨rfl, by simp only; omega, hm, ?_⟩ ?_
            · simp only
              rw [show 10 - (i + 1) = f by omega]
              exact hF
            · rw [hor]
              exact (.c rfl (.c rfl (.c rfl (.n))))
  · rw [List.drop_of_length_le (by omega)] at hF
    repeat (first | refine T_seq ?_ | refine T_region ?_ | refine T_cond_true rfl ?_ | refine T_block ?_ | refine T_skip ?_ | refine TL_lt_t (hk := ?_) | refine TL_ge_t (hk := ?_) | refine TL_nil ?_ | refine TL_move (hk := ?_) | refine TL_assign (hk := ?_) | refine TL_len TE (hk := ?_))
    exact T_ret3 rfl rfl rfl rfl ⟨by rw [← hF]; rfl, rfl⟩

theorem New_c (A : Option Addr) (n c : Nat) (l : List UInt8) (w : World) (h : Rd w A n 1 (bv l)) (hn : n ≤ 7036874417) :
    Ret Try.prog 69 [.slice A n c] w (fun v w' => ∃ b A' n' c', v = ptr b ∧ Ext w w' ∧ w.heap.size ≤ b ∧ Hi A' w.heap.size ∧ Rdr w' 91 b ⟨l, 0, 0, 0, 0⟩ A' n' c') := by
  refine ret_T (n := 8) Try.func69 rfl rfl ?_
  repeat (first | refine T_seq ?_ | refine T_region ?_ | refine TL_nil ?_ | refine TL_assign (hk := ?_))
  refine TL_buildSlice TE (hk := ?_); intro b0 w0 e0 h0 h0' k0
  have o0 : Own w0 w.heap.size 5 1 (some ⟨b0, 0, none⟩) 0 0 [] := Own.of_blk k0 h0 rfl (by decide)
  have s0 := e0.size
  repeat (refine TL_move (hk := ?_))
  refine TL_append TE (hk := ?_); intro A1 c1 w1 o1 m1 n1
  have e1 : Ext w w1 := e0.own m1 o0.hi
  repeat (refine TL_build TE (hk := ?_))
  refine TL_box (hk := ?_); intro b w2 e2 h1 h2 k
  repeat (first | refine TL_nil ?_ | refine TL_assign (hk := ?_))
  have hs := e1.size
  refine T_ret1 rfl rfl ⟨b, A1, 0 + n, c1, rfl, e1.ext e2, by omega, o1.hi, ?_⟩
  exact ⟨k, (o1.be e2).rd, Off.lo o1.lo h1, by have := h.1; simpa using this, Nat.zero_le _, Nat.zero_le _, by simpa using hn, o1.cap.1⟩
end Go.Proofs.Ytfplmpfdhiagaaa

namespace Go.Proofs.Ytfplmpfdhiagaaa
open Go.RowKit Go.Proofs.Eng Go.Proofs.Foot Go.Proofs.Codec
set_option linter.unusedSimpArgs false
set_option linter.unusedVariables false
attribute [local irreducible] T TL LV TH TA
theorem Rd.ne {w : World} {A : Option Addr} {n s : Nat} {xs : List Value} (h : Rd w A n s xs) (hn : 0 < n) : A ≠ none := by
  obtain ⟨b, off, rfl, _⟩ := h.2 hn
  exact fun h => by cases h
theorem lv_len (l : List (Tx × Bool)) : (lv l).length = l.length * 2 := by
  induction l with
  | nil => rfl
  | cons p l ih => simp [lv] at ih ⊢; omega
theorem lv_get (l : List (Tx × Bool)) (i : Nat) (hi : i < l.length) : (lv l)[Int.toNat (i : Int) * 2 + 0]? = some (.string (ofL (l.getD i ([], false)).1)) ∧ (lv l)[Int.toNat (i : Int) * 2 + 1]? = some (.bool (l.getD i ([], false)).2) := by
  have e : Int.toNat (i : Int) = i := by omega
  rw [e]
  induction l generalizing i with
  | nil => simp at hi
  | cons p l ih =>
    cases i with
    | zero => simp [lv]
    | succ i =>
      have := ih i (by simpa using hi) (by omega)
      have e2 : lv (p :: l) = [Value.string (ofL p.1), Value.bool p.2] ++ lv l := by simp [lv]
      rw [e2, List.getElem?_append_right (by simp; omega), List.getElem?_append_right (by simp; omega)]
      simp only [List.length_cons, List.length_nil, List.getD_cons_succ]
      rw [show (i + 1) * 2 + 0 - (0 + 1 + 1) = i * 2 + 0 by omega, show (i + 1) * 2 + 1 - (0 + 1 + 1) = i * 2 + 1 by omega]
      exact this
attribute [local irreducible] sv lv bv in
theorem RPut_c (B A C : Option Addr) (nb cb n c m d : Nat) (ahead : List UInt8) (r k : List Tx) (w : World) (hb : Rd w B nb 1 (bv ahead)) (h : Rd w A n 1 (sv r)) (g : Rd w C m 1 (sv k)) (hnb : nb ≤ 200000) (hn : n ≤ 50000) (hm : m ≤ 50000) (sr : Short r) (sk : Short k) :
    Ret Try.prog 17 [.slice B nb cb, .agg #[.slice A n c, .slice C m d]] w (fun v w' => ∃ P np cp, v = .tuple #[.slice P np cp, .int .i64 (if isNorm r k = true then 0 else 31)] ∧ Ext w w' ∧ Own w' w.heap.size 5 1 P np cp (if isNorm r k = true then bv (ahead ++ putB (ofM r k)) else [])) := by
  refine ret_T (n := 55) Try.func17 rfl rfl ?_
  repeat (first | refine T_seq ?_ | refine T_region ?_)
  refine TL_box (hk := ?_); intro b1 w1 e1 h1 h1' k1
  repeat (first | refine T_seq ?_ | refine T_region ?_ | refine TL_nil ?_ | refine TL_assign (hk := ?_))
  refine TL_loadb TE (cs := [.slice A n c, .slice C m d]) (o := 0) rfl rfl k1 rfl rfl (Nat.succ_pos _) (hk := ?_)
  refine TL_call TE (hc := RIs_c A C n c m d r k _ (h.be e1) (g.be e1) hn hm sr sk) (hk := ?_)
  rintro _ w2 ⟨rfl, e2⟩
  by_cases hN : isNorm r k = true
  · rw [if_pos hN, if_pos hN]
    have hshort := keys3_short hN
    have h64 := (norm_short hN).2
    have hl3 := of_len3 r k
    have hr := h.1
    rw [hN]
    have k12 := k1.be e2
    have e02 := e1.ext e2
    have hb2 := hb.be e02
    have hA2 := h.be e02
    have hC2 := g.be e02
    clear k1 h g
    repeat (first | refine T_seq ?_ | refine T_region ?_ | refine T_cond_false rfl ?_ | refine T_skip ?_ | refine TL_nil ?_ | refine TL_not (hk := ?_))
    refine TL_loadb TE (cs := [.slice A n c, .slice C m d]) (o := 0) rfl rfl k12 rfl rfl (Nat.succ_pos _) (hk := ?_)
    refine TL_call TE (hc := RLocks_c A C n c m d r k _ hA2 hC2 hn hm) (hk := ?_)
    rintro _ w3 ⟨A3, n3, c3, rfl, e3, o3⟩
    have hb3 := hb2.be e3
    have z3 := e02.size
    have z3' := e3.size
    obtain ⟨ks, hks⟩ : ∃ ks, keysM (ofM r k) 3 = ks := ⟨_, rfl⟩
    obtain ⟨ls, hls⟩ : ∃ ls, locksM (ofM r k) = ls := ⟨_, rfl⟩
    have hlm : ls = ks.map fun t => (t, bitsM (ofM r k) t &&& 2 != 0) := by rw [← hls, ← hks]; rfl
    rw [hls] at o3
    rw [hks] at hshort hl3
    have hkl : ks.length = n3 := by
      have := o3.len
      rw [lv_len, hlm, List.length_map] at this
      omega
    have e03 := e02.ext e3
    have rd3 := o3.rd
    have lo3 := o3.lo
    repeat (first | refine T_seq ?_ | refine T_region ?_ | refine TL_nil ?_ | refine TL_move (hk := ?_) | refine TL_assign (hk := ?_) | refine TL_len TE (hk := ?_) | refine TL_conv TE (hk := ?_))
    refine TL_call TE (hc := RPutUint_c B nb cb ahead n3 _ rfl hb3 (by omega) (by omega)) (hk := ?_)
    rintro _ w4 ⟨A4, n4, c4, rfl, e4, o4⟩
    have z4 := e4.size
    have hlb := hb.1
    have hlen4 := o4.len
    have henc := encU_len64 (n := n3) (by omega)
    simp only [bv_length, List.length_append, Nat.mul_one] at hlen4 hlb
    have e04 := e03.ext e4
    have hA4 := hA2.be (e3.ext e4)
    have k14 := k12.be (e3.ext e4)
    have rd4 := rd3.be e4
    clear hb2 hb3 hA2 hC2 k12
    repeat (first | refine T_seq ?_ | refine T_region ?_ | refine T_block ?_ | refine TL_nil ?_ | refine TL_assign (hk := ?_))
    refine T_loop (ι := (Option Addr × Nat × Nat) × Nat) (fun i => [(8, .int .i64 (i.2 : Int)), (6, .slice A3 n3 c3), (3, .pointer (some ⟨b1, 0, none⟩)), (7, .slice i.1.1 i.1.2.1 i.1.2.2)])
      (fun i w' => Ext w w' ∧ Ext w4 w' ∧ i.2 ≤ n3 ∧ i.1.2.1 ≤ 200010 + 43 * i.2 ∧ Own w' w.heap.size 5 1 i.1.1 i.1.2.1 i.1.2.2 (bv (ahead ++ (encU n3 ++ bodyB (ofM r k) (ks.take i.2))))) (fun i => n3 - i.2) ((A4, n4, c4), 0) (.c rfl (.c rfl (.c rfl (.c rfl (.n)))))
      ⟨e04, Mod.refl _ _, Nat.zero_le _, by show n4 ≤ 200010 + 43 * 0; omega, by simpa [bodyB] using o4.weaken (base' := w.heap.size) (by omega)⟩ ?_
    rintro ⟨⟨A6, n6, c6⟩, i⟩ w6 ⟨e6, e46, hi, hn6, o6⟩ ih
    simp only at hi hn6 o6 ih ⊢
    have z6 := e6.size
    by_cases hlt : i < n3
    · obtain ⟨t, ht⟩ : ∃ t, ks.getD i [] = t := ⟨_, rfl⟩
      have htm : t ∈ ks := by rw [← ht]; exact getD_mem (by omega)
      have ht32 := hshort t htm
      have hbt := bodyB_take (ofM r k) ks i (by omega)
      rw [ht] at hbt
      have hel := entryB_len (ofM r k) t ht32
      have hbits := bits_of r k t
      have hgi : ls.getD i ([], false) = (t, bitsM (ofM r k) t &&& 2 != 0) := by
        rw [hlm, ← ht, List.getD_eq_getElem?_getD, List.getElem?_map, List.getD_eq_getElem?_getD, List.getElem?_eq_getElem (by omega)]
        rfl
      have hlg := lv_get ls i (by rw [hlm, List.length_map]; omega)
      rw [hgi] at hlg
      obtain ⟨hl0, hl1⟩ := hlg
      simp only at hl0 hl1
      have rd6 := rd4.be e46
      have hA6 := hA4.be e46
      have k16 := k14.be e46
      have hne := Rd.ne rd6 (by omega)
      have e1t := encU_len64 (n := t.length) (by omega)
      have hsz := ofL_size t
      clear hshort
      repeat (first | refine T_seq ?_ | refine T_region ?_ | refine T_cond_true rfl ?_ | refine T_block ?_ | refine T_skip ?_ | refine TL_lt_t (hk := ?_) | refine TL_nil ?_ | refine TL_move (hk := ?_) | refine TL_load_rd TE (hk := ?_) | refine TL_fieldAddr_e TE (hk := ?_) | refine TL_indexAddrn TE (hk := ?_) | refine TL_len TE (hk := ?_))
      refine TL_call TE (hc := RPutText_c A6 n6 c6 _ (ofL t) w6 o6.rd (by omega) (by omega)) (hk := ?_)
      rintro _ w8 ⟨A8, n8, c8, rfl, e8, o8⟩
      have z8 := e8.size
      have hl8 := o8.len
      simp only [bv_length, List.length_append, Nat.mul_one, ofL_toList, ofL_size] at hl8
      have hl7 := o6.len
      simp only [bv_length, List.length_append, Nat.mul_one] at hl7
      have rd8 := rd6.be e8
      have hA8 := hA6.be e8
      have k18 := k16.be e8
      clear rd6 hA6 k16 o6
      repeat (first | refine T_seq ?_ | refine T_region ?_ | refine TL_nil ?_ | refine TL_assign (hk := ?_))
      refine T_region_any TE.mixed [] ?_; intro w9 e9 z9
      have hD1 : b1 ∉ ([] : List Nat) := by simp
      have rd9 := rd8.be e9
      have hA9 := hA8.be e9
      have k19 := k18.be e9
      have o9 := o8.be e9
      clear rd8 hA8 k18 o8
      (refine TA_take 0 rfl (by kernel_rfl) (by kernel_rfl) (by kernel_rfl) ?_; repeat (first | refine TL_move (hk := ?_) | refine TLP_load TE (hk := ?_) | refine TLP_load_rd TE (hk := ?_) | refine TL_fieldAddr TE (hk := ?_) | refine TL_fieldAddr_e TE (hk := ?_) | refine TL_indexAddrn TE (hk := ?_)); refine TL_nil_p ?_); (refine TA_take 1 rfl (by kernel_rfl) (by kernel_rfl) (by kernel_rfl) ?_; repeat (first | refine TL_move (hk := ?_) | refine TLP_load TE (hk := ?_) | refine TLP_load_rd TE (hk := ?_) | refine TL_fieldAddr TE (hk := ?_) | refine TL_fieldAddr_e TE (hk := ?_) | refine TL_indexAddrn TE (hk := ?_)); refine TL_nil_p ?_); (refine TA_take 2 rfl (by kernel_rfl) (by kernel_rfl) (by kernel_rfl) ?_; repeat (first | refine TL_move (hk := ?_) | refine TLP_load TE (hk := ?_) | refine TLP_load_rd TE (hk := ?_) | refine TL_fieldAddr TE (hk := ?_) | refine TL_fieldAddr_e TE (hk := ?_) | refine TL_indexAddrn TE (hk := ?_)); refine TL_nil_p ?_); (refine TA_take 3 rfl (by kernel_rfl) (by kernel_rfl) (by kernel_rfl) ?_; repeat (first | refine TL_move (hk := ?_) | refine TLP_load TE (hk := ?_) | refine TLP_load_rd TE (hk := ?_) | refine TL_fieldAddr TE (hk := ?_) | refine TL_fieldAddr_e TE (hk := ?_) | refine TL_indexAddrn TE (hk := ?_)); refine TL_nil_p ?_); (refine TA_take 4 rfl (by kernel_rfl) (by kernel_rfl) (by kernel_rfl) ?_; repeat (first | refine TL_move (hk := ?_) | refine TLP_load TE (hk := ?_) | refine TLP_load_rd TE (hk := ?_) | refine TL_fieldAddr TE (hk := ?_) | refine TL_fieldAddr_e TE (hk := ?_) | refine TL_indexAddrn TE (hk := ?_)); refine TL_nil_p ?_); (refine TA_take 5 rfl (by kernel_rfl) (by kernel_rfl) (by kernel_rfl) ?_; repeat (first | refine TL_move (hk := ?_) | refine TLP_load TE (hk := ?_) | refine TLP_load_rd TE (hk := ?_) | refine TL_fieldAddr TE (hk := ?_) | refine TL_fieldAddr_e TE (hk := ?_) | refine TL_indexAddrn TE (hk := ?_)); refine TL_nil_p ?_); (refine TA_take 6 rfl (by kernel_rfl) (by kernel_rfl) (by kernel_rfl) ?_; repeat (first | refine TL_move (hk := ?_) | refine TLP_load TE (hk := ?_) | refine TLP_load_rd TE (hk := ?_) | refine TL_fieldAddr TE (hk := ?_) | refine TL_fieldAddr_e TE (hk := ?_) | refine TL_indexAddrn TE (hk := ?_)); refine TL_nil_p ?_)
      refine TA_one 7 rfl (by kernel_rfl) (by kernel_rfl) ?_
      refine TL_call TE (hc := Has_c A n c r t w9 hA9 (by omega)) (hq := fun v w' ⟨_, h⟩ => h ▸ Mod.refl _ _) (hk := ?_)
      rintro _ w9 ⟨rfl, rfl⟩
      refine TL_nil_p ?_
      refine TA_done (by kernel_rfl) ?_
      have hrk : t ∈ r ∨ t ∈ k := by rw [← hks, keys3, set_mem] at htm; simpa using htm
      by_cases q1 : t ∈ r
      · by_cases q2 : t ∈ k
        · have hu : bitsM (ofM r k) t = 3 := by rw [hbits]; simp [q1, q2]
          rw [hu] at hl1
          replace hl1 : (lv ls)[Int.toNat (i : Int) * 2 + 1]? = some (.bool true) := hl1
          rw [decide_eq_true q1]
          repeat (first | refine T_seq ?_ | refine T_region ?_ | refine T_cond_true rfl ?_ | refine TL_add (hk := ?_) | refine TL_nil ?_ | refine TL_move (hk := ?_) | refine TL_assign (hk := ?_) | refine TL_load_rd TE (hk := ?_) | refine TL_fieldAddr_e TE (hk := ?_) | refine TL_indexAddrn TE (hk := ?_))
          refine TL_buildSlice TE (hk := ?_); intro b10 w10 e10 h10 h10' k10
          replace k10 : Blk w10 b10 5 [.int .u8 ((3 : Nat) : Int)] := k10
          have o10 := o9.be e10
          have z10 := e10.size
          --
          refine TL_append TE (hk := ?_); intro A11 c11 w11 o11 m11 n11
          have E11 : Ext w6 w11 := ((e8.ext e9).ext e10).own m11 (Hi.mono o10.hi (by omega))
          repeat (first | refine T_region ?_ | refine T_inBlock ?_ | refine TL_add (hk := ?_) | refine TL_nil ?_ | refine TL_move (hk := ?_) | refine TL_assign (hk := ?_))
          refine ih ((A11, n8 + 1, c11), i + 1) _ _ (by simp only; omega) ⟨e6.ext E11, e46.ext E11, by show i + 1 ≤ n3; omega, by show n8 + 1 ≤ 200010 + 43 * (i + 1); omega, ?_⟩ (.c rfl (.c rfl (.c rfl (.c rfl (.n)))))
          have o12 := o11.weaken (base' := w.heap.size) (by omega)
          simp only
          rw [hbt, entryB, hu]
          have hv := bv_snoc (ahead ++ (encU n3 ++ bodyB (ofM r k) (ks.take i)) ++ (encU (ofL t).size ++ (ofL t).data.toList)) 3 (by omega)
          have hv2 : bv (ahead ++ (encU n3 ++ bodyB (ofM r k) (ks.take i)) ++ (encU (ofL t).size ++ (ofL t).data.toList)) ++ [Value.int .u8 ((3 : Nat) : Int)] = bv (ahead ++ (encU n3 ++ (bodyB (ofM r k) (ks.take i) ++ (encU t.length ++ t ++ [UInt8.ofNat 3])))) := by
            rw [hv, ofL_toList, ofL_size]
            simp only [List.append_assoc]
          rw [← hv2]
          exact o12
        · have hu : bitsM (ofM r k) t = 1 := by rw [hbits]; simp [q1, q2]
          rw [hu] at hl1
          replace hl1 : (lv ls)[Int.toNat (i : Int) * 2 + 1]? = some (.bool false) := hl1
          rw [decide_eq_true q1]
          repeat (first | refine T_seq ?_ | refine T_region ?_ | refine T_cond_true rfl ?_ | refine T_cond_false rfl ?_ | refine T_skip ?_ | refine TL_add (hk := ?_) | refine TL_nil ?_ | refine TL_move (hk := ?_) | refine TL_assign (hk := ?_) | refine TL_load_rd TE (hk := ?_) | refine TL_fieldAddr_e TE (hk := ?_) | refine TL_indexAddrn TE (hk := ?_))
          refine TL_buildSlice TE (hk := ?_); intro b10 w10 e10 h10 h10' k10
          replace k10 : Blk w10 b10 5 [.int .u8 ((1 : Nat) : Int)] := k10
          have o10 := o9.be e10
          have z10 := e10.size
          --
          refine TL_append TE (hk := ?_); intro A11 c11 w11 o11 m11 n11
          have E11 : Ext w6 w11 := ((e8.ext e9).ext e10).own m11 (Hi.mono o10.hi (by omega))
          repeat (first | refine T_region ?_ | refine T_inBlock ?_ | refine TL_add (hk := ?_) | refine TL_nil ?_ | refine TL_move (hk := ?_) | refine TL_assign (hk := ?_))
          refine ih ((A11, n8 + 1, c11), i + 1) _ _ (by simp only; omega) ⟨e6.ext E11, e46.ext E11, by show i + 1 ≤ n3; omega, by show n8 + 1 ≤ 200010 + 43 * (i + 1); omega, ?_⟩ (.c rfl (.c rfl (.c rfl (.c rfl (.n)))))
          have o12 := o11.weaken (base' := w.heap.size) (by omega)
          simp only
          rw [hbt, entryB, hu]
          have hv := bv_snoc (ahead ++ (encU n3 ++ bodyB (ofM r k) (ks.take i)) ++ (encU (ofL t).size ++ (ofL t).data.toList)) 1 (by omega)
          have hv2 : bv (ahead ++ (encU n3 ++ bodyB (ofM r k) (ks.take i)) ++ (encU (ofL t).size ++ (ofL t).data.toList)) ++ [Value.int .u8 ((1 : Nat) : Int)] = bv (ahead ++ (encU n3 ++ (bodyB (ofM r k) (ks.take i) ++ (encU t.length ++ t ++ [UInt8.ofNat 1])))) := by
            rw [hv, ofL_toList, ofL_size]
            simp only [List.append_assoc]
          rw [← hv2]
          exact o12
      · have q2 : t ∈ k := hrk.resolve_left q1
        have hu : bitsM (ofM r k) t = 2 := by rw [hbits]; simp [q1, q2]
        rw [hu] at hl1
        replace hl1 : (lv ls)[Int.toNat (i : Int) * 2 + 1]? = some (.bool true) := hl1
        rw [decide_eq_false q1]
        repeat (first | refine T_seq ?_ | refine T_region ?_ | refine T_cond_true rfl ?_ | refine T_cond_false rfl ?_ | refine T_skip ?_ | refine TL_add (hk := ?_) | refine TL_nil ?_ | refine TL_move (hk := ?_) | refine TL_assign (hk := ?_) | refine TL_load_rd TE (hk := ?_) | refine TL_fieldAddr_e TE (hk := ?_) | refine TL_indexAddrn TE (hk := ?_))
        refine TL_buildSlice TE (hk := ?_); intro b10 w10 e10 h10 h10' k10
        replace k10 : Blk w10 b10 5 [.int .u8 ((2 : Nat) : Int)] := k10
        have o10 := o9.be e10
        have z10 := e10.size
        --
        refine TL_append TE (hk := ?_); intro A11 c11 w11 o11 m11 n11
        have E11 : Ext w6 w11 := ((e8.ext e9).ext e10).own m11 (Hi.mono o10.hi (by omega))
        repeat (first | refine T_region ?_ | refine T_inBlock ?_ | refine TL_add (hk := ?_) | refine TL_nil ?_ | refine TL_move (hk := ?_) | refine TL_assign (hk := ?_))
        refine ih ((A11, n8 + 1, c11), i + 1) _ _ (by simp only; omega) ⟨e6.ext E11, e46.ext E11, by show i + 1 ≤ n3; omega, by show n8 + 1 ≤ 200010 + 43 * (i + 1); omega, ?_⟩ (.c rfl (.c rfl (.c rfl (.c rfl (.n)))))
        have o12 := o11.weaken (base' := w.heap.size) (by omega)
        simp only
        rw [hbt, entryB, hu]
        have hv := bv_snoc (ahead ++ (encU n3 ++ bodyB (ofM r k) (ks.take i)) ++ (encU (ofL t).size ++ (ofL t).data.toList)) 2 (by omega)
        have hv2 : bv (ahead ++ (encU n3 ++ bodyB (ofM r k) (ks.take i)) ++ (encU (ofL t).size ++ (ofL t).data.toList)) ++ [Value.int .u8 ((2 : Nat) : Int)] = bv (ahead ++ (encU n3 ++ (bodyB (ofM r k) (ks.take i) ++ (encU t.length ++ t ++ [UInt8.ofNat 2])))) := by
          rw [hv, ofL_toList, ofL_size]
          simp only [List.append_assoc]
        rw [← hv2]
        exact o12
    · have hin : i = n3 := by omega
      have hall : ks.take i = ks := List.take_of_length_le (by omega)
      repeat (first | refine T_seq ?_ | refine T_region ?_ | refine T_cond_false rfl ?_ | refine T_exit rfl ?_ | refine TL_lt_f (hk := ?_) | refine TL_nil ?_ | refine TL_move (hk := ?_) | refine TL_assign (hk := ?_) | refine TL_len TE (hk := ?_))
      refine T_ret2 rfl rfl rfl ⟨A6, n6, c6, rfl, e6, ?_⟩
      rw [hall] at o6
      unfold putB
      rw [hks, hkl]
      exact o6
  · have hN' : isNorm r k = false := by simpa using hN
    rw [hN']
    repeat (first | refine T_seq ?_ | refine T_region ?_ | refine T_cond_true rfl ?_ | refine TL_nil ?_ | refine TL_assign (hk := ?_) | refine TL_not (hk := ?_))
    exact T_ret2 rfl rfl rfl ⟨none, 0, 0, rfl, e1.ext e2, Own.nil _ _ _ _⟩
end Go.Proofs.Ytfplmpfdhiagaaa

/- Which footprint stands at the front of bytes. -/
namespace Go.Proofs.Foot
open Go.Proofs.Eng Go.Proofs.Codec
set_option linter.unusedSimpArgs false
set_option linter.unusedVariables false
structure GS where
  s : RS
  last : Tx
  rd : List Tx
  wr : List Tx
def gText (g : GS) : Tx × RS := g.s.take ([] : List UInt8) (tText 32)
def gKey (g : GS) : RS := if validT (gText g).1 = true then (gText g).2 else (gText g).2.fail 30
def gRise (g : GS) : RS := if (gText g).1 ≤ g.last then (gKey g).fail 31 else gKey g
def gUse (g : GS) : Nat × RS := (gRise g).take (0 : Nat) tByte
def gEnd (g : GS) : RS := if (gUse g).1 < 1 ∨ 3 < (gUse g).1 then (gUse g).2.fail 31 else (gUse g).2
def gStep (g : GS) : GS := ⟨gEnd g, (gText g).1, if (gUse g).1 &&& 1 = 0 then g.rd else g.rd ++ [(gText g).1], if (gUse g).1 &&& 2 = 0 then g.wr else g.wr ++ [(gText g).1]⟩
def gIter : Nat → GS → GS
  | 0, g => g
  | n + 1, g => gStep (gIter n g)
def gInit (b : List UInt8) : Nat × RS := (RS.mk b 0 0 0 0).take (0 : Nat) (tLim 64 6)
def gAll (b : List UInt8) : GS := gIter (gInit b).1 ⟨(gInit b).2, [], [], []⟩
def getF (b : List UInt8) : ((List Tx × List Tx) × Nat) × Int :=
  if (gAll b).s.err = 0 then ((((gAll b).rd, (gAll b).wr), b.length - (gAll b).s.rest), 0) else ((([], []), 0), (gAll b).s.err)
theorem tLim_le {most e : Int} {l : List UInt8} {n k : Nat} (h : tLim most e l = .ok (n, k)) : (n : Int) ≤ most := by
  unfold tLim at h
  split at h
  · split at h
    · cases h
    · cases h; omega
  · cases h
theorem tText_le {most : Int} {l v : List UInt8} {k : Nat} (h : tText most l = .ok (v, k)) : (v.length : Int) ≤ most := by
  unfold tText at h
  split at h
  · rename_i n j hq
    have := tLim_le hq
    split at h
    · cases h
    · cases h
      rw [List.length_take]
      omega
  · cases h
theorem gText_le (g : GS) : (gText g).1.length ≤ 32 := by
  unfold gText RS.take
  split
  · cases h : tText 32 (g.s.b.drop g.s.pos) with
    | ok p => obtain ⟨v, k⟩ := p; have := tText_le h; simp only; omega
    | error e => simp
  · simp
theorem gUse_lt (g : GS) : (gUse g).1 < 256 := by
  unfold gUse RS.take
  split
  · cases h : tByte ((gRise g).b.drop (gRise g).pos) with
    | ok p =>
      obtain ⟨v, k⟩ := p
      unfold tByte at h
      split at h
      · cases h
      · rename_i c _ _
        cases h
        exact UInt8.toNat_lt c
    | error e => simp
  · simp
theorem gInit_le (b : List UInt8) : (gInit b).1 ≤ 64 := by
  unfold gInit RS.take
  simp only [if_true]
  cases h : tLim 64 6 (List.drop 0 b) with
  | ok p => obtain ⟨v, k⟩ := p; have := tLim_le h; simp only; omega
  | error e => simp
end Go.Proofs.Foot

namespace Go.Proofs.Ytfplmpfdhiagaaa
open Go.RowKit Go.Proofs.Eng Go.Proofs.Foot Go.Proofs.Codec
set_option linter.unusedSimpArgs false
set_option linter.unusedVariables false
attribute [local irreducible] T TL LV TH TA
theorem off_none (S : List Nat) : Off none S := fun _ h => by cases h
theorem Count_s (b : Nat) (s : RS) (A : Option Addr) (n c : Nat) (w : World) (h : Rdr w 107 b s A n c) :
    Ret Try.prog 63 [ptr b, .int .i64 64] w (fun v w' => v = .int .i64 (((s.take (0 : Nat) (tLim 64 6)).1 : Nat) : Int) ∧ Mod [b] w w' ∧ Rdr w' 107 b (s.take (0 : Nat) (tLim 64 6)).2 A n c) :=
  Count_c b s A n c 64 (by decide) w h
theorem Text_s (b : Nat) (s : RS) (A : Option Addr) (n c : Nat) (w : World) (h : Rdr w 107 b s A n c) :
    Ret Try.prog 64 [ptr b, .int .i64 32] w (fun v w' => v = .string (ofL (s.take ([] : List UInt8) (tText 32)).1) ∧ Mod [b] w w' ∧ Rdr w' 107 b (s.take ([] : List UInt8) (tText 32)).2 A n c) :=
  Text_c b s A n c 32 (by decide) w h
theorem Byte_s (b : Nat) (s : RS) (A : Option Addr) (n c : Nat) (w : World) (h : Rdr w 107 b s A n c) :
    Ret Try.prog 66 [ptr b] w (fun v w' => v = .int .u8 (((s.take (0 : Nat) tByte).1 : Nat) : Int) ∧ Mod [b] w w' ∧ Rdr w' 107 b (s.take (0 : Nat) tByte).2 A n c) :=
  Byte_c b s A n c w h
/-- A list that grows by one text or stays. -/
def more (l : List Tx) (t : Tx) (z : Nat) : List Tx := if z = 0 then l else l ++ [t]
/-- What stays while a footprint is read. -/
structure GInv (tR : TypeId) (w w5 w' : World) (bR b6 : Nat) (s : RS) (A : Option Addr) (n c : Nat) (x y : Option Addr × Nat × Nat) (rd wr : List Tx) : Prop where
  ext : Ext w w'
  mod : Eng.Mod [bR, b6] w5 w'
  rdr : Rdr w' tR bR s A n c
  blk : Blk w' b6 28 [.slice x.1 x.2.1 x.2.2, .slice y.1 y.2.1 y.2.2]
  own1 : Own w' w5.heap.size 9 1 x.1 x.2.1 x.2.2 (sv rd)
  own2 : Own w' w5.heap.size 9 1 y.1 y.2.1 y.2.2 (sv wr)
  off1 : Off y.1 (blkL x.1)
  off2 : Off x.1 (blkL y.1)
  hR : w.heap.size ≤ bR
  hR5 : bR < w5.heap.size
  h6 : w.heap.size ≤ b6
  h65 : b6 < w5.heap.size
  hne : bR ≠ b6
  hA : Lo A w5.heap.size
  hA6 : Off A [b6]
theorem GInv.step {tR : TypeId} {w w5 w' w2 : World} {bR b6 : Nat} {s s' : RS} {A : Option Addr} {n c : Nat} {x y : Option Addr × Nat × Nat} {rd wr : List Tx} (I : GInv tR w w5 w' bR b6 s A n c x y rd wr) (m : Eng.Mod [bR] w' w2) (r : Rdr w2 tR bR s' A n c) : GInv tR w w5 w2 bR b6 s' A n c x y rd wr := by
  have z := I.mod.size
  have h1 := I.hR
  have h2 := I.hR5
  have h3 := I.hne
  exact ⟨Mod.step I.ext m (by simp; omega), Mod.step I.mod m (by simp), r, I.blk.mod m (by simp; omega), I.own1.mod m (Off.hi I.own1.hi (by omega)), I.own2.mod m (Off.hi I.own2.hi (by omega)), I.off1, I.off2, I.hR, I.hR5, I.h6, I.h65, I.hne, I.hA, I.hA6⟩
theorem GInv.ext2 {tR : TypeId} {w w5 w' w2 : World} {bR b6 : Nat} {s : RS} {A : Option Addr} {n c : Nat} {x y : Option Addr × Nat × Nat} {rd wr : List Tx} (I : GInv tR w w5 w' bR b6 s A n c x y rd wr) (m : Ext w' w2) : GInv tR w w5 w2 bR b6 s A n c x y rd wr :=
  ⟨I.ext.ext m, I.mod.ext m, I.rdr.ext m, I.blk.ext m, I.own1.ext m, I.own2.ext m, I.off1, I.off2, I.hR, I.hR5, I.h6, I.h65, I.hne, I.hA, I.hA6⟩
theorem Get_c (B : Option Addr) (nb cb : Nat) (b : List UInt8) (w : World) (hb : Rd w B nb 1 (bv b)) (hnb : nb ≤ 200000) :
    Ret Try.prog 18 [.slice B nb cb] w (fun v w' => ∃ u, v = .tuple #[u, .int .i64 ((getF b).1.2 : Nat), .int .i64 (getF b).2] ∧ Ext w w' ∧ FootO w' w.heap.size 9 u (getF b).1.1) := by
  have hlb := hb.1
  simp only [bv_length, Nat.mul_one] at hlb
  refine ret_T (n := 75) Try.func18 rfl rfl ?_
  repeat (first | refine T_seq ?_ | refine T_region ?_)
  refine TL_alloc TE (hk := ?_); intro b2 w2 e2 h2 h2' k2
  have z2 := e2.size
  repeat (first | refine T_seq ?_ | refine T_region ?_ | refine TL_nil ?_ | refine TL_move (hk := ?_) | refine TL_assign (hk := ?_))
  refine TL_call TE (hc := NewReader_c B nb cb b _ (hb.be e2) (by omega)) (hk := ?_)
  rintro _ w3 ⟨bR, A3, n3, c3, rfl, e3, hbR, hi3, lo3, rr⟩
  have z3 := e3.size
  have lR := rr.blk.lt
  have hn3 : b.length = n3 := rr.len
  repeat (first | refine T_seq ?_ | refine T_region ?_ | refine TL_nil ?_ | refine TL_assign (hk := ?_))
  refine TL_alloc TE (hk := ?_); intro b6 w4 e4 h6 h6' k6
  have k24 := (k2.be e3).be e4
  have rr4 := rr.ext e4
  have z4 := e4.size
  have e04 := (e2.ext e3).ext e4
  clear k2 rr
  repeat (first | refine T_seq ?_ | refine T_region ?_ | refine TL_nil ?_ | refine TL_move (hk := ?_) | refine TL_assign (hk := ?_))
  refine TL_call TE (hc := Count_s bR _ A3 n3 c3 w4 rr4) (hk := ?_)
  rintro _ w5 ⟨rfl, m5, rr5⟩
  obtain ⟨c0, hc0⟩ : ∃ c0, (RS.mk b 0 0 0 0).take (0 : Nat) (tLim 64 6) = c0 := ⟨_, rfl⟩
  have hgi : gInit b = c0 := hc0
  have hg64 := gInit_le b
  rw [hgi] at hg64
  rw [hc0] at rr5
  rw [hc0]
  have z5 := m5.size
  have e05 : Ext w w5 := Mod.step e04 m5 (by simp; omega)
  have k25 := k24.bm m5 (by simp; omega)
  have k65 := k6.bm m5 (by simp; omega)
  have hA3 : Lo A3 w5.heap.size := Lo.mono lo3 (by omega)
  obtain ⟨n0, hn0⟩ : ∃ n0, c0.1 = n0 := ⟨_, rfl⟩
  rw [hn0] at hg64 ⊢
  clear k24 k6 rr4 hb
  repeat (first | refine T_block ?_ | refine TL_nil ?_ | refine TL_move (hk := ?_))
  have I0 : GInv 107 w w5 w5 bR b6 c0.2 A3 n3 c3 (none, 0, 0) (none, 0, 0) [] [] := ⟨e05, Mod.refl _ _, rr5, k65, Own.nil _ _ _ _, Own.nil _ _ _ _, off_none _, off_none _, by omega, by omega, by omega, by omega, by omega, hA3, Off.lo lo3 (by omega)⟩
  have h25 : b2 < w3.heap.size := by omega
  refine T_loop (ι := (GS × Nat) × (Option Addr × Nat × Nat) × (Option Addr × Nat × Nat)) (fun i => [(16, .int .i64 (i.1.2 : Int)), (15, .int .i64 (n0 : Int)), (7, .string (ofL i.1.1.last)), (6, .pointer (some ⟨b6, 0, none⟩)), (5, ptr bR), (2, .pointer (some ⟨b2, 0, none⟩)), (0, .slice B nb cb)])
    (fun i w' => i.1.2 ≤ n0 ∧ i.1.1 = gIter i.1.2 ⟨c0.2, [], [], []⟩ ∧ GInv 107 w w5 w' bR b6 i.1.1.s A3 n3 c3 i.2.1 i.2.2 i.1.1.rd i.1.1.wr ∧ i.2.1.2.1 ≤ i.1.2 ∧ i.2.2.2.1 ≤ i.1.2) (fun i => n0 - i.1.2) ((⟨c0.2, [], [], []⟩, 0), (none, 0, 0), (none, 0, 0)) (.c rfl (.c rfl (.c rfl (.c rfl (.c rfl (.c rfl (.c rfl (.n))))))))
    ⟨Nat.zero_le _, rfl, I0, Nat.zero_le _, Nat.zero_le _⟩ ?_
  rintro ⟨⟨g, i⟩, x, y⟩ w6 ⟨hi, hg, I6, hnr, hnw⟩ ih
  simp only at hi hg I6 hnr hnw ih ⊢
  by_cases hlt : i < n0
  · repeat (first | refine T_seq ?_ | refine T_region ?_ | refine T_cond_true rfl ?_ | refine T_block ?_ | refine T_skip ?_ | refine TL_lt_t (hk := ?_) | refine TL_nil ?_ | refine TL_move (hk := ?_))
    refine TL_call TE (hc := Text_s bR _ A3 n3 c3 w6 I6.rdr) (hk := ?_)
    rintro _ w7 ⟨rfl, m7, rr7⟩
    have I7 := I6.step m7 rr7
    obtain ⟨p, hp⟩ : ∃ p, g.s.take ([] : List UInt8) (tText 32) = p := ⟨_, rfl⟩
    have hgt : gText g = p := hp
    have hp32 := gText_le g
    have hu256 := gUse_lt g
    rw [hgt] at hp32
    rw [hp] at I7
    rw [hp]
    repeat (first | refine T_seq ?_ | refine T_region ?_ | refine TL_nil ?_ | refine TL_move (hk := ?_) | refine TL_assign (hk := ?_))
    refine TL_call TE (hc := Valid_c p.1 (by omega) _) (hk := ?_)
    rintro _ _ ⟨rfl, rfl⟩
    repeat (first | refine TL_nil ?_ | refine TL_not (hk := ?_))
    refine T_join (ι := Unit) (fun _ => [(8, .string (ofL p.1)), (16, .int .i64 (i : Int)), (15, .int .i64 (n0 : Int)), (7, .string (ofL g.last)), (6, .pointer (some ⟨b6, 0, none⟩)), (5, ptr bR), (2, .pointer (some ⟨b2, 0, none⟩)), (0, .slice B nb cb)])
      (fun _ w' => GInv 107 w w5 w' bR b6 (gKey g) A3 n3 c3 x y g.rd g.wr) (fun kk join => ?_) ?_
    · by_cases hv : validT p.1 = true
      · rw [hv]
        repeat (first | refine T_cond_false rfl ?_ | refine T_skip ?_)
        have hgk : gKey g = p.2 := by unfold gKey; rw [hgt, if_pos hv]
        exact T.sub (join () _ (by rw [hgk]; exact I7)) (.c rfl (.c rfl (.c rfl (.c rfl (.c rfl (.c rfl (.c rfl (.c rfl (.n)))))))))
      · have hv' : validT p.1 = false := by simpa using hv
        rw [hv']
        repeat (first | refine T_region ?_ | refine T_cond_true rfl ?_ | refine TL_move (hk := ?_))
        refine TL_call TE (hc := Fail_c bR _ A3 n3 c3 30 _ I7.rdr) (hk := ?_)
        rintro _ w8 ⟨_, m8, rr8⟩
        repeat (refine TL_nil ?_)
        have hgk : gKey g = p.2.fail 30 := by unfold gKey; rw [hgt, if_neg hv]
        exact T.sub (join () _ (by rw [hgk]; exact I7.step m8 rr8)) (.c rfl (.c rfl (.c rfl (.c rfl (.c rfl (.c rfl (.c rfl (.c rfl (.n)))))))))
    rintro _ w8 I8
    clear I7 I6 rr7
    repeat (first | refine T_seq ?_ | refine T_region ?_ | refine TL_move (hk := ?_))
    refine TL_sle_d (hk := ?_)
    repeat (refine TL_nil ?_)
    refine T_join (ι := Unit) (fun _ => [(8, .string (ofL p.1)), (16, .int .i64 (i : Int)), (15, .int .i64 (n0 : Int)), (6, .pointer (some ⟨b6, 0, none⟩)), (5, ptr bR), (2, .pointer (some ⟨b2, 0, none⟩)), (0, .slice B nb cb)])
      (fun _ w' => GInv 107 w w5 w' bR b6 (gRise g) A3 n3 c3 x y g.rd g.wr) (fun kk join => ?_) ?_
    · by_cases hv : p.1 ≤ g.last
      · rw [decide_eq_true hv]
        repeat (first | refine T_region ?_ | refine T_cond_true rfl ?_ | refine TL_move (hk := ?_))
        refine TL_call TE (hc := Fail_c bR _ A3 n3 c3 31 _ I8.rdr) (hk := ?_)
        rintro _ w9 ⟨_, m9, rr9⟩
        repeat (refine TL_nil ?_)
        have hgk : gRise g = (gKey g).fail 31 := by unfold gRise; rw [hgt, if_pos hv]
        exact T.sub (join () _ (by rw [hgk]; exact I8.step m9 rr9)) (.c rfl (.c rfl (.c rfl (.c rfl (.c rfl (.c rfl (.c rfl (.n))))))))
      · rw [decide_eq_false hv]
        repeat (first | refine T_cond_false rfl ?_ | refine T_skip ?_)
        have hgk : gRise g = gKey g := by unfold gRise; rw [hgt, if_neg hv]
        exact T.sub (join () _ (by rw [hgk]; exact I8)) (.c rfl (.c rfl (.c rfl (.c rfl (.c rfl (.c rfl (.c rfl (.n))))))))
    rintro _ w9 I9
    clear I8
    repeat (first | refine T_seq ?_ | refine T_region ?_ | refine TL_nil ?_ | refine TL_move (hk := ?_) | refine TL_assign (hk := ?_))
    refine TL_call TE (hc := Byte_s bR _ A3 n3 c3 w9 I9.rdr) (hk := ?_)
    rintro _ w10 ⟨rfl, m10, rr10⟩
    have I10 := I9.step m10 rr10
    obtain ⟨q, hq⟩ : ∃ q, (gRise g).take (0 : Nat) tByte = q := ⟨_, rfl⟩
    have hgu : gUse g = q := hq
    rw [hgu] at hu256
    rw [hq] at I10
    rw [hq]
    obtain ⟨u, hu⟩ : ∃ u, q.1 = u := ⟨_, rfl⟩
    rw [hu] at hu256 ⊢
    clear I9 rr10
    repeat (first | refine TL_nil ?_ | refine TL_assign (hk := ?_))
    refine T_seq ?_
    refine T_join (ι := Unit) (fun _ => [(9, .int .u8 (u : Int)), (8, .string (ofL p.1)), (7, .string (ofL p.1)), (16, .int .i64 (i : Int)), (15, .int .i64 (n0 : Int)), (6, .pointer (some ⟨b6, 0, none⟩)), (5, ptr bR), (2, .pointer (some ⟨b2, 0, none⟩)), (0, .slice B nb cb)])
      (fun _ w' => GInv 107 w w5 w' bR b6 (gEnd g) A3 n3 c3 x y g.rd g.wr) (fun kk join => ?_) ?_
    · by_cases hv : u < 1
      · repeat (first | refine T_seq ?_ | refine T_region ?_ | refine T_cond_true rfl ?_ | refine TL_lt_t (hk := ?_) | refine TL_nil ?_ | refine TL_move (hk := ?_) | refine TL_no (hk := ?_) | refine TL_pick_t (hk := ?_))
        refine TL_call TE (hc := Fail_c bR _ A3 n3 c3 31 _ I10.rdr) (hk := ?_)
        rintro _ w11 ⟨_, m11, rr11⟩
        repeat (refine TL_nil ?_)
        have hgk : gEnd g = q.2.fail 31 := by unfold gEnd; rw [hgu, hu, if_pos (.inl hv)]
        exact T.sub (join () _ (by rw [hgk]; exact I10.step m11 rr11)) (.c rfl (.c rfl (.c rfl (.c rfl (.c rfl (.c rfl (.c rfl (.c rfl (.c rfl (.n))))))))))
      · by_cases hv3 : 3 < u
        · repeat (first | refine T_seq ?_ | refine T_region ?_ | refine T_cond_true rfl ?_ | refine TL_lt_f (hk := ?_) | refine TL_gt_t (hk := ?_) | refine TL_nil ?_ | refine TL_move (hk := ?_) | refine TL_yes (hk := ?_) | refine TL_pick_f (hk := ?_))
          refine TL_call TE (hc := Fail_c bR _ A3 n3 c3 31 _ I10.rdr) (hk := ?_)
          rintro _ w11 ⟨_, m11, rr11⟩
          repeat (refine TL_nil ?_)
          have hgk : gEnd g = q.2.fail 31 := by unfold gEnd; rw [hgu, hu, if_pos (.inr hv3)]
          exact T.sub (join () _ (by rw [hgk]; exact I10.step m11 rr11)) (.c rfl (.c rfl (.c rfl (.c rfl (.c rfl (.c rfl (.c rfl (.c rfl (.c rfl (.n))))))))))
        · repeat (first | refine T_seq ?_ | refine T_region ?_ | refine T_cond_false rfl ?_ | refine T_skip ?_ | refine TL_lt_f (hk := ?_) | refine TL_gt_f (hk := ?_) | refine TL_nil ?_ | refine TL_move (hk := ?_) | refine TL_yes (hk := ?_) | refine TL_pick_f (hk := ?_))
          have hgk : gEnd g = q.2 := by unfold gEnd; rw [hgu, hu, if_neg (by omega)]
          exact T.sub (join () _ (by rw [hgk]; exact I10)) (.c rfl (.c rfl (.c rfl (.c rfl (.c rfl (.c rfl (.c rfl (.c rfl (.c rfl (.n))))))))))
    rintro _ w11 I11
    clear I10
    repeat (first | refine T_seq ?_ | refine T_region ?_ | refine TL_move (hk := ?_))
    refine TL_and (hk := ?_); intro _
    refine TL_ne_d (hk := ?_)
    repeat (refine TL_nil ?_)
    refine T_join (ι := Option Addr × Nat × Nat) (fun _ => [(9, .int .u8 (u : Int)), (8, .string (ofL p.1)), (7, .string (ofL p.1)), (16, .int .i64 (i : Int)), (15, .int .i64 (n0 : Int)), (6, .pointer (some ⟨b6, 0, none⟩)), (5, ptr bR), (2, .pointer (some ⟨b2, 0, none⟩)), (0, .slice B nb cb)])
      (fun x' w' => GInv 107 w w5 w' bR b6 (gEnd g) A3 n3 c3 x' y (if u &&& 1 = 0 then g.rd else g.rd ++ [p.1]) g.wr ∧ x'.2.1 ≤ i + 1) (fun kk join => ?_) ?_
    · by_cases hv : u &&& 1 = 0
      · rw [if_pos hv] at join
        rw [show decide (((u &&& 1 : Nat) : Int) = 0) = true from decide_eq_true (by omega)]
        repeat (first | refine T_cond_false rfl ?_ | refine T_skip ?_)
        exact T.sub (join x _ ⟨I11, by omega⟩) (.c rfl (.c rfl (.c rfl (.c rfl (.c rfl (.c rfl (.c rfl (.c rfl (.c rfl (.n))))))))))
      · rw [if_neg hv] at join
        rw [show decide (((u &&& 1 : Nat) : Int) = 0) = false from decide_eq_false (by omega)]
        have k6 := I11.blk
        have o1 := I11.own1
        repeat (first | refine T_region ?_ | refine T_cond_true rfl ?_ | refine TL_move (hk := ?_) | refine TL_load TE (hk := ?_) | refine TL_fieldAddr TE (hk := ?_))
        refine TL_buildSlice TE (hk := ?_); intro b12 w12 e12 h12 h12' k12
        replace k12 : Blk w12 b12 9 [.string (ofL p.1)] := k12
        have z12 := e12.size
        have o12 := o1.be e12
        have z11 := I11.mod.size
        refine TL_append TE (hk := ?_); intro A13 c13 w13 o13 m13 n13
        have J12 := I11.ext2 e12
        have h65 := I11.h65
        have hRR := I11.hR5
        have hne := I11.hne
        have h6 := I11.h6
        have z13 := m13.size
        have k13 := J12.blk.mod m13 (hi_not o12.hi h65)
        have rr13 := J12.rdr.mod m13 (hi_not o12.hi hRR) (Off.lohi J12.hA o12.hi)
        have own2 := J12.own2.mod m13 J12.off1
        have e13 : Ext w w13 := J12.ext.own m13 (Hi.mono o12.hi (by have := e05.size; omega))
        have mm13 : Eng.Mod [bR, b6] w5 w13 := Mod.step J12.mod m13 (fun z hz => .inr (by
          cases hx : x.1 with
          | none => rw [hx] at hz; simp [blkL] at hz
          | some ad => rw [hx] at hz; simp [blkL] at hz; rw [hz]; exact o12.hi ad hx))
        have noff : Off y.1 (blkL A13) := by
          intro ad had hm
          cases A13 with
          | none => simp [blkL] at hm
          | some a2 =>
            simp [blkL] at hm
            rcases n13 a2 rfl with h | h
            · exact J12.off1 ad had (by rw [h]; simp [blkL, hm])
            · have := J12.own2.lo ad had; omega
        have noff2 : Off A13 (blkL y.1) := by
          intro ad had hm
          cases hy : y.1 with
          | none => rw [hy] at hm; simp [blkL] at hm
          | some a2 =>
            rw [hy] at hm
            simp [blkL] at hm
            rcases n13 ad had with h | h
            · exact J12.off2 ad h (by rw [hy]; simp [blkL, hm])
            · have := J12.own2.lo a2 hy; omega
        clear k6 o1 k12 I11
        repeat (refine TL_fieldAddr TE (hk := ?_))
        refine TL_store TE (hk := ?_); intro w14 m14 z14 k14
        repeat (refine TL_nil ?_)
        refine T.sub (join (A13, x.2.1 + 1, c13) _ ⟨⟨Mod.step e13 m14 (by simp; omega), Mod.step mm13 m14 (by simp), rr13.mod m14 (by simp; omega) J12.hA6, k14, ?_, own2.mod m14 (Off.hi own2.hi (by omega)), noff, noff2, J12.hR, J12.hR5, J12.h6, J12.h65, J12.hne, J12.hA, J12.hA6⟩, by show x.2.1 + 1 ≤ i + 1; omega⟩) (.c rfl (.c rfl (.c rfl (.c rfl (.c rfl (.c rfl (.c rfl (.c rfl (.c rfl (.n))))))))))
        rw [sv_append]
        exact o13.mod m14 (Off.hi o13.hi (by omega))
    rintro x' w12 ⟨I12, hnx⟩
    obtain ⟨rd', hrd⟩ : ∃ rd', (if u &&& 1 = 0 then g.rd else g.rd ++ [p.1]) = rd' := ⟨_, rfl⟩
    rw [hrd] at I12
    repeat (first | refine T_seq ?_ | refine T_region ?_ | refine TL_move (hk := ?_))
    refine TL_and (hk := ?_); intro _
    refine TL_ne_d (hk := ?_)
    repeat (refine TL_nil ?_)
    refine T_join (ι := Option Addr × Nat × Nat) (fun _ => [(9, .int .u8 (u : Int)), (8, .string (ofL p.1)), (7, .string (ofL p.1)), (16, .int .i64 (i : Int)), (15, .int .i64 (n0 : Int)), (6, .pointer (some ⟨b6, 0, none⟩)), (5, ptr bR), (2, .pointer (some ⟨b2, 0, none⟩)), (0, .slice B nb cb)])
      (fun y' w' => GInv 107 w w5 w' bR b6 (gEnd g) A3 n3 c3 x' y' rd' (if u &&& 2 = 0 then g.wr else g.wr ++ [p.1]) ∧ y'.2.1 ≤ i + 1) (fun kk join => ?_) ?_
    · by_cases hv : u &&& 2 = 0
      · rw [if_pos hv] at join
        rw [show decide (((u &&& 2 : Nat) : Int) = 0) = true from decide_eq_true (by omega)]
        repeat (first | refine T_cond_false rfl ?_ | refine T_skip ?_)
        exact T.sub (join y _ ⟨I12, by omega⟩) (.c rfl (.c rfl (.c rfl (.c rfl (.c rfl (.c rfl (.c rfl (.c rfl (.c rfl (.n))))))))))
      · rw [if_neg hv] at join
        rw [show decide (((u &&& 2 : Nat) : Int) = 0) = false from decide_eq_false (by omega)]
        have k6 := I12.blk
        have o1 := I12.own2
        repeat (first | refine T_region ?_ | refine T_cond_true rfl ?_ | refine TL_move (hk := ?_) | refine TL_load TE (hk := ?_) | refine TL_fieldAddr TE (hk := ?_))
        refine TL_buildSlice TE (hk := ?_); intro b12 w12 e12 h12 h12' k12
        replace k12 : Blk w12 b12 9 [.string (ofL p.1)] := k12
        have z12 := e12.size
        have o12 := o1.be e12
        have z11 := I12.mod.size
        refine TL_append TE (hk := ?_); intro A13 c13 w13 o13 m13 n13
        have J12 := I12.ext2 e12
        have h65 := I12.h65
        have hRR := I12.hR5
        have hne := I12.hne
        have h6 := I12.h6
        have z13 := m13.size
        have k13 := J12.blk.mod m13 (hi_not o12.hi h65)
        have rr13 := J12.rdr.mod m13 (hi_not o12.hi hRR) (Off.lohi J12.hA o12.hi)
        have own1 := J12.own1.mod m13 J12.off2
        have e13 : Ext w w13 := J12.ext.own m13 (Hi.mono o12.hi (by have := e05.size; omega))
        have mm13 : Eng.Mod [bR, b6] w5 w13 := Mod.step J12.mod m13 (fun z hz => .inr (by
          cases hx : y.1 with
          | none => rw [hx] at hz; simp [blkL] at hz
          | some ad => rw [hx] at hz; simp [blkL] at hz; rw [hz]; exact o12.hi ad hx))
        have noff : Off x'.1 (blkL A13) := by
          intro ad had hm
          cases A13 with
          | none => simp [blkL] at hm
          | some a2 =>
            simp [blkL] at hm
            rcases n13 a2 rfl with h | h
            · exact J12.off2 ad had (by rw [h]; simp [blkL, hm])
            · have := J12.own1.lo ad had; omega
        have noff2 : Off A13 (blkL x'.1) := by
          intro ad had hm
          cases hy : x'.1 with
          | none => rw [hy] at hm; simp [blkL] at hm
          | some a2 =>
            rw [hy] at hm
            simp [blkL] at hm
            rcases n13 ad had with h | h
            · exact J12.off1 ad h (by rw [hy]; simp [blkL, hm])
            · have := J12.own1.lo a2 hy; omega
        clear k6 o1 k12 I12
        repeat (refine TL_fieldAddr TE (hk := ?_))
        refine TL_store TE (hk := ?_); intro w14 m14 z14 k14
        repeat (refine TL_nil ?_)
        refine T.sub (join (A13, y.2.1 + 1, c13) _ ⟨⟨Mod.step e13 m14 (by simp; omega), Mod.step mm13 m14 (by simp), rr13.mod m14 (by simp; omega) J12.hA6, k14, own1.mod m14 (Off.hi own1.hi (by omega)), ?_, noff2, noff, J12.hR, J12.hR5, J12.h6, J12.h65, J12.hne, J12.hA, J12.hA6⟩, by show y.2.1 + 1 ≤ i + 1; omega⟩) (.c rfl (.c rfl (.c rfl (.c rfl (.c rfl (.c rfl (.c rfl (.c rfl (.c rfl (.n))))))))))
        rw [sv_append]
        exact o13.mod m14 (Off.hi o13.hi (by omega))
    rintro y' w13 ⟨I13, hny⟩
    obtain ⟨wr', hwr⟩ : ∃ wr', (if u &&& 2 = 0 then g.wr else g.wr ++ [p.1]) = wr' := ⟨_, rfl⟩
    rw [hwr] at I13
    have hstep : gStep g = ⟨gEnd g, p.1, rd', wr'⟩ := by unfold gStep; rw [hgt, hgu, hu, hrd, hwr]
    repeat (first | refine T_region ?_ | refine T_inBlock ?_ | refine TL_add (hk := ?_) | refine TL_nil ?_ | refine TL_move (hk := ?_))
    refine ih ((⟨gEnd g, p.1, rd', wr'⟩, i + 1), x', y') _ _ (by simp only; omega) ⟨by show i + 1 ≤ n0; omega, ?_, I13, hnx, hny⟩ (.c rfl (.c rfl (.c rfl (.c rfl (.c rfl (.c rfl (.c rfl (.n))))))))
    show _ = gStep (gIter i _)
    rw [← hg, hstep]
  · have hin : i = n0 := by omega
    have hall : gAll b = g := by unfold gAll; rw [hgi, hn0, ← hin]; exact hg.symm
    repeat (first | refine T_seq ?_ | refine T_region ?_ | refine T_cond_false rfl ?_ | refine T_exit rfl ?_ | refine TL_lt_f (hk := ?_) | refine TL_nil ?_ | refine TL_move (hk := ?_))
    refine TL_call TE (hc := Why_c bR _ A3 n3 c3 w6 I6.rdr) (hk := ?_)
    rintro _ w7 ⟨rfl, e7⟩
    have I7 := I6.ext2 e7
    have k27 : Blk w7 b2 28 [.slice none 0 0, .slice none 0 0] := (k25.mod I6.mod (by simp; omega)).ext e7
    have hrest : g.s.rest ≤ nb := by
      have h1 := I7.rdr.len
      unfold RS.rest
      split <;> omega
    clear I6
    by_cases he : g.s.err = 0
    · have hf : getF b = (((g.rd, g.wr), b.length - g.s.rest), 0) := by unfold getF; rw [hall, if_pos he]
      rw [hf]
      repeat (first | refine T_seq ?_ | refine T_region ?_ | refine T_cond_false rfl ?_ | refine T_skip ?_ | refine TL_ne_f (hk := ?_) | refine TL_nil ?_ | refine TL_move (hk := ?_) | refine TL_assign (hk := ?_) | refine TL_extract (hk := ?_))
      refine T_region_any TE.mixed [b2] ?_; intro w8 e8 z8
      have I8 := I7.ext2 e8
      have k28 := k27.ext e8
      have h62 : b6 ∉ [b2] := by simp; omega
      refine TA_take 0 rfl (by kernel_rfl) (by kernel_rfl) (by kernel_rfl) ?_
      refine TLP_loadb TE (cs := [.slice x.1 x.2.1 x.2.2, .slice y.1 y.2.1 y.2.2]) (o := 0) (hb := I8.blk) (hD := h62) (hk := ?_)
      refine TL_nil_p ?_
      (refine TA_take 1 rfl (by kernel_rfl) (by kernel_rfl) (by kernel_rfl) ?_; repeat (first | refine TL_move (hk := ?_) | refine TL_len TE (hk := ?_)); refine TL_nil_p ?_); (refine TA_take 2 rfl (by kernel_rfl) (by kernel_rfl) (by kernel_rfl) ?_; repeat (first | refine TL_move (hk := ?_) | refine TL_len TE (hk := ?_)); refine TL_nil_p ?_); (refine TA_take 3 rfl (by kernel_rfl) (by kernel_rfl) (by kernel_rfl) ?_; repeat (first | refine TL_move (hk := ?_) | refine TL_len TE (hk := ?_)); refine TL_nil_p ?_)
      refine TA_one 4 rfl (by kernel_rfl) (by kernel_rfl) ?_
      refine TL_call TE (hc := Rest_c bR _ A3 n3 c3 w8 I8.rdr) (hq := fun v w' h => h.2.un) (hk := ?_)
      rintro _ w9 ⟨rfl, e9⟩
      have I9 := I8.ext2 e9
      have k29 := k28.ext e9
      refine TL_nil_p ?_
      (refine TA_take 5 rfl (by kernel_rfl) (by kernel_rfl) (by kernel_rfl) ?_; repeat (refine TL_sub (hk := ?_)); refine TL_nil_p ?_)
      refine TA_one 6 rfl (by kernel_rfl) (by kernel_rfl) ?_
      refine TL_storea TE (hf := rfl) (hq := fun w' h _ => e9.un.trans h) (hk := ?_); intro w10 m10 z10 k10
      refine TL_nil_p ?_
      (refine TA_take 7 rfl (by kernel_rfl) (by kernel_rfl) (by kernel_rfl) ?_; repeat (refine TL_assign (hk := ?_)); refine TL_nil_p ?_); (refine TA_take 8 rfl (by kernel_rfl) (by kernel_rfl) (by kernel_rfl) ?_; repeat (refine TL_assign (hk := ?_)); refine TL_nil_p ?_)
      refine TA_done (by kernel_rfl) ?_
      --
      have hsub : (((nb : Nat) : Int) - ((g.s.rest : Nat) : Int)) = ((b.length - g.s.rest : Nat) : Int) := by omega
      have z6 := I9.mod.size
      refine T_retA3 TE (vs := [.slice x.1 x.2.1 x.2.2, .slice y.1 y.2.1 y.2.2]) (o := 0) rfl rfl rfl rfl rfl rfl k10 rfl (Nat.succ_pos _) ⟨.agg #[.slice x.1 x.2.1 x.2.2, .slice y.1 y.2.1 y.2.2], ?_, Mod.step I9.ext m10 (by simp; omega), x.1, x.2.1, x.2.2, y.1, y.2.1, y.2.2, rfl, ?_, ?_, I9.off1⟩
      · rw [hsub]
      · exact (I9.own1.mod m10 (Off.hi I9.own1.hi (by omega))).weaken (by have := e05.size; omega)
      · exact (I9.own2.mod m10 (Off.hi I9.own2.hi (by omega))).weaken (by have := e05.size; omega)
    · have hf : getF b = ((([], []), 0), g.s.err) := by unfold getF; rw [hall, if_neg he]
      rw [hf]
      repeat (first | refine T_seq ?_ | refine T_region ?_ | refine T_cond_true rfl ?_ | refine TL_ne_t (hk := ?_) | refine TL_nil ?_ | refine TL_move (hk := ?_) | refine TL_assign (hk := ?_) | refine TL_extract (hk := ?_) | refine TL_build TE (hk := ?_))
      refine TL_storea TE (hk := ?_); intro w8 m8 s8 k8
      repeat (first | refine TL_nil ?_ | refine TL_assign (hk := ?_))
      exact T_retA3 TE (vs := [.slice none 0 0, .slice none 0 0]) (o := 0) rfl rfl rfl rfl rfl rfl k8 rfl (Nat.succ_pos _) ⟨.agg #[.slice none 0 0, .slice none 0 0], rfl, Mod.step I7.ext m8 (by simp; omega), FootO.nil _ _ _⟩
end Go.Proofs.Ytfplmpfdhiagaaa

namespace Go.Proofs.Ytfplmpfdhiagaaa
open Go.RowKit Go.Proofs.Eng Go.Proofs.Codec
set_option linter.unusedSimpArgs false
set_option linter.unusedVariables false
attribute [local irreducible] T TL LV TH TA
set_option maxHeartbeats 1000000

theorem fails_c (b : Nat) (s : RS) (A : Option Addr) (n c : Nat) (e : Int) (w : World) (h : Rdr w 91 b s A n c) :
    Ret Try.prog 95 [ptr b, .int .i64 e] w (fun v w' => v = .tuple #[] ∧ Mod [b] w w' ∧ Rdr w' 91 b { s with err := e, spot := s.pos } A n c) := by
  obtain ⟨hb, hr, ho, hl, hp, hla, hbig, hcap⟩ := h
  refine ret_T (n := 15) Try.func95 rfl rfl ?_
  repeat (first | refine T_seq ?_ | refine T_region ?_ | refine TL_move (hk := ?_) | refine TL_fieldAddr TE (hk := ?_) | refine TL_nilCheck (hk := ?_))
  refine TL_store TE (hk := ?_); intro w1 m1 s1 k1
  repeat (first | refine T_region ?_ | refine TL_nil ?_ | refine TL_move (hk := ?_) | refine TL_load TE (hk := ?_) | refine TL_fieldAddr TE (hk := ?_) | refine TL_nilCheck (hk := ?_))
  refine TL_store TE (hk := ?_); intro w2 m2 s2 k2
  repeat (refine TL_nil ?_)
  have hm := m1.trans m2
  exact T_end0 rfl ⟨rfl, hm, ⟨k2, hr.mod hm ho, ho, hl, hp, hla, hbig, hcap⟩⟩
theorem took_c (b : Nat) (s : RS) (A : Option Addr) (n c k : Nat) {z : Int} (hz : z = (k : Int)) (w : World) (h : Rdr w 91 b s A n c) (hk : s.pos + k ≤ n) :
    Ret Try.prog 96 [ptr b, .int .i64 z] w (fun v w' => v = .tuple #[] ∧ Mod [b] w w' ∧ Rdr w' 91 b { s with pos := s.pos + k, last := s.pos } A n c) := by
  obtain ⟨hb, hr, ho, hl, hp, hla, hbig, hcap⟩ := h
  subst hz
  refine ret_T (n := 20) Try.func96 rfl rfl ?_
  repeat (first | refine T_seq ?_ | refine T_region ?_ | refine TL_move (hk := ?_) | refine TL_load TE (hk := ?_) | refine TL_fieldAddr TE (hk := ?_) | refine TL_nilCheck (hk := ?_))
  refine TL_store TE (hk := ?_); intro w1 m1 s1 k1
  repeat (first | refine T_region ?_ | refine TL_add (hk := ?_) | refine TL_nil ?_ | refine TL_move (hk := ?_) | refine TL_load TE (hk := ?_) | refine TL_fieldAddr TE (hk := ?_) | refine TL_nilCheck (hk := ?_))
  refine TL_store TE (hk := ?_); intro w2 m2 s2 k2
  repeat (refine TL_nil ?_)
  have hm := m1.trans m2
  exact T_end0 rfl ⟨rfl, hm, ⟨k2, hr.mod hm ho, ho, hl, hk, hp, hbig, hcap⟩⟩
theorem Rd.tail1 {w : World} {A : Option Addr} {n c p : Nat} {l : List UInt8} (h : Rd w A n 1 (bv l)) (hp : p ≤ n) (hc : n ≤ c) : Rd w (cutA A c p 1) (n - p) 1 (bv (l.drop p)) := by
  have hlen : l.length = n := by simpa using h.1
  have h2 := h.cut (c := c) (l := p) (h := n) hp (Nat.le_refl _) hc
  have e : ((bv l).drop (p * 1)).take ((n - p) * 1) = bv (l.drop p) := by
    unfold bv
    rw [Nat.mul_one, Nat.mul_one, ← List.map_drop, List.take_of_length_le (by simp; omega)]
  rw [e] at h2
  exact h2
theorem numq {w : World} {A : Option Addr} {n c p : Nat} {l : List UInt8} {r : Except Int (Nat × Nat)} (h : Rd w A n 1 (bv l)) (hp : p ≤ n) (hc : n ≤ c) (hn : n ≤ 7036874417) (hr : num0 (l.drop p) = r) :
    ∀ w', Ext w w' → Ret Try.prog 94 [.slice (cutA A c p 1) (n - p) (c - p)] w' (fun u w'' => u = numV r ∧ Ext w' w'') := fun w' e => by
  have := number_c (cutA A c p 1) (n - p) (c - p) (l.drop p) w' ((Rd.tail1 h hp hc).ext e) (by omega)
  rw [hr] at this
  exact this.mono fun v w2 ⟨a, b⟩ => ⟨a, b ▸ Mod.refl _ _⟩
theorem take_no {α : Type} {s : RS} {z0 : α} {t : List UInt8 → Except Int (α × Nat)} (he : ¬ s.err = 0) : s.take z0 t = (z0, s) := by unfold RS.take; rw [if_neg he]

theorem RByte_c (b : Nat) (s : RS) (A : Option Addr) (n c : Nat) (w : World) (h : Rdr w 91 b s A n c) :
    Ret Try.prog 72 [ptr b] w (fun v w' => v = .int .u8 ((s.take (0 : Nat) tByte).1 : Int) ∧ Mod [b] w w' ∧ Rdr w' 91 b (s.take (0 : Nat) tByte).2 A n c) := by
  have h0 := h
  obtain ⟨hb, hr, ho, hl, hp, hla, hbig, hcap⟩ := h
  refine ret_T (n := 34) Try.func72 rfl rfl ?_
  by_cases he : s.err = 0
  · by_cases g : s.pos < n
    · have hd : s.b.drop s.pos = s.b[s.pos] :: s.b.drop (s.pos + 1) := List.drop_eq_getElem_cons _
      have ht : tByte (s.b.drop s.pos) = .ok (gb s.b s.pos, 1) := by rw [hd, gb_get _ _ (by omega)]; rfl
      rw [take_ok he ht]
      repeat (first | refine T_seq ?_ | refine T_region ?_ | refine T_region_q TE.mixed (by kernel_rfl) ?_ | refine T_cond_false rfl ?_ | refine T_skip ?_ | refine TL_ge_f (hk := ?_) | refine TL_ne_f (hk := ?_) | refine TL_nil ?_ | refine TL_move (hk := ?_) | refine TL_assign (hk := ?_) | refine TL_load TE (hk := ?_) | refine TL_fieldAddr TE (hk := ?_) | refine TL_len TE (hk := ?_) | refine TL_nilCheck (hk := ?_))
      refine TL_nil_q ?_; intro w1 e1
      repeat (first | refine T_seq ?_ | refine T_region_q TE.mixed (by kernel_rfl) ?_ | refine T_cond_false rfl ?_ | refine T_skip ?_ | refine TL_move (hk := ?_) | refine TL_assign (hk := ?_) | refine TL_load TE (hk := ?_) | (refine TL_load_b TE (hk := ?_); intro _) | refine TL_fieldAddr TE (hk := ?_) | refine TL_indexAddr1n TE (hk := ?_) | refine TL_nilCheck (hk := ?_))
      refine TL_nil_q ?_; intro w2 e2
      repeat (first | refine T_seq ?_ | refine T_region ?_ | refine TL_move (hk := ?_))
      refine TL_call TE (hc := took_c b s A n c 1 rfl w2 (h0.ext (e1.ext e2)) (by omega)) (hk := ?_)
      rintro _ w3 ⟨rfl, m3, h3⟩
      repeat (first | refine T_seq ?_ | refine T_region ?_ | refine TL_nil ?_ | refine TL_move (hk := ?_) | refine TL_assign (hk := ?_))
      exact T_ret1 rfl rfl ⟨rfl, (Ext.mod (e1.ext e2)).trans m3, h3⟩
    · have ht : tByte (s.b.drop s.pos) = .error 3 := by rw [List.drop_of_length_le (by omega)]; rfl
      rw [take_err he ht]
      repeat (first | refine T_seq ?_ | refine T_region ?_ | refine T_region_q TE.mixed (by kernel_rfl) ?_ | refine T_cond_false rfl ?_ | refine T_skip ?_ | refine TL_ge_t (hk := ?_) | refine TL_ne_f (hk := ?_) | refine TL_nil ?_ | refine TL_move (hk := ?_) | refine TL_assign (hk := ?_) | refine TL_load TE (hk := ?_) | refine TL_fieldAddr TE (hk := ?_) | refine TL_len TE (hk := ?_) | refine TL_nilCheck (hk := ?_))
      refine TL_nil_q ?_; intro w1 e1
      repeat (first | refine T_seq ?_ | refine T_region ?_ | refine T_cond_true rfl ?_ | refine TL_move (hk := ?_))
      refine TL_call TE (hc := fails_c b s A n c 3 w1 (h0.ext e1)) (hk := ?_)
      rintro _ w3 ⟨rfl, m3, h3⟩
      repeat (first | refine T_seq ?_ | refine T_region ?_ | refine TL_nil ?_ | refine TL_assign (hk := ?_))
      exact T_ret1 rfl rfl ⟨rfl, (Ext.mod e1).trans m3, h3⟩
  · rw [take_no he]
    repeat (first | refine T_seq ?_ | refine T_region ?_ | refine T_cond_true rfl ?_ | refine TL_ne_t (hk := ?_) | refine TL_nil ?_ | refine TL_move (hk := ?_) | refine TL_assign (hk := ?_) | refine TL_load TE (hk := ?_) | refine TL_fieldAddr TE (hk := ?_) | refine TL_nilCheck (hk := ?_))
    exact T_ret1 rfl rfl ⟨rfl, Mod.refl _ _, h0⟩





































theorem take_int (s : RS) : s.take (0 : Int) tInt = (zag (s.take (0 : Nat) num0).1, (s.take (0 : Nat) num0).2) := by
  unfold RS.take tInt
  split
  · split <;> rename_i h <;> cases h1 : num0 (s.b.drop s.pos) <;> rw [h1] at h <;> cases h
    · rfl
    · show _ = (zag 0, _); rw [show zag 0 = 0 from by decide]
  · show _ = (zag 0, _); rw [show zag 0 = 0 from by decide]





















theorem tLim_ok {most e : Int} {l : List UInt8} {x k : Nat} (hx : num0 l = .ok (x, k)) (h1 : 0 ≤ most) (h2 : (x : Int) ≤ most) : tLim most e l = .ok (x, k) := by
  unfold tLim; rw [hx]; simp only; rw [if_neg (by omega)]
theorem tLim_no {most e : Int} {l : List UInt8} {x k : Nat} (hx : num0 l = .ok (x, k)) (h : most < 0 ∨ most < (x : Int)) : tLim most e l = .error e := by
  unfold tLim; rw [hx]; simp only; rw [if_pos h]
theorem tLim_err {most e e' : Int} {l : List UInt8} (hx : num0 l = .error e') : tLim most e l = .error e' := by
  unfold tLim; rw [hx]
theorem RCount_c (b : Nat) (s : RS) (A : Option Addr) (n c : Nat) (most : Int) (hmo : -9223372036854775808 ≤ most ∧ most ≤ 9223372036854775807) (w : World) (h : Rdr w 91 b s A n c) :
    Ret Try.prog 70 [ptr b, .int .i64 most] w (fun v w' => v = .int .i64 ((s.take (0 : Nat) (tLim most 6)).1 : Int) ∧ Mod [b] w w' ∧ Rdr w' 91 b (s.take (0 : Nat) (tLim most 6)).2 A n c) := by
  have h0 := h
  obtain ⟨hb, hr, ho, hl, hp, hla, hbig, hcap⟩ := h
  refine ret_T (n := 49) Try.func70 rfl rfl ?_
  by_cases he : s.err = 0
  · cases hx : num0 (s.b.drop s.pos) with
    | ok x =>
      obtain ⟨x, k⟩ := x
      have hlt := num0_ok hx
      rw [List.length_drop] at hlt
      by_cases hm : most < 0
      · rw [take_err he (tLim_no hx (.inl hm))]
        repeat (first | refine T_seq ?_ | refine T_region ?_ | refine T_region_q TE.mixed (by kernel_rfl) ?_ | refine T_cond_false rfl ?_ | refine T_skip ?_ | refine TL_ne_f (hk := ?_) | refine TL_nil ?_ | refine TL_move (hk := ?_) | refine TL_assign (hk := ?_) | refine TL_load TE (hk := ?_) | refine TL_fieldAddr TE (hk := ?_) | refine TL_nilCheck (hk := ?_) | refine TL_slice_lo TE (hk := ?_))
        refine TL_call_q TE rfl rfl rfl (numq hr hp hcap hbig hx) ?_
        repeat (first | refine TL_move (hk := ?_) | refine TL_assign (hk := ?_) | refine TL_extract (hk := ?_))
        refine TL_nil_q ?_; intro w1 e1
        repeat (first | refine T_seq ?_ | refine T_region ?_ | refine T_cond_true rfl ?_ | refine TL_lt_t (hk := ?_) | refine TL_eq_t (hk := ?_) | refine TL_ne_t (hk := ?_) | refine TL_nil ?_ | refine TL_move (hk := ?_) | refine TL_assign (hk := ?_) | refine TL_yes (hk := ?_) | refine TL_no (hk := ?_) | refine TL_pick_t (hk := ?_))
        refine TL_call TE (hc := fails_c b s A n c 6 w1 (h0.ext e1)) (hk := ?_)
        rintro _ w3 ⟨rfl, m3, h3⟩
        repeat (first | refine T_seq ?_ | refine T_region ?_ | refine TL_nil ?_ | refine TL_assign (hk := ?_))
        exact T_ret1 rfl rfl ⟨rfl, (Ext.mod e1).trans m3, h3⟩
      by_cases hg : most < (x : Int)
      · rw [take_err he (tLim_no hx (.inr hg))]
        repeat (first | refine T_seq ?_ | refine T_region ?_ | refine T_region_q TE.mixed (by kernel_rfl) ?_ | refine T_cond_false rfl ?_ | refine T_skip ?_ | refine TL_ne_f (hk := ?_) | refine TL_nil ?_ | refine TL_move (hk := ?_) | refine TL_assign (hk := ?_) | refine TL_load TE (hk := ?_) | refine TL_fieldAddr TE (hk := ?_) | refine TL_nilCheck (hk := ?_) | refine TL_slice_lo TE (hk := ?_))
        refine TL_call_q TE rfl rfl rfl (numq hr hp hcap hbig hx) ?_
        repeat (first | refine TL_move (hk := ?_) | refine TL_assign (hk := ?_) | refine TL_extract (hk := ?_))
        refine TL_nil_q ?_; intro w1 e1
        repeat (first | refine T_seq ?_ | refine T_region ?_ | refine T_cond_true rfl ?_ | refine TL_lt_f (hk := ?_) | refine TL_gt_t (hk := ?_) | refine TL_eq_t (hk := ?_) | refine TL_ne_t (hk := ?_) | refine TL_nil ?_ | refine TL_move (hk := ?_) | refine TL_assign (hk := ?_) | refine TL_yes (hk := ?_) | refine TL_pick_t (hk := ?_) | refine TL_pick_f (hk := ?_) | refine TL_conv TE (hk := ?_))
        refine TL_call TE (hc := fails_c b s A n c 6 w1 (h0.ext e1)) (hk := ?_)
        rintro _ w3 ⟨rfl, m3, h3⟩
        repeat (first | refine T_seq ?_ | refine T_region ?_ | refine TL_nil ?_ | refine TL_assign (hk := ?_))
        exact T_ret1 rfl rfl ⟨rfl, (Ext.mod e1).trans m3, h3⟩
      · rw [take_ok he (tLim_ok hx (by omega) (by omega))]
        repeat (first | refine T_seq ?_ | refine T_region ?_ | refine T_region_q TE.mixed (by kernel_rfl) ?_ | refine T_cond_false rfl ?_ | refine T_skip ?_ | refine TL_ne_f (hk := ?_) | refine TL_nil ?_ | refine TL_move (hk := ?_) | refine TL_assign (hk := ?_) | refine TL_load TE (hk := ?_) | refine TL_fieldAddr TE (hk := ?_) | refine TL_nilCheck (hk := ?_) | refine TL_slice_lo TE (hk := ?_))
        refine TL_call_q TE rfl rfl rfl (numq hr hp hcap hbig hx) ?_
        repeat (first | refine TL_move (hk := ?_) | refine TL_assign (hk := ?_) | refine TL_extract (hk := ?_))
        refine TL_nil_q ?_; intro w1 e1
        repeat (first | refine T_seq ?_ | refine T_region ?_ | refine T_cond_false rfl ?_ | refine T_skip ?_ | refine TL_lt_f (hk := ?_) | refine TL_gt_f (hk := ?_) | refine TL_eq_t (hk := ?_) | refine TL_ne_f (hk := ?_) | refine TL_nil ?_ | refine TL_move (hk := ?_) | refine TL_yes (hk := ?_) | refine TL_pick_t (hk := ?_) | refine TL_pick_f (hk := ?_) | refine TL_conv TE (hk := ?_))
        refine TL_call TE (hc := took_c b s A n c k rfl w1 (h0.ext e1) (by omega)) (hk := ?_)
        rintro _ w3 ⟨rfl, m3, h3⟩
        repeat (first | refine T_seq ?_ | refine T_region ?_ | refine TL_nil ?_ | refine TL_move (hk := ?_) | refine TL_assign (hk := ?_) | refine TL_conv TE (hk := ?_))
        exact T_ret1 rfl rfl ⟨rfl, (Ext.mod e1).trans m3, h3⟩
    | error e =>
      have hne : ¬ e = 0 := num0_err hx
      rw [take_err he (tLim_err hx)]
      repeat (first | refine T_seq ?_ | refine T_region ?_ | refine T_region_q TE.mixed (by kernel_rfl) ?_ | refine T_cond_false rfl ?_ | refine T_skip ?_ | refine TL_ne_f (hk := ?_) | refine TL_nil ?_ | refine TL_move (hk := ?_) | refine TL_assign (hk := ?_) | refine TL_load TE (hk := ?_) | refine TL_fieldAddr TE (hk := ?_) | refine TL_nilCheck (hk := ?_) | refine TL_slice_lo TE (hk := ?_))
      refine TL_call_q TE rfl rfl rfl (numq hr hp hcap hbig hx) ?_
      repeat (first | refine TL_move (hk := ?_) | refine TL_assign (hk := ?_) | refine TL_extract (hk := ?_))
      refine TL_nil_q ?_; intro w1 e1
      repeat (first | refine T_seq ?_ | refine T_region ?_ | refine T_cond_true rfl ?_ | refine T_cond_false rfl ?_ | refine T_skip ?_ | refine TL_eq_f (hk := ?_) | refine TL_ne_t (hk := ?_) | refine TL_nil ?_ | refine TL_move (hk := ?_) | refine TL_no (hk := ?_) | refine TL_pick_f (hk := ?_))
      refine TL_call TE (hc := fails_c b s A n c e w1 (h0.ext e1)) (hk := ?_)
      rintro _ w3 ⟨rfl, m3, h3⟩
      repeat (first | refine T_seq ?_ | refine T_region ?_ | refine TL_nil ?_ | refine TL_assign (hk := ?_))
      exact T_ret1 rfl rfl ⟨rfl, (Ext.mod e1).trans m3, h3⟩
  · rw [take_no he]
    repeat (first | refine T_seq ?_ | refine T_region ?_ | refine T_cond_true rfl ?_ | refine TL_ne_t (hk := ?_) | refine TL_nil ?_ | refine TL_move (hk := ?_) | refine TL_assign (hk := ?_) | refine TL_load TE (hk := ?_) | refine TL_fieldAddr TE (hk := ?_) | refine TL_nilCheck (hk := ?_))
    exact T_ret1 rfl rfl ⟨rfl, Mod.refl _ _, h0⟩
end Go.Proofs.Ytfplmpfdhiagaaa

namespace Go.Proofs.Ytfplmpfdhiagaaa
open Go.RowKit Go.Proofs.Eng Go.Proofs.Codec
set_option linter.unusedSimpArgs false
set_option linter.unusedVariables false
attribute [local irreducible] T TL LV TH TA
set_option maxHeartbeats 1000000

theorem tText_ok {most : Int} {l : List UInt8} {x k : Nat} (hx : num0 l = .ok (x, k)) (h1 : 0 ≤ most) (h2 : (x : Int) ≤ most) (h3 : k + x ≤ l.length) : tText most l = .ok ((l.drop k).take x, k + x) := by
  unfold tText; rw [tLim_ok hx h1 h2]; simp only; rw [if_neg (by omega)]
theorem tText_short {most : Int} {l : List UInt8} {x k : Nat} (hx : num0 l = .ok (x, k)) (h1 : 0 ≤ most) (h2 : (x : Int) ≤ most) (h3 : l.length < k + x) : tText most l = .error 3 := by
  unfold tText; rw [tLim_ok hx h1 h2]; simp only; rw [if_pos h3]
theorem tText_no {most : Int} {l : List UInt8} {x k : Nat} (hx : num0 l = .ok (x, k)) (h : most < 0 ∨ most < (x : Int)) : tText most l = .error 1 := by
  unfold tText; rw [tLim_no hx h]
theorem tText_err {most : Int} {l : List UInt8} {e : Int} (hx : num0 l = .error e) : tText most l = .error e := by
  unfold tText; rw [tLim_err hx]
theorem Rd.mid1 {w : World} {A : Option Addr} {n c p q : Nat} {l : List UInt8} (h : Rd w A n 1 (bv l)) (hp : p ≤ q) (hq : q ≤ n) (hc : n ≤ c) : Rd w (cutA A c p 1) (q - p) 1 (bv ((l.drop p).take (q - p))) := by
  have h2 := h.cut (c := c) (l := p) (h := q) hp hq hc
  have e : ((bv l).drop (p * 1)).take ((q - p) * 1) = bv ((l.drop p).take (q - p)) := by
    unfold bv
    rw [Nat.mul_one, Nat.mul_one, ← List.map_drop, ← List.map_take]
  rw [e] at h2
  exact h2
theorem RText_c (b : Nat) (s : RS) (A : Option Addr) (n c : Nat) (most : Int) (hmo : -9223372036854775808 ≤ most ∧ most ≤ 9223372036854775807) (w : World) (h : Rdr w 91 b s A n c) :
    Ret Try.prog 71 [ptr b, .int .i64 most] w (fun v w' => v = .string ⟨(s.take ([] : List UInt8) (tText most)).1.toArray⟩ ∧ Mod [b] w w' ∧ Rdr w' 91 b (s.take ([] : List UInt8) (tText most)).2 A n c) := by
  have h0 := h
  obtain ⟨hb, hr, ho, hl, hp, hla, hbig, hcap⟩ := h
  refine ret_T (n := 92) Try.func71 rfl rfl ?_
  by_cases he : s.err = 0
  · cases hx : num0 (s.b.drop s.pos) with
    | ok x =>
      obtain ⟨x, k⟩ := x
      have hlt := num0_ok hx
      rw [List.length_drop] at hlt
      by_cases hm : most < 0
      · rw [take_err he (tText_no hx (.inl hm))]
        repeat (first | refine T_seq ?_ | refine T_region ?_ | refine T_region_q TE.mixed (by kernel_rfl) ?_ | refine T_cond_false rfl ?_ | refine T_skip ?_ | refine TL_ne_f (hk := ?_) | refine TL_nil ?_ | refine TL_move (hk := ?_) | refine TL_assign (hk := ?_) | refine TL_load TE (hk := ?_) | refine TL_fieldAddr TE (hk := ?_) | refine TL_nilCheck (hk := ?_) | refine TL_slice_lo TE (hk := ?_))
        refine TL_call_q TE rfl rfl rfl (numq hr hp hcap hbig hx) ?_
        repeat (first | refine TL_move (hk := ?_) | refine TL_assign (hk := ?_) | refine TL_extract (hk := ?_))
        refine TL_nil_q ?_; intro w1 e1
        repeat (first | refine T_seq ?_ | refine T_region ?_ | refine T_region_q TE.mixed (by kernel_rfl) ?_ | refine T_cond_true rfl ?_ | refine TL_lt_t (hk := ?_) | refine TL_eq_t (hk := ?_) | refine TL_eq_f (hk := ?_) | refine TL_nil ?_ | refine TL_move (hk := ?_) | refine TL_assign (hk := ?_) | refine TL_yes (hk := ?_) | refine TL_no (hk := ?_) | refine TL_pick_t (hk := ?_) | refine TL_pick_f (hk := ?_))
        refine TL_nil_q ?_; intro w2 e2
        repeat (first | refine T_seq ?_ | refine T_region ?_ | refine T_cond_true rfl ?_ | refine T_cond_false rfl ?_ | refine T_skip ?_ | refine TL_ne_t (hk := ?_) | refine TL_nil ?_ | refine TL_move (hk := ?_))
        refine TL_call TE (hc := fails_c b s A n c 1 w2 (h0.ext (e1.ext e2))) (hk := ?_)
        rintro _ w3 ⟨rfl, m3, h3⟩
        repeat (first | refine T_seq ?_ | refine T_region ?_ | refine TL_nil ?_ | refine TL_assign (hk := ?_))
        exact T_ret1 rfl rfl ⟨rfl, (Ext.mod (e1.ext e2)).trans m3, h3⟩
      by_cases hg : most < (x : Int)
      · rw [take_err he (tText_no hx (.inr hg))]
        repeat (first | refine T_seq ?_ | refine T_region ?_ | refine T_region_q TE.mixed (by kernel_rfl) ?_ | refine T_cond_false rfl ?_ | refine T_skip ?_ | refine TL_ne_f (hk := ?_) | refine TL_nil ?_ | refine TL_move (hk := ?_) | refine TL_assign (hk := ?_) | refine TL_load TE (hk := ?_) | refine TL_fieldAddr TE (hk := ?_) | refine TL_nilCheck (hk := ?_) | refine TL_slice_lo TE (hk := ?_))
        refine TL_call_q TE rfl rfl rfl (numq hr hp hcap hbig hx) ?_
        repeat (first | refine TL_move (hk := ?_) | refine TL_assign (hk := ?_) | refine TL_extract (hk := ?_))
        refine TL_nil_q ?_; intro w1 e1
        repeat (first | refine T_seq ?_ | refine T_region ?_ | refine T_region_q TE.mixed (by kernel_rfl) ?_ | refine T_cond_true rfl ?_ | refine TL_lt_f (hk := ?_) | refine TL_gt_t (hk := ?_) | refine TL_eq_t (hk := ?_) | refine TL_eq_f (hk := ?_) | refine TL_nil ?_ | refine TL_move (hk := ?_) | refine TL_assign (hk := ?_) | refine TL_yes (hk := ?_) | refine TL_no (hk := ?_) | refine TL_pick_t (hk := ?_) | refine TL_pick_f (hk := ?_) | refine TL_conv TE (hk := ?_))
        refine TL_nil_q ?_; intro w2 e2
        repeat (first | refine T_seq ?_ | refine T_region ?_ | refine T_cond_true rfl ?_ | refine T_cond_false rfl ?_ | refine T_skip ?_ | refine TL_ne_t (hk := ?_) | refine TL_nil ?_ | refine TL_move (hk := ?_))
        refine TL_call TE (hc := fails_c b s A n c 1 w2 (h0.ext (e1.ext e2))) (hk := ?_)
        rintro _ w3 ⟨rfl, m3, h3⟩
        repeat (first | refine T_seq ?_ | refine T_region ?_ | refine TL_nil ?_ | refine TL_assign (hk := ?_))
        exact T_ret1 rfl rfl ⟨rfl, (Ext.mod (e1.ext e2)).trans m3, h3⟩
      by_cases hs : n - s.pos < k + x
      · rw [take_err he (tText_short hx (by omega) (by omega) (by rw [List.length_drop]; omega))]
        repeat (first | refine T_seq ?_ | refine T_region ?_ | refine T_region_q TE.mixed (by kernel_rfl) ?_ | refine T_cond_false rfl ?_ | refine T_skip ?_ | refine TL_ne_f (hk := ?_) | refine TL_nil ?_ | refine TL_move (hk := ?_) | refine TL_assign (hk := ?_) | refine TL_load TE (hk := ?_) | refine TL_fieldAddr TE (hk := ?_) | refine TL_nilCheck (hk := ?_) | refine TL_slice_lo TE (hk := ?_))
        refine TL_call_q TE rfl rfl rfl (numq hr hp hcap hbig hx) ?_
        repeat (first | refine TL_move (hk := ?_) | refine TL_assign (hk := ?_) | refine TL_extract (hk := ?_))
        refine TL_nil_q ?_; intro w1 e1
        repeat (first | refine T_seq ?_ | refine T_region ?_ | refine T_region_q TE.mixed (by kernel_rfl) ?_ | refine T_cond_false rfl ?_ | refine T_skip ?_ | refine TL_sub (hk := ?_) | refine TL_lt_t (hk := ?_) | refine TL_lt_f (hk := ?_) | refine TL_gt_f (hk := ?_) | refine TL_eq_t (hk := ?_) | refine TL_nil ?_ | refine TL_move (hk := ?_) | refine TL_load TE (hk := ?_) | refine TL_fieldAddr TE (hk := ?_) | refine TL_len TE (hk := ?_) | refine TL_yes (hk := ?_) | refine TL_pick_t (hk := ?_) | refine TL_pick_f (hk := ?_) | refine TL_nilCheck (hk := ?_) | refine TL_conv TE (hk := ?_))
        refine TL_nil_q ?_; intro w2 e2
        repeat (first | refine T_seq ?_ | refine T_region ?_ | refine T_cond_true rfl ?_ | refine TL_ne_t (hk := ?_) | refine TL_nil ?_ | refine TL_move (hk := ?_) | refine TL_assign (hk := ?_))
        refine TL_call TE (hc := fails_c b s A n c 3 w2 (h0.ext (e1.ext e2))) (hk := ?_)
        rintro _ w3 ⟨rfl, m3, h3⟩
        repeat (first | refine T_seq ?_ | refine T_region ?_ | refine TL_nil ?_ | refine TL_assign (hk := ?_))
        exact T_ret1 rfl rfl ⟨rfl, (Ext.mod (e1.ext e2)).trans m3, h3⟩
      · rw [take_ok he (tText_ok hx (by omega) (by omega) (by rw [List.length_drop]; omega))]
        have hmid : ∀ w', Ext w w' → Rd w' (cutA A c (s.pos + k) 1) (s.pos + k + x - (s.pos + k)) 1 (bv ((s.b.drop (s.pos + k)).take (s.pos + k + x - (s.pos + k)))) := fun w' e => Rd.mid1 (hr.ext e) (by omega) (by omega) hcap
        repeat (first | refine T_seq ?_ | refine T_region ?_ | refine T_region_q TE.mixed (by kernel_rfl) ?_ | refine T_cond_false rfl ?_ | refine T_skip ?_ | refine TL_ne_f (hk := ?_) | refine TL_nil ?_ | refine TL_move (hk := ?_) | refine TL_assign (hk := ?_) | refine TL_load TE (hk := ?_) | refine TL_fieldAddr TE (hk := ?_) | refine TL_nilCheck (hk := ?_) | refine TL_slice_lo TE (hk := ?_))
        refine TL_call_q TE rfl rfl rfl (numq hr hp hcap hbig hx) ?_
        repeat (first | refine TL_move (hk := ?_) | refine TL_assign (hk := ?_) | refine TL_extract (hk := ?_))
        refine TL_nil_q ?_; intro w1 e1
        repeat (first | refine T_seq ?_ | refine T_region ?_ | refine T_region_q TE.mixed (by kernel_rfl) ?_ | refine T_cond_false rfl ?_ | refine T_skip ?_ | refine TL_sub (hk := ?_) | refine TL_lt_f (hk := ?_) | refine TL_gt_f (hk := ?_) | refine TL_eq_t (hk := ?_) | refine TL_nil ?_ | refine TL_move (hk := ?_) | refine TL_load TE (hk := ?_) | refine TL_fieldAddr TE (hk := ?_) | refine TL_len TE (hk := ?_) | refine TL_yes (hk := ?_) | refine TL_pick_t (hk := ?_) | refine TL_pick_f (hk := ?_) | refine TL_nilCheck (hk := ?_) | refine TL_conv TE (hk := ?_))
        refine TL_nil_q ?_; intro w2 e2
        have hm2 := hmid w2 (e1.ext e2)
        repeat (first | refine T_seq ?_ | refine T_region ?_ | refine T_region_q TE.mixed (by kernel_rfl) ?_ | refine T_cond_false rfl ?_ | refine T_skip ?_ | refine TL_add (hk := ?_) | refine TL_ne_f (hk := ?_) | refine TL_nil ?_ | refine TL_move (hk := ?_) | refine TL_assign (hk := ?_) | refine TL_load TE (hk := ?_) | refine TL_fieldAddr TE (hk := ?_) | refine TL_nilCheck (hk := ?_) | refine TL_slice_lh TE (hk := ?_) | refine TL_conv TE (hk := ?_) | refine TL_conv_bs TE (hk := ?_))
        refine TL_nil_q ?_; intro w4 e4
        repeat (first | refine T_seq ?_ | refine T_region ?_ | refine TL_add (hk := ?_) | refine TL_move (hk := ?_) | refine TL_conv TE (hk := ?_))
        refine TL_call TE (hc := took_c b s A n c (k + x) rfl w4 (h0.ext ((e1.ext e2).ext e4)) (by omega)) (hk := ?_)
        rintro _ w3 ⟨rfl, m3, h3⟩
        repeat (first | refine T_seq ?_ | refine T_region ?_ | refine TL_nil ?_ | refine TL_move (hk := ?_) | refine TL_assign (hk := ?_))
        refine T_ret1 rfl rfl ⟨?_, (Ext.mod ((e1.ext e2).ext e4)).trans m3, h3⟩
        simp only [ofL, List.drop_drop]
        rw [show s.pos + k + x - (s.pos + k) = x by omega]
    | error e =>
      have hne : ¬ e = 0 := num0_err hx
      rw [take_err he (tText_err hx)]
      repeat (first | refine T_seq ?_ | refine T_region ?_ | refine T_region_q TE.mixed (by kernel_rfl) ?_ | refine T_cond_false rfl ?_ | refine T_skip ?_ | refine TL_ne_f (hk := ?_) | refine TL_nil ?_ | refine TL_move (hk := ?_) | refine TL_assign (hk := ?_) | refine TL_load TE (hk := ?_) | refine TL_fieldAddr TE (hk := ?_) | refine TL_nilCheck (hk := ?_) | refine TL_slice_lo TE (hk := ?_))
      refine TL_call_q TE rfl rfl rfl (numq hr hp hcap hbig hx) ?_
      repeat (first | refine TL_move (hk := ?_) | refine TL_assign (hk := ?_) | refine TL_extract (hk := ?_))
      refine TL_nil_q ?_; intro w1 e1
      repeat (first | refine T_seq ?_ | refine T_region ?_ | refine T_region_q TE.mixed (by kernel_rfl) ?_ | refine T_cond_false rfl ?_ | refine T_skip ?_ | refine TL_eq_f (hk := ?_) | refine TL_nil ?_ | refine TL_move (hk := ?_) | refine TL_no (hk := ?_) | refine TL_pick_f (hk := ?_))
      refine TL_nil_q ?_; intro w2 e2
      repeat (first | refine T_seq ?_ | refine T_region ?_ | refine T_cond_true rfl ?_ | refine T_cond_false rfl ?_ | refine T_skip ?_ | refine TL_ne_t (hk := ?_) | refine TL_nil ?_ | refine TL_move (hk := ?_))
      refine TL_call TE (hc := fails_c b s A n c e w2 (h0.ext (e1.ext e2))) (hk := ?_)
      rintro _ w3 ⟨rfl, m3, h3⟩
      repeat (first | refine T_seq ?_ | refine T_region ?_ | refine TL_nil ?_ | refine TL_assign (hk := ?_))
      exact T_ret1 rfl rfl ⟨rfl, (Ext.mod (e1.ext e2)).trans m3, h3⟩
  · rw [take_no he]
    repeat (first | refine T_seq ?_ | refine T_region ?_ | refine T_cond_true rfl ?_ | refine TL_ne_t (hk := ?_) | refine TL_nil ?_ | refine TL_move (hk := ?_) | refine TL_assign (hk := ?_) | refine TL_load TE (hk := ?_) | refine TL_fieldAddr TE (hk := ?_) | refine TL_nilCheck (hk := ?_))
    exact T_ret1 rfl rfl ⟨rfl, Mod.refl _ _, h0⟩






































































end Go.Proofs.Ytfplmpfdhiagaaa

namespace Go.Proofs.Ytfplmpfdhiagaaa
open Go.RowKit Go.Proofs.Eng Go.Proofs.Foot Go.Proofs.Codec
set_option linter.unusedSimpArgs false
set_option linter.unusedVariables false
attribute [local irreducible] T TL LV TH TA
theorem and1' (u : Nat) : u &&& 1 = u % 2 := Nat.and_one_is_mod u
theorem and2' (u : Nat) (h : u ≤ 3) : u &&& 2 = 0 ↔ u < 2 := by
  rcases (by omega : u = 0 ∨ u = 1 ∨ u = 2 ∨ u = 3) with rfl | rfl | rfl | rfl <;> decide
theorem take_zero {α : Type} {s : RS} {z : α} {t : List UInt8 → Except Int (α × Nat)} (h : ¬ s.err = 0) : s.take z t = (z, s) := by unfold RS.take; rw [if_neg h]
theorem fail_zero {s : RS} {e : Int} (h : ¬ s.err = 0) : s.fail e = s := by unfold RS.fail; rw [if_neg (fun q => h q.1)]
theorem fail_err {s : RS} {e : Int} (h : s.err = 0) (he : ¬ e = 0) : (s.fail e).err = e := by unfold RS.fail; rw [if_pos ⟨h, he⟩]
theorem take_err0 {α : Type} {s : RS} {z : α} {t : List UInt8 → Except Int (α × Nat)} (h : ¬ (s.take z t).2.err = 0) (hs : s.err = 0) : (s.take z t).1 = z := by
  unfold RS.take at h ⊢
  rw [if_pos hs] at h ⊢
  cases hq : t (s.b.drop s.pos) with
  | ok p => rw [hq] at h; exact absurd hs h
  | error e => rfl
theorem gRise_err {g : GS} (h : ¬ (gText g).2.err = 0) : gRise g = (gText g).2 := by
  have h1 : gKey g = (gText g).2 := by unfold gKey; split <;> first | rfl | exact fail_zero h
  unfold gRise
  rw [h1]
  split
  · exact fail_zero h
  · rfl
theorem gEnd_of_rise {g : GS} (h : ¬ (gRise g).err = 0) : gEnd g = gRise g := by
  have h1 : gUse g = (0, gRise g) := take_zero h
  unfold gEnd
  rw [h1]
  split
  · exact fail_zero h
  · rfl
theorem gEnd_of_use {g : GS} (h : ¬ (gUse g).2.err = 0) : gEnd g = (gUse g).2 := by
  unfold gEnd
  split
  · exact fail_zero h
  · rfl
theorem gStep_err {g : GS} (h : ¬ g.s.err = 0) : (gStep g).s = g.s := by
  have h1 : gText g = ([], g.s) := take_zero h
  have h2 : gRise g = g.s := by
    have := gRise_err (g := g) (by rw [h1]; exact h)
    rw [this, h1]
  show gEnd g = g.s
  rw [gEnd_of_rise (by rw [h2]; exact h), h2]
theorem gIter_err {g0 : GS} {i : Nat} (h : ¬ (gIter i g0).s.err = 0) : ∀ j, (gIter (i + j) g0).s = (gIter i g0).s
  | 0 => rfl
  | j + 1 => by
    have ih := gIter_err h j
    show (gStep (gIter (i + j) g0)).s = _
    rw [gStep_err (by rw [ih]; exact h), ih]
theorem getF_err {b : List UInt8} {i : Nat} (hi : i ≤ (gInit b).1) (h : ¬ (gIter i ⟨(gInit b).2, [], [], []⟩).s.err = 0) : getF b = ((([], []), 0), (gIter i ⟨(gInit b).2, [], [], []⟩).s.err) := by
  have e : (gAll b).s = (gIter i ⟨(gInit b).2, [], [], []⟩).s := by
    unfold gAll
    have := gIter_err h ((gInit b).1 - i)
    rw [show i + ((gInit b).1 - i) = (gInit b).1 by omega] at this
    exact this
  unfold getF
  rw [e, if_neg h]
theorem RCount_s (b : Nat) (s : RS) (A : Option Addr) (n c : Nat) (w : World) (h : Rdr w 91 b s A n c) :
    Ret Try.prog 70 [ptr b, .int .i64 64] w (fun v w' => v = .int .i64 (((s.take (0 : Nat) (tLim 64 6)).1 : Nat) : Int) ∧ Mod [b] w w' ∧ Rdr w' 91 b (s.take (0 : Nat) (tLim 64 6)).2 A n c) :=
  RCount_c b s A n c 64 (by decide) w h
theorem RText_s (b : Nat) (s : RS) (A : Option Addr) (n c : Nat) (w : World) (h : Rdr w 91 b s A n c) :
    Ret Try.prog 71 [ptr b, .int .i64 32] w (fun v w' => v = .string (ofL (s.take ([] : List UInt8) (tText 32)).1) ∧ Mod [b] w w' ∧ Rdr w' 91 b (s.take ([] : List UInt8) (tText 32)).2 A n c) :=
  RText_c b s A n c 32 (by decide) w h
theorem RByte_s (b : Nat) (s : RS) (A : Option Addr) (n c : Nat) (w : World) (h : Rdr w 91 b s A n c) :
    Ret Try.prog 72 [ptr b] w (fun v w' => v = .int .u8 (((s.take (0 : Nat) tByte).1 : Nat) : Int) ∧ Mod [b] w w' ∧ Rdr w' 91 b (s.take (0 : Nat) tByte).2 A n c) :=
  RByte_c b s A n c w h
theorem RNew_l (A : Option Addr) (n c : Nat) (l : List UInt8) (w : World) (h : Rd w A n 1 (bv l)) (hn : n ≤ 7036874417) :
    Ret Try.prog 69 [.slice A n c] w (fun v w' => ∃ b A' n' c', v = ptr b ∧ Ext w w' ∧ w.heap.size ≤ b ∧ Hi A' w.heap.size ∧ Lo A' w'.heap.size ∧ Rdr w' 91 b ⟨l, 0, 0, 0, 0⟩ A' n' c') := by
  refine ret_T (n := 8) Try.func69 rfl rfl ?_
  repeat (first | refine T_seq ?_ | refine T_region ?_ | refine TL_nil ?_ | refine TL_assign (hk := ?_))
  refine TL_buildSlice TE (hk := ?_); intro b0 w0 e0 h0 h0' k0
  have o0 : Own w0 w.heap.size 5 1 (some ⟨b0, 0, none⟩) 0 0 [] := Own.of_blk k0 h0 rfl (by decide)
  have s0 := e0.size
  repeat (refine TL_move (hk := ?_))
  refine TL_append TE (hk := ?_); intro A1 c1 w1 o1 m1 n1
  have e1 : Ext w w1 := e0.own m1 o0.hi
  repeat (refine TL_build TE (hk := ?_))
  refine TL_box (hk := ?_); intro b w2 e2 h1 h2 k
  repeat (first | refine TL_nil ?_ | refine TL_assign (hk := ?_))
  have hs := e1.size
  refine T_ret1 rfl rfl ⟨b, A1, 0 + n, c1, rfl, e1.ext e2, by omega, o1.hi, o1.lo.mono e2.size, ?_⟩
  exact ⟨k, (o1.be e2).rd, Off.lo o1.lo h1, by have := h.1; simpa using this, Nat.zero_le _, Nat.zero_le _, by simpa using hn, o1.cap.1⟩
theorem RGet_c (B : Option Addr) (nb cb : Nat) (b : List UInt8) (w : World) (hb : Rd w B nb 1 (bv b)) (hnb : nb ≤ 200000) :
    Ret Try.prog 19 [.slice B nb cb] w (fun v w' => ∃ u, v = .tuple #[u, .int .i64 ((getF b).1.2 : Nat), .int .i64 (getF b).2] ∧ Ext w w' ∧ FootO w' w.heap.size 9 u (getF b).1.1) := by
  have hlb := hb.1
  simp only [bv_length, Nat.mul_one] at hlb
  refine ret_T (n := 105) Try.func19 rfl rfl ?_
  repeat (first | refine T_seq ?_ | refine T_region ?_)
  refine TL_alloc TE (hk := ?_); intro b2 w2 e2 h2 h2' k2
  have z2 := e2.size
  repeat (first | refine T_seq ?_ | refine T_region ?_ | refine TL_nil ?_ | refine TL_move (hk := ?_) | refine TL_assign (hk := ?_))
  refine TL_call TE (hc := RNew_l B nb cb b _ (hb.be e2) (by omega)) (hk := ?_)
  rintro _ w3 ⟨bR, A3, n3, c3, rfl, e3, hbR, hi3, lo3, rr⟩
  have z3 := e3.size
  have lR := rr.blk.lt
  have hn3 : b.length = n3 := rr.len
  have k23 := k2.be e3
  have e03 := e2.ext e3
  clear k2
  repeat (first | refine T_seq ?_ | refine T_region ?_ | refine TL_nil ?_ | refine TL_move (hk := ?_) | refine TL_assign (hk := ?_))
  refine TL_call TE (hc := RCount_s bR _ A3 n3 c3 w3 rr) (hk := ?_)
  rintro _ w4 ⟨rfl, m4, rr4⟩
  obtain ⟨c0, hc0⟩ : ∃ c0, (RS.mk b 0 0 0 0).take (0 : Nat) (tLim 64 6) = c0 := ⟨_, rfl⟩
  have hgi : gInit b = c0 := hc0
  have hg64 := gInit_le b
  rw [hgi] at hg64
  rw [hc0] at rr4
  rw [hc0]
  have z4 := m4.size
  have e04 : Ext w w4 := Mod.step e03 m4 (by simp; omega)
  have k24 := k23.bm m4 (by simp; omega)
  obtain ⟨n0, hn0⟩ : ∃ n0, c0.1 = n0 := ⟨_, rfl⟩
  rw [hn0] at hg64 ⊢
  clear k23 rr
  repeat (first | refine T_seq ?_ | refine T_region ?_ | refine TL_nil ?_ | refine TL_assign (hk := ?_))
  refine TL_alloc TE (hk := ?_); intro b6 w5 e5 h6 h6' k65
  have z5 := e5.size
  have e05 := e04.ext e5
  have k25 := k24.be e5
  have rr5 := rr4.ext e5
  have I0 : GInv 91 w w5 w5 bR b6 c0.2 A3 n3 c3 (none, 0, 0) (none, 0, 0) [] [] := ⟨e05, Mod.refl _ _, rr5, k65, Own.nil _ _ _ _, Own.nil _ _ _ _, off_none _, off_none _, by omega, by omega, by omega, by omega, by omega, lo3.mono (by omega), Off.lo lo3 (by omega)⟩
  have h25 : b2 < w3.heap.size := by omega
  have k2m : ∀ w', Eng.Mod [bR, b6] w5 w' → Blk w' b2 28 [.slice none 0 0, .slice none 0 0] := fun w' m => k25.mod m (by simp; omega)
  clear k24 rr4 hb
  repeat (first | refine T_seq ?_ | refine T_region ?_ | refine T_block ?_ | refine TL_nil ?_ | refine TL_assign (hk := ?_))
  refine T_loop (ι := (GS × Nat) × (Option Addr × Nat × Nat) × (Option Addr × Nat × Nat)) (fun i => [(9, .int .i64 (i.1.2 : Int)), (6, .int .i64 (n0 : Int)), (8, .string (ofL i.1.1.last)), (7, .pointer (some ⟨b6, 0, none⟩)), (5, ptr bR), (2, .pointer (some ⟨b2, 0, none⟩)), (0, .slice B nb cb)])
    (fun i w' => i.1.2 ≤ n0 ∧ i.1.1 = gIter i.1.2 ⟨c0.2, [], [], []⟩ ∧ GInv 91 w w5 w' bR b6 i.1.1.s A3 n3 c3 i.2.1 i.2.2 i.1.1.rd i.1.1.wr ∧ i.2.1.2.1 ≤ i.1.2 ∧ i.2.2.2.1 ≤ i.1.2) (fun i => n0 - i.1.2) ((⟨c0.2, [], [], []⟩, 0), (none, 0, 0), (none, 0, 0)) (.c rfl (.c rfl (.c rfl (.c rfl (.c rfl (.c rfl (.c rfl (.n))))))))
    ⟨Nat.zero_le _, rfl, I0, Nat.zero_le _, Nat.zero_le _⟩ ?_
  rintro ⟨⟨g, i⟩, x, y⟩ w6 ⟨hi, hg, I6, hnr, hnw⟩ ih
  simp only at hi hg I6 hnr hnw ih ⊢
  have kR6 := I6.rdr.blk
  have hstepI : i < n0 → ¬ (gStep g).s.err = 0 → getF b = ((([], []), 0), (gStep g).s.err) := fun h1 h2 => by
    have e : gStep g = gIter (i + 1) ⟨(gInit b).2, [], [], []⟩ := by rw [hgi]; show _ = gStep (gIter i _); rw [← hg]
    rw [e] at h2 ⊢
    exact getF_err (by rw [hgi, hn0]; omega) h2
  by_cases hgo : i < n0 ∧ g.s.err = 0
  · obtain ⟨hlt, hE0⟩ := hgo
    repeat (first | refine T_seq ?_ | refine T_region ?_ | refine T_cond_true rfl ?_ | refine T_block ?_ | refine T_skip ?_ | refine TL_lt_t (hk := ?_) | refine TL_eq_t (hk := ?_) | refine TL_nil ?_ | refine TL_move (hk := ?_) | refine TL_load TE (hk := ?_) | refine TL_fieldAddr TE (hk := ?_) | refine TL_yes (hk := ?_) | refine TL_pick_t (hk := ?_) | refine TL_nilCheck (hk := ?_))
    refine TL_call TE (hc := RText_s bR _ A3 n3 c3 w6 I6.rdr) (hk := ?_)
    rintro _ w7 ⟨rfl, m7, rr7⟩
    have I7 := I6.step m7 rr7
    obtain ⟨p, hp⟩ : ∃ p, g.s.take ([] : List UInt8) (tText 32) = p := ⟨_, rfl⟩
    have hgt : gText g = p := hp
    have hp32 := gText_le g
    have hu256 := gUse_lt g
    have hp0 : ¬ p.2.err = 0 → p.1 = [] := fun h => by rw [← hp] at h ⊢; exact take_err0 h hE0
    rw [hgt] at hp32
    rw [hp] at I7
    rw [hp]
    clear I6 kR6 rr7
    have kR7 := I7.rdr.blk
    have k27 := k2m _ I7.mod
    repeat (first | refine TL_nil ?_ | refine TL_assign (hk := ?_))
    refine T_seq ?_
    refine T_join (ι := Unit) (fun _ => [(10, .string (ofL p.1)), (8, .string (ofL g.last)), (9, .int .i64 (i : Int)), (6, .int .i64 (n0 : Int)), (7, .pointer (some ⟨b6, 0, none⟩)), (5, ptr bR), (2, .pointer (some ⟨b2, 0, none⟩)), (0, .slice B nb cb)])
      (fun _ w' => w' = w7 ∧ (p.2.err = 0 → validT p.1 = true)) (fun kk join => ?_) ?_
    · by_cases hpe : p.2.err = 0
      · repeat (first | refine T_seq ?_ | refine T_region ?_ | refine TL_eq_t (hk := ?_) | refine TL_move (hk := ?_) | refine TL_load TE (hk := ?_) | refine TL_fieldAddr TE (hk := ?_) | refine TL_yes (hk := ?_) | refine TL_nilCheck (hk := ?_))
        refine TL_call TE (hc := RValid_c p.1 (by omega) _) (hk := ?_)
        rintro _ _ ⟨rfl, rfl⟩
        by_cases hv : validT p.1 = true
        · rw [hv]
          repeat (first | refine T_cond_false rfl ?_ | refine T_skip ?_ | refine TL_nil ?_ | refine TL_yes (hk := ?_) | refine TL_pick_t (hk := ?_) | refine TL_not (hk := ?_))
          exact T.sub (join () _ ⟨rfl, fun _ => hv⟩) (.c rfl (.c rfl (.c rfl (.c rfl (.c rfl (.c rfl (.c rfl (.c rfl (.n)))))))))
        · have hv' : validT p.1 = false := by simpa using hv
          rw [hv']
          have hk30 : (gKey g).err = 30 := by unfold gKey; rw [hgt, if_neg hv]; exact fail_err hpe (by decide)
          have hr30 : (gRise g).err = 30 := by
            unfold gRise
            split
            · rw [fail_zero (by rw [hk30]; decide)]; exact hk30
            · exact hk30
          have hs30 : (gStep g).s.err = 30 := by
            show (gEnd g).err = 30
            rw [gEnd_of_rise (by rw [hr30]; decide), hr30]
          have hF := hstepI hlt (by rw [hs30]; decide)
          rw [hs30] at hF
          repeat (first | refine T_seq ?_ | refine T_region ?_ | refine T_cond_true rfl ?_ | refine TL_nil ?_ | refine TL_yes (hk := ?_) | refine TL_pick_t (hk := ?_) | refine TL_not (hk := ?_) | refine TL_build TE (hk := ?_))
          refine TL_storea TE (hk := ?_); intro wz mz sz kz
          repeat (first | refine TL_nil ?_ | refine TL_assign (hk := ?_))
          refine T_retA3 TE (vs := [.slice none 0 0, .slice none 0 0]) (o := 0) rfl rfl rfl rfl rfl rfl kz rfl (Nat.succ_pos _) ⟨.agg #[.slice none 0 0, .slice none 0 0], ?_, Mod.step I7.ext mz (by simp; omega), ?_⟩
          · rw [hF]; rfl
          · rw [hF]; exact FootO.nil _ _ _
      · repeat (first | refine T_seq ?_ | refine T_region ?_ | refine T_cond_false rfl ?_ | refine T_skip ?_ | refine TL_eq_f (hk := ?_) | refine TL_nil ?_ | refine TL_move (hk := ?_) | refine TL_load TE (hk := ?_) | refine TL_fieldAddr TE (hk := ?_) | refine TL_no (hk := ?_) | refine TL_pick_f (hk := ?_) | refine TL_nilCheck (hk := ?_))
        exact T.sub (join () _ ⟨rfl, fun h => absurd h hpe⟩) (.c rfl (.c rfl (.c rfl (.c rfl (.c rfl (.c rfl (.c rfl (.c rfl (.n)))))))))
    rintro _ w7 ⟨rfl, hval⟩
    have hgk : gKey g = p.2 := by
      unfold gKey
      rw [hgt]
      split
      · rfl
      · rename_i hv
        exact fail_zero fun h => hv (hval h)
    --
    refine T_seq ?_
    refine T_join (ι := Unit) (fun _ => [(10, .string (ofL p.1)), (8, .string (ofL g.last)), (9, .int .i64 (i : Int)), (6, .int .i64 (n0 : Int)), (7, .pointer (some ⟨b6, 0, none⟩)), (5, ptr bR), (2, .pointer (some ⟨b2, 0, none⟩)), (0, .slice B nb cb)])
      (fun _ w' => w' = w7 ∧ gRise g = p.2) (fun kk join => ?_) ?_
    · by_cases hpe : p.2.err = 0
      · by_cases hi0 : 0 < i
        · by_cases hle : p.1 ≤ g.last
          · have hr31 : (gRise g).err = 31 := by
              unfold gRise
              rw [hgt, if_pos hle, hgk]
              exact fail_err hpe (by decide)
            have hs31 : (gStep g).s.err = 31 := by
              show (gEnd g).err = 31
              rw [gEnd_of_rise (by rw [hr31]; decide), hr31]
            have hF := hstepI hlt (by rw [hs31]; decide)
            rw [hs31] at hF
            repeat (first | refine T_seq ?_ | refine T_region ?_ | refine T_cond_true rfl ?_ | refine TL_gt_t (hk := ?_) | refine TL_eq_t (hk := ?_) | refine TL_sle_t (hk := ?_) | refine TL_nil ?_ | refine TL_move (hk := ?_) | refine TL_load TE (hk := ?_) | refine TL_fieldAddr TE (hk := ?_) | refine TL_yes (hk := ?_) | refine TL_pick_t (hk := ?_) | refine TL_nilCheck (hk := ?_) | refine TL_build TE (hk := ?_))
            refine TL_storea TE (hk := ?_); intro wz mz sz kz
            repeat (first | refine TL_nil ?_ | refine TL_assign (hk := ?_))
            refine T_retA3 TE (vs := [.slice none 0 0, .slice none 0 0]) (o := 0) rfl rfl rfl rfl rfl rfl kz rfl (Nat.succ_pos _) ⟨.agg #[.slice none 0 0, .slice none 0 0], ?_, Mod.step I7.ext mz (by simp; omega), ?_⟩
            · rw [hF]; rfl
            · rw [hF]; exact FootO.nil _ _ _
          · have hr : gRise g = p.2 := by unfold gRise; rw [hgt, if_neg hle, hgk]
            repeat (first | refine T_seq ?_ | refine T_region ?_ | refine T_cond_false rfl ?_ | refine T_skip ?_ | refine TL_gt_t (hk := ?_) | refine TL_eq_t (hk := ?_) | refine TL_sle_f (hk := ?_) | refine TL_nil ?_ | refine TL_move (hk := ?_) | refine TL_load TE (hk := ?_) | refine TL_fieldAddr TE (hk := ?_) | refine TL_yes (hk := ?_) | refine TL_pick_t (hk := ?_) | refine TL_nilCheck (hk := ?_))
            exact T.sub (join () _ ⟨rfl, hr⟩) (.c rfl (.c rfl (.c rfl (.c rfl (.c rfl (.c rfl (.c rfl (.c rfl (.n)))))))))
        · have hlast : g.last = [] := by
            have : i = 0 := by omega
            rw [hg, this]
            rfl
          have hr : gRise g = p.2 := by
            unfold gRise
            rw [hgt, hgk, if_neg]
            intro hle
            rw [hlast] at hle
            have hne : p.1 = [] := by
              rcases (le_iff_lt_or p.1 []).1 hle with h | h
              · exact absurd h (List.not_lt_nil _)
              · exact h
            have := hval hpe
            rw [hne] at this
            exact absurd this (by decide)
          repeat (first | refine T_seq ?_ | refine T_region ?_ | refine T_cond_false rfl ?_ | refine T_skip ?_ | refine TL_gt_f (hk := ?_) | refine TL_eq_t (hk := ?_) | refine TL_nil ?_ | refine TL_move (hk := ?_) | refine TL_load TE (hk := ?_) | refine TL_fieldAddr TE (hk := ?_) | refine TL_yes (hk := ?_) | refine TL_no (hk := ?_) | refine TL_pick_t (hk := ?_) | refine TL_pick_f (hk := ?_) | refine TL_nilCheck (hk := ?_))
          exact T.sub (join () _ ⟨rfl, hr⟩) (.c rfl (.c rfl (.c rfl (.c rfl (.c rfl (.c rfl (.c rfl (.c rfl (.n)))))))))
      · have hr : gRise g = p.2 := by rw [gRise_err (by rw [hgt]; exact hpe), hgt]
        repeat (first | refine T_seq ?_ | refine T_region ?_ | refine T_cond_false rfl ?_ | refine T_skip ?_ | refine TL_eq_f (hk := ?_) | refine TL_nil ?_ | refine TL_move (hk := ?_) | refine TL_load TE (hk := ?_) | refine TL_fieldAddr TE (hk := ?_) | refine TL_no (hk := ?_) | refine TL_pick_f (hk := ?_) | refine TL_nilCheck (hk := ?_))
        exact T.sub (join () _ ⟨rfl, hr⟩) (.c rfl (.c rfl (.c rfl (.c rfl (.c rfl (.c rfl (.c rfl (.c rfl (.n)))))))))
    rintro _ w7 ⟨rfl, hgr⟩
    rw [← hgr] at I7
    repeat (first | refine T_seq ?_ | refine T_region ?_ | refine TL_nil ?_ | refine TL_move (hk := ?_) | refine TL_assign (hk := ?_))
    refine TL_call TE (hc := RByte_s bR _ A3 n3 c3 _ I7.rdr) (hk := ?_)
    rintro _ w10 ⟨rfl, m10, rr10⟩
    have I10 := I7.step m10 rr10
    obtain ⟨q, hq⟩ : ∃ q, (gRise g).take (0 : Nat) tByte = q := ⟨_, rfl⟩
    have hgu : gUse g = q := hq
    rw [hgu] at hu256
    rw [hq] at I10
    rw [hq]
    have hq0 : ¬ q.2.err = 0 → q.1 = 0 := fun h => by
      by_cases he : (gRise g).err = 0
      · rw [← hq] at h ⊢; exact take_err0 h he
      · rw [← hq, take_zero he]
    obtain ⟨u, hu⟩ : ∃ u, q.1 = u := ⟨_, rfl⟩
    rw [hu] at hu256 hq0 ⊢
    clear I7 rr10 kR7 k27
    have kR10 := I10.rdr.blk
    have k210 := k2m _ I10.mod
    repeat (first | refine TL_nil ?_ | refine TL_assign (hk := ?_))
    refine T_seq ?_
    refine T_join (ι := Unit) (fun _ => [(11, .int .u8 (u : Int)), (10, .string (ofL p.1)), (8, .string (ofL p.1)), (9, .int .i64 (i : Int)), (6, .int .i64 (n0 : Int)), (7, .pointer (some ⟨b6, 0, none⟩)), (5, ptr bR), (2, .pointer (some ⟨b2, 0, none⟩)), (0, .slice B nb cb)])
      (fun _ w' => w' = w10 ∧ gEnd g = q.2 ∧ u ≤ 3) (fun kk join => ?_) ?_
    · by_cases hqe : q.2.err = 0
      · by_cases hv : u < 1
        · have hs31 : (gStep g).s.err = 31 := by
            show (gEnd g).err = 31
            unfold gEnd
            rw [hgu, hu, if_pos (.inl hv)]
            exact fail_err hqe (by decide)
          have hF := hstepI hlt (by rw [hs31]; decide)
          rw [hs31] at hF
          repeat (first | refine T_seq ?_ | refine T_region ?_ | refine T_cond_true rfl ?_ | refine TL_lt_t (hk := ?_) | refine TL_eq_t (hk := ?_) | refine TL_nil ?_ | refine TL_move (hk := ?_) | refine TL_load TE (hk := ?_) | refine TL_fieldAddr TE (hk := ?_) | refine TL_yes (hk := ?_) | refine TL_no (hk := ?_) | refine TL_pick_t (hk := ?_) | refine TL_nilCheck (hk := ?_) | refine TL_build TE (hk := ?_))
          refine TL_storea TE (hk := ?_); intro wz mz sz kz
          repeat (first | refine TL_nil ?_ | refine TL_assign (hk := ?_))
          refine T_retA3 TE (vs := [.slice none 0 0, .slice none 0 0]) (o := 0) rfl rfl rfl rfl rfl rfl kz rfl (Nat.succ_pos _) ⟨.agg #[.slice none 0 0, .slice none 0 0], ?_, Mod.step I10.ext mz (by simp; omega), ?_⟩
          · rw [hF]; rfl
          · rw [hF]; exact FootO.nil _ _ _
        · by_cases hv3 : 3 < u
          · have hs31 : (gStep g).s.err = 31 := by
              show (gEnd g).err = 31
              unfold gEnd
              rw [hgu, hu, if_pos (.inr hv3)]
              exact fail_err hqe (by decide)
            have hF := hstepI hlt (by rw [hs31]; decide)
            rw [hs31] at hF
            repeat (first | refine T_seq ?_ | refine T_region ?_ | refine T_cond_true rfl ?_ | refine TL_lt_f (hk := ?_) | refine TL_gt_t (hk := ?_) | refine TL_eq_t (hk := ?_) | refine TL_nil ?_ | refine TL_move (hk := ?_) | refine TL_load TE (hk := ?_) | refine TL_fieldAddr TE (hk := ?_) | refine TL_yes (hk := ?_) | refine TL_pick_t (hk := ?_) | refine TL_pick_f (hk := ?_) | refine TL_nilCheck (hk := ?_) | refine TL_build TE (hk := ?_))
            refine TL_storea TE (hk := ?_); intro wz mz sz kz
            repeat (first | refine TL_nil ?_ | refine TL_assign (hk := ?_))
            refine T_retA3 TE (vs := [.slice none 0 0, .slice none 0 0]) (o := 0) rfl rfl rfl rfl rfl rfl kz rfl (Nat.succ_pos _) ⟨.agg #[.slice none 0 0, .slice none 0 0], ?_, Mod.step I10.ext mz (by simp; omega), ?_⟩
            · rw [hF]; rfl
            · rw [hF]; exact FootO.nil _ _ _
          · have hge : gEnd g = q.2 := by unfold gEnd; rw [hgu, hu, if_neg (by omega)]
            repeat (first | refine T_seq ?_ | refine T_region ?_ | refine T_cond_false rfl ?_ | refine T_skip ?_ | refine TL_lt_f (hk := ?_) | refine TL_gt_f (hk := ?_) | refine TL_eq_t (hk := ?_) | refine TL_nil ?_ | refine TL_move (hk := ?_) | refine TL_load TE (hk := ?_) | refine TL_fieldAddr TE (hk := ?_) | refine TL_yes (hk := ?_) | refine TL_pick_t (hk := ?_) | refine TL_pick_f (hk := ?_) | refine TL_nilCheck (hk := ?_))
            exact T.sub (join () _ ⟨rfl, hge, by omega⟩) (.c rfl (.c rfl (.c rfl (.c rfl (.c rfl (.c rfl (.c rfl (.c rfl (.c rfl (.n))))))))))
      · have hu0 := hq0 hqe
        have hge : gEnd g = q.2 := by rw [gEnd_of_use (by rw [hgu]; exact hqe), hgu]
        repeat (first | refine T_seq ?_ | refine T_region ?_ | refine T_cond_false rfl ?_ | refine T_skip ?_ | refine TL_eq_f (hk := ?_) | refine TL_nil ?_ | refine TL_move (hk := ?_) | refine TL_load TE (hk := ?_) | refine TL_fieldAddr TE (hk := ?_) | refine TL_no (hk := ?_) | refine TL_pick_f (hk := ?_) | refine TL_nilCheck (hk := ?_))
        exact T.sub (join () _ ⟨rfl, hge, by omega⟩) (.c rfl (.c rfl (.c rfl (.c rfl (.c rfl (.c rfl (.c rfl (.c rfl (.c rfl (.n))))))))))
    rintro _ w10 ⟨rfl, hge, hu3⟩
    have I11 := I10
    rw [← hge] at I11
    clear I10 kR10 k210
    repeat (first | refine T_seq ?_ | refine T_region ?_ | refine TL_rem (hk := ?_) | refine TL_move (hk := ?_))
    refine TL_eq_d (hk := ?_)
    repeat (refine TL_nil ?_)
    refine T_join (ι := Option Addr × Nat × Nat) (fun _ => [(11, .int .u8 (u : Int)), (10, .string (ofL p.1)), (8, .string (ofL p.1)), (9, .int .i64 (i : Int)), (6, .int .i64 (n0 : Int)), (7, .pointer (some ⟨b6, 0, none⟩)), (5, ptr bR), (2, .pointer (some ⟨b2, 0, none⟩)), (0, .slice B nb cb)])
      (fun x' w' => GInv 91 w w5 w' bR b6 (gEnd g) A3 n3 c3 x' y (if u &&& 1 = 0 then g.rd else g.rd ++ [p.1]) g.wr ∧ x'.2.1 ≤ i + 1) (fun kk join => ?_) ?_
    · by_cases hv : u &&& 1 = 0
      · rw [if_pos hv] at join
        rw [show decide (((u : Nat) : Int) % 2 = 1) = false from decide_eq_false (by rw [and1'] at hv; omega)]
        repeat (first | refine T_cond_false rfl ?_ | refine T_skip ?_)
        exact T.sub (join x _ ⟨I11, by omega⟩) (.c rfl (.c rfl (.c rfl (.c rfl (.c rfl (.c rfl (.c rfl (.c rfl (.c rfl (.n))))))))))
      · rw [if_neg hv] at join
        rw [show decide (((u : Nat) : Int) % 2 = 1) = true from decide_eq_true (by rw [and1'] at hv; omega)]
        have k6 := I11.blk
        have o1 := I11.own1
        repeat (first | refine T_region ?_ | refine T_cond_true rfl ?_ | refine TL_move (hk := ?_) | refine TL_load TE (hk := ?_) | refine TL_fieldAddr TE (hk := ?_))
        refine TL_buildSlice TE (hk := ?_); intro b12 w12 e12 h12 h12' k12
        replace k12 : Blk w12 b12 9 [.string (ofL p.1)] := k12
        have z12 := e12.size
        have o12 := o1.be e12
        have z11 := I11.mod.size
        refine TL_append TE (hk := ?_); intro A13 c13 w13 o13 m13 n13
        have J12 := I11.ext2 e12
        have h65 := I11.h65
        have hRR := I11.hR5
        have hne := I11.hne
        have h6 := I11.h6
        have z13 := m13.size
        have k13 := J12.blk.mod m13 (hi_not o12.hi h65)
        have rr13 := J12.rdr.mod m13 (hi_not o12.hi hRR) (Off.lohi J12.hA o12.hi)
        have own2 := J12.own2.mod m13 J12.off1
        have e13 : Ext w w13 := J12.ext.own m13 (Hi.mono o12.hi (by have := e05.size; omega))
        have mm13 : Eng.Mod [bR, b6] w5 w13 := Mod.step J12.mod m13 (fun z hz => .inr (by
          cases hx : x.1 with
          | none => rw [hx] at hz; simp [blkL] at hz
          | some ad => rw [hx] at hz; simp [blkL] at hz; rw [hz]; exact o12.hi ad hx))
        have noff : Off y.1 (blkL A13) := by
          intro ad had hm
          cases A13 with
          | none => simp [blkL] at hm
          | some a2 =>
            simp [blkL] at hm
            rcases n13 a2 rfl with h | h
            · exact J12.off1 ad had (by rw [h]; simp [blkL, hm])
            · have := J12.own2.lo ad had; omega
        have noff2 : Off A13 (blkL y.1) := by
          intro ad had hm
          cases hy : y.1 with
          | none => rw [hy] at hm; simp [blkL] at hm
          | some a2 =>
            rw [hy] at hm
            simp [blkL] at hm
            rcases n13 ad had with h | h
            · exact J12.off2 ad h (by rw [hy]; simp [blkL, hm])
            · have := J12.own2.lo a2 hy; omega
        clear k6 o1 k12 I11
        repeat (refine TL_fieldAddr TE (hk := ?_))
        refine TL_store TE (hk := ?_); intro w14 m14 z14 k14
        repeat (refine TL_nil ?_)
        refine T.sub (join (A13, x.2.1 + 1, c13) _ ⟨⟨Mod.step e13 m14 (by simp; omega), Mod.step mm13 m14 (by simp), rr13.mod m14 (by simp; omega) J12.hA6, k14, ?_, own2.mod m14 (Off.hi own2.hi (by omega)), noff, noff2, J12.hR, J12.hR5, J12.h6, J12.h65, J12.hne, J12.hA, J12.hA6⟩, by show x.2.1 + 1 ≤ i + 1; omega⟩) (.c rfl (.c rfl (.c rfl (.c rfl (.c rfl (.c rfl (.c rfl (.c rfl (.c rfl (.n))))))))))
        rw [sv_append]
        exact o13.mod m14 (Off.hi o13.hi (by omega))
    rintro x' w12 ⟨I12, hnx⟩
    obtain ⟨rd', hrd⟩ : ∃ rd', (if u &&& 1 = 0 then g.rd else g.rd ++ [p.1]) = rd' := ⟨_, rfl⟩
    rw [hrd] at I12
    repeat (first | refine T_seq ?_ | refine T_region ?_ | refine TL_move (hk := ?_))
    refine TL_ge_d (hk := ?_)
    repeat (refine TL_nil ?_)
    refine T_join (ι := Option Addr × Nat × Nat) (fun _ => [(11, .int .u8 (u : Int)), (10, .string (ofL p.1)), (8, .string (ofL p.1)), (9, .int .i64 (i : Int)), (6, .int .i64 (n0 : Int)), (7, .pointer (some ⟨b6, 0, none⟩)), (5, ptr bR), (2, .pointer (some ⟨b2, 0, none⟩)), (0, .slice B nb cb)])
      (fun y' w' => GInv 91 w w5 w' bR b6 (gEnd g) A3 n3 c3 x' y' rd' (if u &&& 2 = 0 then g.wr else g.wr ++ [p.1]) ∧ y'.2.1 ≤ i + 1) (fun kk join => ?_) ?_
    · by_cases hv : u &&& 2 = 0
      · rw [if_pos hv] at join
        rw [show decide ((2 : Int) ≤ ((u : Nat) : Int)) = false from decide_eq_false (by have := and2' u hu3; omega)]
        repeat (first | refine T_cond_false rfl ?_ | refine T_skip ?_)
        exact T.sub (join y _ ⟨I12, by omega⟩) (.c rfl (.c rfl (.c rfl (.c rfl (.c rfl (.c rfl (.c rfl (.c rfl (.c rfl (.n))))))))))
      · rw [if_neg hv] at join
        rw [show decide ((2 : Int) ≤ ((u : Nat) : Int)) = true from decide_eq_true (by have := and2' u hu3; omega)]
        have k6 := I12.blk
        have o1 := I12.own2
        repeat (first | refine T_region ?_ | refine T_cond_true rfl ?_ | refine TL_move (hk := ?_) | refine TL_load TE (hk := ?_) | refine TL_fieldAddr TE (hk := ?_))
        refine TL_buildSlice TE (hk := ?_); intro b12 w12 e12 h12 h12' k12
        replace k12 : Blk w12 b12 9 [.string (ofL p.1)] := k12
        have z12 := e12.size
        have o12 := o1.be e12
        have z11 := I12.mod.size
        refine TL_append TE (hk := ?_); intro A13 c13 w13 o13 m13 n13
        have J12 := I12.ext2 e12
        have h65 := I12.h65
        have hRR := I12.hR5
        have hne := I12.hne
        have h6 := I12.h6
        have z13 := m13.size
        have k13 := J12.blk.mod m13 (hi_not o12.hi h65)
        have rr13 := J12.rdr.mod m13 (hi_not o12.hi hRR) (Off.lohi J12.hA o12.hi)
        have own1 := J12.own1.mod m13 J12.off2
        have e13 : Ext w w13 := J12.ext.own m13 (Hi.mono o12.hi (by have := e05.size; omega))
        have mm13 : Eng.Mod [bR, b6] w5 w13 := Mod.step J12.mod m13 (fun z hz => .inr (by
          cases hx : y.1 with
          | none => rw [hx] at hz; simp [blkL] at hz
          | some ad => rw [hx] at hz; simp [blkL] at hz; rw [hz]; exact o12.hi ad hx))
        have noff : Off x'.1 (blkL A13) := by
          intro ad had hm
          cases A13 with
          | none => simp [blkL] at hm
          | some a2 =>
            simp [blkL] at hm
            rcases n13 a2 rfl with h | h
            · exact J12.off2 ad had (by rw [h]; simp [blkL, hm])
            · have := J12.own1.lo ad had; omega
        have noff2 : Off A13 (blkL x'.1) := by
          intro ad had hm
          cases hy : x'.1 with
          | none => rw [hy] at hm; simp [blkL] at hm
          | some a2 =>
            rw [hy] at hm
            simp [blkL] at hm
            rcases n13 ad had with h | h
            · exact J12.off1 ad h (by rw [hy]; simp [blkL, hm])
            · have := J12.own1.lo a2 hy; omega
        clear k6 o1 k12 I12
        repeat (refine TL_fieldAddr TE (hk := ?_))
        refine TL_store TE (hk := ?_); intro w14 m14 z14 k14
        repeat (refine TL_nil ?_)
        refine T.sub (join (A13, y.2.1 + 1, c13) _ ⟨⟨Mod.step e13 m14 (by simp; omega), Mod.step mm13 m14 (by simp), rr13.mod m14 (by simp; omega) J12.hA6, k14, own1.mod m14 (Off.hi own1.hi (by omega)), ?_, noff2, noff, J12.hR, J12.hR5, J12.h6, J12.h65, J12.hne, J12.hA, J12.hA6⟩, by show y.2.1 + 1 ≤ i + 1; omega⟩) (.c rfl (.c rfl (.c rfl (.c rfl (.c rfl (.c rfl (.c rfl (.c rfl (.c rfl (.n))))))))))
        rw [sv_append]
        exact o13.mod m14 (Off.hi o13.hi (by omega))
    rintro y' w13 ⟨I13, hny⟩
    obtain ⟨wr', hwr⟩ : ∃ wr', (if u &&& 2 = 0 then g.wr else g.wr ++ [p.1]) = wr' := ⟨_, rfl⟩
    rw [hwr] at I13
    have hstep : gStep g = ⟨gEnd g, p.1, rd', wr'⟩ := by unfold gStep; rw [hgt, hgu, hu, hrd, hwr]
    repeat (first | refine T_region ?_ | refine T_inBlock ?_ | refine TL_add (hk := ?_) | refine TL_nil ?_ | refine TL_move (hk := ?_) | refine TL_assign (hk := ?_))
    refine ih ((⟨gEnd g, p.1, rd', wr'⟩, i + 1), x', y') _ _ (by simp only; omega) ⟨by show i + 1 ≤ n0; omega, ?_, I13, hnx, hny⟩ (.c rfl (.c rfl (.c rfl (.c rfl (.c rfl (.c rfl (.c rfl (.n))))))))
    show _ = gStep (gIter i _)
    rw [← hg, hstep]
  · have k26 := k2m _ I6.mod
    by_cases he : g.s.err = 0
    · have hin : i = n0 := by omega
      have hall : gAll b = g := by unfold gAll; rw [hgi, hn0, ← hin]; exact hg.symm
      have hrest : b.length - g.s.rest = g.s.pos := by
        have h1 := I6.rdr.len
        have h2 := I6.rdr.pos
        unfold RS.rest
        rw [if_pos he]
        omega
      have hf : getF b = (((g.rd, g.wr), g.s.pos), 0) := by unfold getF; rw [hall, if_pos he, hrest]
      rw [hf]
      repeat (first | refine T_seq ?_ | refine T_region ?_ | refine T_cond_false rfl ?_ | refine T_skip ?_ | refine T_exit rfl ?_ | refine TL_lt_f (hk := ?_) | refine TL_ne_f (hk := ?_) | refine TL_nil ?_ | refine TL_move (hk := ?_) | refine TL_load TE (hk := ?_) | refine TL_fieldAddr TE (hk := ?_) | refine TL_no (hk := ?_) | refine TL_pick_f (hk := ?_) | refine TL_nilCheck (hk := ?_))
      refine T_region_any TE.mixed [b2] ?_; intro w8 e8 z8
      have I8 := I6.ext2 e8
      have k28 := k26.ext e8
      have z6 := I6.mod.size
      have h62 : b6 ∉ [b2] := by simp; omega
      have hR2 : bR ∉ [b2] := by simp; omega
      have kR8 := I8.rdr.blk
      refine TA_take 0 rfl (by kernel_rfl) (by kernel_rfl) (by kernel_rfl) ?_
      refine TLP_loadb TE (cs := [.slice x.1 x.2.1 x.2.2, .slice y.1 y.2.1 y.2.2]) (o := 0) (hb := I8.blk) (hD := h62) (hk := ?_)
      refine TL_nil_p ?_
      (refine TA_take 1 rfl (by kernel_rfl) (by kernel_rfl) (by kernel_rfl) ?_; repeat (first | refine TL_move (hk := ?_) | refine TLP_load TE (hk := ?_) | refine TL_fieldAddr TE (hk := ?_) | refine TL_nilCheck (hk := ?_)); refine TL_nil_p ?_); (refine TA_take 2 rfl (by kernel_rfl) (by kernel_rfl) (by kernel_rfl) ?_; repeat (first | refine TL_move (hk := ?_) | refine TLP_load TE (hk := ?_) | refine TL_fieldAddr TE (hk := ?_) | refine TL_nilCheck (hk := ?_)); refine TL_nil_p ?_); (refine TA_take 3 rfl (by kernel_rfl) (by kernel_rfl) (by kernel_rfl) ?_; repeat (first | refine TL_move (hk := ?_) | refine TLP_load TE (hk := ?_) | refine TL_fieldAddr TE (hk := ?_) | refine TL_nilCheck (hk := ?_)); refine TL_nil_p ?_); (refine TA_take 4 rfl (by kernel_rfl) (by kernel_rfl) (by kernel_rfl) ?_; repeat (first | refine TL_move (hk := ?_) | refine TLP_load TE (hk := ?_) | refine TL_fieldAddr TE (hk := ?_) | refine TL_nilCheck (hk := ?_)); refine TL_nil_p ?_)
      refine TA_one 5 rfl (by kernel_rfl) (by kernel_rfl) ?_
      refine TL_storea TE (hf := rfl) (hq := fun w' h _ => h) (hk := ?_); intro w10 m10 z10 k10
      refine TL_nil_p ?_
      (refine TA_take 6 rfl (by kernel_rfl) (by kernel_rfl) (by kernel_rfl) ?_; repeat (refine TL_assign (hk := ?_)); refine TL_nil_p ?_); (refine TA_take 7 rfl (by kernel_rfl) (by kernel_rfl) (by kernel_rfl) ?_; repeat (refine TL_assign (hk := ?_)); refine TL_nil_p ?_)
      refine TA_done (by kernel_rfl) ?_
      --
      refine T_retA3 TE (vs := [.slice x.1 x.2.1 x.2.2, .slice y.1 y.2.1 y.2.2]) (o := 0) rfl rfl rfl rfl rfl rfl k10 rfl (Nat.succ_pos _) ⟨.agg #[.slice x.1 x.2.1 x.2.2, .slice y.1 y.2.1 y.2.2], rfl, Mod.step I8.ext m10 (by simp; omega), x.1, x.2.1, x.2.2, y.1, y.2.1, y.2.2, rfl, ?_, ?_, I8.off1⟩
      · exact (I8.own1.mod m10 (Off.hi I8.own1.hi (by omega))).weaken (by have := e05.size; omega)
      · exact (I8.own2.mod m10 (Off.hi I8.own2.hi (by omega))).weaken (by have := e05.size; omega)
    · have hf : getF b = ((([], []), 0), g.s.err) := by
        have e : g = gIter i ⟨(gInit b).2, [], [], []⟩ := by rw [hgi]; exact hg
        have h2 := he
        rw [e] at h2 ⊢
        exact getF_err (by rw [hgi, hn0]; exact hi) h2
      rw [hf]
      have z6 := I6.mod.size
      by_cases hlt : i < n0
      · repeat (first | refine T_seq ?_ | refine T_region ?_ | refine T_cond_true rfl ?_ | refine T_cond_false rfl ?_ | refine T_exit rfl ?_ | refine TL_lt_t (hk := ?_) | refine TL_eq_f (hk := ?_) | refine TL_ne_t (hk := ?_) | refine TL_nil ?_ | refine TL_move (hk := ?_) | refine TL_load TE (hk := ?_) | refine TL_fieldAddr TE (hk := ?_) | refine TL_yes (hk := ?_) | refine TL_pick_t (hk := ?_) | refine TL_nilCheck (hk := ?_))
        refine T_region_any TE.mixed [b2] ?_; intro w8 e8 z8
        have I8 := I6.ext2 e8
        have k28 := k26.ext e8
        have hR2 : bR ∉ [b2] := by simp; omega
        have kR8 := I8.rdr.blk
        (refine TA_take 0 rfl (by kernel_rfl) (by kernel_rfl) (by kernel_rfl) ?_; repeat (first | refine TL_move (hk := ?_) | refine TLP_load TE (hk := ?_) | refine TL_fieldAddr TE (hk := ?_) | refine TL_nilCheck (hk := ?_) | refine TL_build TE (hk := ?_)); refine TL_nil_p ?_); (refine TA_take 1 rfl (by kernel_rfl) (by kernel_rfl) (by kernel_rfl) ?_; repeat (first | refine TL_move (hk := ?_) | refine TLP_load TE (hk := ?_) | refine TL_fieldAddr TE (hk := ?_) | refine TL_nilCheck (hk := ?_) | refine TL_build TE (hk := ?_)); refine TL_nil_p ?_); (refine TA_take 2 rfl (by kernel_rfl) (by kernel_rfl) (by kernel_rfl) ?_; repeat (first | refine TL_move (hk := ?_) | refine TLP_load TE (hk := ?_) | refine TL_fieldAddr TE (hk := ?_) | refine TL_nilCheck (hk := ?_) | refine TL_build TE (hk := ?_)); refine TL_nil_p ?_); (refine TA_take 3 rfl (by kernel_rfl) (by kernel_rfl) (by kernel_rfl) ?_; repeat (first | refine TL_move (hk := ?_) | refine TLP_load TE (hk := ?_) | refine TL_fieldAddr TE (hk := ?_) | refine TL_nilCheck (hk := ?_) | refine TL_build TE (hk := ?_)); refine TL_nil_p ?_); (refine TA_take 4 rfl (by kernel_rfl) (by kernel_rfl) (by kernel_rfl) ?_; repeat (first | refine TL_move (hk := ?_) | refine TLP_load TE (hk := ?_) | refine TL_fieldAddr TE (hk := ?_) | refine TL_nilCheck (hk := ?_) | refine TL_build TE (hk := ?_)); refine TL_nil_p ?_)
        refine TA_one 5 rfl (by kernel_rfl) (by kernel_rfl) ?_
        refine TL_storea TE (hf := rfl) (hq := fun w' h _ => h) (hk := ?_); intro w10 m10 z10 k10
        refine TL_nil_p ?_
        (refine TA_take 6 rfl (by kernel_rfl) (by kernel_rfl) (by kernel_rfl) ?_; repeat (refine TL_assign (hk := ?_)); refine TL_nil_p ?_); (refine TA_take 7 rfl (by kernel_rfl) (by kernel_rfl) (by kernel_rfl) ?_; repeat (refine TL_assign (hk := ?_)); refine TL_nil_p ?_)
        refine TA_done (by kernel_rfl) ?_
        --
        exact T_retA3 TE (vs := [.slice none 0 0, .slice none 0 0]) (o := 0) rfl rfl rfl rfl rfl rfl k10 rfl (Nat.succ_pos _) ⟨.agg #[.slice none 0 0, .slice none 0 0], rfl, Mod.step I8.ext m10 (by simp; omega), FootO.nil _ _ _⟩
      · repeat (first | refine T_seq ?_ | refine T_region ?_ | refine T_cond_true rfl ?_ | refine T_cond_false rfl ?_ | refine T_exit rfl ?_ | refine TL_lt_f (hk := ?_) | refine TL_ne_t (hk := ?_) | refine TL_nil ?_ | refine TL_move (hk := ?_) | refine TL_load TE (hk := ?_) | refine TL_fieldAddr TE (hk := ?_) | refine TL_no (hk := ?_) | refine TL_pick_f (hk := ?_) | refine TL_nilCheck (hk := ?_))
        refine T_region_any TE.mixed [b2] ?_; intro w8 e8 z8
        have I8 := I6.ext2 e8
        have k28 := k26.ext e8
        have hR2 : bR ∉ [b2] := by simp; omega
        have kR8 := I8.rdr.blk
        (refine TA_take 0 rfl (by kernel_rfl) (by kernel_rfl) (by kernel_rfl) ?_; repeat (first | refine TL_move (hk := ?_) | refine TLP_load TE (hk := ?_) | refine TL_fieldAddr TE (hk := ?_) | refine TL_nilCheck (hk := ?_) | refine TL_build TE (hk := ?_)); refine TL_nil_p ?_); (refine TA_take 1 rfl (by kernel_rfl) (by kernel_rfl) (by kernel_rfl) ?_; repeat (first | refine TL_move (hk := ?_) | refine TLP_load TE (hk := ?_) | refine TL_fieldAddr TE (hk := ?_) | refine TL_nilCheck (hk := ?_) | refine TL_build TE (hk := ?_)); refine TL_nil_p ?_); (refine TA_take 2 rfl (by kernel_rfl) (by kernel_rfl) (by kernel_rfl) ?_; repeat (first | refine TL_move (hk := ?_) | refine TLP_load TE (hk := ?_) | refine TL_fieldAddr TE (hk := ?_) | refine TL_nilCheck (hk := ?_) | refine TL_build TE (hk := ?_)); refine TL_nil_p ?_); (refine TA_take 3 rfl (by kernel_rfl) (by kernel_rfl) (by kernel_rfl) ?_; repeat (first | refine TL_move (hk := ?_) | refine TLP_load TE (hk := ?_) | refine TL_fieldAddr TE (hk := ?_) | refine TL_nilCheck (hk := ?_) | refine TL_build TE (hk := ?_)); refine TL_nil_p ?_); (refine TA_take 4 rfl (by kernel_rfl) (by kernel_rfl) (by kernel_rfl) ?_; repeat (first | refine TL_move (hk := ?_) | refine TLP_load TE (hk := ?_) | refine TL_fieldAddr TE (hk := ?_) | refine TL_nilCheck (hk := ?_) | refine TL_build TE (hk := ?_)); refine TL_nil_p ?_)
        refine TA_one 5 rfl (by kernel_rfl) (by kernel_rfl) ?_
        refine TL_storea TE (hf := rfl) (hq := fun w' h _ => h) (hk := ?_); intro w10 m10 z10 k10
        refine TL_nil_p ?_
        (refine TA_take 6 rfl (by kernel_rfl) (by kernel_rfl) (by kernel_rfl) ?_; repeat (refine TL_assign (hk := ?_)); refine TL_nil_p ?_); (refine TA_take 7 rfl (by kernel_rfl) (by kernel_rfl) (by kernel_rfl) ?_; repeat (refine TL_assign (hk := ?_)); refine TL_nil_p ?_)
        refine TA_done (by kernel_rfl) ?_
        --
        exact T_retA3 TE (vs := [.slice none 0 0, .slice none 0 0]) (o := 0) rfl rfl rfl rfl rfl rfl k10 rfl (Nat.succ_pos _) ⟨.agg #[.slice none 0 0, .slice none 0 0], rfl, Mod.step I8.ext m10 (by simp; omega), FootO.nil _ _ _⟩
end Go.Proofs.Ytfplmpfdhiagaaa

/- Two structs that are compared. -/
namespace Go.Proofs.Eng
open Go.RowKit
set_option linter.unusedSimpArgs false
set_option linter.unusedVariables false
set_option linter.unusedSectionVars false
section
variable {q : Qm} {P : Program} {fn : Func} {R : Ending → World → Prop} {M : Md} {n : Nat} {st : Slots} {k : List Item} {w : World} {ops rest : List Oper}
  {d : Nat} {ty : TypeId} {ps : String} {af : Array Edge} {X Y : Operand} {t t2 : TypeId} {xs ys : Array Value} {r : Bool}
theorem TL_aeq (hg : P.eqGuardType P.depth t = false) (he : ∀ w, (Op.equalIn 10000 t (.agg xs) (.agg ys)).run P w = .ok r w) (hx : ev st X = some (.agg xs) := by exact rfl) (hy : ev st Y = some (.agg ys) := by exact rfl) (hd : Nat.blt d n = true := by exact rfl)
    (hk : TL q P fn R M n ((d, .bool r) :: st) ops rest k w) : TL q P fn R M n st ops (⟨some d, .binOp .eql t X Y t2, ty, ps, af, none⟩ :: rest) k w :=
  TL_val_w hd (fun w ρ h => by
    show (do let v ← (do eqGuard .eql t X Y (ρ X) (ρ Y); binOp .eql t (ρ X) (ρ Y)); pure (Next.value v) : Sem Next).run P w = _
    rw [h _ _ hx, h _ _ hy]
    simp [run_eqGuard_agg w .eql t X Y xs ys hg, run_eql_struct, he]) hk
theorem TL_ane (hg : P.eqGuardType P.depth t = false) (he : ∀ w, (Op.equalIn 10000 t (.agg xs) (.agg ys)).run P w = .ok r w) (hx : ev st X = some (.agg xs) := by exact rfl) (hy : ev st Y = some (.agg ys) := by exact rfl) (hd : Nat.blt d n = true := by exact rfl)
    (hk : TL q P fn R M n ((d, .bool (!r)) :: st) ops rest k w) : TL q P fn R M n st ops (⟨some d, .binOp .neq t X Y t2, ty, ps, af, none⟩ :: rest) k w :=
  TL_val_w hd (fun w ρ h => by
    show (do let v ← (do eqGuard .neq t X Y (ρ X) (ρ Y); binOp .neq t (ρ X) (ρ Y)); pure (Next.value v) : Sem Next).run P w = _
    rw [h _ _ hx, h _ _ hy]
    simp [run_eqGuard_agg w .neq t X Y xs ys hg, run_neq_struct, he]) hk
end
end Go.Proofs.Eng
