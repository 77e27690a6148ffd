import Derived.Test.YtkmdmpmimojmbaaCW5
/- The sum tells turned bits: plain facts on numbers. -/
namespace Go.Proofs.Codec
open Go.Proofs.Eng
/-- Bytes as one number, the lowest first. -/
def num : List UInt8 → Nat
  | [] => 0
  | b :: l => b.toNat + 256 * num l
theorem num_lt : ∀ l : List UInt8, num l < 2 ^ (8 * l.length)
  | [] => by simp [num]
  | b :: l => by
    have h := num_lt l
    have hb := UInt8.toNat_lt b
    rw [List.length_cons, show 8 * (l.length + 1) = 8 * l.length + 8 by omega, Nat.pow_add]
    simp only [num]
    omega
theorem num_append : ∀ (a b : List UInt8), num (a ++ b) = num a + 2 ^ (8 * a.length) * num b
  | [], b => by simp [num]
  | x :: a, b => by
    rw [List.cons_append, num, num_append a b, num, List.length_cons, show 8 * (a.length + 1) = 8 * a.length + 8 by omega, Nat.pow_add, Nat.mul_add]
    rw [show 256 * (2 ^ (8 * a.length) * num b) = 2 ^ (8 * a.length) * 2 ^ 8 * num b by rw [Nat.mul_comm (2 ^ (8 * a.length)) (2 ^ 8), Nat.mul_assoc]]
    omega
theorem num_inj : ∀ {a b : List UInt8}, a.length = b.length → num a = num b → a = b
  | [], [], _, _ => rfl
  | [], _ :: _, h, _ => by simp at h
  | _ :: _, [], h, _ => by simp at h
  | x :: a, y :: b, h, e => by
    simp only [num] at e
    have hx := UInt8.toNat_lt x
    have hy := UInt8.toNat_lt y
    have h1 : x.toNat = y.toNat := by omega
    have h2 : a = b := num_inj (by simpa using h) (by omega)
    rw [UInt8.toNat_inj.1 h1, h2]
theorem xor_add {a b k : Nat} (h : a < 2 ^ k) : a ^^^ (2 ^ k * b) = a + 2 ^ k * b := by
  apply Nat.eq_of_testBit_eq
  intro i
  rw [Nat.testBit_xor, Nat.add_comm a (2 ^ k * b), Nat.testBit_two_pow_mul_add b h i, Nat.testBit_two_pow_mul]
  by_cases hi : i < k
  · simp [hi, show ¬ k ≤ i by omega]
  · rw [if_neg hi, Nat.testBit_lt_two_pow (Nat.lt_of_lt_of_le h (Nat.pow_le_pow_right (by decide) (by omega)))]
    simp [show k ≤ i by omega]
theorem xor_half (x y : Nat) : (x ^^^ y) / 2 = x / 2 ^^^ y / 2 := by
  have := Nat.xor_div_two_pow (a := x) (b := y) (n := 1)
  simpa using this
theorem xor_par (x y : Nat) : (x ^^^ y) % 2 = (x % 2 + y % 2) % 2 := by
  have := Nat.xor_mod_two_pow (a := x) (b := y) (n := 1)
  simp only [Nat.pow_one] at this
  rw [this]
  rcases Nat.mod_two_eq_zero_or_one x with h1 | h1 <;> rcases Nat.mod_two_eq_zero_or_one y with h2 | h2 <;> rw [h1, h2] <;> rfl
theorem crcStep_xor (x y : Nat) : crcStep (x ^^^ y) = crcStep x ^^^ crcStep y := by
  unfold crcStep
  rw [xor_par, xor_half]
  have hP : ∀ u v : Nat, (u ^^^ 3988292384) ^^^ (v ^^^ 3988292384) = u ^^^ v := fun u v => by
    have e : (u ^^^ 3988292384) ^^^ (v ^^^ 3988292384) = (u ^^^ v) ^^^ (3988292384 ^^^ 3988292384) := by ac_rfl
    rw [e]; simp
  rcases Nat.mod_two_eq_zero_or_one x with h1 | h1 <;> rcases Nat.mod_two_eq_zero_or_one y with h2 | h2 <;> rw [h1, h2]
  · rfl
  · show (x / 2 ^^^ y / 2) ^^^ 3988292384 = x / 2 ^^^ (y / 2 ^^^ 3988292384)
    ac_rfl
  · show (x / 2 ^^^ y / 2) ^^^ 3988292384 = (x / 2 ^^^ 3988292384) ^^^ y / 2
    ac_rfl
  · exact (hP _ _).symm
theorem crc8_xor : ∀ (k x y : Nat), crc8 k (x ^^^ y) = crc8 k x ^^^ crc8 k y
  | 0, _, _ => rfl
  | k + 1, x, y => by rw [crc8, crcStep_xor, crc8_xor k]; rfl
theorem crc8_add : ∀ (j k x : Nat), crc8 (j + k) x = crc8 k (crc8 j x)
  | 0, k, x => by rw [Nat.zero_add]; rfl
  | j + 1, k, x => by rw [show j + 1 + k = (j + k) + 1 by omega, crc8, crc8_add j k]; rfl
theorem crcStep_even' (x : Nat) : crcStep (2 * x) = x := by unfold crcStep; rw [if_neg (by omega)]; omega
theorem crc8_pow : ∀ (k x : Nat), crc8 k (2 ^ k * x) = x
  | 0, x => by simp [crc8]
  | k + 1, x => by rw [crc8, show 2 ^ (k + 1) * x = 2 * (2 ^ k * x) by rw [Nat.pow_succ, Nat.mul_comm (2 ^ k) 2, Nat.mul_assoc], crcStep_even', crc8_pow k]
theorem crcAll_num : ∀ (l : List UInt8) (c : Nat), crcAll l c = crc8 (8 * l.length) (c ^^^ num l)
  | [], c => by simp [crcAll, num, crc8]
  | b :: l, c => by
    have hb := UInt8.toNat_lt b
    have e : c ^^^ num (b :: l) = (c ^^^ b.toNat) ^^^ (2 ^ 8 * num l) := by
      rw [Nat.xor_assoc, xor_add (by omega)]; rfl
    rw [crcAll, crcAll_num l, List.length_cons, show 8 * (l.length + 1) = 8 + 8 * l.length by omega, crc8_add, e, crc8_xor 8 (c ^^^ b.toNat) (2 ^ 8 * num l), crc8_pow]
theorem crcStep_ne {x : Nat} (h : x < 2 ^ 32) (h0 : x ≠ 0) : crcStep x ≠ 0 := by
  unfold crcStep
  split
  · rename_i h1
    intro e
    have : x / 2 = 3988292384 := by
      have := congrArg (· ^^^ 3988292384) e
      simpa [Nat.xor_assoc] using this
    omega
  · omega
theorem crc8_ne : ∀ (k : Nat) {x : Nat}, x < 2 ^ 32 → x ≠ 0 → crc8 k x ≠ 0
  | 0, _, _, h => h
  | k + 1, _, h, h0 => crc8_ne k (crcStep_lt h) (crcStep_ne h h0)
theorem crc8_burst {k a B : Nat} (h : B < 2 ^ 32) (h0 : B ≠ 0) : crc8 k (2 ^ a * B) ≠ 0 := by
  rcases Nat.le_total a k with hk | hk
  · rw [show k = a + (k - a) by omega, crc8_add, crc8_pow]
    exact crc8_ne _ h h0
  · rw [show 2 ^ a * B = 2 ^ k * (2 ^ (a - k) * B) by rw [← Nat.mul_assoc, ← Nat.pow_add, show k + (a - k) = a by omega], crc8_pow]
    exact Nat.mul_ne_zero (Nat.ne_of_gt (Nat.two_pow_pos _)) h0
theorem crc8_zero : ∀ k, crc8 k 0 = 0
  | 0 => rfl
  | k + 1 => by rw [crc8]; exact crc8_zero k
theorem le4_num {l : List UInt8} (h : 4 ≤ l.length) : le4 l = num (l.take 4) := by
  match l, h with
  | a :: b :: c :: d :: t, _ =>
    have ha := UInt8.toNat_lt a
    have hb := UInt8.toNat_lt b
    have hc := UInt8.toNat_lt c
    have hd := UInt8.toNat_lt d
    have e0 : gb (a :: b :: c :: d :: t) 0 = a.toNat := rfl
    have e1 : gb (a :: b :: c :: d :: t) 1 = b.toNat := rfl
    have e2 : gb (a :: b :: c :: d :: t) 2 = c.toNat := rfl
    have e3 : gb (a :: b :: c :: d :: t) 3 = d.toNat := rfl
    have lor : ∀ {x y k : Nat}, x < 2 ^ k → x ||| y * 2 ^ k = x + y * 2 ^ k := fun {x y k} h => by
      rw [Nat.or_comm, Nat.mul_comm y, ← Nat.two_pow_add_eq_or_of_lt h, Nat.add_comm]
    unfold le4
    rw [e0, e1, e2, e3, Nat.mod_eq_of_lt (by omega), Nat.mod_eq_of_lt (by omega), Nat.mod_eq_of_lt (by omega)]
    have s1 : a.toNat ||| b.toNat * 2 ^ 8 = a.toNat + b.toNat * 2 ^ 8 := lor (by omega)
    have s2 : (a.toNat + b.toNat * 2 ^ 8) ||| c.toNat * 2 ^ 16 = (a.toNat + b.toNat * 2 ^ 8) + c.toNat * 2 ^ 16 := lor (by omega)
    have s3 : ((a.toNat + b.toNat * 2 ^ 8) + c.toNat * 2 ^ 16) ||| d.toNat * 2 ^ 24 = ((a.toNat + b.toNat * 2 ^ 8) + c.toNat * 2 ^ 16) + d.toNat * 2 ^ 24 := lor (by omega)
    rw [s1, s2, s3]
    simp only [List.take, num]
    omega
theorem four_num {x : Nat} (h : x < 2 ^ 32) : num (four x) = x := by
  simp only [four, num]
  rw [UInt8.toNat_ofNat', UInt8.toNat_ofNat', UInt8.toNat_ofNat', UInt8.toNat_ofNat']
  omega
theorem four_len (x : Nat) : (four x).length = 4 := rfl
/-- What a frame answers whose bits are turned behind its size: as number: 2 ^ 32 * .. -/
theorem num_take {l : List UInt8} {k : Nat} (h : k ≤ l.length) : num (l.take k) = num l % 2 ^ (8 * k) := by
  have e := num_append (l.take k) (l.drop k)
  rw [List.take_append_drop] at e
  have hl : (l.take k).length = k := by simp; omega
  have h1 := num_lt (l.take k)
  rw [hl] at e h1
  rw [e, Nat.add_comm, Nat.mul_add_mod, Nat.mod_eq_of_lt h1]
theorem num_drop {l : List UInt8} {k : Nat} (h : k ≤ l.length) : num (l.drop k) = num l / 2 ^ (8 * k) := by
  have e := num_append (l.take k) (l.drop k)
  rw [List.take_append_drop] at e
  have hl : (l.take k).length = k := by simp; omega
  have h1 := num_lt (l.take k)
  rw [hl] at e h1
  rw [e, Nat.add_mul_div_left _ _ (Nat.two_pow_pos _), Nat.div_eq_of_lt h1, Nat.zero_add]
end Go.Proofs.Codec
