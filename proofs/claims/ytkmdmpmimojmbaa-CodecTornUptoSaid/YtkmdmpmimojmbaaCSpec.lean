import Derived.Test.YtkmdmpmimojmbaaEng4
/- Plain facts on numbers' bytes: no program in sight. -/
namespace Go.Proofs.Codec
open Go.Proofs.Eng
/-- The bytes of a number. -/
def encU (n : Nat) : List UInt8 := if n < 128 then [UInt8.ofNat n] else UInt8.ofNat (n % 128 + 128) :: encU (n / 128)
termination_by n
decreasing_by omega
theorem encU_lt {n : Nat} (h : n < 128) : encU n = [UInt8.ofNat n] := by rw [encU, if_pos h]
theorem encU_ge {n : Nat} (h : ¬ n < 128) : encU n = UInt8.ofNat (n % 128 + 128) :: encU (n / 128) := by rw [encU, if_neg h]
theorem encU_len (k : Nat) : ∀ n, n < 2 ^ (7 * k + 7) → (encU n).length ≤ k + 1 := by
  induction k with
  | zero => intro n h; rw [encU_lt (by simpa using h)]; simp
  | succ k ih =>
    intro n h
    by_cases h1 : n < 128
    · rw [encU_lt h1]; simp
    · rw [encU_ge h1, List.length_cons]
      have := ih (n / 128) (by
        rw [Nat.div_lt_iff_lt_mul (by decide)]
        have : 2 ^ (7 * (k + 1) + 7) = 2 ^ (7 * k + 7) * 128 := by rw [show 7 * (k + 1) + 7 = (7 * k + 7) + 7 from by omega, Nat.pow_add]
        omega)
      omega
theorem encU_len64 {n : Nat} (h : n < 2 ^ 64) : (encU n).length ≤ 10 := encU_len 9 n (Nat.lt_of_lt_of_le h (by decide))
theorem encU_pos (n : Nat) : 0 < (encU n).length := by rw [encU]; split <;> simp
theorem or128 : ∀ b, b < 256 → b ||| 128 = b % 128 + 128 := by decide +kernel
theorem ofNat_u8 {n : Nat} (h : n < 256) : ((UInt8.ofNat n).toNat : Int) = (n : Int) := by
  rw [UInt8.toNat_ofNat']; omega
theorem bv_snoc (l : List UInt8) (n : Nat) (h : n < 256) : bv l ++ [.int .u8 (n : Int)] = bv (l ++ [UInt8.ofNat n]) := by
  rw [bv_append]; simp only [bv, List.map_cons, List.map_nil, ofNat_u8 h]
/-- An int as a number. -/
def zig (i : Int) : Nat := if 0 ≤ i then 2 * i.toNat else 2 * (-(i + 1)).toNat + 1
theorem zig_lt {i : Int} (h : -9223372036854775808 ≤ i ∧ i ≤ 9223372036854775807) : zig i < 2 ^ 64 := by unfold zig; split <;> omega
/-- A number of four bytes. -/
def four (n : Nat) : List UInt8 := [UInt8.ofNat (n % 256), UInt8.ofNat (n / 2 ^ 8 % 256), UInt8.ofNat (n / 2 ^ 16 % 256), UInt8.ofNat (n / 2 ^ 24 % 256)]
def le4 (l : List UInt8) : Nat := ((gb l 0 ||| gb l 1 * 2 ^ 8 % 2 ^ 32) ||| gb l 2 * 2 ^ 16 % 2 ^ 32) ||| gb l 3 * 2 ^ 24 % 2 ^ 32
theorem le4_lt (l : List UInt8) : le4 l < 2 ^ 32 := by
  have := gb_lt l 0
  unfold le4
  exact Nat.or_lt_two_pow (Nat.or_lt_two_pow (Nat.or_lt_two_pow (by omega) (by omega)) (by omega)) (by omega)
/-- The sum. -/
def crcStep (c : Nat) : Nat := if c % 2 = 1 then (c / 2) ^^^ 3988292384 else c / 2
def crc8 : Nat → Nat → Nat
  | 0, c => c
  | j + 1, c => crc8 j (crcStep c)
def crcAll : List UInt8 → Nat → Nat
  | [], c => c
  | b :: l, c => crcAll l (crc8 8 (c ^^^ b.toNat))
def crc (l : List UInt8) : Nat := 4294967295 ^^^ crcAll l 4294967295
theorem crc8_succ (j c : Nat) : crc8 (j + 1) c = crc8 j (crcStep c) := rfl
theorem crcStep_odd {c : Nat} (h : c % 2 = 1) : crcStep c = (c / 2 ^ 1) ^^^ 3988292384 := by unfold crcStep; rw [if_pos h]
theorem crcStep_even {c : Nat} (h : ¬ c % 2 = 1) : crcStep c = c / 2 ^ 1 := by unfold crcStep; rw [if_neg h]
theorem crcStep_lt {c : Nat} (h : c < 2 ^ 32) : crcStep c < 2 ^ 32 := by
  unfold crcStep
  split
  · exact Nat.xor_lt_two_pow (by omega) (by decide)
  · omega
theorem crc8_lt : ∀ (j : Nat) {c : Nat}, c < 2 ^ 32 → crc8 j c < 2 ^ 32
  | 0, _, h => h
  | j + 1, _, h => crc8_lt j (crcStep_lt h)
theorem crcAll_lt : ∀ (l : List UInt8) {c : Nat}, c < 2 ^ 32 → crcAll l c < 2 ^ 32
  | [], _, h => h
  | b :: l, _, h => crcAll_lt l (crc8_lt 8 (Nat.xor_lt_two_pow h (Nat.lt_of_lt_of_le (UInt8.toNat_lt b) (by decide))))
theorem crc_lt (l : List UInt8) : crc l < 2 ^ 32 := Nat.xor_lt_two_pow (by decide) (crcAll_lt l (by decide))
theorem crcAll_take (l : List UInt8) (c k : Nat) (h : k < l.length) : crcAll (l.drop k) c = crcAll (l.drop (k + 1)) (crc8 8 (c ^^^ gb l k)) := by
  rw [List.drop_eq_getElem_cons h]
  simp only [crcAll, gb, List.getD_eq_getElem?_getD, List.getElem?_eq_getElem h, Option.getD_some]
theorem and1 (c : Nat) : c &&& 1 = c % 2 := Nat.and_one_is_mod c
theorem xor_ones {a : Nat} (h : a < 2 ^ 64) : a ^^^ (2 ^ 64 - 1) = 2 ^ 64 - 1 - a := by
  have e := congrArg BitVec.toNat (BitVec.xor_allOnes (x := BitVec.ofNat 64 a))
  rw [BitVec.toNat_xor, BitVec.toNat_not, BitVec.toNat_allOnes, BitVec.toNat_ofNat, Nat.mod_eq_of_lt h] at e
  exact e
end Go.Proofs.Codec
