import Derived.Test.YtkmdmpmimojmbaaCLaw3
/- One bit turned, as a number. -/
namespace Go.Proofs.Codec
open Go.Proofs.Eng
theorem two_mul_xor (s x y : Nat) : 2 ^ s * x ^^^ 2 ^ s * y = 2 ^ s * (x ^^^ y) := by
  apply Nat.eq_of_testBit_eq
  intro i
  rw [Nat.testBit_xor, Nat.testBit_two_pow_mul, Nat.testBit_two_pow_mul, Nat.testBit_two_pow_mul, Nat.testBit_xor]
  by_cases h : i ≥ s <;> simp [h]
theorem num_set : ∀ (l : List UInt8) (j t : Nat), j < l.length → t < 8 → num (l.set j (UInt8.ofNat (gb l j ^^^ 2 ^ t))) = num l ^^^ 2 ^ (8 * j + t)
  | [], j, t, h, _ => by simp at h
  | b :: l, 0, t, _, ht => by
    have hb := UInt8.toNat_lt b
    have h2 : 2 ^ t < 2 ^ 8 := Nat.pow_lt_pow_right (by decide) ht
    have hx : b.toNat ^^^ 2 ^ t < 2 ^ 8 := Nat.xor_lt_two_pow hb h2
    have e : gb (b :: l) 0 = b.toNat := rfl
    rw [List.set_cons_zero, e]
    simp only [num]
    rw [UInt8.toNat_ofNat', Nat.mod_eq_of_lt hx]
    have h3 := xor_add (a := b.toNat ^^^ 2 ^ t) (b := num l) (k := 8) hx
    have h4 := xor_add (a := b.toNat) (b := num l) (k := 8) hb
    rw [show (256 : Nat) = 2 ^ 8 from rfl, ← h3, ← h4, Nat.mul_zero, Nat.zero_add]
    ac_rfl
  | b :: l, j + 1, t, h, ht => by
    have hb := UInt8.toNat_lt b
    have e : gb (b :: l) (j + 1) = gb l j := by simp [gb]
    rw [List.set_cons_succ, e]
    simp only [num]
    rw [num_set l j t (by simpa using h) ht]
    have h4 := xor_add (a := b.toNat) (b := num l) (k := 8) hb
    have h5 := xor_add (a := b.toNat) (b := num l ^^^ 2 ^ (8 * j + t)) (k := 8) hb
    rw [show (256 : Nat) = 2 ^ 8 from rfl, ← h4, ← h5, ← two_mul_xor, ← Nat.pow_add, show 8 + (8 * j + t) = 8 * (j + 1) + t by omega]
    ac_rfl
theorem bv_set (l : List UInt8) (j x : Nat) (h : x < 256) : (bv l).set j (.int .u8 (x : Int)) = bv (l.set j (UInt8.ofNat x)) := by
  unfold bv
  rw [List.map_set, UInt8.toNat_ofNat', Nat.mod_eq_of_lt (by omega)]
theorem mod_succ_bit (p k : Nat) : p % 2 ^ (k + 1) = p % 2 ^ k + 2 ^ k * (p / 2 ^ k % 2) := by
  rw [Nat.pow_succ, Nat.mod_mul]
end Go.Proofs.Codec
