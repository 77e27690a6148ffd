import Derived.Test.YtkmdmpmimojmbaaCRead
/- There and back: a number's bytes. -/
namespace Go.Proofs.Codec
open Go.Proofs.Eng
theorem pow7 (i : Nat) : 2 ^ (7 * (i + 1)) = 2 ^ (7 * i) * 128 := by rw [show 7 * (i + 1) = 7 * i + 7 from by omega, Nat.pow_add]
theorem toNat_ofNat {n : Nat} (h : n < 256) : (UInt8.ofNat n).toNat = n := by rw [UInt8.toNat_ofNat']; omega
theorem numF_enc : ∀ (f i N m : Nat) (t : List UInt8), f + i = 10 → m * 2 ^ (7 * i) < 2 ^ 64 → (0 < i → 0 < m) → numF f i N (encU m ++ t) = .ok (N + m * 2 ^ (7 * i), i + (encU m).length)
  | 0, i, N, m, t, hi, hm, h0 => by
    have h1 := h0 (by omega)
    have hp : 2 ^ 70 ≤ 2 ^ (7 * i) := Nat.pow_le_pow_right (by decide) (by omega)
    have : 1 * 2 ^ (7 * i) ≤ m * 2 ^ (7 * i) := Nat.mul_le_mul_right _ h1
    omega
  | f + 1, i, N, m, t, hi, hm, h0 => by
    have h9 : i = 9 → m < 2 := fun h => by subst h; omega
    by_cases h1 : m < 128
    · rw [encU_lt h1]
      have hc : (UInt8.ofNat m).toNat = m := toNat_ofNat (by omega)
      simp only [List.cons_append, List.nil_append, numF, hc]
      rw [if_neg (by omega), if_pos h1, if_neg (by omega), Nat.mod_eq_of_lt h1]
      rfl
    · have h8 : i ≠ 9 := fun h => by have := h9 h; omega
      rw [encU_ge h1]
      have hc : (UInt8.ofNat (m % 128 + 128)).toNat = m % 128 + 128 := toNat_ofNat (by omega)
      have hp := pow7 i
      have hd : m = m % 128 + 128 * (m / 128) := by omega
      have he : m % 128 * 2 ^ (7 * i) + m / 128 * 2 ^ (7 * (i + 1)) = m * 2 ^ (7 * i) := by
        rw [hp, Nat.mul_comm (2 ^ (7 * i)) 128, ← Nat.mul_assoc, ← Nat.add_mul]
        congr 1
        omega
      have hmod : (m % 128 + 128) % 128 = m % 128 := by omega
      simp only [List.cons_append, numF, hc]
      rw [if_neg (by omega), if_neg (by omega), numF_enc f (i + 1) _ (m / 128) t (by omega) (by omega) (by omega)]
      simp only [hmod, List.length_cons, Except.ok.injEq, Prod.mk.injEq]
      omega
theorem num0_enc {m : Nat} (t : List UInt8) (hm : m < 2 ^ 64) : num0 (encU m ++ t) = .ok (m, (encU m).length) := by
  unfold num0
  rw [numF_enc 10 0 0 m t rfl (by simpa using hm) (by omega)]
  simp
theorem numF_back : ∀ (f i N : Nat) (l : List UInt8) (r k : Nat), f + i = 10 → numF f i N l = .ok (r, k) → ∃ m, r = N + m * 2 ^ (7 * i) ∧ encU m = l.take (k - i) ∧ i < k ∧ (0 < i → 0 < m)
  | 0, _, _, _, _, _, _, h => by simp [numF] at h
  | f + 1, i, N, [], _, _, _, h => by simp [numF] at h
  | f + 1, i, N, c :: t, r, k, hi, h => by
    have hc := UInt8.toNat_lt c
    simp only [numF] at h
    split at h
    · cases h
    · split at h
      · rename_i h1
        split at h
        · cases h
        · rename_i h2
          cases h
          refine ⟨c.toNat, by rw [Nat.mod_eq_of_lt h1], ?_, by omega, by omega⟩
          rw [encU_lt h1, show i + 1 - i = 1 by omega]
          simp
      · rename_i h1
        obtain ⟨m, rfl, he, hk, h0⟩ := numF_back f (i + 1) _ t r k (by omega) h
        have h0' := h0 (by omega)
        refine ⟨c.toNat % 128 + 128 * m, ?_, ?_, by omega, by omega⟩
        · rw [pow7, Nat.add_mul, Nat.mul_comm (2 ^ (7 * i)) 128, ← Nat.mul_assoc, Nat.mul_comm m 128]
          omega
        · rw [encU_ge (by omega), show (c.toNat % 128 + 128 * m) / 128 = m by omega, he, show k - i = (k - (i + 1)) + 1 by omega, List.take_succ_cons]
          congr 1
          rw [show (c.toNat % 128 + 128 * m) % 128 + 128 = c.toNat by omega]
          simp
theorem num0_back {l : List UInt8} {r k : Nat} (h : num0 l = .ok (r, k)) : encU r = l.take k := by
  obtain ⟨m, hr, he, _⟩ := numF_back 10 0 0 l r k rfl h
  simp at hr he
  rw [hr, he]
theorem tInt_enc (i : Int) (t : List UInt8) (h : -9223372036854775808 ≤ i ∧ i ≤ 9223372036854775807) : tInt (encU (zig i) ++ t) = .ok (i, (encU (zig i)).length) := by
  unfold tInt
  rw [num0_enc t (zig_lt h)]
  simp only [zag_zig]
theorem tText_enc (s t : List UInt8) (h : s.length < 2 ^ 63) : tText (s.length : Int) (encU s.length ++ (s ++ t)) = .ok (s, (encU s.length).length + s.length) := by
  unfold tText tLim
  rw [num0_enc _ (by omega)]
  simp only
  rw [if_neg (by omega)]
  simp only [List.length_append]
  rw [if_neg (by omega)]
  simp
end Go.Proofs.Codec
