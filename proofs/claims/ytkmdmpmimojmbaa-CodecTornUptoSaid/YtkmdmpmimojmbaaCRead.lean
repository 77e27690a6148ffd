import Derived.Test.YtkmdmpmimojmbaaCSpec
/- What a reading answers: plain functions on bytes. -/
namespace Go.Proofs.Codec
open Go.Proofs.Eng
/-- A number from the front: how many bytes are left to it, the place, what has been read. -/
def numF : Nat → Nat → Nat → List UInt8 → Except Int (Nat × Nat)
  | 0, _, _, _ => .error 11
  | f + 1, i, n, l => match l with
    | [] => .error 3
    | c :: t =>
      if i = 9 ∧ 1 < c.toNat then .error 11 else
      if c.toNat < 128 then (if 0 < i ∧ c.toNat = 0 then .error 10 else .ok (n + c.toNat % 128 * 2 ^ (7 * i), i + 1))
      else numF f (i + 1) (n + c.toNat % 128 * 2 ^ (7 * i)) t
def num0 (l : List UInt8) : Except Int (Nat × Nat) := numF 10 0 0 l
theorem numF_ok : ∀ (f i n : Nat) (l : List UInt8) (r k : Nat), f + i = 10 → n < 2 ^ (7 * i) → numF f i n l = .ok (r, k) → r < 2 ^ 64 ∧ i < k ∧ k ≤ i + l.length
  | 0, _, _, _, _, _, _, _, h => by simp [numF] at h
  | f + 1, i, n, [], _, _, _, _, h => by simp [numF] at h
  | f + 1, i, n, c :: t, r, k, hi, hn, h => by
    have hc := UInt8.toNat_lt c
    have hp : 2 ^ (7 * (i + 1)) = 2 ^ (7 * i) * 128 := by rw [show 7 * (i + 1) = 7 * i + 7 from by omega, Nat.pow_add]
    have hm : n + c.toNat % 128 * 2 ^ (7 * i) < 2 ^ (7 * (i + 1)) := by
      rw [hp]
      have : c.toNat % 128 * 2 ^ (7 * i) ≤ 127 * 2 ^ (7 * i) := Nat.mul_le_mul_right _ (by omega)
      omega
    simp only [numF] at h
    by_cases h9 : i = 9 ∧ 1 < c.toNat
    · rw [if_pos h9] at h; cases h
    · rw [if_neg h9] at h
      by_cases h1 : c.toNat < 128
      · rw [if_pos h1] at h
        by_cases h0 : 0 < i ∧ c.toNat = 0
        · rw [if_pos h0] at h; cases h
        · rw [if_neg h0] at h
          cases h
          refine ⟨?_, by omega, by simp⟩
          by_cases hi9 : i = 9
          · subst hi9
            have : c.toNat % 128 ≤ 1 := by omega
            have : c.toNat % 128 * 2 ^ (7 * 9) ≤ 1 * 2 ^ (7 * 9) := Nat.mul_le_mul_right _ this
            omega
          · have : 2 ^ (7 * (i + 1)) ≤ 2 ^ 63 := Nat.pow_le_pow_right (by decide) (by omega)
            omega
      · rw [if_neg h1] at h
        have := numF_ok f (i + 1) _ t r k (by omega) hm h
        simp only [List.length_cons]
        omega
theorem num0_ok {l : List UInt8} {r k : Nat} (h : num0 l = .ok (r, k)) : r < 2 ^ 64 ∧ 0 < k ∧ k ≤ l.length := by
  have := numF_ok 10 0 0 l r k rfl (by decide) h
  omega
theorem numF_err : ∀ (f i n : Nat) (l : List UInt8) (e : Int), numF f i n l = .error e → ¬ e = 0
  | 0, _, _, _, e, h => by simp [numF] at h; omega
  | f + 1, _, _, [], e, h => by simp [numF] at h; omega
  | f + 1, i, n, c :: t, e, h => by
    simp only [numF] at h
    split at h
    · cases h; decide
    · split at h
      · split at h
        · cases h; decide
        · cases h
      · exact numF_err f _ _ t e h
theorem num0_err {l : List UInt8} {e : Int} (h : num0 l = .error e) : ¬ e = 0 := numF_err _ _ _ _ _ h
/-- An int of a number. -/
def zag (n : Nat) : Int := if n % 2 = 0 then (n / 2 : Nat) else -((n / 2 : Nat) : Int) - 1
theorem zag_zig (i : Int) : zag (zig i) = i := by
  unfold zag zig
  split <;> split <;> omega
/-! The takings: of what stands behind the place: the value and how many bytes, or the error. -/
def tByte (l : List UInt8) : Except Int (Nat × Nat) := match l with
  | [] => .error 3
  | c :: _ => .ok (c.toNat, 1)
def tInt (l : List UInt8) : Except Int (Int × Nat) := match num0 l with
  | .ok (n, k) => .ok (zag n, k)
  | .error e => .error e
def tLim (most : Int) (e : Int) (l : List UInt8) : Except Int (Nat × Nat) := match num0 l with
  | .ok (n, k) => if most < 0 ∨ most < (n : Int) then .error e else .ok (n, k)
  | .error e => .error e
def tText (most : Int) (l : List UInt8) : Except Int (List UInt8 × Nat) := match tLim most 1 l with
  | .ok (n, k) => if l.length < k + n then .error 3 else .ok ((l.drop k).take n, k + n)
  | .error e => .error e
/-- A reader's state. -/
structure RS where
  b : List UInt8
  pos : Nat
  last : Nat
  err : Int
  spot : Nat
def RS.take {α : Type} (s : RS) (zero : α) (t : List UInt8 → Except Int (α × Nat)) : α × RS :=
  if s.err = 0 then match t (s.b.drop s.pos) with
    | .ok (v, k) => (v, { s with pos := s.pos + k, last := s.pos })
    | .error e => (zero, { s with err := e, spot := s.pos })
  else (zero, s)
def RS.fail (s : RS) (e : Int) : RS := if s.err = 0 ∧ e ≠ 0 then { s with err := e, spot := s.last } else s
def RS.fin (s : RS) : RS := if s.err = 0 ∧ s.pos < s.b.length then { s with err := 4, spot := s.pos } else s
def RS.rest (s : RS) : Nat := if s.err = 0 then s.b.length - s.pos else 0
end Go.Proofs.Codec
