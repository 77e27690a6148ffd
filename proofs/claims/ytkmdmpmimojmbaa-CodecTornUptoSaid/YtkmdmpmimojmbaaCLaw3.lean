import Derived.Test.YtkmdmpmimojmbaaCLaw2
/- A frame opens to its load; turned bits are told. -/
namespace Go.Proofs.Ytkmdmpmimojmbaa
open Go.Proofs.Eng Go.Proofs.Codec
theorem frame_len (l : List UInt8) : (frame l).length = l.length + 8 := by
  unfold frame
  simp only [List.length_append, four_len]
  omega
theorem frame_take (l : List UInt8) : (frame l).take (l.length + 4) = four l.length ++ l := by
  unfold frame
  have h : (four l.length ++ l).length = l.length + 4 := by simp only [List.length_append, four_len]; omega
  rw [← h, List.take_left]
theorem frame_drop (l : List UInt8) : (frame l).drop (l.length + 4) = four (crc (four l.length ++ l)) := by
  unfold frame
  have h : (four l.length ++ l).length = l.length + 4 := by simp only [List.length_append, four_len]; omega
  rw [← h, List.drop_left]
theorem frame_le4 (l : List UInt8) (h : l.length ≤ 65536) : le4 (frame l) = l.length := by
  rw [le4_num (by rw [frame_len]; omega)]
  have : (frame l).take 4 = four l.length := by
    unfold frame
    rw [List.append_assoc, List.take_append_of_le_length (by rw [four_len]; omega)]
    exact List.take_of_length_le (by rw [four_len]; omega)
  rw [this, four_num (by omega)]
theorem four_le4 {x : Nat} (h : x < 2 ^ 32) : le4 (four x) = x := by
  rw [le4_num (by rw [four_len]; omega), List.take_of_length_le (by rw [four_len]; omega), four_num h]
theorem openF_frame (l : List UInt8) (h : l.length ≤ 65536) : openF (frame l) = (l, l.length + 8, 0) := by
  unfold openF
  rw [frame_len, frame_le4 l h, if_neg (by omega), if_neg (by omega), if_neg (by omega), frame_take, frame_drop, four_le4 (crc_lt _), if_pos rfl]
  have : (frame l).drop 4 = l ++ four (crc (four l.length ++ l)) := by
    unfold frame
    rw [List.append_assoc]
    exact List.drop_left (l₁ := four l.length)
  rw [this, List.take_left]
theorem turned_open (l pl : List UInt8) (a B : Nat) (hl : l.length ≤ 65536) (hlen : pl.length = l.length + 8) (hn : num pl = num (frame l) ^^^ (2 ^ (32 + a) * B)) (hB : B < 2 ^ 32) (h0 : B ≠ 0) : openF pl = ([], 0, 12) := by
  have hM : 2 ^ (32 + a) * B = 2 ^ 32 * (2 ^ a * B) := by rw [Nat.pow_add, Nat.mul_assoc]
  have h4 : le4 pl = l.length := by
    rw [← frame_le4 l hl, le4_num (by omega), le4_num (by rw [frame_len]; omega), num_take (by omega), num_take (by rw [frame_len]; omega), hn, hM, Nat.xor_mod_two_pow, Nat.mul_mod_right, Nat.xor_zero]
  unfold openF
  rw [hlen, h4, if_neg (by omega), if_neg (by omega), if_neg (by omega), if_neg]
  intro e
  have hs : le4 (pl.drop (l.length + 4)) = num (pl.drop (l.length + 4)) := by
    rw [le4_num (by rw [List.length_drop]; omega), List.take_of_length_le (by rw [List.length_drop]; omega)]
  rw [hs] at e
  generalize hS : num (pl.drop (l.length + 4)) = s at e
  generalize hD : pl.take (l.length + 4) = D' at e
  have hDl : D'.length = l.length + 4 := by rw [← hD, List.length_take]; omega
  have hp : num pl = num D' ^^^ (2 ^ (8 * (l.length + 4)) * s) := by
    have := num_append (pl.take (l.length + 4)) (pl.drop (l.length + 4))
    rw [List.take_append_drop, hS, hD, hDl] at this
    rw [this, xor_add]
    have := num_lt D'
    rwa [hDl] at this
  generalize hDD : four l.length ++ l = D
  have hDDl : D.length = l.length + 4 := by rw [← hDD]; simp only [List.length_append, four_len]; omega
  have hf : num (frame l) = num D ^^^ (2 ^ (8 * (l.length + 4)) * crc D) := by
    unfold frame
    rw [hDD, num_append, four_num (crc_lt _), hDDl, xor_add]
    have := num_lt D
    rwa [hDDl] at this
  have hc1 : crc D' = 4294967295 ^^^ crc8 (8 * (l.length + 4)) (4294967295 ^^^ num D') := by unfold crc; rw [crcAll_num, hDl]
  have hc2 : crc D = 4294967295 ^^^ crc8 (8 * (l.length + 4)) (4294967295 ^^^ num D) := by unfold crc; rw [crcAll_num, hDDl]
  have h1 : crc8 (8 * (l.length + 4)) (4294967295 ^^^ num pl) = crc8 (8 * (l.length + 4)) (4294967295 ^^^ num D') ^^^ s := by
    rw [hp, ← Nat.xor_assoc, crc8_xor, crc8_pow]
  have h2 : crc8 (8 * (l.length + 4)) (4294967295 ^^^ num pl) = 4294967295 ^^^ crc8 (8 * (l.length + 4)) (2 ^ (32 + a) * B) := by
    rw [hn, hf, ← Nat.xor_assoc, ← Nat.xor_assoc, crc8_xor, crc8_xor, crc8_pow]
    congr 1
    rw [hc2]
    generalize crc8 (8 * (l.length + 4)) (4294967295 ^^^ num D) = x
    rw [Nat.xor_comm 4294967295 x, ← Nat.xor_assoc, Nat.xor_self, Nat.zero_xor]
  rw [h1, ← e, hc1] at h2
  generalize crc8 (8 * (l.length + 4)) (4294967295 ^^^ num D') = y at h2
  rw [Nat.xor_comm 4294967295 y, ← Nat.xor_assoc, Nat.xor_self, Nat.zero_xor] at h2
  have h3 := congrArg (4294967295 ^^^ ·) h2
  simp only [← Nat.xor_assoc, Nat.xor_self, Nat.zero_xor] at h3
  exact crc8_burst hB h0 h3.symm
end Go.Proofs.Ytkmdmpmimojmbaa
