import Derived.Test.YtkmdmpmimojmbaaCLaw3
import Derived.Test.YtkmdmpmimojmbaaCW20
/- Frames in a row, and a beginning of one more. -/
namespace Go.Proofs.Ytkmdmpmimojmbaa
open Go.Proofs.Eng Go.Proofs.Codec
def cat : List (List UInt8) → List UInt8
  | [] => []
  | l :: t => frame l ++ cat t
theorem cat_snoc (a : List (List UInt8)) (l : List UInt8) : cat (a ++ [l]) = cat a ++ frame l := by
  induction a with
  | nil => simp [cat]
  | cons x a ih => simp only [List.cons_append, cat, ih, List.append_assoc]
def total : List (List UInt8) → Nat
  | [] => 0
  | l :: t => l.length + total t
theorem total_snoc (a : List (List UInt8)) (l : List UInt8) : total (a ++ [l]) = total a + l.length := by
  induction a with
  | nil => simp [total]
  | cons x a ih => simp only [List.cons_append, total, ih]; omega
theorem cat_len (a : List (List UInt8)) : (cat a).length = total a + 8 * a.length := by
  induction a with
  | nil => rfl
  | cons x a ih => simp only [cat, total, List.length_append, frame_len, ih, List.length_cons]; omega
theorem openF_frame_app (l t : List UInt8) (h : l.length ≤ 65536) : openF (frame l ++ t) = (l, l.length + 8, 0) := by
  have hf : frame l ++ t = four l.length ++ (l ++ (four (crc (four l.length ++ l)) ++ t)) := by unfold frame; simp
  have hl : (frame l ++ t).length = l.length + 8 + t.length := by rw [List.length_append, frame_len]
  have h4 : le4 (frame l ++ t) = l.length := by
    rw [le4_num (by omega), hf, List.take_append_of_le_length (by rw [four_len]; omega), List.take_of_length_le (by rw [four_len]; omega), four_num (by omega)]
  have ht : (frame l ++ t).take (l.length + 4) = four l.length ++ l := by
    rw [List.take_append_of_le_length (by rw [frame_len]; omega), frame_take]
  have hd : (frame l ++ t).drop (l.length + 4) = four (crc (four l.length ++ l)) ++ t := by
    rw [List.drop_append_of_le_length (by rw [frame_len]; omega), frame_drop]
  have hc : le4 (four (crc (four l.length ++ l)) ++ t) = crc (four l.length ++ l) := by
    rw [le4_num (by rw [List.length_append, four_len]; omega), List.take_append_of_le_length (by rw [four_len]; omega), List.take_of_length_le (by rw [four_len]; omega), four_num (crc_lt _)]
  unfold openF
  rw [hl, h4, if_neg (by omega), if_neg (by omega), if_neg (by omega), ht, hd, hc, if_pos rfl, hf]
  have h5 : (four l.length ++ (l ++ (four (crc (four l.length ++ l)) ++ t))).drop 4 = l ++ (four (crc (four l.length ++ l)) ++ t) := List.drop_left (l₁ := four l.length)
  rw [h5, List.take_left]
theorem openF_short (l : List UInt8) (k : Nat) (h : l.length ≤ 65536) (hk : k < l.length + 8) : openF ((frame l).take k) = ([], 0, 3) := by
  have hl : ((frame l).take k).length = k := by rw [List.length_take, frame_len]; omega
  unfold openF
  rw [hl]
  by_cases h4 : k < 4
  · rw [if_pos h4]
  · have hle : le4 ((frame l).take k) = l.length := by
      rw [← frame_le4 l h, le4_num (by omega), le4_num (by rw [frame_len]; omega), List.take_take, Nat.min_eq_left (by omega)]
    rw [if_neg h4, hle, if_neg (by omega), if_pos (by omega)]
theorem framesF_cat (last : List UInt8) (k : Nat) (hlast : last.length ≤ 65536) (hk : k < last.length + 8) : ∀ (Ls : List (List UInt8)) (f : Nat), (∀ l ∈ Ls, l.length ≤ 65536) → (cat Ls).length + k ≤ f →
    framesF f (cat Ls ++ (frame last).take k) = (Ls, (cat Ls).length, if k = 0 then 0 else 3)
  | [], f, _, hf => by
    have hl : ((frame last).take k).length = k := by rw [List.length_take, frame_len]; omega
    simp only [cat, List.nil_append, List.length_nil] at hf ⊢
    cases f with
    | zero =>
      have : k = 0 := by omega
      subst this
      rfl
    | succ f =>
      rw [framesF, hl]
      by_cases h0 : k = 0
      · rw [if_pos h0, if_pos h0]
      · rw [if_neg h0, if_neg h0, openF_short last k hlast hk]
        rw [if_neg (by decide)]
  | l :: Ls, f, hLs, hf => by
    have hl := hLs l (by simp)
    simp only [cat, List.length_append, frame_len] at hf ⊢
    cases f with
    | zero => omega
    | succ f =>
      rw [List.append_assoc, framesF, if_neg (by simp only [List.length_append, frame_len]; omega), openF_frame_app l _ hl, if_pos rfl]
      simp only
      have hd : (frame l ++ (cat Ls ++ (frame last).take k)).drop (l.length + 8) = cat Ls ++ (frame last).take k := by
        rw [← frame_len l, List.drop_left]
      rw [hd, framesF_cat last k hlast hk Ls f (fun x hx => hLs x (by simp [hx])) (by omega)]
theorem frames_cat (last : List UInt8) (k : Nat) (hlast : last.length ≤ 65536) (hk : k < last.length + 8) (Ls : List (List UInt8)) (h : ∀ l ∈ Ls, l.length ≤ 65536) :
    frames (cat Ls ++ (frame last).take k) = (Ls, (cat Ls).length, if k = 0 then 0 else 3) := by
  unfold frames
  refine framesF_cat last k hlast hk Ls _ h ?_
  rw [List.length_append, List.length_take, frame_len]
  omega
end Go.Proofs.Ytkmdmpmimojmbaa
