import Derived.Test.YtjlaomcankmdjaaGreatJk2
import Derived.Shelf.Small.Bits
import Derived.Shelf.Small.Strs
import Derived.Shelf.Strconv.Itoa0
import Derived.Shelf.Strings.Search1
import Derived.Shelf.Sort.Plain
import Derived.Shelf.Slices.Equal
import Derived.Shelf.Slices.In.SortNone
import Derived.Shelf.Slices.Empties2
import Derived.Test.YtjlaomcankmdjaaGreatProg
import Derived.Sort.OwnSorted
import Derived.Sort.KeysCollected
/- Parts: VW4 VW5 VW6 Shelf FW1 FW2 FW3 FW4 FW5 FW6 FW7 FW8 FW9 FW10 FW11 FW12 FW13 FW14 FW15 FW16 FW17 CW6 CW7 CW8 CW8n CW9 CW10 FW18 PW1 PW2 PMem PW3 PW4 PW5. -/
set_option linter.unusedSimpArgs false
set_option linter.unusedVariables false
set_option linter.unusedSectionVars false
namespace Go.Proofs.YtjlaomcankmdjaaGreat
open Go.RowKit Go.Proofs.Eng Go.Proofs.Codec Go.Proofs.Journal
set_option linter.unusedVariables false set_option maxRecDepth 10000
attribute [local irreducible] T TL LV TH TA
set_option maxHeartbeats 1600000
theorem isName_c (t : List UInt8) (ht : t.length ≤ 9223372036854775807) (w : World) : Ret Tryz.prog 169 [.string (ofL t)] w (fun v w' => v = .bool (nameB t) ∧ w' = w) := by
 have hs : (ofL t).size = t.length := ofL_size t
 refine ret_T (n := 44) Tryz.func169 rfl rfl ?_
 repeat (first | refine T_seq ?_ | refine T_region ?_ | refine T_block ?_ | refine TL_nil ?_ | refine TL_move (hk := ?_) | refine TL_assign (hk := ?_) | refine TL_len_s TE (hk := ?_))
 refine T_loop (ι := Nat) (fun i => [(7, .int .i64 (i : Int)), (6, .int .i64 (t.length : Int)), (0, .string (ofL t))]) (fun i w' => i ≤ t.length ∧ w' = w ∧ ∀ j, j < i → goodC t j = true) (fun i => t.length - i) 0 (.c rfl (.c rfl (.c rfl (.n)))) ⟨Nat.zero_le _, rfl, fun j hj => by omega⟩ ?_
 rintro i w1 ⟨hi, rfl, hg⟩ ih
 by_cases hlt : i < t.length
 ·have hgl := gb_lt t i
  have bad : goodC t i = false → nameB t = false := fun h => by
   unfold nameB
   rw [Bool.and_eq_false_iff]
   left
   rw [List.all_eq_false]
   exact ⟨i, List.mem_range.2 hlt, by rw [h]; simp⟩
  have nxt : goodC t i = true → ∀ j, j < i + 1 → goodC t j = true := fun h j hj => by
   by_cases q : j = i
   ·rw [q]; exact h
   ·exact hg j (by omega)
  have gdef : goodC t i = decide ((97 ≤ gb t i ∧ gb t i ≤ 122) ∨ (i ≠ 0 ∧ (gb t i = 95 ∨ (48 ≤ gb t i ∧ gb t i ≤ 57)))) := rfl
  by_cases c1 : gb t i < 97
  ·by_cases c2 : i = 0
   ·rw [bad (by rw [gdef, decide_eq_false (by omega)])]
    repeat (first | refine T_seq ?_ | refine T_region ?_ | refine T_cond_true rfl ?_ | refine T_block ?_ | refine T_skip ?_ | refine TL_lt_t (hk := ?_) | refine TL_eq_t (hk := ?_) | refine TL_nil ?_ | refine TL_move (hk := ?_) | refine TL_assign (hk := ?_) | refine TL_yes (hk := ?_) | refine TL_no (hk := ?_) | refine TL_pick_t (hk := ?_) | (refine TL_index_s TE (hk := ?_); intro _))
    exact T_ret1 rfl rfl ⟨rfl, rfl⟩
   ·by_cases c3 : gb t i = 95
    ·have hn := nxt (by rw [gdef, decide_eq_true (by omega)])
     repeat (first | refine T_seq ?_ | refine T_region ?_ | refine T_cond_true rfl ?_ | refine T_cond_false rfl ?_ | refine T_block ?_ | refine T_inBlock ?_ | refine T_skip ?_ | refine TL_add (hk := ?_) | refine TL_lt_t (hk := ?_) | refine TL_eq_f (hk := ?_) | refine TL_ne_f (hk := ?_) | refine TL_nil ?_ | refine TL_move (hk := ?_) | refine TL_assign (hk := ?_) | refine TL_yes (hk := ?_) | refine TL_no (hk := ?_) | refine TL_pick_t (hk := ?_) | refine TL_pick_f (hk := ?_) | (refine TL_index_s TE (hk := ?_); intro _))
     exact ih (i + 1) _ _ (by omega) ⟨by omega, rfl, hn⟩ (.c rfl (.c rfl (.c rfl (.n))))
    ·by_cases c4 : gb t i < 48
     ·rw [bad (by rw [gdef, decide_eq_false (by omega)])]
      repeat (first | refine T_seq ?_ | refine T_region ?_ | refine T_cond_true rfl ?_ | refine T_block ?_ | refine T_skip ?_ | refine TL_lt_t (hk := ?_) | refine TL_eq_f (hk := ?_) | refine TL_ne_t (hk := ?_) | refine TL_nil ?_ | refine TL_move (hk := ?_) | refine TL_assign (hk := ?_) | refine TL_yes (hk := ?_) | refine TL_no (hk := ?_) | refine TL_pick_t (hk := ?_) | refine TL_pick_f (hk := ?_) | (refine TL_index_s TE (hk := ?_); intro _))
      exact T_ret1 rfl rfl ⟨rfl, rfl⟩
     ·by_cases c5 : 57 < gb t i
      ·rw [bad (by rw [gdef, decide_eq_false (by omega)])]
       repeat (first | refine T_seq ?_ | refine T_region ?_ | refine T_cond_true rfl ?_ | refine T_block ?_ | refine T_skip ?_ | refine TL_lt_t (hk := ?_) | refine TL_lt_f (hk := ?_) | refine TL_gt_t (hk := ?_) | refine TL_eq_f (hk := ?_) | refine TL_ne_t (hk := ?_) | refine TL_nil ?_ | refine TL_move (hk := ?_) | refine TL_assign (hk := ?_) | refine TL_yes (hk := ?_) | refine TL_no (hk := ?_) | refine TL_pick_t (hk := ?_) | refine TL_pick_f (hk := ?_) | (refine TL_index_s TE (hk := ?_); intro _))
       exact T_ret1 rfl rfl ⟨rfl, rfl⟩
      ·have hn := nxt (by rw [gdef, decide_eq_true (by omega)])
       repeat (first | refine T_seq ?_ | refine T_region ?_ | refine T_cond_true rfl ?_ | refine T_cond_false rfl ?_ | refine T_block ?_ | refine T_inBlock ?_ | refine T_skip ?_ | refine TL_add (hk := ?_) | refine TL_lt_t (hk := ?_) | refine TL_lt_f (hk := ?_) | refine TL_gt_f (hk := ?_) | refine TL_eq_f (hk := ?_) | refine TL_ne_t (hk := ?_) | refine TL_nil ?_ | refine TL_move (hk := ?_) | refine TL_assign (hk := ?_) | refine TL_yes (hk := ?_) | refine TL_no (hk := ?_) | refine TL_pick_t (hk := ?_) | refine TL_pick_f (hk := ?_) | (refine TL_index_s TE (hk := ?_); intro _))
       exact ih (i + 1) _ _ (by omega) ⟨by omega, rfl, hn⟩ (.c rfl (.c rfl (.c rfl (.n))))
  ·by_cases c2 : 122 < gb t i
   ·rw [bad (by rw [gdef, decide_eq_false (by omega)])]
    by_cases c3 : i = 0
    ·repeat (first | refine T_seq ?_ | refine T_region ?_ | refine T_cond_true rfl ?_ | refine T_block ?_ | refine T_skip ?_ | refine TL_lt_t (hk := ?_) | refine TL_lt_f (hk := ?_) | refine TL_gt_t (hk := ?_) | refine TL_eq_t (hk := ?_) | refine TL_nil ?_ | refine TL_move (hk := ?_) | refine TL_assign (hk := ?_) | refine TL_yes (hk := ?_) | refine TL_no (hk := ?_) | refine TL_pick_t (hk := ?_) | refine TL_pick_f (hk := ?_) | (refine TL_index_s TE (hk := ?_); intro _))
     exact T_ret1 rfl rfl ⟨rfl, rfl⟩
    ·repeat (first | refine T_seq ?_ | refine T_region ?_ | refine T_cond_true rfl ?_ | refine T_block ?_ | refine T_skip ?_ | refine TL_lt_t (hk := ?_) | refine TL_lt_f (hk := ?_) | refine TL_gt_t (hk := ?_) | refine TL_eq_f (hk := ?_) | refine TL_ne_t (hk := ?_) | refine TL_nil ?_ | refine TL_move (hk := ?_) | refine TL_assign (hk := ?_) | refine TL_yes (hk := ?_) | refine TL_pick_t (hk := ?_) | refine TL_pick_f (hk := ?_) | (refine TL_index_s TE (hk := ?_); intro _))
     exact T_ret1 rfl rfl ⟨rfl, rfl⟩
   ·have hn := nxt (by rw [gdef, decide_eq_true (by omega)])
    repeat (first | refine T_seq ?_ | refine T_region ?_ | refine T_cond_true rfl ?_ | refine T_cond_false rfl ?_ | refine T_block ?_ | refine T_inBlock ?_ | refine T_skip ?_ | refine TL_add (hk := ?_) | refine TL_lt_t (hk := ?_) | refine TL_lt_f (hk := ?_) | refine TL_gt_f (hk := ?_) | refine TL_nil ?_ | refine TL_move (hk := ?_) | refine TL_assign (hk := ?_) | refine TL_yes (hk := ?_) | refine TL_no (hk := ?_) | refine TL_pick_f (hk := ?_) | (refine TL_index_s TE (hk := ?_); intro _))
    exact ih (i + 1) _ _ (by omega) ⟨by omega, rfl, hn⟩ (.c rfl (.c rfl (.c rfl (.n))))
 ·clear ih
  have hie : i = t.length := by omega
  have hall : (List.range t.length).all (goodC t) = true := List.all_eq_true.2 fun j hj => hg j (by rw [hie]; exact List.mem_range.1 hj)
  unfold nameB
  rw [hall, Bool.true_and]
  by_cases h1 : 1 ≤ t.length
  ·by_cases h2 : t.length ≤ 16
   ·rw [decide_eq_true ⟨h1, h2⟩]
    repeat (first | refine T_seq ?_ | refine T_region ?_ | refine T_cond_false rfl ?_ | refine T_exit rfl ?_ | refine TL_lt_f (hk := ?_) | refine TL_le_t (hk := ?_) | refine TL_ge_t (hk := ?_) | refine TL_nil ?_ | refine TL_move (hk := ?_) | refine TL_assign (hk := ?_) | refine TL_len_s TE (hk := ?_) | refine TL_yes (hk := ?_) | refine TL_pick_t (hk := ?_))
    exact T_ret1 rfl rfl ⟨rfl, rfl⟩
   ·rw [decide_eq_false (fun q => h2 q.2)]
    repeat (first | refine T_seq ?_ | refine T_region ?_ | refine T_cond_false rfl ?_ | refine T_exit rfl ?_ | refine TL_lt_f (hk := ?_) | refine TL_le_f (hk := ?_) | refine TL_ge_t (hk := ?_) | refine TL_nil ?_ | refine TL_move (hk := ?_) | refine TL_assign (hk := ?_) | refine TL_len_s TE (hk := ?_) | refine TL_yes (hk := ?_) | refine TL_pick_t (hk := ?_))
    exact T_ret1 rfl rfl ⟨rfl, rfl⟩
  ·rw [decide_eq_false (fun q => h1 q.1)]
   repeat (first | refine T_seq ?_ | refine T_region ?_ | refine T_cond_false rfl ?_ | refine T_exit rfl ?_ | refine TL_lt_f (hk := ?_) | refine TL_ge_f (hk := ?_) | refine TL_nil ?_ | refine TL_move (hk := ?_) | refine TL_assign (hk := ?_) | refine TL_len_s TE (hk := ?_) | refine TL_no (hk := ?_) | refine TL_pick_f (hk := ?_))
   exact T_ret1 rfl rfl ⟨rfl, rfl⟩
structure RFit (r : RE) : Prop where
 cl : -9223372036854775808 ≤ r.cl ∧ r.cl ≤ 9223372036854775807
 tk : r.tk < 18446744073709551616
 nm : r.nm.length ≤ 7036874417
 ar : ∀ v ∈ r.ar, VFit v
abbrev rA (r : RE) (A : Option Addr) (n c : Nat) : Value := .agg #[.int .i64 r.cl, .int .u64 (r.tk : Int), .string (ofL r.nm), .slice A n c]
theorem check_c (r : RE) (A : Option Addr) (n c : Nat) (w : World) (hf : RFit r) (h : Rd w A n 3 (rowV veV r.ar)) (hn : n ≤ 1048576) :
  Ret Tryz.prog 152 [rA r A n c] w (fun v w' => v = .int .i64 (checkR r : Int) ∧ Ext w w') := by
 have hl : r.ar.length = n := by have := h.1; rw [rowV_len veV_len] at this; omega
 have hcl := hf.cl
 have hnm := hf.nm
 unfold checkR
 refine ret_T (n := 27) Tryz.func152 rfl rfl ?_
 repeat (first | refine T_seq ?_ | refine T_region ?_)
 refine TL_box (hk := ?_); intro b1 w1 e1 h1 h1' k1
 replace k1 : Blk w1 b1 40 [.int .i64 r.cl, .int .u64 (r.tk : Int), .string (ofL r.nm), .slice A n c] := k1
 by_cases c1 : r.cl < 0
 ·rw [if_pos (.inl c1)]
  repeat (first | refine T_seq ?_ | refine T_region ?_ | refine T_cond_true rfl ?_ | refine T_block ?_ | refine TL_lt_t (hk := ?_) | refine TL_nil ?_ | refine TL_move (hk := ?_) | refine TL_assign (hk := ?_) | refine TL_load TE (hk := ?_) | refine TL_fieldAddr TE (hk := ?_) | refine TL_no (hk := ?_) | refine TL_pick_t (hk := ?_))
  exact T_ret1 rfl rfl ⟨rfl, e1⟩
 by_cases c2 : 64 ≤ r.cl
 ·rw [if_pos (.inr c2)]
  repeat (first | refine T_seq ?_ | refine T_region ?_ | refine T_cond_true rfl ?_ | refine T_block ?_ | refine TL_lt_f (hk := ?_) | refine TL_ge_t (hk := ?_) | refine TL_nil ?_ | refine TL_move (hk := ?_) | refine TL_assign (hk := ?_) | refine TL_load TE (hk := ?_) | refine TL_fieldAddr TE (hk := ?_) | refine TL_yes (hk := ?_) | refine TL_pick_f (hk := ?_))
  exact T_ret1 rfl rfl ⟨rfl, e1⟩
 rw [if_neg (fun q => q.elim c1 c2)]
 repeat (first | refine T_seq ?_ | refine T_region ?_ | refine T_cond_false rfl ?_ | refine T_block ?_ | refine TL_lt_f (hk := ?_) | refine TL_ge_f (hk := ?_) | refine TL_nil ?_ | refine TL_move (hk := ?_) | refine TL_assign (hk := ?_) | refine TL_load TE (hk := ?_) | refine TL_fieldAddr TE (hk := ?_) | refine TL_yes (hk := ?_) | refine TL_pick_f (hk := ?_))
 refine TL_call TE (hc := isName_c r.nm (by omega) w1) (hk := ?_)
 rintro _ w2 ⟨rfl, rfl⟩
 cases c3 : nameB r.nm with
 |false =>
  rw [if_pos rfl]
  repeat (first | refine T_seq ?_ | refine T_region ?_ | refine T_cond_true rfl ?_ | refine TL_nil ?_ | refine TL_assign (hk := ?_) | refine TL_not (hk := ?_))
  exact T_ret1 rfl rfl ⟨rfl, e1⟩
 |true =>
  rw [if_neg (by simp)]
  by_cases c4 : 8 < r.ar.length
  ·rw [if_pos c4]
   have c4' : (8 : Int) < (n : Int) := by omega
   repeat (first | refine T_seq ?_ | refine T_region ?_ | refine T_cond_true rfl ?_ | refine T_cond_false rfl ?_ | refine TL_gt_t (hk := ?_) | refine TL_nil ?_ | refine TL_assign (hk := ?_) | refine TL_load TE (hk := ?_) | refine TL_fieldAddr TE (hk := ?_) | refine TL_len TE (hk := ?_) | refine TL_not (hk := ?_))
   exact T_ret1 rfl rfl ⟨rfl, e1⟩
  ·rw [if_neg c4]
   have c4' : ¬ (8 : Int) < (n : Int) := by omega
   repeat (first | refine T_seq ?_ | refine T_region ?_ | refine T_cond_false rfl ?_ | refine TL_gt_f (hk := ?_) | refine TL_nil ?_ | refine TL_assign (hk := ?_) | refine TL_load TE (hk := ?_) | refine TL_fieldAddr TE (hk := ?_) | refine TL_len TE (hk := ?_) | refine TL_not (hk := ?_))
   refine TL_call TE (hc := all_c A n c r.ar w2 (h.be e1) (by omega) hf.ar) (hk := ?_)
   rintro _ w3 ⟨rfl, e3⟩
   have k3 := k1.be e3
   clear k1
   cases c5 : r.ar.all givenB with
   |false =>
    rw [if_pos rfl]
    repeat (first | refine T_seq ?_ | refine T_region ?_ | refine T_cond_true rfl ?_ | refine TL_nil ?_ | refine TL_assign (hk := ?_) | refine TL_not (hk := ?_))
    exact T_ret1 rfl rfl ⟨rfl, e1.ext e3⟩
   |true =>
    rw [if_neg (by simp)]
    repeat (first | refine T_seq ?_ | refine T_region ?_ | refine T_cond_false rfl ?_ | refine T_inBlock ?_ | refine T_skip ?_ | refine TL_nil ?_ | refine TL_assign (hk := ?_) | refine TL_not (hk := ?_))
    exact T_ret1 rfl rfl ⟨rfl, e1.ext e3⟩
set_option maxHeartbeats 1600000
theorem valid_t {v : VE} (h : validV v = true) (h2 : v.kd = 2) : v.t.length ≤ 64 := by
 unfold validV at h
 rw [if_neg (by omega), if_neg (by omega), if_pos h2, Bool.and_eq_true, decide_eq_true_eq] at h
 exact h.1.2
theorem putV_len {b : List UInt8} {v : VE} (hv : VFit v) : (putV b v).length ≤ b.length + 100 := by
 unfold putV
 split
 ·omega
 ·rename_i h
  rw [Bool.not_eq_false] at h
  split
  ·have := encU_len64 (zig_lt hv.n)
   simp only [List.length_append, List.length_cons, List.length_nil]; omega
  ·split
   ·rename_i h2
    have h3 := valid_t h h2
    have := encU_len64 (show v.t.length < 2 ^ 64 by omega)
    simp only [List.length_append, List.length_cons, List.length_nil]; omega
   ·simp
theorem VPut_c (B : Option Addr) (nb cb : Nat) (b : List UInt8) (v : VE) (w : World) (hv : VFit v) (hb : Rd w B nb 1 (bv b)) (hnb : nb ≤ 7000000000) :
  Ret Tryz.prog 153 [.slice B nb cb, vA v] w (fun u w' => ∃ A' n' c', u = .slice A' n' c' ∧ Ext w w' ∧ Own w' w.heap.size 5 1 A' n' c' (bv (putV b v))) := by
 have hbl : b.length = nb := by simpa using hb.1
 have hk1 := hv.kd
 have hn1 := hv.n
 have ht1 := hv.t
 have hs : (ofL v.t).size = v.t.length := ofL_size v.t
 unfold putV
 refine ret_T (n := 37) Tryz.func153 rfl rfl ?_
 repeat (first | refine T_seq ?_ | refine T_region ?_)
 refine TL_box (hk := ?_); intro b1 w1 e1 h1 h1' k1
 replace k1 : Blk w1 b1 161 [.int .i64 v.kd, .int .i64 v.n, .string (ofL v.t)] := k1
 repeat (first | refine T_seq ?_ | refine T_region ?_ | refine TL_nil ?_ | refine TL_assign (hk := ?_))
 refine TL_buildSlice0 TE (hk := ?_); intro b2 w2 e2 h2 h2' k2
 have o2 : Own w2 w1.heap.size 5 1 (some ⟨b2, 0, none⟩) 0 0 [] := Own.of_blk k2 h2 rfl (by decide)
 have z1 := e1.size
 have z2 := e2.size
 have hb2 := hb.be (e1.ext e2)
 repeat (refine TL_move (hk := ?_))
 refine TL_append TE (ho := o2) (hr := hb2) (h1 := bv_one _) (hk := ?_); intro A3 c3 w3 o3 m3 n3
 rw [List.nil_append, Nat.zero_add] at o3
 rw [Nat.zero_add]
 have e13 : Ext w1 w3 := e2.own m3 o2.hi
 have k13 := k1.be e13
 have e03 := e1.ext e13
 have z3 := e13.size
 clear k1 k2
 repeat (first | refine T_seq ?_ | refine T_region ?_ | refine T_block ?_ | refine TL_nil ?_ | refine TL_assign (hk := ?_))
 refine TL_loadb TE (cs := [.int .i64 v.kd, .int .i64 v.n, .string (ofL v.t)]) (o := 0) rfl rfl k13 rfl rfl (Nat.succ_pos _) (hk := ?_)
 --
 refine TL_call TE (hc := VValid_c v hv w3) (hk := ?_)
 rintro _ w4 ⟨rfl, e4⟩
 have k14 := k13.be e4
 have o4 := o3.be e4
 have e04 := e03.ext e4
 have z4 := e4.size
 clear k13
 cases c1 : validV v with
 |false =>
  rw [if_pos rfl]
  repeat (first | refine T_seq ?_ | refine T_region ?_ | refine T_cond_true rfl ?_ | refine TL_nil ?_ | refine TL_move (hk := ?_) | refine TL_assign (hk := ?_) | refine TL_not (hk := ?_))
  exact T_ret1 rfl rfl ⟨A3, nb, c3, rfl, e04, Own.weaken o4 (by omega)⟩
 |true =>
  rw [if_neg (by simp)]
  have hbD : b1 ∉ blkL A3 := fun q => by have := (o3.bl b1 q).1; have := k14.lt; omega
  by_cases c2 : v.kd = 1
  ·rw [if_pos c2]
   repeat (first | refine T_seq ?_ | refine T_region ?_ | refine T_cond_true rfl ?_ | refine T_cond_false rfl ?_ | refine TL_eq_t (hk := ?_) | refine TL_nil ?_ | refine TL_assign (hk := ?_) | refine TL_load TE (hk := ?_) | refine TL_fieldAddr TE (hk := ?_) | refine TL_not (hk := ?_))
   refine T_region_any TE.mixed (blkL A3) ?_; intro w5 e5 z5
   have k15 := k14.be e5
   have o5 := o4.be e5
   have e05 := e04.ext e5
   have z55 := e5.size
   (refine TA_take 0 rfl (by kernel_rfl) (by kernel_rfl) (by kernel_rfl) ?_; (repeat (first | refine TL_move (hk := ?_) | refine TLP_load TE (hk := ?_) | refine TL_fieldAddr TE (hk := ?_))); refine TL_nil_p ?_); (refine TA_take 3 rfl (by kernel_rfl) (by kernel_rfl) (by kernel_rfl) ?_; (repeat (first | refine TL_move (hk := ?_) | refine TLP_load TE (hk := ?_) | refine TL_fieldAddr TE (hk := ?_))); refine TL_nil_p ?_); (refine TA_take 4 rfl (by kernel_rfl) (by kernel_rfl) (by kernel_rfl) ?_; (repeat (first | refine TL_move (hk := ?_) | refine TLP_load TE (hk := ?_) | refine TL_fieldAddr TE (hk := ?_))); refine TL_nil_p ?_)
   refine TA_one 1 rfl (by kernel_rfl) (by kernel_rfl) ?_
   refine TL_buildSlice TE (hf := rfl) (hq := fun w' h => Ext.un h) (hk := ?_); intro b6 w6 e6 h6 h6' k6
   have r6 : Rd w6 (some ⟨b6, 0, none⟩) 1 1 (bv [1]) := Rd.blk k6 rfl
   have o6 := o5.be e6
   have z6 := e6.size
   refine TL_nil_p ?_
   refine TA_one 2 rfl (by kernel_rfl) (by kernel_rfl) ?_
   refine TL_append TE (ho := o6) (hr := r6) (h1 := bv_one _) (hf := rfl) (hq := fun w' m => (Ext.un e6).trans m) (hk := ?_); intro A7 c7 w7 o7 m7 n7
   rw [← bv_append] at o7
   have z7 := m7.size
   refine TL_nil_p ?_
   refine TA_one 5 rfl (by kernel_rfl) (by kernel_rfl) ?_; (try refine TL_yes (hk := ?_)); refine TL_call TE (hc := (PutInt_c A7 (nb + 1) c7 (b ++ [1]) v.n w7 o7.rd (by omega) hn1)) (hq := (by rintro _ w' ⟨A', n', c', rfl, e, o⟩; exact ((Ext.un e6).trans m7).ext e)) (hk := ?_)
   rintro _ w8 ⟨A8, n8, c8, rfl, e8, o8⟩
   refine TL_nil_p ?_
   (refine TA_one 6 rfl (by kernel_rfl) (by kernel_rfl) ?_; (repeat (refine TL_assign (hk := ?_))); refine TL_nil_p ?_)
   refine TA_done (by kernel_rfl) ?_
   have e08 : Ext w w8 := ((e05.ext e6).step m7 (fun u hu => .inr (by have := (o3.bl u hu).1; omega))).ext e8
   --
   exact T_ret1 rfl rfl ⟨A8, n8, c8, rfl, e08, Own.weaken o8 (by omega)⟩
  ·rw [if_neg c2]
   by_cases c3' : v.kd = 2
   ·rw [if_pos c3']
    have ht := valid_t c1 c3'
    repeat (first | refine T_seq ?_ | refine T_region ?_ | refine T_cond_true rfl ?_ | refine T_cond_false rfl ?_ | refine TL_eq_t (hk := ?_) | refine TL_eq_f (hk := ?_) | refine TL_nil ?_ | refine TL_assign (hk := ?_) | refine TL_load TE (hk := ?_) | refine TL_fieldAddr TE (hk := ?_) | refine TL_not (hk := ?_))
    refine T_region_any TE.mixed (blkL A3) ?_; intro w5 e5 z5
    have k15 := k14.be e5
    have o5 := o4.be e5
    have e05 := e04.ext e5
    have z55 := e5.size
    (refine TA_take 0 rfl (by kernel_rfl) (by kernel_rfl) (by kernel_rfl) ?_; (repeat (first | refine TL_move (hk := ?_) | refine TLP_load TE (hk := ?_) | refine TL_fieldAddr TE (hk := ?_))); refine TL_nil_p ?_); (refine TA_take 3 rfl (by kernel_rfl) (by kernel_rfl) (by kernel_rfl) ?_; (repeat (first | refine TL_move (hk := ?_) | refine TLP_load TE (hk := ?_) | refine TL_fieldAddr TE (hk := ?_))); refine TL_nil_p ?_); (refine TA_take 4 rfl (by kernel_rfl) (by kernel_rfl) (by kernel_rfl) ?_; (repeat (first | refine TL_move (hk := ?_) | refine TLP_load TE (hk := ?_) | refine TL_fieldAddr TE (hk := ?_))); refine TL_nil_p ?_)
    refine TA_one 1 rfl (by kernel_rfl) (by kernel_rfl) ?_
    refine TL_buildSlice TE (hf := rfl) (hq := fun w' h => Ext.un h) (hk := ?_); intro b6 w6 e6 h6 h6' k6
    have r6 : Rd w6 (some ⟨b6, 0, none⟩) 1 1 (bv [2]) := Rd.blk k6 rfl
    have o6 := o5.be e6
    have z6 := e6.size
    refine TL_nil_p ?_
    refine TA_one 2 rfl (by kernel_rfl) (by kernel_rfl) ?_
    refine TL_append TE (ho := o6) (hr := r6) (h1 := bv_one _) (hf := rfl) (hq := fun w' m => (Ext.un e6).trans m) (hk := ?_); intro A7 c7 w7 o7 m7 n7
    rw [← bv_append] at o7
    have z7 := m7.size
    refine TL_nil_p ?_
    refine TA_one 5 rfl (by kernel_rfl) (by kernel_rfl) ?_; (try refine TL_yes (hk := ?_)); refine TL_call TE (hc := (PutText_c A7 (nb + 1) c7 (b ++ [2]) (ofL v.t) w7 o7.rd (by omega) (by rw [hs]; omega))) (hq := (by rintro _ w' ⟨A', n', c', rfl, e, o⟩; exact ((Ext.un e6).trans m7).ext e)) (hk := ?_)
    rintro _ w8 ⟨A8, n8, c8, rfl, e8, o8⟩
    rw [hs, show (ofL v.t).data.toList = v.t by simp [ofL]] at o8
    refine TL_nil_p ?_
    (refine TA_one 6 rfl (by kernel_rfl) (by kernel_rfl) ?_; (repeat (refine TL_assign (hk := ?_))); refine TL_nil_p ?_)
    refine TA_done (by kernel_rfl) ?_
    have e08 : Ext w w8 := ((e05.ext e6).step m7 (fun u hu => .inr (by have := (o3.bl u hu).1; omega))).ext e8
    --
    exact T_ret1 rfl rfl ⟨A8, n8, c8, rfl, e08, Own.weaken o8 (by omega)⟩
   ·rw [if_neg c3']
    repeat (first | refine T_seq ?_ | refine T_region ?_ | refine T_cond_false rfl ?_ | refine T_inBlock ?_ | refine T_skip ?_ | refine TL_eq_f (hk := ?_) | refine TL_nil ?_ | refine TL_move (hk := ?_) | refine TL_assign (hk := ?_) | refine TL_load TE (hk := ?_) | refine TL_fieldAddr TE (hk := ?_) | refine TL_not (hk := ?_))
    refine TL_buildSlice TE (hk := ?_); intro b6 w6 e6 h6 h6' k6
    have r6 : Rd w6 (some ⟨b6, 0, none⟩) 1 1 (bv [0]) := Rd.blk k6 rfl
    have o6 := o4.be e6
    have z6 := e6.size
    --
    refine TL_append TE (ho := o6) (hr := r6) (h1 := bv_one _) (hk := ?_); intro A7 c7 w7 o7 m7 n7
    rw [← bv_append] at o7
    have e08 : Ext w w7 := (e04.ext e6).step m7 (fun u hu => .inr (by have := (o3.bl u hu).1; omega))
    repeat (first | refine TL_nil ?_ | refine TL_assign (hk := ?_))
    exact T_ret1 rfl rfl ⟨A7, nb + 1, c7, rfl, e08, Own.weaken o7 (by omega)⟩
set_option maxHeartbeats 1600000
theorem nm_len {t : List UInt8} (h : nameB t = true) : t.length ≤ 16 := by
 unfold nameB at h
 rw [Bool.and_eq_true, decide_eq_true_eq] at h
 exact h.2.2
theorem check_ok {r : RE} (h : checkR r = 0) : (0 ≤ r.cl ∧ r.cl < 64) ∧ nameB r.nm = true ∧ r.ar.length ≤ 8 ∧ r.ar.all givenB = true := by
 unfold checkR at h
 split at h
 ·cases h
 ·rename_i h1
  split at h
  ·cases h
  ·rename_i h2
   split at h
   ·cases h
   ·rename_i h3
    split at h
    ·cases h
    ·rename_i h4
     exact ⟨by omega, by simpa using h2, by omega, by simpa using h4⟩
theorem fold_len : ∀ {l : List VE} {b : List UInt8}, (∀ v ∈ l, VFit v) → (l.foldl putV b).length ≤ b.length + 100 * l.length
 | [], b, _ => by simp
 |v :: l, b, h => by
  have h1 := fold_len (b := putV b v) (fun u hu => h u (List.mem_cons_of_mem _ hu))
  have h2 := putV_len (b := b) (h v List.mem_cons_self)
  simp only [List.foldl_cons, List.length_cons]
  omega
theorem take_fold (l : List VE) (b : List UInt8) (i : Nat) (h : i < l.length) : (l.take (i + 1)).foldl putV b = putV ((l.take i).foldl putV b) (l.getD i ve0) := by
 rw [List.take_succ_eq_append_getElem h, List.foldl_append, List.getD_eq_getElem?_getD, List.getElem?_eq_getElem h]
 rfl
theorem RqPut_c (r : RE) (B A : Option Addr) (nb cb n c : Nat) (b : List UInt8) (w : World) (hf : RFit r) (hb : Rd w B nb 1 (bv b)) (h : Rd w A n 3 (rowV veV r.ar)) (hnb : nb ≤ 5000000000) (hn : n ≤ 1048576) :
  Ret Tryz.prog 111 [.slice B nb cb, rA r A n c] w (fun u w' => ∃ A' n' c', u = .tuple #[.slice A' n' c', .int .i64 ((putR b r).2 : Int)] ∧ Ext w w' ∧ Own w' w.heap.size 5 1 A' n' c' (bv (putR b r).1)) := by
 have hl : r.ar.length = n := by have := h.1; rw [rowV_len veV_len] at this; omega
 have hbl : b.length = nb := by simpa using hb.1
 unfold putR
 refine ret_T (n := 43) Tryz.func111 rfl rfl ?_
 repeat (first | refine T_seq ?_ | refine T_region ?_)
 refine TL_box (hk := ?_); intro b1 w1 e1 h1 h1' k1
 replace k1 : Blk w1 b1 40 [.int .i64 r.cl, .int .u64 (r.tk : Int), .string (ofL r.nm), .slice A n c] := k1
 have z1 := e1.size
 repeat (first | refine T_seq ?_ | refine T_region ?_ | refine TL_nil ?_ | refine TL_assign (hk := ?_))
 refine TL_loadb TE (cs := [.int .i64 r.cl, .int .u64 (r.tk : Int), .string (ofL r.nm), .slice A n c]) (o := 0) rfl rfl k1 rfl rfl (Nat.succ_pos _) (hk := ?_)
 --
 refine TL_call TE (hc := check_c r A n c w1 hf (h.be e1) hn) (hk := ?_)
 rintro _ w2 ⟨rfl, e2⟩
 have k2 := k1.be e2
 have e02 := e1.ext e2
 have hb2 := hb.be e02
 have h2' := h.be e02
 have z2 := e2.size
 clear k1
 by_cases hc : checkR r = 0
 ·rw [if_neg (by omega)]
  obtain ⟨h1a, h2a, h3a, h4a⟩ := check_ok hc
  have hnm := nm_len h2a
  have htk := hf.tk
  have hs : (ofL r.nm).size = r.nm.length := ofL_size r.nm
  have hcl : r.cl = ((r.cl.toNat : Nat) : Int) := by omega
  have hbD : b1 ∉ ([] : List Nat) := by simp
  rw [hc]
  repeat (first | refine T_seq ?_ | refine T_region ?_ | refine T_cond_false rfl ?_ | refine T_skip ?_ | refine TL_ne_f (hk := ?_) | refine TL_nil ?_ | refine TL_move (hk := ?_) | refine TL_assign (hk := ?_))
  refine T_region_any TE.mixed ([] : List Nat) ?_; intro w3 e3 z3
  have k3 := k2.be e3
  have hb3 := hb2.be e3
  (refine TA_take 0 rfl (by kernel_rfl) (by kernel_rfl) (by kernel_rfl) ?_; (repeat (first | refine TL_move (hk := ?_) | refine TLP_load TE (hk := ?_) | refine TL_fieldAddr TE (hk := ?_))); refine TL_nil_p ?_); (refine TA_take 1 rfl (by kernel_rfl) (by kernel_rfl) (by kernel_rfl) ?_; (repeat (first | refine TL_move (hk := ?_) | refine TLP_load TE (hk := ?_) | refine TL_fieldAddr TE (hk := ?_))); refine TL_nil_p ?_); (refine TA_take 2 rfl (by kernel_rfl) (by kernel_rfl) (by kernel_rfl) ?_; (repeat (first | refine TL_move (hk := ?_) | refine TLP_load TE (hk := ?_) | refine TL_fieldAddr TE (hk := ?_))); refine TL_nil_p ?_)
  (refine TA_take 3 rfl (by kernel_rfl) (by kernel_rfl) (by kernel_rfl) ?_; (repeat (refine TL_conv TE (hk := ?_))); refine TL_nil_p ?_)
  (refine TA_take 5 rfl (by kernel_rfl) (by kernel_rfl) (by kernel_rfl) ?_; (repeat (first | refine TLP_load TE (hk := ?_) | refine TL_fieldAddr TE (hk := ?_))); refine TL_nil_p ?_); (refine TA_take 6 rfl (by kernel_rfl) (by kernel_rfl) (by kernel_rfl) ?_; (repeat (first | refine TLP_load TE (hk := ?_) | refine TL_fieldAddr TE (hk := ?_))); refine TL_nil_p ?_)
  refine TA_one 4 rfl (by kernel_rfl) (by kernel_rfl) ?_; (try refine TL_yes (hk := ?_)); refine TL_call TE (hc := (PutUint_c B nb cb b r.cl.toNat w3 hcl hb3 (by omega) (by omega))) (hq := (by rintro _ w' ⟨A', n', c', rfl, e, o⟩; exact e)) (hk := ?_)
  rintro _ w4 ⟨A4, n4, c4, rfl, e4, o4⟩
  have l4 := o4.len
  have u4 := encU_len64 (show r.cl.toNat < 2 ^ 64 by omega)
  simp only [bv_length, List.length_append, Nat.mul_one] at l4
  refine TL_nil_p ?_
  refine TA_one 7 rfl (by kernel_rfl) (by kernel_rfl) ?_; (try refine TL_yes (hk := ?_)); refine TL_call TE (hc := (PutUint_c A4 n4 c4 (b ++ encU r.cl.toNat) r.tk w4 rfl o4.rd (by omega) (by omega))) (hq := (by rintro _ w' ⟨A', n', c', rfl, e, o⟩; exact e4.ext e)) (hk := ?_)
  rintro _ w5 ⟨A5, n5, c5, rfl, e5, o5⟩
  have l5 := o5.len
  have u5 := encU_len64 (show r.tk < 2 ^ 64 by omega)
  simp only [bv_length, List.length_append, Nat.mul_one] at l5
  refine TL_nil_p ?_
  (refine TA_one 8 rfl (by kernel_rfl) (by kernel_rfl) ?_; (repeat (refine TL_assign (hk := ?_))); refine TL_nil_p ?_)
  refine TA_done (by kernel_rfl) ?_
  have e25 := (e3.ext e4).ext e5
  have k5 := k2.be e25
  clear k2 k3
  repeat (refine T_seq ?_)
  refine T_region_any TE.mixed ([] : List Nat) ?_; intro w6 e6 z6
  have k6 := k5.be e6
  have o6 := o5.be e6
  (refine TA_take 0 rfl (by kernel_rfl) (by kernel_rfl) (by kernel_rfl) ?_; (repeat (first | refine TL_move (hk := ?_) | refine TLP_load TE (hk := ?_) | refine TL_fieldAddr TE (hk := ?_))); refine TL_nil_p ?_); (refine TA_take 1 rfl (by kernel_rfl) (by kernel_rfl) (by kernel_rfl) ?_; (repeat (first | refine TL_move (hk := ?_) | refine TLP_load TE (hk := ?_) | refine TL_fieldAddr TE (hk := ?_))); refine TL_nil_p ?_); (refine TA_take 2 rfl (by kernel_rfl) (by kernel_rfl) (by kernel_rfl) ?_; (repeat (first | refine TL_move (hk := ?_) | refine TLP_load TE (hk := ?_) | refine TL_fieldAddr TE (hk := ?_))); refine TL_nil_p ?_)
  (refine TA_take 4 rfl (by kernel_rfl) (by kernel_rfl) (by kernel_rfl) ?_; (repeat (first | refine TLP_load TE (hk := ?_) | refine TL_fieldAddr TE (hk := ?_) | refine TL_len TE (hk := ?_))); refine TL_nil_p ?_); (refine TA_take 5 rfl (by kernel_rfl) (by kernel_rfl) (by kernel_rfl) ?_; (repeat (first | refine TLP_load TE (hk := ?_) | refine TL_fieldAddr TE (hk := ?_) | refine TL_len TE (hk := ?_))); refine TL_nil_p ?_); (refine TA_take 6 rfl (by kernel_rfl) (by kernel_rfl) (by kernel_rfl) ?_; (repeat (first | refine TLP_load TE (hk := ?_) | refine TL_fieldAddr TE (hk := ?_) | refine TL_len TE (hk := ?_))); refine TL_nil_p ?_)
  (refine TA_take 7 rfl (by kernel_rfl) (by kernel_rfl) (by kernel_rfl) ?_; (repeat (refine TL_conv TE (hk := ?_))); refine TL_nil_p ?_)
  refine TA_one 3 rfl (by kernel_rfl) (by kernel_rfl) ?_; (try refine TL_yes (hk := ?_)); refine TL_call TE (hc := (PutText_c A5 n5 c5 _ (ofL r.nm) w6 o6.rd (by omega) (by rw [hs]; omega))) (hq := (by rintro _ w' ⟨A', n', c', rfl, e, o⟩; exact e)) (hk := ?_)
  rintro _ w7 ⟨A7, n7, c7, rfl, e7, o7⟩
  rw [hs, show (ofL r.nm).data.toList = r.nm by simp [ofL]] at o7
  have l7 := o7.len
  have u7 := encU_len64 (show r.nm.length < 2 ^ 64 by omega)
  simp only [bv_length, List.length_append, Nat.mul_one] at l7
  refine TL_nil_p ?_
  refine TA_one 8 rfl (by kernel_rfl) (by kernel_rfl) ?_; (try refine TL_yes (hk := ?_)); refine TL_call TE (hc := (PutUint_c A7 n7 c7 _ r.ar.length w7 (by omega) o7.rd (by omega) (by omega))) (hq := (by rintro _ w' ⟨A', n', c', rfl, e, o⟩; exact e7.ext e)) (hk := ?_)
  rintro _ w8 ⟨A8, n8, c8, rfl, e8, o8⟩
  have l8 := o8.len
  have u8 := encU_len64 (show r.ar.length < 2 ^ 64 by omega)
  simp only [bv_length, List.length_append, Nat.mul_one] at l8
  refine TL_nil_p ?_
  (refine TA_one 9 rfl (by kernel_rfl) (by kernel_rfl) ?_; (repeat (refine TL_assign (hk := ?_))); refine TL_nil_p ?_)
  refine TA_done (by kernel_rfl) ?_
  have e58 := (e6.ext e7).ext e8
  have e28 := e25.ext e58
  have e08 := e02.ext e28
  have k8 := k5.be e58
  have z08 := e08.size
  have h8 := h2'.be e28
  clear k5 k6
  obtain ⟨b0, hb0⟩ : ∃ b0, (((b ++ encU r.cl.toNat) ++ encU r.tk) ++ (encU r.nm.length ++ r.nm)) ++ encU r.ar.length = b0 := ⟨_, rfl⟩
  have hb0l : b0.length ≤ nb + 100 := by rw [← hb0]; simp only [List.length_append]; omega
  have hreq : reqB b r = r.ar.foldl putV b0 := by unfold reqB; rw [hb0]
  rw [hb0] at o8
  rw [hreq]
  have z07 := (e02.ext (e25.ext (e6.ext e7))).size
  repeat (first | refine T_seq ?_ | refine T_region ?_ | refine T_block ?_ | refine TL_nil ?_ | refine TL_move (hk := ?_) | refine TL_load TE (hk := ?_) | refine TL_fieldAddr TE (hk := ?_) | refine TL_len TE (hk := ?_))
  refine T_loop (ι := Nat × SL) (fun q => [(34, .int .i64 (q.1 : Int)), (33, .int .i64 (n : Int)), (32, .slice A n c), (0, sL q.2)]) (fun q w' => q.1 ≤ n ∧ Ext w8 w' ∧ Own w' w.heap.size 5 1 q.2.1 q.2.2.1 q.2.2.2 (bv ((r.ar.take q.1).foldl putV b0))) (fun q => n - q.1) (0, (A8, n8, c8)) (.c rfl (.c rfl (.c rfl (.c rfl (.n))))) ⟨Nat.zero_le _, Mod.refl _ _, Own.weaken o8 z07⟩ ?_
  rintro ⟨i, y⟩ w9 ⟨hi, e9, o9⟩ ih
  simp only at hi e9 o9 ih ⊢
  have h9 := h8.be e9
  by_cases hlt : i < n
  ·have hA : A ≠ none := by obtain ⟨_, _, hq, _⟩ := h9.2 (by omega); rw [hq]; simp
   have t1 := rowV_elem veV_len r.ar i ve0 (by omega)
   have hmem : r.ar.getD i ve0 ∈ r.ar := by rw [List.getD_eq_getElem?_getD, List.getElem?_eq_getElem (by omega)]; exact List.getElem_mem _
   have hvf := hf.ar _ hmem
   have htf := take_fold r.ar b0 i (by omega)
   have hfl := fold_len (l := r.ar.take i) (b := b0) (fun v hv => hf.ar v (List.mem_of_mem_take hv))
   rw [List.length_take] at hfl
   have l9 := o9.len
   simp only [bv_length, Nat.mul_one] at l9
   generalize r.ar.getD i ve0 = x at t1 hvf htf
   repeat (first | refine T_seq ?_ | refine T_region ?_ | refine T_cond_true rfl ?_ | refine T_block ?_ | refine T_skip ?_ | refine TL_lt_t (hk := ?_) | refine TL_nil ?_ | refine TL_indexAddrn TE (hk := ?_))
   refine TL_loada TE (cs := veV x) (hx := rfl) (ht := rfl) (hi := rfl) (hr := h9) (hc := t1) (h0 := Nat.succ_pos _) (hk := ?_)
   --
   refine TL_alloc TE (hk := ?_); intro b10 w10 e10 h10 h10' k10
   --
   refine TL_storea TE (hk := ?_); intro w11 m11 z11 k11
   have z10 := e10.size
   have z9 := e9.size
   have e911 : Ext w9 w11 := Mod.step e10 m11 (by simp; omega)
   replace k11 : Blk w11 b10 161 [.int .i64 x.kd, .int .i64 x.n, .string (ofL x.t)] := k11
   repeat (first | refine T_region ?_ | refine TL_nil ?_ | refine TL_move (hk := ?_))
   refine TL_loadb TE (cs := [.int .i64 x.kd, .int .i64 x.n, .string (ofL x.t)]) (o := 0) rfl rfl k11 rfl rfl (Nat.succ_pos _) (hk := ?_)
   --
   refine TL_call TE (hc := VPut_c y.1 y.2.1 y.2.2 _ x w11 hvf (o9.be e911).rd (by omega)) (hk := ?_)
   rintro _ w12 ⟨A12, n12, c12, rfl, e12, o12⟩
   have z911 := e911.size
   repeat (first | refine T_region ?_ | refine T_inBlock ?_ | refine TL_add (hk := ?_) | refine TL_nil ?_ | refine TL_move (hk := ?_) | refine TL_assign (hk := ?_))
   exact ih (i + 1, (A12, n12, c12)) _ _ (by simp only; omega) ⟨by simp only; omega, (e9.ext e911).ext e12, by simp only; rw [htf]; exact Own.weaken o12 (by omega)⟩ (.c rfl (.c rfl (.c rfl (.c rfl (.n)))))
  ·clear ih
   have : i = n := by omega
   subst this
   have htk2 : r.ar.take i = r.ar := List.take_of_length_le (by omega)
   rw [htk2] at o9
   repeat (first | refine T_seq ?_ | refine T_region ?_ | refine T_cond_false rfl ?_ | refine T_exit rfl ?_ | refine TL_lt_f (hk := ?_) | refine TL_nil ?_ | refine TL_move (hk := ?_) | refine TL_assign (hk := ?_))
   exact T_ret2 rfl rfl rfl ⟨y.1, y.2.1, y.2.2, rfl, e08.ext e9, o9⟩
 ·rw [if_pos hc]
  have hc' : ¬ ((checkR r : Nat) : Int) = 0 := by omega
  repeat (first | refine T_seq ?_ | refine T_region ?_ | refine T_cond_true rfl ?_ | refine TL_ne_t (hk := ?_) | refine TL_nil ?_ | refine TL_move (hk := ?_) | refine TL_assign (hk := ?_))
  exact T_ret2 rfl rfl rfl ⟨none, 0, 0, rfl, e02, Own.nil _ _ _ _⟩
end Go.Proofs.YtjlaomcankmdjaaGreat
namespace Go.Proofs
open Go.Shelf
def Tryz.lays128_ren : Go.Shelf.Ren := ⟨fun | 128 => 222 | n => n, fun | 51 => 98 | 3 => 3 | 4 => 4 | 46 => 179 | 5 => 5 | 9 => 9 | n => n, fun | n => n⟩
def Tryz.lays125_ren : Go.Shelf.Ren := ⟨fun | 125 => 207 | 128 => 222 | 129 => 223 | n => n, fun | 46 => 179 | 3 => 3 | 51 => 98 | 53 => 37 | 4 => 4 | 5 => 5 | 9 => 9 | n => n, fun | n => n⟩
def Tryz.lays137_ren : Go.Shelf.Ren := ⟨fun | 137 => 202 | 217 => 211 | 266 => 225 | n => n, fun | 9 => 9 | 5 => 5 | 3 => 3 | n => n, fun | n => n⟩
theorem Tryz.lays137 : Go.Proofs.Lays.n137 Tryz.prog Tryz.lays137_ren := {
 mixed := by kernel_rfl
 f137 := Tryz.func202.trans (congrArg some (by kernel_rfl))
 f217 := Tryz.func211.trans (congrArg some (by kernel_rfl))
 f266 := Tryz.func225.trans (congrArg some (by kernel_rfl))
 t3 := Tryz.underlying3
 a3 := Tryz.isAgg3
 z3 := Tryz.sizeOf3
 v3 := Tryz.zeroValue3
 t5 := Tryz.underlying5
 a5 := Tryz.isAgg5
 z5 := Tryz.sizeOf5
 v5 := Tryz.zeroValue5
 t9 := Tryz.underlying9
 a9 := Tryz.isAgg9
 z9 := Tryz.sizeOf9
 v9 := Tryz.zeroValue9 }
open Go.RowKit in
theorem Tryz.strings_IndexByte (s : ByteArray) (c : Int) (w : World) :
  Calls Tryz.prog 202 #[.string s, .int .u8 c] w fun e w' => e = .returned (.int .i64 (Lib.indexByte s.data.toList c.toNat.toUInt8)) ∧ w' = w := Any.strings_IndexByte Tryz.lays137 s c w
def Tryz.lays129_ren : Go.Shelf.Ren := ⟨fun | 129 => 223 | n => n, fun | 53 => 37 | 3 => 3 | 4 => 4 | 46 => 179 | 5 => 5 | 9 => 9 | n => n, fun | n => n⟩
def Tryz.lays217_ren : Go.Shelf.Ren := ⟨fun | 217 => 211 | 266 => 225 | n => n, fun | 9 => 9 | 5 => 5 | 3 => 3 | n => n, fun | n => n⟩
def Tryz.lays190_ren : Go.Shelf.Ren := ⟨fun | 190 => 194 | 125 => 207 | 258 => 206 | 128 => 222 | 129 => 223 | 302 => 213 | 303 => 214 | 304 => 215 | 305 => 216 | 306 => 217 | 307 => 218 | 308 => 219 | 309 => 220 | 310 => 221 | 333 => 226 | 329 => 227 | 330 => 228 | 334 => 229 | 335 => 230 | 336 => 231 | 344 => 232 | n => n, fun | 31 => 41 | 9 => 9 | 3 => 3 | 46 => 179 | 0 => 0 | 51 => 98 | 53 => 37 | 4 => 4 | 183 => 248 | 182 => 247 | 131 => 253 | 5 => 5 | 218 => 257 | 222 => 260 | 228 => 262 | 229 => 263 | n => n, fun | n => n⟩
theorem Tryz.lays190 : Go.Proofs.Lays.n190 Tryz.prog Tryz.lays190_ren := {
 mixed := by kernel_rfl
 f125 := Tryz.func207.trans (congrArg some (by kernel_rfl))
 f128 := Tryz.func222.trans (congrArg some (by kernel_rfl))
 f129 := Tryz.func223.trans (congrArg some (by kernel_rfl))
 f190 := Tryz.func194.trans (congrArg some (by kernel_rfl))
 f258 := Tryz.func206.trans (congrArg some (by kernel_rfl))
 f302 := Tryz.func213.trans (congrArg some (by kernel_rfl))
 f303 := Tryz.func214.trans (congrArg some (by kernel_rfl))
 f304 := Tryz.func215.trans (congrArg some (by kernel_rfl))
 f305 := Tryz.func216.trans (congrArg some (by kernel_rfl))
 f306 := Tryz.func217.trans (congrArg some (by kernel_rfl))
 f307 := Tryz.func218.trans (congrArg some (by kernel_rfl))
 f308 := Tryz.func219.trans (congrArg some (by kernel_rfl))
 f309 := Tryz.func220.trans (congrArg some (by kernel_rfl))
 f310 := Tryz.func221.trans (congrArg some (by kernel_rfl))
 f329 := Tryz.func227.trans (congrArg some (by kernel_rfl))
 f330 := Tryz.func228.trans (congrArg some (by kernel_rfl))
 f333 := Tryz.func226.trans (congrArg some (by kernel_rfl))
 f334 := Tryz.func229.trans (congrArg some (by kernel_rfl))
 f335 := Tryz.func230.trans (congrArg some (by kernel_rfl))
 f336 := Tryz.func231.trans (congrArg some (by kernel_rfl))
 f344 := Tryz.func232.trans (congrArg some (by kernel_rfl))
 t0 := Tryz.underlying0
 a0 := Tryz.isAgg0
 z0 := Tryz.sizeOf0
 v0 := Tryz.zeroValue0
 t3 := Tryz.underlying3
 a3 := Tryz.isAgg3
 z3 := Tryz.sizeOf3
 v3 := Tryz.zeroValue3
 t4 := Tryz.underlying4
 a4 := Tryz.isAgg4
 z4 := Tryz.sizeOf4
 v4 := Tryz.zeroValue4
 t5 := Tryz.underlying5
 a5 := Tryz.isAgg5
 z5 := Tryz.sizeOf5
 v5 := Tryz.zeroValue5
 t9 := Tryz.underlying9
 a9 := Tryz.isAgg9
 z9 := Tryz.sizeOf9
 v9 := Tryz.zeroValue9
 t31 := Tryz.underlying41
 a31 := Tryz.isAgg41
 z31 := Tryz.sizeOf41
 v31 := Tryz.zeroValue41
 t46 := Tryz.underlying179
 a46 := Tryz.isAgg179
 z46 := Tryz.sizeOf179
 v46 := Tryz.zeroValue179
 t51 := Tryz.underlying98
 a51 := Tryz.isAgg98
 z51 := Tryz.sizeOf98
 v51 := Tryz.zeroValue98
 t53 := Tryz.underlying37
 a53 := Tryz.isAgg37
 z53 := Tryz.sizeOf37
 v53 := Tryz.zeroValue37
 t131 := Tryz.underlying253
 a131 := Tryz.isAgg253
 z131 := Tryz.sizeOf253
 v131 := Tryz.zeroValue253
 t182 := Tryz.underlying247
 a182 := Tryz.isAgg247
 z182 := Tryz.sizeOf247
 v182 := Tryz.zeroValue247
 t183 := Tryz.underlying248
 a183 := Tryz.isAgg248
 z183 := Tryz.sizeOf248
 v183 := Tryz.zeroValue248
 t218 := Tryz.underlying257
 a218 := Tryz.isAgg257
 z218 := Tryz.sizeOf257
 v218 := Tryz.zeroValue257
 t222 := Tryz.underlying260
 a222 := Tryz.isAgg260
 z222 := Tryz.sizeOf260
 v222 := Tryz.zeroValue260
 t228 := Tryz.underlying262
 a228 := Tryz.isAgg262
 z228 := Tryz.sizeOf262
 v228 := Tryz.zeroValue262
 t229 := Tryz.underlying263
 a229 := Tryz.isAgg263
 z229 := Tryz.sizeOf263
 v229 := Tryz.zeroValue263 }
open Go.Sort Go.RowKit in
theorem Tryz.slices_Sort_string (blk off cap : Nat) (ss : List (List UInt8)) (w : World) (hH : Holds encStr w blk off ss.toArray) (hblk : blk < w.heap.size) (hsz : ss.length < 4611686018427387904) :
  Calls Tryz.prog 194 #[.slice (some ⟨blk, off, none⟩) ss.length cap] w fun e w' =>
   e = .returned (.tuple #[]) ∧ ∃ n os, w' = grow (putRow encStr (Sort.ahead w n) blk off (ss.mergeSort fun x y => decide (x ≤ y)).toArray) os := Any.slices_Sort_string Tryz.lays190 blk off cap ss w hH hblk hsz
def Tryz.lays193_ren : Go.Shelf.Ren := ⟨fun | 193 => 193 | n => n, fun | 31 => 41 | 9 => 9 | 4 => 4 | 3 => 3 | 0 => 0 | n => n, fun | n => n⟩
theorem Tryz.lays193 : Go.Proofs.Lays.n193 Tryz.prog Tryz.lays193_ren := {
 mixed := by kernel_rfl
 f193 := Tryz.func193.trans (congrArg some (by kernel_rfl))
 t0 := Tryz.underlying0
 a0 := Tryz.isAgg0
 z0 := Tryz.sizeOf0
 v0 := Tryz.zeroValue0
 t3 := Tryz.underlying3
 a3 := Tryz.isAgg3
 z3 := Tryz.sizeOf3
 v3 := Tryz.zeroValue3
 t4 := Tryz.underlying4
 a4 := Tryz.isAgg4
 z4 := Tryz.sizeOf4
 v4 := Tryz.zeroValue4
 t9 := Tryz.underlying9
 a9 := Tryz.isAgg9
 z9 := Tryz.sizeOf9
 v9 := Tryz.zeroValue9
 t31 := Tryz.underlying41
 a31 := Tryz.isAgg41
 z31 := Tryz.sizeOf41
 v31 := Tryz.zeroValue41 }
open Go.RowKit Go.Lib in
theorem Tryz.slices_Equal_string (b1 o1 n c b2 o2 m d : Nat) (xs ys : List ByteArray) (w : World) (hx : n ≤ xs.length) (hy : m ≤ ys.length) (hbig : n ≤ 9223372036854775807) (hbig2 : m ≤ 9223372036854775807) (hc1 : ∀ j, j < xs.length → w.cell? ⟨b1, o1 + j, none⟩ = some (.string (xs.getD j ByteArray.empty))) (hc2 : ∀ j, j < ys.length → w.cell? ⟨b2, o2 + j, none⟩ = some (.string (ys.getD j ByteArray.empty))) :
  Calls Tryz.prog 193 #[.slice (some ⟨b1, o1, none⟩) n c, .slice (some ⟨b2, o2, none⟩) m d] w fun e w' => e = .returned (.bool (decide (xs.take n = ys.take m))) ∧ ∃ q, w' = w.drewN q := Any.slices_Equal_string Tryz.lays193 b1 o1 n c b2 o2 m d xs ys w hx hy hbig hbig2 hc1 hc2
open Go.RowKit Go.Lib in
theorem Tryz.slices_Equal_string_empty (a1 a2 : Option Addr) (c m d : Nat) (w : World) (hbig2 : m ≤ 9223372036854775807) :
  Calls Tryz.prog 193 #[.slice a1 0 c, .slice a2 m d] w fun e w' => e = .returned (.bool (decide (m = 0))) ∧ w' = w := Any.slices_Equal_string_empty Tryz.lays193 a1 a2 c m d w hbig2
open Go.RowKit Go.Sort in
theorem Tryz.slices_Sort_string_none (p : Option Addr) (cap : Nat) (w : World) :
  Calls Tryz.prog 194 #[.slice p 0 cap] w fun e w' => e = .returned (.tuple #[]) ∧ w' = w := Any.slices_Sort_string_none Tryz.lays190 p cap w
open Go.RowKit Go.Lib in
theorem Tryz.slices_Equal_string_lens (a1 a2 : Option Addr) (n c m d : Nat) (w : World) (hnm : n ≠ m) :
  Calls Tryz.prog 193 #[.slice a1 n c, .slice a2 m d] w fun e w' => e = .returned (.bool false) ∧ w' = w := Any.slices_Equal_string_lens Tryz.lays193 a1 a2 n c m d w hnm
end Go.Proofs
namespace Go.Proofs.YtjlaomcankmdjaaGreat
open Go.RowKit Go.Proofs.Eng Go.Proofs.Foot
set_option linter.unusedVariables false set_option maxRecDepth 10000
attribute [local irreducible] T TL LV TH TA
theorem IndexByte_c (S : ByteArray) (c : Int) (w : World) :
  Ret Tryz.prog 202 [.string S, .int .u8 c] w (fun v w' => v = .int .i64 (Lib.indexByte S.data.toList c.toNat.toUInt8) ∧ w' = w) := by
 refine Calls.mono (Tryz.strings_IndexByte S c w) ?_
 rintro e w' ⟨rfl, rfl⟩
 exact ⟨rfl, rfl⟩
theorem Valid_c (l : Tx) (hl : l.length ≤ 9223372036854775807) (w : World) :
  Ret Tryz.prog 172 [.string (ofL l)] w (fun v w' => v = .bool (validT l) ∧ w' = w) := by
 have hsz := ofL_size l
 refine ret_T (n := 23) Tryz.func172 rfl rfl ?_
 repeat (first | refine T_seq ?_ | refine T_region ?_ | refine T_block ?_ | refine TL_nil ?_ | refine TL_move (hk := ?_) | refine TL_assign (hk := ?_) | refine TL_len_s TE (hk := ?_))
 refine T_loop (ι := Nat) (fun i => [(6, .int .i64 (i : Int)), (5, .int .i64 ((ofL l).size : Int)), (0, .string (ofL l))]) (fun i w' => w' = w ∧ i ≤ l.length ∧ okUpto l i) (fun i => l.length - i) 0 (.c rfl (.c rfl (.c rfl (.n)))) ⟨rfl, Nat.zero_le _, fun j h => absurd h (by omega)⟩ ?_
 rintro i _ ⟨rfl, hi, hu⟩ ih
 by_cases hlt : i < l.length
 ·repeat (first | refine T_seq ?_ | refine T_region ?_ | refine T_cond_true rfl ?_ | refine T_block ?_ | refine T_skip ?_ | refine TL_lt_t (hk := ?_) | refine TL_nil ?_ | refine TL_move (hk := ?_) | refine TL_assign (hk := ?_) | (refine TL_index_s TE (hk := ?_); intro _))
  refine TL_call TE (hc := IndexByte_c _ _ _) (hk := ?_)
  rintro _ _ ⟨rfl, rfl⟩
  have hk := ix_key' (gb_lt l i)
  by_cases hv : okc (gb l i) = true
  ·have h0 := hk.2 hv
   have h0' : ¬ Lib.indexByte kbytes ((gb l i : Int).toNat.toUInt8) < 0 := by omega
   repeat (first | refine T_region ?_ | refine T_cond_false rfl ?_ | refine T_inBlock ?_ | refine T_skip ?_ | refine TL_add (hk := ?_) | refine TL_lt_f (hk := ?_) | refine TL_nil ?_ | refine TL_move (hk := ?_))
   exact ih (i + 1) _ _ (by omega) ⟨rfl, by omega, fun j hj => by
    by_cases e : j = i
    ·rw [e]; exact hv
    ·exact hu j (by omega)⟩ (.c rfl (.c rfl (.c rfl (.n))))
  ·have h0 : Lib.indexByte kbytes ((gb l i : Int).toNat.toUInt8) < 0 := by
    have : ¬ 0 ≤ Lib.indexByte kbytes ((gb l i : Int).toNat.toUInt8) := fun h => hv (hk.1 h)
    omega
   repeat (first | refine T_seq ?_ | refine T_region ?_ | refine T_cond_true rfl ?_ | refine TL_lt_t (hk := ?_) | refine TL_nil ?_ | refine TL_assign (hk := ?_))
   refine T_ret1 rfl rfl ⟨?_, rfl⟩
   rw [valid_no hlt (by simpa using hv)]
 ·have hin : i = l.length := by omega
  have hx := valid_end (l := l) (by rw [← hin]; exact hu)
  by_cases h1 : 1 ≤ l.length
  ·by_cases h2 : l.length ≤ 32
   ·repeat (first | refine T_seq ?_ | refine T_region ?_ | refine T_cond_false rfl ?_ | refine T_exit rfl ?_ | refine TL_lt_f (hk := ?_) | refine TL_le_t (hk := ?_) | refine TL_ge_t (hk := ?_) | refine TL_nil ?_ | refine TL_move (hk := ?_) | refine TL_assign (hk := ?_) | refine TL_len_s TE (hk := ?_) | refine TL_yes (hk := ?_) | refine TL_pick_t (hk := ?_))
    refine T_ret1 rfl rfl ⟨?_, rfl⟩
    rw [hx]; simp [h1, h2]
   ·repeat (first | refine T_seq ?_ | refine T_region ?_ | refine T_cond_false rfl ?_ | refine T_exit rfl ?_ | refine TL_lt_f (hk := ?_) | refine TL_le_f (hk := ?_) | refine TL_ge_t (hk := ?_) | refine TL_nil ?_ | refine TL_move (hk := ?_) | refine TL_assign (hk := ?_) | refine TL_len_s TE (hk := ?_) | refine TL_yes (hk := ?_) | refine TL_pick_t (hk := ?_))
    refine T_ret1 rfl rfl ⟨?_, rfl⟩
    rw [hx]; simp [h1, h2]
  ·repeat (first | refine T_seq ?_ | refine T_region ?_ | refine T_cond_false rfl ?_ | refine T_exit rfl ?_ | refine TL_lt_f (hk := ?_) | refine TL_ge_f (hk := ?_) | refine TL_nil ?_ | refine TL_move (hk := ?_) | refine TL_assign (hk := ?_) | refine TL_len_s TE (hk := ?_) | refine TL_no (hk := ?_) | refine TL_pick_f (hk := ?_))
   refine T_ret1 rfl rfl ⟨?_, rfl⟩
   rw [hx]; simp [h1]
theorem Sort_c (A : Option Addr) (n c base : Nat) (l : List Tx) (w : World) (h : Own w base 9 1 A n c (sv l)) (hn : n ≤ 70368744177000) :
  Ret Tryz.prog 194 [.slice A n c] w (fun v w' => v = .tuple #[] ∧ Mod (blkL A) w w' ∧ Own w' base 9 1 A n c (sv (l.mergeSort le2))) := by
 have hl : l.length = n := by simpa using h.len
 by_cases h0 : n = 0
 ·subst h0
  have hl0 : l = [] := List.length_eq_zero_iff.1 hl
  subst hl0
  refine Calls.mono (Tryz.slices_Sort_string_none A c w) ?_
  rintro e w' ⟨rfl, rfl⟩
  exact ⟨rfl, Mod.refl _ _, by simpa using h⟩
 ·rcases h.2 with ⟨_, h2⟩ | ⟨g, cap, cur, hv, hg, hb, h1, h2, h3, h4⟩
  ·exact absurd h2 h0
  ·cases hv
   subst hl
   refine Calls.mono (Tryz.slices_Sort_string g 0 c l w (holds_of_block hb (by have h5 := h4; rw [Nat.mul_one] at h5; exact h5)) (Array.getElem?_eq_some_iff.1 hb).1 (by omega)) ?_
   rintro e w' ⟨rfl, m, os, rfl⟩
   refine ⟨rfl, Mod.of_grown (grownBy_sorted _), ?_⟩
   exact ownsRow_sorted (List.length_mergeSort _) hg hb h1 h2 h3
theorem of_c (A B : Option Addr) (n c m e : Nat) (r k : List Tx) (w : World) (h : Rd w A n 1 (sv r)) (g : Rd w B m 1 (sv k)) (hn : n ≤ 70368744177000) (hm : m ≤ 70368744177000) :
  Ret Tryz.prog 155 [.agg #[.slice A n c, .slice B m e]] w (fun v w' => ∃ b, v = .map (some b) ∧ Ext w w' ∧ w.heap.size ≤ b ∧ Mp w' .string b tK uV (ofM r k)) := by
 have hr : r.length = n := by simpa using h.1
 have hk : k.length = m := by simpa using g.1
 refine ret_T (n := 34) Tryz.func155 rfl rfl ?_
 repeat (first | refine T_seq ?_ | refine T_region ?_)
 refine TL_box (hk := ?_); intro bx w1 e1 hx1 hx2 kx
 repeat (first | refine T_seq ?_ | refine T_region ?_ | refine TL_nil ?_ | refine TL_assign (hk := ?_))
 refine TL_makeMap .string tK uV (hk := ?_); intro b w2 e2 hb1 hb2 mp
 have s1 := e1.size
 have s2 := e2.size
 repeat (first | refine T_seq ?_ | refine T_region ?_ | refine T_block ?_ | refine TL_nil ?_ | refine TL_move (hk := ?_) | refine TL_assign (hk := ?_) | refine TL_load TE (hk := ?_) | refine TL_fieldAddr TE (hk := ?_) | refine TL_len TE (hk := ?_))
 have e02 : Ext w w2 := e1.ext e2
 refine T_loop (ι := Nat) (fun i => [(12, .int .i64 (i : Int)), (11, .int .i64 (n : Int)), (10, .slice A n c), (3, .map (some b)), (1, .pointer (some ⟨bx, 0, none⟩))])
  (fun i w' => Ext w w' ∧ Mod [b] w2 w' ∧ i ≤ n ∧ Mp w' .string b tK uV (addL 1 [] (r.take i))) (fun i => n - i) 0 (.c rfl (.c rfl (.c rfl (.c rfl (.c rfl (.n)))))) ⟨e02, Mod.refl _ _, Nat.zero_le _, mp⟩ ?_
 clear mp
 rintro i w3 ⟨e03, m3, hi, mp⟩ ih
 have hr3 := h.be e03
 have kx3 := (kx.be e2).bm m3 (by simp; omega)
 have s3 := m3.size
 by_cases hlt : i < n
 ·repeat (first | refine T_seq ?_ | refine T_region ?_ | refine T_cond_true rfl ?_ | refine T_block ?_ | refine T_skip ?_ | refine TL_lt_t (hk := ?_) | refine TL_nil ?_ | refine TL_move (hk := ?_) | refine TL_assign (hk := ?_) | refine TL_indexAddr1n TE (hk := ?_) | refine TL_load_s TE (hk := ?_))
  refine TL_lookup TE (0) (hk := ?_)
  have hb4 := addL_one r i (r.getD i [])
  unfold bitsM at hb4
  refine TL_or (hk := ?_); intro _
  refine TL_mapUpdate TE ((addL 1 [] (r.take i) |> fun m => (mget m (r.getD i [])).getD 0 ||| 1)) (hk := ?_); intro w4 m4 s4 mp4
  repeat (first | refine T_region ?_ | refine T_inBlock ?_ | refine TL_add (hk := ?_) | refine TL_nil ?_ | refine TL_move (hk := ?_))
  exact ih (i + 1) _ _ (by omega) ⟨Mod.step e03 m4 (by simp; omega), m3.trans m4, by omega, by rw [addL_take 1 [] r i (by omega)]; exact mp4⟩ (.c rfl (.c rfl (.c rfl (.c rfl (.c rfl (.n))))))
 ·have hin : i = r.length := by omega
  rw [hin, List.take_length] at mp
  repeat (first | refine T_seq ?_ | refine T_region ?_ | refine T_cond_false rfl ?_ | refine T_block ?_ | refine T_exit rfl ?_ | refine TL_lt_f (hk := ?_) | refine TL_nil ?_ | refine TL_move (hk := ?_) | refine TL_load TE (hk := ?_) | refine TL_fieldAddr TE (hk := ?_) | refine TL_len TE (hk := ?_))
  refine T_loop (ι := Nat) (fun i => [(24, .int .i64 (i : Int)), (23, .int .i64 (m : Int)), (22, .slice B m e), (3, .map (some b)), (1, .pointer (some ⟨bx, 0, none⟩))])
   (fun i w' => Ext w w' ∧ Mod [b] w2 w' ∧ i ≤ m ∧ Mp w' .string b tK uV (addL 2 (addL 1 [] r) (k.take i))) (fun i => m - i) 0 (.c rfl (.c rfl (.c rfl (.c rfl (.c rfl (.n)))))) ⟨e03, m3, Nat.zero_le _, by simpa [addL] using mp⟩ ?_
  clear mp ih hlt hin hi kx3 hr3 e03 m3 s3
  clear i w3
  rintro i w3 ⟨e03, m3, hi, mp⟩ ih
  have hr3 := g.be e03
  have s3 := m3.size
  by_cases hlt : i < m
  ·repeat (first | refine T_seq ?_ | refine T_region ?_ | refine T_cond_true rfl ?_ | refine T_block ?_ | refine T_skip ?_ | refine TL_lt_t (hk := ?_) | refine TL_nil ?_ | refine TL_move (hk := ?_) | refine TL_assign (hk := ?_) | refine TL_indexAddr1n TE (hk := ?_) | refine TL_load_s TE (hk := ?_))
   refine TL_lookup TE (0) (hk := ?_)
   have hb4 := addL_two r k i (k.getD i [])
   unfold bitsM at hb4
   refine TL_or (hk := ?_); intro _
   refine TL_mapUpdate TE ((addL 2 (addL 1 [] r) (k.take i) |> fun m => (mget m (k.getD i [])).getD 0 ||| 2)) (hk := ?_); intro w4 m4 s4 mp4
   repeat (first | refine T_region ?_ | refine T_inBlock ?_ | refine TL_add (hk := ?_) | refine TL_nil ?_ | refine TL_move (hk := ?_))
   exact ih (i + 1) _ _ (by omega) ⟨Mod.step e03 m4 (by simp; omega), m3.trans m4, by omega, by rw [addL_take 2 _ k i (by omega)]; exact mp4⟩ (.c rfl (.c rfl (.c rfl (.c rfl (.c rfl (.n))))))
  ·have hin : i = k.length := by omega
   rw [hin, List.take_length] at mp
   repeat (first | refine T_seq ?_ | refine T_region ?_ | refine T_cond_false rfl ?_ | refine T_exit rfl ?_ | refine TL_lt_f (hk := ?_) | refine TL_nil ?_ | refine TL_move (hk := ?_) | refine TL_assign (hk := ?_))
   exact T_ret1 rfl rfl ⟨b, rfl, e03, by omega, mp⟩
theorem off_not {A : Option Addr} {r : Nat} (h : Off A [r]) : r ∉ blkL A := by
 cases A with
 |none => simp [blkL]
 |some ad =>
  have := h ad rfl
  simp only [blkL, List.mem_singleton] at this ⊢
  exact fun e => this e.symm
theorem hi_not {A : Option Addr} {B b : Nat} (h : Hi A B) (hb : b < B) : b ∉ blkL A := off_not (Off.hi h hb)
theorem used_cons (p : Tx × Nat) (l : TM) (u : Nat) : used (p :: l) u = if p.2 &&& u = 0 then used l u else p.1 :: used l u := by
 unfold used
 rw [List.filter_cons]
 by_cases h : p.2 &&& u = 0 <;> simp [h]
theorem used_append (a b : TM) (u : Nat) : used (a ++ b) u = used a u ++ used b u := by simp [used]
theorem keys_c (b use : Nat) (m : TM) (w : World) (hm : Mp w .string b tK uV m) (hu : use < 4) (h4 : ∀ p ∈ m, p.2 < 4) (hl : m.length ≤ 10000000) :
  Ret Tryz.prog 156 [.map (some b), .int .u8 (use : Int)] w (fun v w' => ∃ A n c, v = .slice A n c ∧ Ext w w' ∧ Own w' w.heap.size 9 1 A n c (sv (keysM m use))) := by
 have lb := hm.lt
 refine ret_T (n := 26) Tryz.func156 rfl rfl ?_
 repeat (first | refine T_seq ?_ | refine T_region ?_ | refine TL_nil ?_ | refine TL_move (hk := ?_) | refine TL_assign (hk := ?_))
 refine TL_range TE (.string) (hk := ?_); intro r w1 e1 hr1 hr2 it
 have s1 := e1.size
 repeat (first | refine T_block ?_ | refine TL_nil ?_)
 refine T_loop (ι := (Option Addr × Nat × Nat) × TM × List Tx) (fun i => [(9, .pointer (some ⟨r, 0, none⟩)), (5, .slice i.1.1 i.1.2.1 i.1.2.2), (1, .int .u8 (use : Int))])
  (fun i w' => Ext w w' ∧ It w' r b tK uV m i.2.1 ∧ Own w' w.heap.size 9 1 i.1.1 i.1.2.1 i.1.2.2 (sv i.2.2) ∧ Off i.1.1 [r] ∧ (i.2.2 ++ used i.2.1 use).Perm (used m use) ∧ (∀ p ∈ i.2.1, p.2 < 4) ∧ i.2.2.length + i.2.1.length ≤ m.length) (fun i => i.2.1.length) ((none, 0, 0), m, []) (.c rfl (.c rfl (.c rfl (.n))))
  ⟨e1, it, Own.nil _ _ _ _, (fun _ h => by cases h), by simp, h4, by simp⟩ ?_
 clear it
 rintro ⟨⟨A, n, c⟩, left, acc⟩ w2 ⟨e2, it, ow, off, pm, p4, len⟩ ih
 simp only at e2 it ow off pm p4 len ih
 change T _ _ _ _ _ [(9, .pointer (some ⟨r, 0, none⟩)), (5, .slice A n c), (1, .int .u8 (use : Int))] _ _
 have hn : n = acc.length := by have := ow.len; simp at this; omega
 have lr := it.lt
 repeat (first | refine T_seq ?_ | refine T_region ?_)
 refine TL_next (h0 := ?_) (h1 := ?_)
 ·rintro rfl
  repeat (first | refine T_seq ?_ | refine T_region ?_ | refine T_cond_false rfl ?_ | refine T_exit rfl ?_ | refine TL_nil ?_ | refine TL_move (hk := ?_) | refine TL_extract (hk := ?_))
  have pm' : acc.Perm (used m use) := by simpa [used] using pm
  refine TL_call TE (hc := Sort_c A n c _ acc w2 ow (by simp at len; omega)) (hk := ?_)
  rintro _ w3 ⟨rfl, m3, o3⟩
  repeat (first | refine T_seq ?_ | refine T_region ?_ | refine TL_nil ?_ | refine TL_move (hk := ?_) | refine TL_assign (hk := ?_))
  refine T_ret1 rfl rfl ⟨A, n, c, rfl, e2.own m3 ow.hi, ?_⟩
  have : acc.mergeSort le2 = keysM m use := mergeSort_of_perm pm'
  rw [← this]
  exact o3
 ·rintro l1 p l2 w3 rfl m3 s3 it3 cur
  have hp4 : p.2 < 4 := p4 p (by simp)
  have e3 : Ext w w3 := Mod.step e2 m3 (by simp; omega)
  have ow3 := ow.mod m3 off
  simp only [List.length_append, List.length_cons] at len
  have hpm : (used (l1 ++ p :: l2) use).Perm ((if p.2 &&& use = 0 then [] else [p.1]) ++ used (l1 ++ l2) use) := by
   rw [used_append, used_append, used_cons]
   split
   ·simp
   ·exact List.perm_middle
  repeat (first | refine T_seq ?_ | refine T_region ?_ | refine T_cond_true rfl ?_ | refine T_block ?_ | refine T_skip ?_ | refine TL_nil ?_ | refine TL_move (hk := ?_) | refine TL_assign (hk := ?_) | refine TL_extract (hk := ?_) | refine TL_entry (hk := ?_))
  refine TL_and (hk := ?_); intro _
  by_cases hz : p.2 &&& use = 0
  ·rw [if_pos hz] at hpm
   repeat (first | refine T_cond_false rfl ?_ | refine T_inBlock ?_ | refine T_skip ?_ | refine TL_ne_f (hk := ?_) | refine TL_nil ?_)
   exact ih ((A, n, c), l1 ++ l2, acc) _ _ (by simp) ⟨e3, it3, ow3, off, (List.Perm.append_left acc hpm.symm).trans pm, fun q hq => p4 q (by simp at hq ⊢; rcases hq with h | h <;> simp [h]), by simp; omega⟩ (.c rfl (.c rfl (.c rfl (.n))))
  ·rw [if_neg hz] at hpm
   repeat (first | refine T_region ?_ | refine T_cond_true rfl ?_ | refine TL_ne_t (hk := ?_) | refine TL_nil ?_ | refine TL_move (hk := ?_))
   refine TL_buildSlice TE (hk := ?_); intro b5 w5 e5 h51 h52 k5
   have s5 := e5.size
   have ow5 := ow3.be e5
   refine TL_append TE (hk := ?_); intro A2 c2 w6 o6 m6 n6
   repeat (first | refine T_inBlock ?_ | refine TL_nil ?_ | refine TL_assign (hk := ?_))
   have hcap := ow3.cap
   have lr3 := it3.lt
   refine ih ((A2, _, c2), l1 ++ l2, acc ++ [p.1]) _ _ (by simp) ⟨(e3.ext e5).own m6 ow5.hi, (it3.be e5).mod m6 (off_not off) (hi_not ow5.hi lb), by rw [sv_append]; exact o6, n6.ne off (by omega), ?_, fun q hq => p4 q (by simp at hq ⊢; rcases hq with h | h <;> simp [h]), by simp; omega⟩ (.c rfl (.c rfl (.c rfl (.n))))
   refine List.Perm.trans ?_ pm
   rw [List.append_assoc]
   exact List.Perm.append_left acc hpm.symm
theorem getD_mem {l : List Tx} {i : Nat} (hi : i < l.length) : l.getD i [] ∈ l := by
 rw [List.getD_eq_getElem?_getD, List.getElem?_eq_getElem hi]
 exact List.getElem_mem hi
theorem Texts_c (A B : Option Addr) (n m c d : Nat) (l k : List Tx) (w : World) (h : Rd w A n 1 (sv l)) (g : Rd w B m 1 (sv k)) (hn : n ≤ 70368744177000) (hm : m ≤ 70368744177000) :
  Ret Tryz.prog 173 [.slice A n c, .slice B m d] w (fun v w' => v = .bool (decide (l = k)) ∧ Ext w w') := by
 have hl : l.length = n := by simpa using h.1
 have hk : k.length = m := by simpa using g.1
 refine ret_T (n := 26) Tryz.func173 rfl rfl ?_
 by_cases hnm : n = m
 ·subst hnm
  repeat (first | refine T_seq ?_ | refine T_region ?_ | refine T_cond_false rfl ?_ | refine T_block ?_ | refine T_skip ?_ | refine TL_ne_f (hk := ?_) | refine TL_nil ?_ | refine TL_move (hk := ?_) | refine TL_assign (hk := ?_) | refine TL_len TE (hk := ?_))
  refine T_loop (ι := Nat) (fun i => [(5, .int .i64 (i : Int)), (0, .slice A n c), (1, .slice B n d)]) (fun i w' => Ext w w' ∧ i ≤ n ∧ ∀ j, j < i → l.getD j [] = k.getD j []) (fun i => n - i) 0 (.c rfl (.c rfl (.c rfl (.n)))) ⟨Mod.refl _ _, Nat.zero_le _, fun j h => absurd h (by omega)⟩ ?_
  rintro i w1 ⟨e1, hi, hu⟩ ih
  have h1 := h.be e1
  have g1 := g.be e1
  by_cases hlt : i < n
  ·by_cases e : l.getD i [] = k.getD i []
   ·have e' : ofL (l.getD i []) = ofL (k.getD i []) := by rw [e]
    repeat (first | refine T_seq ?_ | refine T_region ?_ | refine T_region_q TE.mixed (by kernel_rfl) ?_ | refine T_cond_true rfl ?_ | refine T_block ?_ | refine T_skip ?_ | refine TL_lt_t (hk := ?_) | refine TL_sne_f (hk := ?_) | refine TL_nil ?_ | refine TL_move (hk := ?_) | refine TL_indexAddr1n TE (hk := ?_) | refine TL_len TE (hk := ?_) | refine TL_load_s TE (hk := ?_))
    refine TL_nil_q ?_; intro w2 e2
    repeat (first | refine T_region ?_ | refine T_cond_false rfl ?_ | refine T_inBlock ?_ | refine T_skip ?_ | refine TL_add (hk := ?_) | refine TL_nil ?_ | refine TL_move (hk := ?_) | refine TL_assign (hk := ?_))
    exact ih (i + 1) _ _ (by omega) ⟨e1.ext e2, by omega, fun j hj => by
     by_cases q : j = i
     ·rw [q]; exact e
     ·exact hu j (by omega)⟩ (.c rfl (.c rfl (.c rfl (.n))))
   ·have e' : ¬ ofL (l.getD i []) = ofL (k.getD i []) := fun h => e (ofL_inj h)
    repeat (first | refine T_seq ?_ | refine T_region ?_ | refine T_region_q TE.mixed (by kernel_rfl) ?_ | refine T_cond_true rfl ?_ | refine T_block ?_ | refine T_skip ?_ | refine TL_lt_t (hk := ?_) | refine TL_sne_t (hk := ?_) | refine TL_nil ?_ | refine TL_move (hk := ?_) | refine TL_indexAddr1n TE (hk := ?_) | refine TL_len TE (hk := ?_) | refine TL_load_s TE (hk := ?_))
    refine TL_nil_q ?_; intro w2 e2
    repeat (first | refine T_seq ?_ | refine T_region ?_ | refine T_cond_true rfl ?_ | refine TL_nil ?_ | refine TL_assign (hk := ?_))
    refine T_ret1 rfl rfl ⟨?_, e1.ext e2⟩
    have : ¬ l = k := fun q => e (by rw [q])
    simp [this]
  ·repeat (first | refine T_seq ?_ | refine T_region ?_ | refine T_cond_false rfl ?_ | refine T_exit rfl ?_ | refine TL_lt_f (hk := ?_) | refine TL_nil ?_ | refine TL_move (hk := ?_) | refine TL_assign (hk := ?_) | refine TL_len TE (hk := ?_))
   refine T_ret1 rfl rfl ⟨?_, e1⟩
   have : l = k := by
    apply List.ext_getElem?
    intro j
    by_cases hj : j < n
    ·have := hu j (by omega)
     rw [List.getD_eq_getElem?_getD, List.getD_eq_getElem?_getD, List.getElem?_eq_getElem (by omega), List.getElem?_eq_getElem (by omega)] at this
     rw [List.getElem?_eq_getElem (by omega), List.getElem?_eq_getElem (by omega)]
     simpa using this
    ·rw [List.getElem?_eq_none (by omega), List.getElem?_eq_none (by omega)]
   simp [this]
 ·have hno : ¬ l = k := fun q => hnm (by rw [← hl, ← hk, q])
  repeat (first | refine T_seq ?_ | refine T_region ?_ | refine T_cond_true rfl ?_ | refine TL_ne_t (hk := ?_) | refine TL_nil ?_ | refine TL_move (hk := ?_) | refine TL_assign (hk := ?_) | refine TL_len TE (hk := ?_))
  refine T_ret1 rfl rfl ⟨?_, Mod.refl _ _⟩
  simp [hno]
theorem Same_c (A B C D : Option Addr) (n m p q c d e f : Nat) (l k l2 k2 : List Tx) (w : World) (hA : Rd w A n 1 (sv l)) (hB : Rd w B m 1 (sv k)) (hC : Rd w C p 1 (sv l2)) (hD : Rd w D q 1 (sv k2)) (hn : n ≤ 100000) (hm : m ≤ 100000) (hp : p ≤ 100000) (hq : q ≤ 100000) :
  Ret Tryz.prog 128 [.agg #[.slice A n c, .slice B m d], .agg #[.slice C p e, .slice D q f]] w (fun v w' => v = .bool (decide (l = l2 ∧ k = k2)) ∧ Ext w w') := by
 refine ret_T (n := 17) Tryz.func128 rfl rfl ?_
 repeat (first | refine T_seq ?_ | refine T_region ?_)
 refine TL_box (hk := ?_); intro b1 w1 e1 h1 h1' k1
 --
 refine TL_box (hk := ?_); intro b2 w2 e2 h2 h2' k2
 have k12 := k1.be e2
 have e02 := e1.ext e2
 clear k1
 repeat (first | refine T_seq ?_ | refine T_region ?_ | refine TL_nil ?_ | refine TL_assign (hk := ?_) | refine TL_load TE (hk := ?_) | refine TL_fieldAddr TE (hk := ?_))
 refine TL_call TE (hc := Texts_c A C n p c e l l2 w2 (hA.be e02) (hC.be e02) (by omega) (by omega)) (hk := ?_)
 rintro _ w3 ⟨rfl, e3⟩
 have k13 := k12.be e3
 have k23 := k2.be e3
 clear k12 k2
 by_cases q1 : l = l2
 ·rw [decide_eq_true q1]
  repeat (first | refine TL_move (hk := ?_) | refine TL_load TE (hk := ?_) | refine TL_fieldAddr TE (hk := ?_) | refine TL_yes (hk := ?_))
  refine TL_call TE (hc := Texts_c B D m q d f k k2 w3 ((hB.be e02).be e3) ((hD.be e02).be e3) (by omega) (by omega)) (hk := ?_)
  rintro _ w4 ⟨rfl, e4⟩
  repeat (first | refine TL_nil ?_ | refine TL_assign (hk := ?_) | refine TL_pick_t (hk := ?_))
  refine T_ret1 rfl rfl ⟨?_, (e02.ext e3).ext e4⟩
  simp [q1]
 ·rw [decide_eq_false q1]
  repeat (first | refine TL_nil ?_ | refine TL_move (hk := ?_) | refine TL_assign (hk := ?_) | refine TL_no (hk := ?_) | refine TL_pick_f (hk := ?_))
  refine T_ret1 rfl rfl ⟨?_, e02.ext e3⟩
  simp [q1]
def FootO (w : World) (base : Nat) (e : TypeId) (v : Value) (f : List Tx × List Tx) : Prop :=
 ∃ A n c B m d, v = .agg #[.slice A n c, .slice B m d] ∧ Own w base e 1 A n c (sv f.1) ∧ Own w base e 1 B m d (sv f.2) ∧ Off B (blkL A)
theorem FootO.nil (w : World) (base : Nat) (e : TypeId) : FootO w base e (.agg #[.slice none 0 0, .slice none 0 0]) ([], []) :=
 ⟨none, 0, 0, none, 0, 0, rfl, Own.nil _ _ _ _, Own.nil _ _ _ _, fun _ h => by cases h⟩
theorem Norm_c (A B : Option Addr) (n c m d : Nat) (r k : List Tx) (w : World) (h : Rd w A n 1 (sv r)) (g : Rd w B m 1 (sv k)) (hn : n ≤ 1048576) (hm : m ≤ 1048576) (sr : Short r) (sk : Short k) :
  Ret Tryz.prog 160 [.agg #[.slice A n c, .slice B m d]] w (fun v w' => ∃ u, v = .tuple #[u, .int .i64 (normF r k).2] ∧ Ext w w' ∧ FootO w' w.heap.size 9 u (normF r k).1) := by
 have hr : r.length = n := by simpa using h.1
 have hk : k.length = m := by simpa using g.1
 refine ret_T (n := 42) Tryz.func160 rfl rfl ?_
 repeat (first | refine T_seq ?_ | refine T_region ?_)
 refine TL_box (hk := ?_); intro b1 w1 e1 h1 h1' k1
 refine TL_alloc TE (hk := ?_); intro b2 w2 e2 h2 h2' k2
 have k12 := k1.be e2
 clear k1
 repeat (first | refine T_seq ?_ | refine T_region ?_ | refine TL_nil ?_ | refine TL_assign (hk := ?_) | refine TL_load TE (hk := ?_) | refine TL_fieldAddr TE (hk := ?_))
 refine TL_buildSlice TE (hk := ?_); intro b3 w3 e3 h3 h3' k3
 have k13 := k12.be e3
 have k23 := k2.be e3
 have e03 := (e1.ext e2).ext e3
 have s1 := e1.size
 have s2 := e2.size
 have s3 := e3.size
 clear k12 k2
 have hA := h.be e03
 have hB := g.be e03
 repeat (first | refine T_block ?_ | refine TL_nil ?_ | refine TL_move (hk := ?_) | refine TL_len TE (hk := ?_))
 refine T_loop (ι := Nat) (fun i => [(15, .int .i64 (i : Int)), (14, .int .i64 2), (13, .slice (some ⟨b3, 0, none⟩) 2 2), (1, .pointer (some ⟨b1, 0, none⟩)), (2, .pointer (some ⟨b2, 0, none⟩))])
  (fun i w' => w' = w3 ∧ i ≤ 2 ∧ (0 < i → r.all validT = true) ∧ (1 < i → k.all validT = true)) (fun i => 2 - i) 0 (.c rfl (.c rfl (.c rfl (.c rfl (.c rfl (.n)))))) ⟨rfl, by omega, fun h => by omega, fun h => by omega⟩ ?_
 rintro i w3 ⟨rfl, hi, hv1, hv2⟩ ih
 by_cases hlt : i < 2
 ·obtain ⟨A0, n0, c0, l0, hld, hrd, hn0, hs0, hal, hno⟩ : ∃ A0 n0 c0 l0, [Value.slice A n c, Value.slice B m d][i]? = some (.slice A0 n0 c0) ∧ Rd w3 A0 n0 1 (sv l0) ∧ n0 ≤ 1048576 ∧ Short l0 ∧ (l0.all validT = true → (0 < i + 1 → r.all validT = true) ∧ (1 < i + 1 → k.all validT = true)) ∧ (l0.all validT = false → (r.all validT && k.all validT) = false) := by
   rcases (by omega : i = 0 ∨ i = 1) with rfl | rfl
   ·exact ⟨A, n, c, r, rfl, hA, hn, sr, fun h => ⟨fun _ => h, fun h => by omega⟩, fun h => by rw [h]; rfl⟩
   ·exact ⟨B, m, d, k, rfl, hB, hm, sk, fun h => ⟨fun _ => hv1 (by omega), fun _ => h⟩, fun h => by rw [h]; simp⟩
  have hl0 : l0.length = n0 := by simpa using hrd.1
  have rd3 : Rd w3 (some ⟨b3, 0, none⟩) 2 1 [Value.slice A n c, Value.slice B m d] := Rd.blk k3 rfl
  repeat (first | refine T_seq ?_ | refine T_region ?_ | refine T_cond_true rfl ?_ | refine T_block ?_ | refine T_skip ?_ | refine TL_lt_t (hk := ?_) | refine TL_nil ?_ | refine TL_move (hk := ?_) | refine TL_assign (hk := ?_) | refine TL_load_rd TE (hk := ?_) | refine TL_indexAddr1n TE (hk := ?_) | refine TL_len TE (hk := ?_))
  refine T_loop (ι := Nat) (fun j => [(21, .int .i64 (j : Int)), (20, .int .i64 (n0 : Int)), (19, .slice A0 n0 c0), (15, .int .i64 (i : Int)), (14, .int .i64 2), (13, .slice (some ⟨b3, 0, none⟩) 2 2), (1, .pointer (some ⟨b1, 0, none⟩)), (2, .pointer (some ⟨b2, 0, none⟩))])
   (fun j w' => w' = w3 ∧ j ≤ n0 ∧ ∀ x, x < j → validT (l0.getD x []) = true) (fun j => n0 - j) 0 (.c rfl (.c rfl (.c rfl (.c rfl (.c rfl (.c rfl (.c rfl (.c rfl (.n))))))))) ⟨rfl, by omega, fun x h => by omega⟩ ?_
  rintro j w3 ⟨rfl, hj, hu⟩ ih2
  by_cases hjl : j < n0
  ·repeat (first | refine T_seq ?_ | refine T_region ?_ | refine T_cond_true rfl ?_ | refine T_block ?_ | refine T_skip ?_ | refine TL_lt_t (hk := ?_) | refine TL_nil ?_ | refine TL_move (hk := ?_) | refine TL_assign (hk := ?_) | refine TL_indexAddr1n TE (hk := ?_) | refine TL_load_s TE (hk := ?_))
   refine TL_call TE (hc := Valid_c (l0.getD j []) (hs0 j (by omega)) _) (hk := ?_)
   rintro _ _ ⟨rfl, rfl⟩
   by_cases hv : validT (l0.getD j []) = true
   ·rw [hv]
    repeat (first | refine T_region ?_ | refine T_cond_false rfl ?_ | refine T_inBlock ?_ | refine T_skip ?_ | refine TL_add (hk := ?_) | refine TL_nil ?_ | refine TL_move (hk := ?_) | refine TL_not (hk := ?_))
    exact ih2 (j + 1) _ _ (by omega) ⟨rfl, by omega, fun x hx => by
     by_cases q : x = j
     ·rw [q]; exact hv
     ·exact hu x (by omega)⟩ (.c rfl (.c rfl (.c rfl (.c rfl (.c rfl (.c rfl (.c rfl (.c rfl (.n)))))))))
   ·have hv' : validT (l0.getD j []) = false := by simpa using hv
    have hf := hno (all_not (by omega) hv')
    rw [hv']
    repeat (first | refine T_seq ?_ | refine T_region ?_ | refine T_cond_true rfl ?_ | refine TL_nil ?_ | refine TL_not (hk := ?_) | refine TL_build TE (hk := ?_))
    refine TL_storea TE (hk := ?_); intro w4 m4 s4 k4
    repeat (first | refine TL_nil ?_ | refine TL_assign (hk := ?_))
    refine T_retA2 TE (vs := [.slice none 0 0, .slice none 0 0]) (o := 0) rfl rfl rfl rfl rfl k4 rfl (Nat.succ_pos _) ⟨.agg #[.slice none 0 0, .slice none 0 0], ?_, Mod.step e03 m4 (by simp; omega), ?_⟩
    ·unfold normF; rw [hf]; rfl
    ·unfold normF; rw [hf]; exact FootO.nil _ _ _
  ·have hjn : j = l0.length := by omega
   have hall := hal (all_upto (by rw [← hjn]; exact hu))
   repeat (first | refine T_seq ?_ | refine T_region ?_ | refine T_cond_false rfl ?_ | refine T_inBlock ?_ | refine T_exit rfl ?_ | refine TL_add (hk := ?_) | refine TL_lt_f (hk := ?_) | refine TL_nil ?_ | refine TL_move (hk := ?_))
   exact ih (i + 1) _ _ (by omega) ⟨rfl, by omega, hall.1, hall.2⟩ (.c rfl (.c rfl (.c rfl (.c rfl (.c rfl (.n))))))
 ·have hi2 : i = 2 := by omega
  have hv1' := hv1 (by omega)
  have hv2' := hv2 (by omega)
  have hvv : (r.all validT && k.all validT) = true := by rw [hv1', hv2']; rfl
  clear ih hv1 hv2 hv1' hv2'
  repeat (first | refine T_seq ?_ | refine T_region ?_ | refine T_cond_false rfl ?_ | refine T_exit rfl ?_ | refine TL_lt_f (hk := ?_) | refine TL_nil ?_)
  refine TL_loadb TE (cs := [.slice A n c, .slice B m d]) (o := 0) rfl rfl k13 rfl rfl (Nat.succ_pos _) (hk := ?_)
  --
  refine TL_call TE (hc := of_c A B n c m d r k _ hA hB (by omega) (by omega)) (hk := ?_)
  rintro _ w4 ⟨bm, rfl, e4, hbm, mp⟩
  have s4 := e4.size
  have k24 := k23.be e4
  by_cases h64 : 64 < (ofM r k).length
  ·have hf : normF r k = (([], []), 6) := by unfold normF; rw [hvv, if_pos rfl, if_pos h64]
   repeat (first | refine T_seq ?_ | refine T_region ?_ | refine T_cond_true rfl ?_ | refine TL_gt_t (hk := ?_) | refine TL_nil ?_ | refine TL_move (hk := ?_) | refine TL_assign (hk := ?_) | refine TL_build TE (hk := ?_) | refine TL_len_m TE (hk := ?_))
   refine TL_storea TE (hk := ?_); intro w5 m5 s5 k5
   repeat (first | refine TL_nil ?_ | refine TL_assign (hk := ?_))
   refine T_retA2 TE (vs := [.slice none 0 0, .slice none 0 0]) (o := 0) rfl rfl rfl rfl rfl k5 rfl (Nat.succ_pos _) ⟨.agg #[.slice none 0 0, .slice none 0 0], ?_, Mod.step (e03.ext e4) m5 (by simp; omega), ?_⟩
   ·rw [hf]
   ·rw [hf]; exact FootO.nil _ _ _
  ·have hf : normF r k = ((keysM (ofM r k) 1, keysM (ofM r k) 2), 0) := by unfold normF; rw [hvv, if_pos rfl, if_neg h64]
   have hlt4 := of_lt4 r k
   repeat (first | refine T_seq ?_ | refine T_region ?_ | refine T_cond_false rfl ?_ | refine T_skip ?_ | refine TL_gt_f (hk := ?_) | refine TL_nil ?_ | refine TL_move (hk := ?_) | refine TL_assign (hk := ?_) | refine TL_len_m TE (hk := ?_))
   refine TL_call TE (hc := keys_c bm 1 (ofM r k) _ mp (by decide) hlt4 (by omega)) (hk := ?_)
   rintro _ w5 ⟨A1, n1, c1, rfl, e5, o5⟩
   have s5 := e5.size
   repeat (refine TL_move (hk := ?_))
   refine TL_call TE (hc := keys_c bm 2 (ofM r k) _ (mp.be e5) (by decide) hlt4 (by omega)) (hk := ?_)
   rintro _ w6 ⟨A2, n2, c2, rfl, e6, o6⟩
   have s6 := e6.size
   have k26 := (k24.be e5).be e6
   repeat (refine TL_build TE (hk := ?_))
   refine TL_storea TE (hk := ?_); intro w7 m7 s7 k7
   repeat (first | refine TL_nil ?_ | refine TL_assign (hk := ?_))
   have a1 := (o5.be e6).mod m7 (Off.hi o5.hi (by omega))
   have a2 := o6.mod m7 (Off.hi o6.hi (by omega))
   refine T_retA2 TE (vs := [.slice A1 n1 c1, .slice A2 n2 c2]) (o := 0) rfl rfl rfl rfl rfl k7 rfl (Nat.succ_pos _) ⟨.agg #[.slice A1 n1 c1, .slice A2 n2 c2], ?_, Mod.step (((e03.ext e4).ext e5).ext e6) m7 (by simp; omega), ?_⟩
   ·rw [hf]
   ·rw [hf]; exact ⟨A1, n1, c1, A2, n2, c2, rfl, a1.weaken (by omega), a2.weaken (by omega), Off.hilo o6.hi o5.lo⟩
def clash1 (y : TM) (p : Tx × Nat) : Bool := bitsM y p.1 != 0 && (p.2 ||| bitsM y p.1) &&& 2 != 0
def within1 (y : TM) (p : Tx × Nat) : Bool := bitsM y p.1 != 0 && (p.2 &&& 2 == 0 || bitsM y p.1 &&& 2 != 0)
theorem bits_lt4 (r k : List Tx) (t : Tx) : bitsM (ofM r k) t < 4 := by
 rw [bits_of]; split <;> split <;> omega
theorem Equals_c (A B : Option Addr) (n m c d : Nat) (l k : List Tx) (w : World) (h : Rd w A n 1 (sv l)) (g : Rd w B m 1 (sv k)) (hn : n ≤ 10000000) (hm : m ≤ 10000000) :
  Ret Tryz.prog 193 [.slice A n c, .slice B m d] w (fun v w' => v = .bool (decide (l = k)) ∧ Ext w w') := by
 have hl : l.length = n := by simpa using h.1
 have hk : k.length = m := by simpa using g.1
 by_cases hnm : n = m
 ·by_cases h0 : n = 0
  ·refine Calls.mono (P := Tryz.prog) (f := 193) (by
    have := Tryz.slices_Equal_string_empty A B c m d w (by omega)
    subst h0
    exact this) ?_
   rintro e w' ⟨rfl, rfl⟩
   refine ⟨?_, Mod.refl _ _⟩
   have h1 : l = [] := List.length_eq_zero_iff.1 (by omega)
   have h2 : k = [] := List.length_eq_zero_iff.1 (by omega)
   have h3 : m = 0 := by omega
   simp [h1, h2, h3]
  ·obtain ⟨b1, o1, rfl, _, _⟩ := h.2 (by omega)
   obtain ⟨b2, o2, rfl, _, _⟩ := g.2 (by omega)
   have cell : ∀ (b o n : Nat) (x : List Tx), Rd w (some ⟨b, o, none⟩) n 1 (sv x) → ∀ j, j < (x.map ofL).length → w.cell? ⟨b, o + j, none⟩ = some (.string ((x.map ofL).getD j ByteArray.empty)) := fun b o n x hx j hj => by
    have hj' : j < x.length := by simpa using hj
    have := hx.cell (sv_get x j hj')
    rw [show (⟨b, o + j, none⟩ : Addr) = adr (some ⟨b, o, none⟩) j from rfl, this]
    simp [List.getD_eq_getElem?_getD, List.getElem?_eq_getElem hj']
   refine Calls.mono (Tryz.slices_Equal_string b1 o1 n c b2 o2 m d (l.map ofL) (k.map ofL) w (by simp; omega) (by simp; omega) (by omega) (by omega) (cell b1 o1 n l h) (cell b2 o2 m k g)) ?_
   rintro e w' ⟨rfl, q, rfl⟩
   refine ⟨?_, Ext.drewN _ _⟩
   have h1 : (l.map ofL).take n = l.map ofL := List.take_of_length_le (by simp; omega)
   have h2 : (k.map ofL).take m = k.map ofL := List.take_of_length_le (by simp; omega)
   rw [h1, h2]
   congr 1
   refine decide_eq_decide.2 ⟨fun e => ?_, fun e => by rw [e]⟩
   have h3 := congrArg (List.map fun b : ByteArray => b.data.toList) e
   simpa [Function.comp_def, ofL] using h3
 ·refine Calls.mono (Tryz.slices_Equal_string_lens A B n c m d w hnm) ?_
  rintro e w' ⟨rfl, rfl⟩
  refine ⟨?_, Mod.refl _ _⟩
  have : ¬ l = k := fun q => hnm (by rw [← hl, ← hk, q])
  simp [this]
theorem keysM_len (m : TM) (u : Nat) : (keysM m u).length ≤ m.length := by
 unfold keysM used
 rw [List.length_mergeSort, List.length_map]
 exact List.length_filter_le _ _
theorem normF_len (r k : List Tx) : (normF r k).1.1.length ≤ 64 ∧ (normF r k).1.2.length ≤ 64 := by
 unfold normF
 split
 ·split
  ·simp
  ·have h1 := keysM_len (ofM r k) 1
   have h2 := keysM_len (ofM r k) 2
   exact ⟨by show (keysM (ofM r k) 1).length ≤ 64; omega, by show (keysM (ofM r k) 2).length ≤ 64; omega⟩
 ·simp
def isNorm (r k : List Tx) : Bool := decide ((normF r k).2 = 0 ∧ (normF r k).1.1 = r ∧ (normF r k).1.2 = k)
theorem normal_c (A B : Option Addr) (n c m d : Nat) (r k : List Tx) (w : World) (h : Rd w A n 1 (sv r)) (g : Rd w B m 1 (sv k)) (hn : n ≤ 1048576) (hm : m ≤ 1048576) (sr : Short r) (sk : Short k) :
  Ret Tryz.prog 154 [.agg #[.slice A n c, .slice B m d]] w (fun v w' => v = .bool (isNorm r k) ∧ Ext w w') := by
 refine ret_T (n := 26) Tryz.func154 rfl rfl ?_
 repeat (first | refine T_seq ?_ | refine T_region ?_)
 refine TL_box (hk := ?_); intro b1 w1 e1 h1 h1' k1
 repeat (first | refine T_seq ?_ | refine T_region ?_ | refine TL_nil ?_ | refine TL_assign (hk := ?_))
 refine TL_loadb TE (cs := [.slice A n c, .slice B m d]) (o := 0) rfl rfl k1 rfl rfl (Nat.succ_pos _) (hk := ?_)
 refine TL_call TE (hc := Norm_c A B n c m d r k _ (h.be e1) (g.be e1) hn hm sr sk) (hk := ?_)
 rintro _ w2 ⟨_, rfl, e2, A1, n1, c1, B1, m1, d1, rfl, oA, oB, _⟩
 have k12 := k1.be e2
 have s1 := e1.size
 have s2 := e2.size
 clear k1
 repeat (first | refine TL_move (hk := ?_) | refine TL_extract (hk := ?_))
 refine TL_alloc TE (hk := ?_); intro b3 w3 e3 h3 h3' k3
 have k13 := k12.be e3
 clear k12
 --
 refine TL_storea TE (hk := ?_); intro w4 m4 s4 k4
 have e03 := (e1.ext e2).ext e3
 have e04 : Ext w w4 := Mod.step e03 m4 (by simp; omega)
 have oA4 := (oA.be e3).mod m4 (Off.lo oA.lo (by omega))
 have oB4 := (oB.be e3).mod m4 (Off.lo oB.lo (by omega))
 have k14 := k13.bm m4 (by simp; omega)
 clear k13 k3 oA oB
 have lenA := oA4.len
 have lenB := oB4.len
 have capA := oA4.cap
 have capB := oB4.cap
 have hlenA : n1 ≤ 10000000 := by
  have h1 := (normF_len r k).1
  rw [sv_length] at lenA
  omega
 have hlenB : m1 ≤ 10000000 := by
  have h1 := (normF_len r k).2
  rw [sv_length] at lenB
  omega
 repeat (first | refine T_seq ?_ | refine T_region ?_ | refine TL_nil ?_ | refine TL_move (hk := ?_) | refine TL_assign (hk := ?_))
 by_cases q0 : (normF r k).2 = 0
 ·repeat (first | refine TL_eq_t (hk := ?_) | refine TL_move (hk := ?_) | refine TL_load TE (hk := ?_) | refine TL_fieldAddr TE (hk := ?_) | refine TL_yes (hk := ?_))
  refine TL_call TE (hc := Equals_c A1 A n1 n c1 c _ r _ oA4.rd (h.be e04) hlenA (by omega)) (hk := ?_)
  rintro _ w5 ⟨rfl, e5⟩
  have k45 := k4.be e5
  have k15 := k14.be e5
  clear k4 k14
  by_cases q1 : (normF r k).1.1 = r
  ·rw [decide_eq_true q1]
   repeat (first | refine TL_move (hk := ?_) | refine TL_load TE (hk := ?_) | refine TL_fieldAddr TE (hk := ?_) | refine TL_yes (hk := ?_) | refine TL_pick_t (hk := ?_))
   refine TL_call TE (hc := Equals_c B1 B m1 m d1 d _ k _ (oB4.be e5).rd ((g.be e04).be e5) hlenB (by omega)) (hk := ?_)
   rintro _ w6 ⟨rfl, e6⟩
   repeat (first | refine TL_nil ?_ | refine TL_assign (hk := ?_) | refine TL_pick_t (hk := ?_))
   refine T_ret1 rfl rfl ⟨?_, (e04.ext e5).ext e6⟩
   unfold isNorm
   simp [q0, q1]
  ·rw [decide_eq_false q1]
   repeat (first | refine TL_nil ?_ | refine TL_move (hk := ?_) | refine TL_assign (hk := ?_) | refine TL_no (hk := ?_) | refine TL_pick_t (hk := ?_) | refine TL_pick_f (hk := ?_))
   refine T_ret1 rfl rfl ⟨?_, e04.ext e5⟩
   unfold isNorm
   simp [q1]
 ·repeat (first | refine TL_eq_f (hk := ?_) | refine TL_nil ?_ | refine TL_move (hk := ?_) | refine TL_assign (hk := ?_) | refine TL_no (hk := ?_) | refine TL_pick_f (hk := ?_))
  refine T_ret1 rfl rfl ⟨?_, e04⟩
  unfold isNorm
  simp [q0]
def lv (l : List (Tx × Bool)) : List Value := (l.map fun p => [Value.string (ofL p.1), Value.bool p.2]).flatten
def locksM (m : TM) : List (Tx × Bool) := (keysM m 3).map fun t => (t, bitsM m t &&& 2 != 0)
def sub (l k : List Tx) : Bool := l.all fun x => decide (x ∈ k)
def eqF (r k r2 k2 : List Tx) : Bool := sub r r2 && sub r2 r && sub k k2 && sub k2 k
end Go.Proofs.YtjlaomcankmdjaaGreat
namespace Go.Proofs.YtjlaomcankmdjaaGreat
open Go.RowKit Go.Proofs.Eng Go.Proofs.Codec
set_option linter.unusedVariables false set_option maxRecDepth 10000
attribute [local irreducible] T TL LV TH TA
set_option maxHeartbeats 1000000
structure Rdr (w : World) (t : TypeId) (b : Nat) (s : RS) (A : Option Addr) (n c : Nat) : Prop where
 blk : Blk w b t [.slice A n c, .int .i64 (s.pos : Int), .int .i64 (s.last : Int), .int .i64 s.err, .int .i64 (s.spot : Int)]
 rd : Rd w A n 1 (bv s.b)
 off : Off A [b]
 len : s.b.length = n
 pos : s.pos ≤ n
 last : s.last ≤ n
 big : n ≤ 7036874417
 cap : n ≤ c
theorem Rdr.mod {w w' : World} {t : TypeId} {b : Nat} {s : RS} {A : Option Addr} {n c : Nat} {S : List Nat} (h : Rdr w t b s A n c) (hm : Mod S w w') (hb : b ∉ S) (hA : Off A S) : Rdr w' t b s A n c :=
 ⟨h.blk.mod hm hb, h.rd.mod hm hA, h.off, h.len, h.pos, h.last, h.big, h.cap⟩
theorem Rdr.ext {w w' : World} {t : TypeId} {b : Nat} {s : RS} {A : Option Addr} {n c : Nat} (h : Rdr w t b s A n c) (hm : Ext w w') : Rdr w' t b s A n c := h.mod hm (by simp) (.nil A)
def gave (e : Int) : List PanicEntry := [{ v := .iface 223 (.agg #[.int .i64 e]), recovered := false }]
abbrev ptr (b : Nat) : Value := .pointer (some ⟨b, 0, none⟩)
def Took (w : World) (b : Nat) (s : RS) (A : Option Addr) (n c : Nat) {α : Type} (V : α → Value) (r : Except Int (α × Nat)) : Ending → World → Prop
 | .returned v, w' => ∃ x k, r = .ok (x, k) ∧ v = V x ∧ Mod [b] w w' ∧ Rdr w' 218 b { s with pos := s.pos + k } A n c
 | .panicked ch, w' => ∃ e p, r = .error e ∧ ch = gave e ∧ Mod [b] w w' ∧ Rdr w' 218 b { s with pos := p } A n c
 | .outgrown, _ => False
theorem gb_get (l : List UInt8) (i : Nat) (h : i < l.length) : gb l i = (l[i]).toNat := by simp [gb, h]
theorem Took.ok {w w' : World} {b : Nat} {s : RS} {A : Option Addr} {n c : Nat} {α : Type} {V : α → Value} {r : Except Int (α × Nat)} {v : Value} (x : α) (k : Nat) (hr : r = .ok (x, k)) (hv : v = V x) (hm : Mod [b] w w')
  (h : Rdr w' 218 b { s with pos := s.pos + k } A n c) : Took w b s A n c V r (.returned v) w' := ⟨x, k, hr, hv, hm, h⟩
theorem Took.no {w w' : World} {b : Nat} {s : RS} {A : Option Addr} {n c : Nat} {α : Type} {V : α → Value} {r : Except Int (α × Nat)} (e : Int) (p : Nat) (hr : r = .error e) (hm : Mod [b] w w')
  (h : Rdr w' 218 b { s with pos := p } A n c) : Took w b s A n c V r (.panicked (gave e)) w' := ⟨e, p, hr, rfl, hm, h⟩
theorem byte_c (b : Nat) (s : RS) (A : Option Addr) (n c : Nat) (w : World) (h : Rdr w 218 b s A n c) :
  Calls Tryz.prog 168 #[ptr b] w (Took w b s A n c (fun x : Nat => .int .u8 (x : Int)) (tByte (s.b.drop s.pos))) := by
 have h0 := h
 obtain ⟨hb, hr, ho, hl, hp, hla, hbig, hcap⟩ := h
 refine calls_T (n := 33) (args := [ptr b]) Tryz.func168 rfl rfl ?_
 by_cases g : s.pos < n
 ·repeat (first | refine T_seq ?_ | refine T_region ?_ | refine T_region_q TE.mixed (by kernel_rfl) ?_ | refine TL_ge_f (hk := ?_) | refine TL_nil ?_ | refine TL_move (hk := ?_) | refine TL_assign (hk := ?_) | refine TL_load TE (hk := ?_) | refine TL_fieldAddr TE (hk := ?_) | refine TL_len TE (hk := ?_) | refine TL_nilCheck (hk := ?_))
  refine TL_nil_q ?_; intro w1 e1
  repeat (first | refine T_seq ?_ | refine T_region ?_ | refine T_cond_false rfl ?_ | refine T_skip ?_ | refine TL_add (hk := ?_) | refine TL_move (hk := ?_) | refine TL_load TE (hk := ?_) | refine TL_fieldAddr TE (hk := ?_) | refine TL_nilCheck (hk := ?_))
  refine TL_store TE (hk := ?_); intro w2 m2 s2 k2
  repeat (first | refine T_seq ?_ | refine T_region_q TE.mixed (by kernel_rfl) ?_ | refine TL_sub (hk := ?_) | refine TL_nil ?_ | refine TL_move (hk := ?_) | refine TL_assign (hk := ?_) | refine TL_load TE (hk := ?_) | (refine TL_load_b TE (hk := ?_); intro _) | refine TL_fieldAddr TE (hk := ?_) | refine TL_indexAddr1 TE (hk := ?_) | refine TL_nilCheck (hk := ?_))
  refine TL_nil_q ?_; intro w3 e3
  refine T_ret1' rfl rfl ?_
  have hd : s.b.drop s.pos = s.b[s.pos] :: s.b.drop (s.pos + 1) := List.drop_eq_getElem_cons _
  have hm : Mod [b] w w3 := (e1.mod.trans m2).ext e3
  refine Took.ok (s.b[s.pos]).toNat 1 (by rw [hd]; rfl) ?_ hm ?_
  ·show Value.int .u8 (gb s.b ((s.pos : Int) + 1 - 1).toNat : Nat) = _
   rw [show ((s.pos : Int) + 1 - 1).toNat = s.pos by omega, gb_get _ _ (by omega)]
  ·exact ⟨k2.be e3, hr.mod hm (by focus ((repeat (first | assumption | (apply Own.rd; assumption) | (apply Rd.blk; assumption; exact rfl) | (apply Blk.be; assumption) | (apply Rd.be; assumption) | (apply Own.be; assumption) | (apply Blk.bm; assumption; focus (first | assumption | (simp only [List.mem_cons, List.not_mem_nil, or_false]; omega))) | (apply Rd.bm; assumption; focus assumption) | (apply Own.bm; assumption; focus assumption))); done)), ho, hl, g, hla, hbig, hcap⟩
 ·repeat (first | refine T_seq ?_ | refine T_region ?_ | refine T_region_q TE.mixed (by kernel_rfl) ?_ | refine TL_ge_t (hk := ?_) | refine TL_nil ?_ | refine TL_move (hk := ?_) | refine TL_assign (hk := ?_) | refine TL_load TE (hk := ?_) | refine TL_fieldAddr TE (hk := ?_) | refine TL_len TE (hk := ?_) | refine TL_nilCheck (hk := ?_))
  refine TL_nil_q ?_; intro w1 e1
  repeat (first | refine T_region ?_ | refine T_cond_true rfl ?_ | refine TL_makeIface_s TE (hk := ?_) | refine TL_build TE (hk := ?_))
  refine TL_panic rfl ?_
  refine LV_panic ?_
  exact Took.no 3 s.pos (by rw [List.drop_of_length_le (by omega)]; rfl) e1.mod (h0.ext e1)
theorem lor_add {a b i : Nat} (h : a < 2 ^ i) : a ||| (b * 2 ^ i) = a + b * 2 ^ i := by
 rw [Nat.or_comm, Nat.mul_comm b, ← Nat.two_pow_add_eq_or_of_lt h, Nat.add_comm]
theorem tByte_ok {l : List UInt8} {x k : Nat} (h : tByte l = .ok (x, k)) : ∃ c t, l = c :: t ∧ x = c.toNat ∧ k = 1 := by
 cases l with
 |nil => cases h
 |cons c t => cases h; exact ⟨c, t, rfl, rfl, rfl⟩
theorem tByte_no {l : List UInt8} {e : Int} (h : tByte l = .error e) : l = [] ∧ e = 3 := by
 cases l with
 |nil => cases h; exact ⟨rfl, rfl⟩
 |cons c t => cases h
theorem uint_c (b : Nat) (s : RS) (A : Option Addr) (n c : Nat) (w : World) (h : Rdr w 218 b s A n c) :
  Calls Tryz.prog 163 #[ptr b] w (Took w b s A n c (fun x : Nat => .int .u64 (x : Int)) (num0 (s.b.drop s.pos))) := by
 refine calls_T (n := 39) (args := [ptr b]) Tryz.func163 rfl rfl ?_
 repeat (first | refine T_seq ?_ | refine T_region ?_ | refine T_block ?_ | refine TL_nil ?_ | refine TL_move (hk := ?_) | refine TL_assign (hk := ?_))
 refine T_loop (ι := Nat × Nat) (fun i => [(6, .int .i64 (i.1 : Int)), (3, .int .u64 (i.2 : Int)), (0, ptr b)])
  (fun i w' => Rdr w' 218 b { s with pos := s.pos + i.1 } A n c ∧ Mod [b] w w' ∧ i.1 ≤ 9 ∧ i.2 < 2 ^ (7 * i.1) ∧ numF (10 - i.1) i.1 i.2 (s.b.drop (s.pos + i.1)) = num0 (s.b.drop s.pos)) (fun i => 10 - i.1) (0, 0) (.c rfl (.c rfl (.c rfl (.n)))) ⟨h, Mod.refl _ _, by decide, by decide, rfl⟩ ?_
 rintro ⟨i, N⟩ w1 ⟨h1, m1, hi, hN, hF⟩ ih
 simp only at h1 hi hN hF ih ⊢
 obtain ⟨f, hf⟩ : ∃ f, 10 - i = f + 1 := ⟨9 - i, by omega⟩
 have hp9 : 2 ^ (7 * i) ≤ 2 ^ 63 := Nat.pow_le_pow_right (by decide) (by omega)
 rw [hf] at hF
 repeat (first | refine T_seq ?_ | refine T_region ?_ | refine T_cond_true rfl ?_ | refine T_block ?_ | refine T_skip ?_ | refine TL_lt_t (hk := ?_) | refine TL_nil ?_ | refine TL_move (hk := ?_) | refine TL_assign (hk := ?_))
 refine TL_callc TE (fst := []) (cap := []) rfl rfl rfl rfl (byte_c b _ A n c _ h1) ?_ ?_ (fun _ h => h)
 ·rintro _ w2 ⟨x, k, hx, rfl, m2, h2⟩
  obtain ⟨ch, t, hl, rfl, rfl⟩ := tByte_ok hx
  simp only at hl h2
  have hl2 : s.b.drop (s.pos + (i + 1)) = t := by
   have := congrArg List.tail hl
   simpa [List.tail_drop, Nat.add_assoc] using this
  have hc := UInt8.toNat_lt ch
  have m3 := m1.trans m2
  rw [hl] at hF
  simp only [numF] at hF
  by_cases h9 : i = 9 ∧ 1 < ch.toNat
  ·rw [if_pos h9] at hF
   obtain ⟨rfl, h91⟩ := h9
   repeat (first | refine T_seq ?_ | refine T_region ?_ | refine T_cond_true rfl ?_ | refine TL_gt_t (hk := ?_) | refine TL_eq_t (hk := ?_) | refine TL_nil ?_ | refine TL_move (hk := ?_) | refine TL_assign (hk := ?_) | refine TL_yes (hk := ?_) | refine TL_pick_t (hk := ?_) | refine TL_makeIface_s TE (hk := ?_) | refine TL_build TE (hk := ?_))
   refine TL_panic rfl ?_
   exact LV_panic (Took.no 11 _ hF.symm m3 h2)
  ·rw [if_neg h9] at hF
   have hp : 2 ^ (7 * (i + 1)) = 2 ^ (7 * i) * 128 := by rw [show 7 * (i + 1) = 7 * i + 7 from by omega, Nat.pow_add]
   have hm : N + ch.toNat % 128 * 2 ^ (7 * i) < 2 ^ (7 * (i + 1)) := by
    rw [hp]
    have : ch.toNat % 128 * 2 ^ (7 * i) ≤ 127 * 2 ^ (7 * i) := Nat.mul_le_mul_right _ (by omega)
    omega
   have hb : ch.toNat % 128 * 2 ^ (7 * i) < 2 ^ 64 := by
    by_cases h9' : i = 9
    ·have : ch.toNat % 128 * 2 ^ (7 * i) ≤ 1 * 2 ^ (7 * i) := Nat.mul_le_mul_right _ (by omega)
     omega
    ·have : 2 ^ (7 * (i + 1)) ≤ 2 ^ 63 := Nat.pow_le_pow_right (by decide) (by omega)
     omega
   have hor : N ||| (ch.toNat % 128 * 2 ^ (7 * i) % 2 ^ 64) = N + ch.toNat % 128 * 2 ^ (7 * i) := by rw [Nat.mod_eq_of_lt hb, lor_add hN]
   have hN64 : N < 2 ^ 64 := by omega
   have hpl := h2.pos
   by_cases i9 : i = 9
   ·repeat (first | refine T_seq ?_ | refine T_region ?_ | refine T_cond_false rfl ?_ | refine T_skip ?_ | refine TL_mul (hk := ?_) | refine TL_gt_f (hk := ?_) | refine TL_eq_t (hk := ?_) | (refine TL_andNot80 (hk := ?_); intro _) | refine TL_nil ?_ | refine TL_move (hk := ?_) | refine TL_assign (hk := ?_) | refine TL_yes (hk := ?_) | refine TL_pick_t (hk := ?_) | refine TL_conv TE (hk := ?_))
    refine TL_shl rfl rfl (a := ch.toNat % 128) (c := 7 * i) rfl (by omega) rfl (by omega) rfl ?_
    repeat (first | refine T_seq ?_ | refine T_region ?_ | refine T_cond_true rfl ?_ | refine TL_lt_t (hk := ?_) | refine TL_gt_t (hk := ?_) | (refine TL_or (hk := ?_); intro _) | refine TL_nil ?_ | refine TL_move (hk := ?_) | refine TL_assign (hk := ?_) | refine TL_yes (hk := ?_))
    by_cases hlt : ch.toNat < 128
    ·rw [if_pos hlt] at hF
     by_cases h0 : 0 < i
     ·by_cases hz : ch.toNat = 0
      ·rw [if_pos ⟨h0, hz⟩] at hF
       repeat (first | refine T_region ?_ | refine T_cond_true rfl ?_ | refine TL_eq_t (hk := ?_) | refine TL_nil ?_ | refine TL_pick_t (hk := ?_) | refine TL_makeIface_s TE (hk := ?_) | refine TL_build TE (hk := ?_))
       refine TL_panic rfl ?_
       exact LV_panic (Took.no 10 _ hF.symm m3 h2)
      ·rw [if_neg (by omega)] at hF
       repeat (first | refine T_seq ?_ | refine T_region ?_ | refine T_cond_false rfl ?_ | refine T_skip ?_ | refine T_exit rfl ?_ | refine TL_eq_f (hk := ?_) | refine TL_nil ?_ | refine TL_move (hk := ?_) | refine TL_assign (hk := ?_) | refine TL_pick_t (hk := ?_))
       exact T_ret1' rfl rfl (Took.ok _ (i + 1) hF.symm (by rw [← hor]) m3 h2)
     ·first
      |(exfalso; omega)
      |skip
       rw [if_neg (by omega)] at hF
       --
       exact T_ret1' rfl rfl (Took.ok _ (i + 1) hF.symm (by rw [← hor]) m3 h2)
    ·first
     |(exfalso; omega)
     |skip
      rw [if_neg hlt] at hF
      --
      refine ih (i + 1, N + ch.toNat % 128 * 2 ^ (7 * i)) _ _ (by simp only; omega) ⟨h2, m3, by simp only; omega, hm, ?_⟩ ?_
      ·simp only
       rw [hl2, show 10 - (i + 1) = f by omega]
       exact hF
      ·rw [← hor]
       exact (.c rfl (.c rfl (.c rfl (.n))))
   ·repeat (first | refine T_seq ?_ | refine T_region ?_ | refine T_cond_false rfl ?_ | refine T_skip ?_ | refine TL_mul (hk := ?_) | refine TL_eq_f (hk := ?_) | (refine TL_andNot80 (hk := ?_); intro _) | refine TL_nil ?_ | refine TL_move (hk := ?_) | refine TL_assign (hk := ?_) | refine TL_no (hk := ?_) | refine TL_pick_f (hk := ?_) | refine TL_conv TE (hk := ?_))
    refine TL_shl rfl rfl (a := ch.toNat % 128) (c := 7 * i) rfl (by omega) rfl (by omega) rfl ?_
    repeat (first | refine T_seq ?_ | refine T_region ?_ | (refine TL_or (hk := ?_); intro _) | refine TL_nil ?_ | refine TL_move (hk := ?_) | refine TL_assign (hk := ?_))
    by_cases hlt : ch.toNat < 128
    ·rw [if_pos hlt] at hF
     by_cases h0 : 0 < i
     ·by_cases hz : ch.toNat = 0
      ·rw [if_pos ⟨h0, hz⟩] at hF
       repeat (first | refine T_seq ?_ | refine T_region ?_ | refine T_cond_true rfl ?_ | refine TL_lt_t (hk := ?_) | refine TL_gt_t (hk := ?_) | refine TL_eq_t (hk := ?_) | refine TL_nil ?_ | refine TL_move (hk := ?_) | refine TL_yes (hk := ?_) | refine TL_pick_t (hk := ?_) | refine TL_makeIface_s TE (hk := ?_) | refine TL_build TE (hk := ?_))
       refine TL_panic rfl ?_
       exact LV_panic (Took.no 10 _ hF.symm m3 h2)
      ·rw [if_neg (by omega)] at hF
       repeat (first | refine T_seq ?_ | refine T_region ?_ | refine T_cond_true rfl ?_ | refine T_cond_false rfl ?_ | refine T_skip ?_ | refine T_exit rfl ?_ | refine TL_lt_t (hk := ?_) | refine TL_gt_t (hk := ?_) | refine TL_eq_f (hk := ?_) | refine TL_nil ?_ | refine TL_move (hk := ?_) | refine TL_assign (hk := ?_) | refine TL_yes (hk := ?_) | refine TL_pick_t (hk := ?_))
       exact T_ret1' rfl rfl (Took.ok _ (i + 1) hF.symm (by rw [← hor]) m3 h2)
     ·first
      |(exfalso; omega)
      |skip
       rw [if_neg (by omega)] at hF
       repeat (first | refine T_seq ?_ | refine T_region ?_ | refine T_cond_true rfl ?_ | refine T_cond_false rfl ?_ | refine T_skip ?_ | refine T_exit rfl ?_ | refine TL_lt_t (hk := ?_) | refine TL_gt_f (hk := ?_) | refine TL_nil ?_ | refine TL_move (hk := ?_) | refine TL_assign (hk := ?_) | refine TL_no (hk := ?_) | refine TL_pick_f (hk := ?_))
       exact T_ret1' rfl rfl (Took.ok _ (i + 1) hF.symm (by rw [← hor]) m3 h2)
    ·first
     |(exfalso; omega)
     |skip
      rw [if_neg hlt] at hF
      repeat (first | refine T_region ?_ | refine T_cond_false rfl ?_ | refine T_inBlock ?_ | refine T_skip ?_ | refine TL_add (hk := ?_) | refine TL_lt_f (hk := ?_) | refine TL_nil ?_ | refine TL_move (hk := ?_))
      refine ih (i + 1, N + ch.toNat % 128 * 2 ^ (7 * i)) _ _ (by simp only; omega) ⟨h2, m3, by simp only; omega, hm, ?_⟩ ?_
      ·simp only
       rw [hl2, show 10 - (i + 1) = f by omega]
       exact hF
      ·rw [← hor]
       exact (.c rfl (.c rfl (.c rfl (.n))))
 ·rintro ch w2 ⟨e, p, he, rfl, m2, h2⟩
  obtain ⟨hl, rfl⟩ := tByte_no he
  simp only at hl h2
  rw [hl] at hF
  exact LV_panic (Took.no 3 p hF.symm (m1.trans m2) h2)
set_option maxHeartbeats 1000000
theorem int_c (b : Nat) (s : RS) (A : Option Addr) (n c : Nat) (w : World) (h : Rdr w 218 b s A n c) :
  Calls Tryz.prog 209 #[ptr b] w (Took w b s A n c (fun x : Int => .int .i64 x) (tInt (s.b.drop s.pos))) := by
 refine calls_T (n := 14) (args := [ptr b]) Tryz.func209 rfl rfl ?_
 repeat (first | refine T_seq ?_ | refine T_region ?_ | refine TL_nil ?_ | refine TL_move (hk := ?_) | refine TL_assign (hk := ?_))
 refine TL_callc TE (fst := []) (cap := []) rfl rfl rfl rfl (uint_c b s A n c w h) ?_ ?_ (fun _ h => h)
 ·rintro _ w1 ⟨x, k, hx, rfl, m1, h1⟩
  have hlt := (num0_ok hx).1
  have hi : tInt (s.b.drop s.pos) = .ok (zag x, k) := by unfold tInt; rw [hx]
  rw [hi]
  have e1 : x &&& 1 = x % 2 := Nat.and_one_is_mod x
  by_cases h2 : x % 2 = 0
  ·repeat (first | refine T_seq ?_ | refine T_region ?_ | (refine TL_and (hk := ?_); intro _) | refine TL_shr (hk := ?_) | refine TL_nil ?_ | refine TL_move (hk := ?_) | refine TL_assign (hk := ?_) | refine TL_conv TE (hk := ?_) | refine TL_neg (hk := ?_))
   refine TL_xor0 rfl rfl rfl (by omega) (by show _ ∧ _; omega) rfl ?_
   repeat (first | refine TL_nil ?_ | refine TL_assign (hk := ?_))
   exact T_ret1' rfl rfl (Took.ok _ k rfl (by unfold zag; rw [if_pos h2]) m1 h1)
  ·repeat (first | refine T_seq ?_ | refine T_region ?_ | (refine TL_and (hk := ?_); intro _) | refine TL_shr (hk := ?_) | refine TL_nil ?_ | refine TL_move (hk := ?_) | refine TL_assign (hk := ?_) | refine TL_conv TE (hk := ?_) | refine TL_neg (hk := ?_))
   refine TL_xorm rfl rfl rfl (by omega) (by show _ ∧ _; omega) rfl ?_
   repeat (first | refine TL_nil ?_ | refine TL_assign (hk := ?_))
   exact T_ret1' rfl rfl (Took.ok _ k rfl (by unfold zag; rw [if_neg h2]) m1 h1)
 ·rintro ch w1 ⟨e, p, he, rfl, m1, h1⟩
  exact LV_panic (Took.no e p (by unfold tInt; rw [he]) m1 h1)
theorem limited_c (b : Nat) (s : RS) (A : Option Addr) (n c : Nat) (most e : Int) (hmo : -9223372036854775808 ≤ most ∧ most ≤ 9223372036854775807) (w : World) (h : Rdr w 218 b s A n c) :
  Calls Tryz.prog 166 #[ptr b, .int .i64 most, .int .i64 e] w (Took w b s A n c (fun x : Nat => .int .i64 (x : Int)) (tLim most e (s.b.drop s.pos))) := by
 refine calls_T (n := 23) (args := [ptr b, .int .i64 most, .int .i64 e]) Tryz.func166 rfl rfl ?_
 repeat (first | refine T_seq ?_ | refine T_region ?_ | refine TL_nil ?_ | refine TL_move (hk := ?_) | refine TL_assign (hk := ?_))
 refine TL_callc TE (fst := []) (cap := []) rfl rfl rfl rfl (uint_c b s A n c w h) ?_ ?_ (fun _ h => h)
 ·rintro _ w1 ⟨x, k, hx, rfl, m1, h1⟩
  have hlt := (num0_ok hx).1
  by_cases hm : most < 0
  ·have hi : tLim most e (s.b.drop s.pos) = .error e := by unfold tLim; rw [hx]; simp only; rw [if_pos (.inl hm)]
   repeat (first | refine T_seq ?_ | refine T_region ?_ | refine T_cond_true rfl ?_ | refine TL_lt_t (hk := ?_) | refine TL_nil ?_ | refine TL_move (hk := ?_) | refine TL_assign (hk := ?_) | refine TL_no (hk := ?_) | refine TL_pick_t (hk := ?_) | refine TL_makeIface_s TE (hk := ?_) | refine TL_build TE (hk := ?_))
   refine TL_panic rfl ?_
   exact LV_panic (Took.no e _ hi m1 h1)
  ·by_cases hg : most < (x : Int)
   ·have hi : tLim most e (s.b.drop s.pos) = .error e := by unfold tLim; rw [hx]; simp only; rw [if_pos (.inr hg)]
    repeat (first | refine T_seq ?_ | refine T_region ?_ | refine T_cond_true rfl ?_ | refine TL_lt_f (hk := ?_) | refine TL_gt_t (hk := ?_) | refine TL_nil ?_ | refine TL_move (hk := ?_) | refine TL_assign (hk := ?_) | refine TL_yes (hk := ?_) | refine TL_pick_f (hk := ?_) | refine TL_makeIface_s TE (hk := ?_) | refine TL_conv TE (hk := ?_) | refine TL_build TE (hk := ?_))
    refine TL_panic rfl ?_
    exact LV_panic (Took.no e _ hi m1 h1)
   ·have hi : tLim most e (s.b.drop s.pos) = .ok (x, k) := by unfold tLim; rw [hx]; simp only; rw [if_neg (by omega)]
    repeat (first | refine T_seq ?_ | refine T_region ?_ | refine T_cond_false rfl ?_ | refine T_skip ?_ | refine TL_lt_f (hk := ?_) | refine TL_gt_f (hk := ?_) | refine TL_nil ?_ | refine TL_move (hk := ?_) | refine TL_assign (hk := ?_) | refine TL_yes (hk := ?_) | refine TL_pick_f (hk := ?_) | refine TL_conv TE (hk := ?_))
    exact T_ret1' rfl rfl (Took.ok x k hi rfl m1 h1)
 ·rintro ch w1 ⟨e, p, he, rfl, m1, h1⟩
  exact LV_panic (Took.no e p (by unfold tLim; rw [he]) m1 h1)
theorem Count1_c (b x y : Nat) (tx ty : TypeId) (s : RS) (A : Option Addr) (n c : Nat) (most : Int) (hmo : -9223372036854775808 ≤ most ∧ most ≤ 9223372036854775807) (w : World) (h : Rdr w 218 b s A n c) (hx : Blk w x tx [ptr b]) (hy : Blk w y ty [.int .i64 most]) :
  Calls Tryz.prog 187 #[ptr x, ptr y] w (Took w b s A n c (fun x : Nat => .int .i64 (x : Int)) (tLim most 6 (s.b.drop s.pos))) := by
 refine calls_T (n := 6) (args := [ptr x, ptr y]) Tryz.func187 rfl rfl ?_
 repeat (first | refine T_seq ?_ | refine T_region ?_ | refine TL_nil ?_ | refine TL_assign (hk := ?_) | refine TL_load TE (hk := ?_))
 refine TL_callc TE (fst := []) (cap := []) rfl rfl rfl rfl (limited_c b s A n c most 6 hmo w h) ?_ ?_ (fun _ h => h)
 ·rintro _ w1 ⟨z, k, hz, rfl, m1, h1⟩
  repeat (first | refine TL_nil ?_ | refine TL_assign (hk := ?_))
  exact T_ret1' rfl rfl (Took.ok _ k hz rfl m1 h1)
 ·rintro ch w1 ⟨e, p, he, rfl, m1, h1⟩
  exact LV_panic (Took.no e p he m1 h1)
theorem tLim_le {most e : Int} {l : List UInt8} {z k : Nat} (hz : tLim most e l = .ok (z, k)) : (z : Int) ≤ most := by
 unfold tLim at hz
 split at hz
 ·split at hz
  ·cases hz
  ·cases hz; omega
 ·cases hz
theorem Text1_c (b x y : Nat) (tx ty : TypeId) (s : RS) (A : Option Addr) (n c : Nat) (most : Int) (hmo : -9223372036854775808 ≤ most ∧ most ≤ 9223372036854775807) (w : World) (h : Rdr w 218 b s A n c) (hx : Blk w x tx [ptr b]) (hy : Blk w y ty [.int .i64 most]) (hxb : x ≠ b) :
  Calls Tryz.prog 165 #[ptr x, ptr y] w (Took w b s A n c (fun x : List UInt8 => .string ⟨x.toArray⟩) (tText most (s.b.drop s.pos))) := by
 refine calls_T (n := 45) (args := [ptr x, ptr y]) Tryz.func165 rfl rfl ?_
 repeat (first | refine T_seq ?_ | refine T_region ?_ | refine TL_nil ?_ | refine TL_assign (hk := ?_) | refine TL_load TE (hk := ?_))
 refine TL_callc TE (fst := []) (cap := []) rfl rfl rfl rfl (limited_c b s A n c most 1 hmo w h) ?_ ?_ (fun _ h => h)
 ·rintro _ w1 ⟨z, k, hz, rfl, m1, h1⟩
  have hx1 := hx.mod m1 (by simpa using hxb)
  obtain ⟨hb, hr, ho, hl, hp, hla, hbig, hcap⟩ := h1
  simp only at hb hr hl hp hla
  have hnl : (s.b.drop s.pos).length = n - s.pos := by rw [List.length_drop, hl]
  have hz0 : (z : Int) ≤ most := tLim_le hz
  by_cases g : (s.b.drop s.pos).length < k + z
  ·have hi : tText most (s.b.drop s.pos) = .error 3 := by unfold tText; rw [hz]; simp only; rw [if_pos g]
   repeat (first | refine T_seq ?_ | refine T_region_q TE.mixed (by kernel_rfl) ?_ | refine TL_sub (hk := ?_) | refine TL_gt_t (hk := ?_) | refine TL_nil ?_ | refine TL_move (hk := ?_) | refine TL_assign (hk := ?_) | refine TL_load TE (hk := ?_) | refine TL_fieldAddr TE (hk := ?_) | refine TL_len TE (hk := ?_) | refine TL_nilCheck (hk := ?_))
   refine TL_nil_q ?_; intro w2 e2
   repeat (first | refine T_region ?_ | refine T_cond_true rfl ?_ | refine TL_makeIface_s TE (hk := ?_) | refine TL_build TE (hk := ?_))
   refine TL_panic rfl ?_
   exact LV_panic (Took.no 3 _ hi (m1.ext e2) ⟨hb.be e2, hr.be e2, ho, hl, hp, hla, hbig, hcap⟩)
  ·have hi : tText most (s.b.drop s.pos) = .ok (((s.b.drop s.pos).drop k).take z, k + z) := by unfold tText; rw [hz]; simp only; rw [if_neg g]
   repeat (first | refine T_seq ?_ | refine T_region_q TE.mixed (by kernel_rfl) ?_ | refine TL_sub (hk := ?_) | refine TL_gt_f (hk := ?_) | refine TL_nil ?_ | refine TL_move (hk := ?_) | refine TL_assign (hk := ?_) | refine TL_load TE (hk := ?_) | refine TL_fieldAddr TE (hk := ?_) | refine TL_len TE (hk := ?_) | refine TL_nilCheck (hk := ?_))
   refine TL_nil_q ?_; intro w2 e2
   repeat (first | refine T_seq ?_ | refine T_region ?_ | refine T_cond_false rfl ?_ | refine T_skip ?_ | refine TL_add (hk := ?_) | refine TL_move (hk := ?_) | refine TL_load TE (hk := ?_) | refine TL_fieldAddr TE (hk := ?_) | refine TL_nilCheck (hk := ?_))
   refine TL_store TE (hk := ?_); intro w3 m3 s3 k3
   have q1 : ((↑(s.pos + k) : Int) + ↑z - ↑z).toNat = s.pos + k := by omega
   have q2 : ((↑(s.pos + k) : Int) + ↑z).toNat = s.pos + k + z := by omega
   have r3 : Rd w3 A n 1 (bv s.b) := (hr.ext e2).mod m3 ho
   have r4 : Rd w3 (cutA A c (s.pos + k) 1) (s.pos + k + z - (s.pos + k)) 1 (bv (((s.b.drop s.pos).drop k).take z)) := by
    have := r3.cut (c := c) (l := s.pos + k) (h := s.pos + k + z) (by omega) (by omega) (by omega)
    rw [show bv (((s.b.drop s.pos).drop k).take z) = ((bv s.b).drop ((s.pos + k) * 1)).take ((s.pos + k + z - (s.pos + k)) * 1) from by
     simp only [bv, List.map_take, List.map_drop, List.drop_drop, Nat.mul_one, Nat.add_sub_cancel_left]]
    exact this
   repeat (first | refine T_seq ?_ | refine T_region_q TE.mixed (by kernel_rfl) ?_ | refine TL_sub (hk := ?_) | refine TL_nil ?_ | refine TL_move (hk := ?_) | refine TL_load TE (hk := ?_) | refine TL_fieldAddr TE (hk := ?_) | refine TL_nilCheck (hk := ?_) | refine TL_slice_lh TE (hk := ?_))
   rw [q1, q2]
   repeat (first | refine TL_assign (hk := ?_) | refine TL_conv_bs TE (hk := ?_))
   refine TL_nil_q ?_; intro w4 e4
   have hm : Mod [b] w w4 := ((m1.ext e2).trans m3).ext e4
   refine T_ret1' rfl rfl (Took.ok _ (k + z) hi rfl hm ⟨?_, r3.be e4, ho, hl, ?_, hla, hbig, hcap⟩)
   ·rw [show s.pos + (k + z) = s.pos + k + z by omega]
    have := k3.be e4
    simpa using this
   ·simp only; omega
 ·rintro ch w1 ⟨e, p, he, rfl, m1, h1⟩
  exact LV_panic (Took.no e p (by unfold tText; rw [he]) m1 h1)
set_option maxHeartbeats 1000000
theorem st_params (args : List Value) (n m : Nat) : ∀ a : Act, a.tmps = args.toArray ++ Array.replicate (n - args.length) undef → ∀ i v, Eng.look (params 0 args) i = some v → a.tmps.getD i undef = v := by
 intro a ha i v hv
 obtain ⟨_, hi⟩ := look_params args 0 i v hv
 have h1 : args[i]? = some v := by simpa using hi
 have h2 : i < args.length := (List.getElem?_eq_some_iff.1 h1).1
 rw [ha, Array.getD_eq_getD_getElem?, Array.getElem?_append_left (by simpa using h2)]
 simp [h1]
theorem Rd.mod0 {w w' : World} {A : Option Addr} {n s : Nat} {xs : List Value} {S : List Nat} (h : Rd w A n s xs) (hm : Mod S w w') (hS : 0 < n → Off A S) : Rd w' A n s xs := by
 rcases Nat.eq_zero_or_pos n with rfl | hn
 ·exact ⟨h.1, fun hn => by omega⟩
 ·exact h.mod hm (hS hn)
theorem Rd.offNew {w : World} {A : Option Addr} {n s x : Nat} {xs : List Value} (h : Rd w A n s xs) (hx : w.heap.size ≤ x) (hn : 0 < n) : Off A [x] := by
 obtain ⟨b, off, rfl, hb, _⟩ := h.2 (by omega)
 intro ad e hq
 cases e
 simp only [List.mem_singleton] at hq
 omega
theorem take_ok {α : Type} {s : RS} {z0 v : α} {k : Nat} {t : List UInt8 → Except Int (α × Nat)} (he : s.err = 0) (h : t (s.b.drop s.pos) = .ok (v, k)) : s.take z0 t = (v, { s with pos := s.pos + k, last := s.pos }) := by
 unfold RS.take; rw [if_pos he, h]
theorem take_err {α : Type} {s : RS} {z0 : α} {e : Int} {t : List UInt8 → Except Int (α × Nat)} (he : s.err = 0) (h : t (s.b.drop s.pos) = .error e) : s.take z0 t = (z0, { s with err := e, spot := s.pos }) := by
 unfold RS.take; rw [if_pos he, h]
theorem rdd0_uint64 (w : World) (x y z : Nat) : CallsD Tryz.prog 195 #[ptr x, ptr y, ptr z] .returning w (fun e u w' => u = .returning ∧ e = .returned (.tuple #[]) ∧ w' = w) := by
 refine callsD_recover (n := 32) (args := [ptr x, ptr y, ptr z]) (st := params 0 [ptr x, ptr y, ptr z]) Tryz.func195 rfl rfl (st_params _ _ 0) rfl (.inl ⟨rfl, rfl, rfl⟩) ?_
 repeat (first | refine T_seq ?_ | refine T_region ?_ | refine T_cond_false rfl ?_ | refine T_skip ?_ | refine TL_ine_f TE (hk := ?_) | refine TL_nil ?_ | refine TL_move (hk := ?_) | refine TL_assign (hk := ?_))
 refine T_end0' rfl ⟨rfl, rfl⟩
theorem rdd1_uint64 (b : Nat) (s : RS) (A : Option Addr) (n c : Nat) (e : Int) (w : World) (x y z : Nat) (tx ty tz : TypeId) (p : Nat) (v0 : Value) (h : Rdr w 218 b s A n c) (hx : Blk w x tx [.int .i64 (p : Int)]) (hy : Blk w y ty [v0]) (hz : Blk w z tz [ptr b])
  (hyb : y ≠ b) (hxb : x ≠ b) (hzb : z ≠ b) (hxy : x ≠ y) (hzy : z ≠ y) (hyA : 0 < n → Off A [y]) (hp : p ≤ n) :
  CallsD Tryz.prog 195 #[ptr x, ptr y, ptr z] (.panicking (gave e)) w (fun e' u w' => u = .panicking [{ v := .iface 223 (.agg #[.int .i64 e]), recovered := true }] ∧ e' = .returned (.tuple #[]) ∧ Mod [y, b] w w' ∧ Rdr w' 218 b { s with pos := p, err := e, spot := p } A n c ∧ Blk w' y ty [.int .u64 0]) := by
 refine callsD_recover (n := 32) (args := [ptr x, ptr y, ptr z]) (st := params 0 [ptr x, ptr y, ptr z]) Tryz.func195 rfl rfl (st_params _ _ 0) rfl (.inr ⟨_, _, rfl, rfl, rfl⟩) ?_
 obtain ⟨hb, hr, ho, hl, hpp, hla, hbig, hcap⟩ := h
 repeat (first | refine T_seq ?_ | refine T_region ?_ | refine T_cond_true rfl ?_ | refine TL_ine_t TE (hk := ?_) | refine TL_nil ?_ | refine TL_move (hk := ?_) | refine TL_assign (hk := ?_) | refine TL_extract (hk := ?_) | refine TL_assert_t TE (hk := ?_))
 refine TL_alloc TE (hk := ?_); intro g w1 e1 g1 g2 kg
 --
 refine TL_store1 TE rfl rfl rfl rfl rfl (by exact kg) (by decide) (hk := ?_); intro w2 m2 s2 k2
 have e2 : Ext w w2 := Mod.step e1 m2 (fun y hy => .inr (by simp only [List.mem_singleton] at hy; omega))
 repeat (first | refine T_seq ?_ | refine T_region ?_ | refine T_cond_false rfl ?_ | refine T_skip ?_ | refine TL_nil ?_ | refine TL_move (hk := ?_) | refine TL_assign (hk := ?_) | refine TL_not (hk := ?_))
 have hxl := hx.be e2
 have hzl := hz.be e2
 have hyl := hy.be e2
 have hbl := hb.be e2
 refine T_region_h TE (fun w' => Blk w' x tx [.int .i64 (p : Int)] ∧ Blk w' z tz [ptr b] ∧ Blk w' g 223 [.int .i64 e]) (fun w3 e3 s3 => ⟨⟨hxl.be e3, hzl.be e3, k2.be e3⟩, ?_⟩)
 have hx3 := hxl.be e3
 have hz3 := hzl.be e3
 have hy3 := hyl.be e3
 have hb3 := hbl.be e3
 have hg3 := k2.be e3
 refine TH_load 0 TE rfl (by kernel_rfl) (by kernel_rfl) (by kernel_rfl) rfl rfl rfl rfl (by rintro w' ⟨h1, h2, h3⟩; first | exact h1 | exact h2 | exact h3) (by exact rfl) ?_; refine TH_load 1 TE rfl (by kernel_rfl) (by kernel_rfl) (by kernel_rfl) rfl rfl rfl rfl (by rintro w' ⟨h1, h2, h3⟩; first | exact h1 | exact h2 | exact h3) (by exact rfl) ?_; refine TH_load 2 TE rfl (by kernel_rfl) (by kernel_rfl) (by kernel_rfl) rfl rfl rfl rfl (by rintro w' ⟨h1, h2, h3⟩; first | exact h1 | exact h2 | exact h3) (by exact rfl) ?_
 refine TH_move 3 rfl (by kernel_rfl) (by kernel_rfl) (by kernel_rfl) rfl rfl ?_
 refine TH_load 4 TE rfl (by kernel_rfl) (by kernel_rfl) (by kernel_rfl) rfl rfl rfl rfl (by rintro w' ⟨h1, h2, h3⟩; first | exact h1 | exact h2 | exact h3) (by exact rfl) ?_
 refine TH_fieldAddr 5 TE rfl (by kernel_rfl) (by kernel_rfl) (by kernel_rfl) rfl rfl rfl rfl rfl rfl ?_
 refine TH_load 6 TE rfl (by kernel_rfl) (by kernel_rfl) (by kernel_rfl) rfl rfl rfl rfl (by rintro w' ⟨h1, h2, h3⟩; first | exact h1 | exact h2 | exact h3) (by exact rfl) ?_; refine TH_load 7 TE rfl (by kernel_rfl) (by kernel_rfl) (by kernel_rfl) rfl rfl rfl rfl (by rintro w' ⟨h1, h2, h3⟩; first | exact h1 | exact h2 | exact h3) (by exact rfl) ?_
 have yg : y < g := Nat.lt_of_lt_of_le hy.lt g1
 have bg : b < g := Nat.lt_of_lt_of_le hb.lt g1
 refine TH_store 8 TE rfl (by kernel_rfl) rfl rfl rfl rfl (by focus ((repeat (first | assumption | (apply Own.rd; assumption) | (apply Rd.blk; assumption; exact rfl) | (apply Blk.be; assumption) | (apply Rd.be; assumption) | (apply Own.be; assumption) | (apply Blk.bm; assumption; focus (first | assumption | (simp only [List.mem_cons, List.not_mem_nil, or_false]; omega))) | (apply Rd.bm; assumption; focus assumption) | (apply Own.bm; assumption; focus assumption))); done)) (by first | decide | (simp; done) | (simp; omega)) ?_; intro w4 m4 s4 k4
 have hx4 := hx3.mod m4 (by simpa using hxy)
 have hz4 := hz3.mod m4 (by simpa using hzy)
 have hg4 := hg3.mod m4 (by simp; omega)
 have hb4 := hb3.mod m4 (by simpa using Ne.symm hyb)
 refine ⟨⟨hx4, hz4, hg4⟩, ?_⟩
 refine TH_nilCheck 9 rfl (by kernel_rfl) (by kernel_rfl) (by kernel_rfl) rfl rfl ?_
 refine TH_fieldAddr 10 TE rfl (by kernel_rfl) (by kernel_rfl) (by kernel_rfl) rfl rfl rfl rfl rfl rfl ?_
 refine TH_store 11 TE rfl (by kernel_rfl) rfl rfl rfl rfl (by focus ((repeat (first | assumption | (apply Own.rd; assumption) | (apply Rd.blk; assumption; exact rfl) | (apply Blk.be; assumption) | (apply Rd.be; assumption) | (apply Own.be; assumption) | (apply Blk.bm; assumption; focus (first | assumption | (simp only [List.mem_cons, List.not_mem_nil, or_false]; omega))) | (apply Rd.bm; assumption; focus assumption) | (apply Own.bm; assumption; focus assumption))); done)) (by first | decide | (simp; done) | (simp; omega)) ?_; intro w5 m5 s5 k5
 have hx5 := hx4.mod m5 (by simpa using hxb)
 have hz5 := hz4.mod m5 (by simpa using hzb)
 have hg5 := hg4.mod m5 (by simp; omega)
 have hy5 := k4.mod m5 (by simpa using hyb)
 refine ⟨⟨hx5, hz5, hg5⟩, ?_⟩
 refine TH_nilCheck 12 rfl (by kernel_rfl) (by kernel_rfl) (by kernel_rfl) rfl rfl ?_
 refine TH_fieldAddr 13 TE rfl (by kernel_rfl) (by kernel_rfl) (by kernel_rfl) rfl rfl rfl rfl rfl rfl ?_
 refine TH_store 14 TE rfl (by kernel_rfl) rfl rfl rfl rfl (by focus ((repeat (first | assumption | (apply Own.rd; assumption) | (apply Rd.blk; assumption; exact rfl) | (apply Blk.be; assumption) | (apply Rd.be; assumption) | (apply Own.be; assumption) | (apply Blk.bm; assumption; focus (first | assumption | (simp only [List.mem_cons, List.not_mem_nil, or_false]; omega))) | (apply Rd.bm; assumption; focus assumption) | (apply Own.bm; assumption; focus assumption))); done)) (by first | decide | (simp; done) | (simp; omega)) ?_; intro w6 m6 s6 k6
 have hx6 := hx5.mod m6 (by simpa using hxb)
 have hz6 := hz5.mod m6 (by simpa using hzb)
 have hg6 := hg5.mod m6 (by simp; omega)
 have hy6 := hy5.mod m6 (by simpa using hyb)
 refine ⟨⟨hx6, hz6, hg6⟩, ?_⟩
 refine TH_nilCheck 15 rfl (by kernel_rfl) (by kernel_rfl) (by kernel_rfl) rfl rfl ?_
 refine TH_fieldAddr 16 TE rfl (by kernel_rfl) (by kernel_rfl) (by kernel_rfl) rfl rfl rfl rfl rfl rfl ?_
 refine TH_store 17 TE rfl (by kernel_rfl) rfl rfl rfl rfl (by focus ((repeat (first | assumption | (apply Own.rd; assumption) | (apply Rd.blk; assumption; exact rfl) | (apply Blk.be; assumption) | (apply Rd.be; assumption) | (apply Own.be; assumption) | (apply Blk.bm; assumption; focus (first | assumption | (simp only [List.mem_cons, List.not_mem_nil, or_false]; omega))) | (apply Rd.bm; assumption; focus assumption) | (apply Own.bm; assumption; focus assumption))); done)) (by first | decide | (simp; done) | (simp; omega)) ?_; intro w7 m7 s7 k7
 have hx7 := hx6.mod m7 (by simpa using hxb)
 have hz7 := hz6.mod m7 (by simpa using hzb)
 have hg7 := hg6.mod m7 (by simp; omega)
 have hy7 := hy6.mod m7 (by simpa using hyb)
 refine ⟨⟨hx7, hz7, hg7⟩, ?_⟩
 refine TH_done (by kernel_rfl) ?_
 have hm : Mod [y, b] w w7 := by
  have a1 : Mod [y, b] w w3 := Ext.mod (Mod.ext e2 e3)
  have a2 := a1.step m4 (fun q hq => .inl (by simp only [List.mem_cons, List.not_mem_nil, or_false] at hq ⊢; omega))
  have a3 := a2.step m5 (fun q hq => .inl (by simp only [List.mem_cons, List.not_mem_nil, or_false] at hq ⊢; omega))
  have a4 := a3.step m6 (fun q hq => .inl (by simp only [List.mem_cons, List.not_mem_nil, or_false] at hq ⊢; omega))
  exact a4.step m7 (fun q hq => .inl (by simp only [List.mem_cons, List.not_mem_nil, or_false] at hq ⊢; omega))
 refine T_end0' rfl ⟨rfl, hm, ⟨k7, Rd.mod0 hr hm ?_, ho, hl, hp, hla, hbig, hcap⟩, hy7⟩
 intro hn0 ad ea hq
 simp only [List.mem_cons, List.not_mem_nil, or_false] at hq
 rcases hq with hq | hq
 ·exact hyA hn0 ad ea (by simpa using hq)
 ·exact ho ad ea (by simpa using hq)
theorem rd_uint64 {α : Type} (b : Nat) (s : RS) (A : Option Addr) (n c : Nat) (w : World) (g : Nat) (fst cap : List Value) (V : α → Value) (z0 : α) (hV : V z0 = .int .u64 0) (hV1 : ∀ x, (V x).oneCell' = true) (t : List UInt8 → Except Int (α × Nat)) (hE : TE.fn g = true) (h : Rdr w 218 b s A n c)
  (hc : ∀ w', Ext w w' → Calls Tryz.prog g (fst ++ cap).toArray w' (Took w' b s A n c V (t (s.b.drop s.pos)))) :
  Ret Tryz.prog 162 [ptr b, .func (.func g) fst.toArray cap.toArray] w (fun v w' => v = V (s.take z0 t).1 ∧ Mod [b] w w' ∧ Rdr w' 218 b (s.take z0 t).2 A n c) := by
 have h0 := h
 obtain ⟨hb, hr, ho, hl, hpp, hla, hbig, hcap⟩ := h
 refine ret_T (n := 28) Tryz.func162 rfl rfl ?_
 repeat (first | refine T_seq ?_ | refine T_region ?_)
 refine TL_box (hk := ?_); intro x1 w1 e1 g1 g1' k1
 --
 refine TL_alloc TE (hk := ?_); intro x2 w2 e2 g2 g2' k2
 have e02 : Ext w w2 := e1.ext e2
 have hb2 := hb.be e02
 have k12 : Blk w2 x1 _ [ptr b] := k1.be e2
 have k22 : Blk w2 x2 _ [.int .u64 0] := k2
 have lb := hb.lt
 have ls1 := e1.size
 by_cases he : s.err = 0
 ·rw [he] at hb2
  repeat (first | refine T_seq ?_ | refine T_region ?_ | refine T_cond_false rfl ?_ | refine T_skip ?_ | refine TL_ne_f (hk := ?_) | refine TL_pnil_f TE (hk := ?_) | refine TL_nil ?_ | refine TL_move (hk := ?_) | refine TL_load TE (hk := ?_) | refine TL_fieldAddr TE (hk := ?_) | refine TL_yes (hk := ?_) | refine TL_pick_f (hk := ?_) | refine TL_nilCheck (hk := ?_))
  refine TL_alloc TE (hk := ?_); intro x3 w3 e3 g3 g3' k3
  --
  refine TL_store TE (hk := ?_); intro w4 m4 s4 k4
  have e34 : Ext w2 w4 := Mod.step e3 m4 (fun y hy => .inr (by simp only [List.mem_singleton] at hy; omega))
  have e04 : Ext w w4 := e02.ext e34
  have k14 := k12.be e34
  have k24 := k22.be e34
  have k34 : Blk w4 x3 _ [.int .i64 (s.pos : Int)] := k4
  have hc4 := hc w4 e04
  have l12 : x1 < x2 := by omega
  have ls2 := e2.size
  have l23 : x2 < x3 := by omega
  repeat (first | refine T_seq ?_ | refine T_region ?_ | refine TL_nil ?_ | refine TL_makeFunc (hk := ?_))
  refine TL_defer rfl rfl rfl ?_
  repeat (first | refine T_seq ?_ | refine T_region ?_ | refine TL_nil ?_ | refine TL_move (hk := ?_))
  refine TL_callc TE (fst := fst) (cap := cap) (vs := []) rfl rfl hE rfl (by simpa using hc4) ?_ ?_ (fun _ h => h)
  ·rintro _ w5 ⟨x, k, hx, rfl, m5, h5⟩
   rw [take_ok he hx]
   have k15 := k14.mod m5 (by simp; omega)
   have k25 := k24.mod m5 (by simp; omega)
   have k35 := k34.mod m5 (by simp; omega)
   obtain ⟨hb5, hr5, _, _, hp5, _, _, _⟩ := h5
   simp only at hb5 hr5 hp5
   refine TL_store TE rfl rfl (hV1 x) rfl (by exact k25) (by decide) (hk := ?_); intro w6 m6 s6 k6
   have k16 := k15.mod m6 (by simp; omega)
   have k36 := k35.mod m6 (by simp; omega)
   have hb6 := hb5.mod m6 (by simp; omega)
   have hr6 := Rd.mod0 hr5 m6 (Rd.offNew hr (by omega))
   repeat (first | refine T_seq ?_ | refine T_region ?_ | refine TL_nil ?_ | refine TL_load TE (hk := ?_) | refine TL_fieldAddr TE (hk := ?_) | refine TL_nilCheck (hk := ?_))
   refine TL_store TE (hk := ?_); intro w7 m7 s7 k7
   have k17 := k16.mod m7 (by simp; omega)
   have k37 := k36.mod m7 (by simp; omega)
   have k27 : Blk w7 x2 _ [V x] := k6.mod m7 (by simp; omega)
   have hr7 := hr6.mod m7 ho
   repeat (first | refine T_seq ?_ | refine T_region ?_ | refine TL_nil ?_ | refine TL_load TE (hk := ?_))
   refine TL_store TE rfl rfl (hV1 x) rfl (by exact k27) (by simp) (hk := ?_); intro w8 m8 s8 k8
   have hb8 := k7.mod m8 (by simp; omega)
   have hr8 := Rd.mod0 hr7 m8 (Rd.offNew hr (by omega))
   have hm : Mod [b] w w8 := by
    have a1 : Mod [b] w w5 := (Ext.mod e04).trans m5
    have a2 := a1.step m6 (fun q hq => .inr (by simp only [List.mem_singleton] at hq; omega))
    have a3 := a2.trans m7
    exact a3.step m8 (fun q hq => .inr (by simp only [List.mem_singleton] at hq; omega))
   repeat (refine TL_nil ?_)
   refine T_leave ?_
   refine LV_defer TE (args := []) (cap := [ptr x3, ptr x2, ptr x1]) rfl (by simp) (rdd0_uint64 w8 x3 x2 x1) ?_ ?_ ?_
   ·rintro v u' w9 ⟨rfl, hv, rfl⟩
    refine LV_ret rfl (res1c TE rfl rfl rfl rfl k8 rfl) ?_
    exact ⟨rfl, hm, ⟨hb8, hr8, ho, hl, hp5, hpp, hbig, hcap⟩⟩
   ·rintro ch u' w9 ⟨_, hv, _⟩; cases hv
   ·rintro u' w9 ⟨_, hv, _⟩; cases hv
  ·rintro ch w5 ⟨e, p, hx, rfl, m5, h5⟩
   rw [take_err he hx]
   have k15 := k14.mod m5 (by simp; omega)
   have k25 := k24.mod m5 (by simp; omega)
   have k35 := k34.mod m5 (by simp; omega)
   refine LV_defer TE (args := []) (cap := [ptr x3, ptr x2, ptr x1]) rfl (by simp) (rdd1_uint64 b _ A n c e w5 x3 x2 x1 _ _ _ s.pos _ h5 k35 k25 k15 (by omega) (by omega) (by omega) (by omega) (by omega) (Rd.offNew hr (by omega)) hpp) ?_ ?_ ?_
   ·rintro v u' w9 ⟨rfl, hv, m9, h9, k9⟩
    refine LV_ret rfl (res1c TE rfl rfl rfl rfl k9 rfl) ?_
    refine ⟨hV.symm, ?_, h9⟩
    exact ((Ext.mod e04).trans m5).step m9 (fun q hq => by simp only [List.mem_cons, List.not_mem_nil, or_false] at hq ⊢; omega)
   ·rintro ch u' w9 ⟨_, hv, _⟩; cases hv
   ·rintro u' w9 ⟨_, hv, _⟩; cases hv
 ·have hs0 : s.take z0 t = (z0, s) := by unfold RS.take; rw [if_neg he]
  rw [hs0]
  repeat (first | refine T_seq ?_ | refine T_region ?_ | refine T_cond_true rfl ?_ | refine TL_ne_t (hk := ?_) | refine TL_pnil_f TE (hk := ?_) | refine TL_nil ?_ | refine TL_move (hk := ?_) | refine TL_load TE (hk := ?_) | refine TL_fieldAddr TE (hk := ?_) | refine TL_yes (hk := ?_) | refine TL_pick_f (hk := ?_) | refine TL_nilCheck (hk := ?_))
  refine TL_store TE (hk := ?_); intro w3 m3 s3 k3
  have hm : Ext w w3 := Mod.step e02 m3 (fun y hy => .inr (by simp only [List.mem_singleton] at hy; omega))
  repeat (refine TL_nil ?_)
  exact T_ret1c TE rfl rfl rfl rfl k3 rfl ⟨hV.symm, Ext.mod hm, h0.ext hm⟩
theorem rdd0_int64 (w : World) (x y z : Nat) : CallsD Tryz.prog 224 #[ptr x, ptr y, ptr z] .returning w (fun e u w' => u = .returning ∧ e = .returned (.tuple #[]) ∧ w' = w) := by
 refine callsD_recover (n := 32) (args := [ptr x, ptr y, ptr z]) (st := params 0 [ptr x, ptr y, ptr z]) Tryz.func224 rfl rfl (st_params _ _ 0) rfl (.inl ⟨rfl, rfl, rfl⟩) ?_
 repeat (first | refine T_seq ?_ | refine T_region ?_ | refine T_cond_false rfl ?_ | refine T_skip ?_ | refine TL_ine_f TE (hk := ?_) | refine TL_nil ?_ | refine TL_move (hk := ?_) | refine TL_assign (hk := ?_))
 refine T_end0' rfl ⟨rfl, rfl⟩
theorem rdd1_int64 (b : Nat) (s : RS) (A : Option Addr) (n c : Nat) (e : Int) (w : World) (x y z : Nat) (tx ty tz : TypeId) (p : Nat) (v0 : Value) (h : Rdr w 218 b s A n c) (hx : Blk w x tx [.int .i64 (p : Int)]) (hy : Blk w y ty [v0]) (hz : Blk w z tz [ptr b])
  (hyb : y ≠ b) (hxb : x ≠ b) (hzb : z ≠ b) (hxy : x ≠ y) (hzy : z ≠ y) (hyA : 0 < n → Off A [y]) (hp : p ≤ n) :
  CallsD Tryz.prog 224 #[ptr x, ptr y, ptr z] (.panicking (gave e)) w (fun e' u w' => u = .panicking [{ v := .iface 223 (.agg #[.int .i64 e]), recovered := true }] ∧ e' = .returned (.tuple #[]) ∧ Mod [y, b] w w' ∧ Rdr w' 218 b { s with pos := p, err := e, spot := p } A n c ∧ Blk w' y ty [.int .i64 0]) := by
 refine callsD_recover (n := 32) (args := [ptr x, ptr y, ptr z]) (st := params 0 [ptr x, ptr y, ptr z]) Tryz.func224 rfl rfl (st_params _ _ 0) rfl (.inr ⟨_, _, rfl, rfl, rfl⟩) ?_
 obtain ⟨hb, hr, ho, hl, hpp, hla, hbig, hcap⟩ := h
 repeat (first | refine T_seq ?_ | refine T_region ?_ | refine T_cond_true rfl ?_ | refine TL_ine_t TE (hk := ?_) | refine TL_nil ?_ | refine TL_move (hk := ?_) | refine TL_assign (hk := ?_) | refine TL_extract (hk := ?_) | refine TL_assert_t TE (hk := ?_))
 refine TL_alloc TE (hk := ?_); intro g w1 e1 g1 g2 kg
 --
 refine TL_store1 TE rfl rfl rfl rfl rfl (by exact kg) (by decide) (hk := ?_); intro w2 m2 s2 k2
 have e2 : Ext w w2 := Mod.step e1 m2 (fun y hy => .inr (by simp only [List.mem_singleton] at hy; omega))
 repeat (first | refine T_seq ?_ | refine T_region ?_ | refine T_cond_false rfl ?_ | refine T_skip ?_ | refine TL_nil ?_ | refine TL_move (hk := ?_) | refine TL_assign (hk := ?_) | refine TL_not (hk := ?_))
 have hxl := hx.be e2
 have hzl := hz.be e2
 have hyl := hy.be e2
 have hbl := hb.be e2
 refine T_region_h TE (fun w' => Blk w' x tx [.int .i64 (p : Int)] ∧ Blk w' z tz [ptr b] ∧ Blk w' g 223 [.int .i64 e]) (fun w3 e3 s3 => ⟨⟨hxl.be e3, hzl.be e3, k2.be e3⟩, ?_⟩)
 have hx3 := hxl.be e3
 have hz3 := hzl.be e3
 have hy3 := hyl.be e3
 have hb3 := hbl.be e3
 have hg3 := k2.be e3
 refine TH_load 0 TE rfl (by kernel_rfl) (by kernel_rfl) (by kernel_rfl) rfl rfl rfl rfl (by rintro w' ⟨h1, h2, h3⟩; first | exact h1 | exact h2 | exact h3) (by exact rfl) ?_; refine TH_load 1 TE rfl (by kernel_rfl) (by kernel_rfl) (by kernel_rfl) rfl rfl rfl rfl (by rintro w' ⟨h1, h2, h3⟩; first | exact h1 | exact h2 | exact h3) (by exact rfl) ?_; refine TH_load 2 TE rfl (by kernel_rfl) (by kernel_rfl) (by kernel_rfl) rfl rfl rfl rfl (by rintro w' ⟨h1, h2, h3⟩; first | exact h1 | exact h2 | exact h3) (by exact rfl) ?_
 refine TH_move 3 rfl (by kernel_rfl) (by kernel_rfl) (by kernel_rfl) rfl rfl ?_
 refine TH_load 4 TE rfl (by kernel_rfl) (by kernel_rfl) (by kernel_rfl) rfl rfl rfl rfl (by rintro w' ⟨h1, h2, h3⟩; first | exact h1 | exact h2 | exact h3) (by exact rfl) ?_
 refine TH_fieldAddr 5 TE rfl (by kernel_rfl) (by kernel_rfl) (by kernel_rfl) rfl rfl rfl rfl rfl rfl ?_
 refine TH_load 6 TE rfl (by kernel_rfl) (by kernel_rfl) (by kernel_rfl) rfl rfl rfl rfl (by rintro w' ⟨h1, h2, h3⟩; first | exact h1 | exact h2 | exact h3) (by exact rfl) ?_; refine TH_load 7 TE rfl (by kernel_rfl) (by kernel_rfl) (by kernel_rfl) rfl rfl rfl rfl (by rintro w' ⟨h1, h2, h3⟩; first | exact h1 | exact h2 | exact h3) (by exact rfl) ?_
 have yg : y < g := Nat.lt_of_lt_of_le hy.lt g1
 have bg : b < g := Nat.lt_of_lt_of_le hb.lt g1
 refine TH_store 8 TE rfl (by kernel_rfl) rfl rfl rfl rfl (by focus ((repeat (first | assumption | (apply Own.rd; assumption) | (apply Rd.blk; assumption; exact rfl) | (apply Blk.be; assumption) | (apply Rd.be; assumption) | (apply Own.be; assumption) | (apply Blk.bm; assumption; focus (first | assumption | (simp only [List.mem_cons, List.not_mem_nil, or_false]; omega))) | (apply Rd.bm; assumption; focus assumption) | (apply Own.bm; assumption; focus assumption))); done)) (by first | decide | (simp; done) | (simp; omega)) ?_; intro w4 m4 s4 k4
 have hx4 := hx3.mod m4 (by simpa using hxy)
 have hz4 := hz3.mod m4 (by simpa using hzy)
 have hg4 := hg3.mod m4 (by simp; omega)
 have hb4 := hb3.mod m4 (by simpa using Ne.symm hyb)
 refine ⟨⟨hx4, hz4, hg4⟩, ?_⟩
 refine TH_nilCheck 9 rfl (by kernel_rfl) (by kernel_rfl) (by kernel_rfl) rfl rfl ?_
 refine TH_fieldAddr 10 TE rfl (by kernel_rfl) (by kernel_rfl) (by kernel_rfl) rfl rfl rfl rfl rfl rfl ?_
 refine TH_store 11 TE rfl (by kernel_rfl) rfl rfl rfl rfl (by focus ((repeat (first | assumption | (apply Own.rd; assumption) | (apply Rd.blk; assumption; exact rfl) | (apply Blk.be; assumption) | (apply Rd.be; assumption) | (apply Own.be; assumption) | (apply Blk.bm; assumption; focus (first | assumption | (simp only [List.mem_cons, List.not_mem_nil, or_false]; omega))) | (apply Rd.bm; assumption; focus assumption) | (apply Own.bm; assumption; focus assumption))); done)) (by first | decide | (simp; done) | (simp; omega)) ?_; intro w5 m5 s5 k5
 have hx5 := hx4.mod m5 (by simpa using hxb)
 have hz5 := hz4.mod m5 (by simpa using hzb)
 have hg5 := hg4.mod m5 (by simp; omega)
 have hy5 := k4.mod m5 (by simpa using hyb)
 refine ⟨⟨hx5, hz5, hg5⟩, ?_⟩
 refine TH_nilCheck 12 rfl (by kernel_rfl) (by kernel_rfl) (by kernel_rfl) rfl rfl ?_
 refine TH_fieldAddr 13 TE rfl (by kernel_rfl) (by kernel_rfl) (by kernel_rfl) rfl rfl rfl rfl rfl rfl ?_
 refine TH_store 14 TE rfl (by kernel_rfl) rfl rfl rfl rfl (by focus ((repeat (first | assumption | (apply Own.rd; assumption) | (apply Rd.blk; assumption; exact rfl) | (apply Blk.be; assumption) | (apply Rd.be; assumption) | (apply Own.be; assumption) | (apply Blk.bm; assumption; focus (first | assumption | (simp only [List.mem_cons, List.not_mem_nil, or_false]; omega))) | (apply Rd.bm; assumption; focus assumption) | (apply Own.bm; assumption; focus assumption))); done)) (by first | decide | (simp; done) | (simp; omega)) ?_; intro w6 m6 s6 k6
 have hx6 := hx5.mod m6 (by simpa using hxb)
 have hz6 := hz5.mod m6 (by simpa using hzb)
 have hg6 := hg5.mod m6 (by simp; omega)
 have hy6 := hy5.mod m6 (by simpa using hyb)
 refine ⟨⟨hx6, hz6, hg6⟩, ?_⟩
 refine TH_nilCheck 15 rfl (by kernel_rfl) (by kernel_rfl) (by kernel_rfl) rfl rfl ?_
 refine TH_fieldAddr 16 TE rfl (by kernel_rfl) (by kernel_rfl) (by kernel_rfl) rfl rfl rfl rfl rfl rfl ?_
 refine TH_store 17 TE rfl (by kernel_rfl) rfl rfl rfl rfl (by focus ((repeat (first | assumption | (apply Own.rd; assumption) | (apply Rd.blk; assumption; exact rfl) | (apply Blk.be; assumption) | (apply Rd.be; assumption) | (apply Own.be; assumption) | (apply Blk.bm; assumption; focus (first | assumption | (simp only [List.mem_cons, List.not_mem_nil, or_false]; omega))) | (apply Rd.bm; assumption; focus assumption) | (apply Own.bm; assumption; focus assumption))); done)) (by first | decide | (simp; done) | (simp; omega)) ?_; intro w7 m7 s7 k7
 have hx7 := hx6.mod m7 (by simpa using hxb)
 have hz7 := hz6.mod m7 (by simpa using hzb)
 have hg7 := hg6.mod m7 (by simp; omega)
 have hy7 := hy6.mod m7 (by simpa using hyb)
 refine ⟨⟨hx7, hz7, hg7⟩, ?_⟩
 refine TH_done (by kernel_rfl) ?_
 have hm : Mod [y, b] w w7 := by
  have a1 : Mod [y, b] w w3 := Ext.mod (Mod.ext e2 e3)
  have a2 := a1.step m4 (fun q hq => .inl (by simp only [List.mem_cons, List.not_mem_nil, or_false] at hq ⊢; omega))
  have a3 := a2.step m5 (fun q hq => .inl (by simp only [List.mem_cons, List.not_mem_nil, or_false] at hq ⊢; omega))
  have a4 := a3.step m6 (fun q hq => .inl (by simp only [List.mem_cons, List.not_mem_nil, or_false] at hq ⊢; omega))
  exact a4.step m7 (fun q hq => .inl (by simp only [List.mem_cons, List.not_mem_nil, or_false] at hq ⊢; omega))
 refine T_end0' rfl ⟨rfl, hm, ⟨k7, Rd.mod0 hr hm ?_, ho, hl, hp, hla, hbig, hcap⟩, hy7⟩
 intro hn0 ad ea hq
 simp only [List.mem_cons, List.not_mem_nil, or_false] at hq
 rcases hq with hq | hq
 ·exact hyA hn0 ad ea (by simpa using hq)
 ·exact ho ad ea (by simpa using hq)
theorem rd_int64 {α : Type} (b : Nat) (s : RS) (A : Option Addr) (n c : Nat) (w : World) (g : Nat) (fst cap : List Value) (V : α → Value) (z0 : α) (hV : V z0 = .int .i64 0) (hV1 : ∀ x, (V x).oneCell' = true) (t : List UInt8 → Except Int (α × Nat)) (hE : TE.fn g = true) (h : Rdr w 218 b s A n c)
  (hc : ∀ w', Ext w w' → Calls Tryz.prog g (fst ++ cap).toArray w' (Took w' b s A n c V (t (s.b.drop s.pos)))) :
  Ret Tryz.prog 208 [ptr b, .func (.func g) fst.toArray cap.toArray] w (fun v w' => v = V (s.take z0 t).1 ∧ Mod [b] w w' ∧ Rdr w' 218 b (s.take z0 t).2 A n c) := by
 have h0 := h
 obtain ⟨hb, hr, ho, hl, hpp, hla, hbig, hcap⟩ := h
 refine ret_T (n := 28) Tryz.func208 rfl rfl ?_
 repeat (first | refine T_seq ?_ | refine T_region ?_)
 refine TL_box (hk := ?_); intro x1 w1 e1 g1 g1' k1
 --
 refine TL_alloc TE (hk := ?_); intro x2 w2 e2 g2 g2' k2
 have e02 : Ext w w2 := e1.ext e2
 have hb2 := hb.be e02
 have k12 : Blk w2 x1 _ [ptr b] := k1.be e2
 have k22 : Blk w2 x2 _ [.int .i64 0] := k2
 have lb := hb.lt
 have ls1 := e1.size
 by_cases he : s.err = 0
 ·rw [he] at hb2
  repeat (first | refine T_seq ?_ | refine T_region ?_ | refine T_cond_false rfl ?_ | refine T_skip ?_ | refine TL_ne_f (hk := ?_) | refine TL_pnil_f TE (hk := ?_) | refine TL_nil ?_ | refine TL_move (hk := ?_) | refine TL_load TE (hk := ?_) | refine TL_fieldAddr TE (hk := ?_) | refine TL_yes (hk := ?_) | refine TL_pick_f (hk := ?_) | refine TL_nilCheck (hk := ?_))
  refine TL_alloc TE (hk := ?_); intro x3 w3 e3 g3 g3' k3
  --
  refine TL_store TE (hk := ?_); intro w4 m4 s4 k4
  have e34 : Ext w2 w4 := Mod.step e3 m4 (fun y hy => .inr (by simp only [List.mem_singleton] at hy; omega))
  have e04 : Ext w w4 := e02.ext e34
  have k14 := k12.be e34
  have k24 := k22.be e34
  have k34 : Blk w4 x3 _ [.int .i64 (s.pos : Int)] := k4
  have hc4 := hc w4 e04
  have l12 : x1 < x2 := by omega
  have ls2 := e2.size
  have l23 : x2 < x3 := by omega
  repeat (first | refine T_seq ?_ | refine T_region ?_ | refine TL_nil ?_ | refine TL_makeFunc (hk := ?_))
  refine TL_defer rfl rfl rfl ?_
  repeat (first | refine T_seq ?_ | refine T_region ?_ | refine TL_nil ?_ | refine TL_move (hk := ?_))
  refine TL_callc TE (fst := fst) (cap := cap) (vs := []) rfl rfl hE rfl (by simpa using hc4) ?_ ?_ (fun _ h => h)
  ·rintro _ w5 ⟨x, k, hx, rfl, m5, h5⟩
   rw [take_ok he hx]
   have k15 := k14.mod m5 (by simp; omega)
   have k25 := k24.mod m5 (by simp; omega)
   have k35 := k34.mod m5 (by simp; omega)
   obtain ⟨hb5, hr5, _, _, hp5, _, _, _⟩ := h5
   simp only at hb5 hr5 hp5
   refine TL_store TE rfl rfl (hV1 x) rfl (by exact k25) (by decide) (hk := ?_); intro w6 m6 s6 k6
   have k16 := k15.mod m6 (by simp; omega)
   have k36 := k35.mod m6 (by simp; omega)
   have hb6 := hb5.mod m6 (by simp; omega)
   have hr6 := Rd.mod0 hr5 m6 (Rd.offNew hr (by omega))
   repeat (first | refine T_seq ?_ | refine T_region ?_ | refine TL_nil ?_ | refine TL_load TE (hk := ?_) | refine TL_fieldAddr TE (hk := ?_) | refine TL_nilCheck (hk := ?_))
   refine TL_store TE (hk := ?_); intro w7 m7 s7 k7
   have k17 := k16.mod m7 (by simp; omega)
   have k37 := k36.mod m7 (by simp; omega)
   have k27 : Blk w7 x2 _ [V x] := k6.mod m7 (by simp; omega)
   have hr7 := hr6.mod m7 ho
   repeat (first | refine T_seq ?_ | refine T_region ?_ | refine TL_nil ?_ | refine TL_load TE (hk := ?_))
   refine TL_store TE rfl rfl (hV1 x) rfl (by exact k27) (by simp) (hk := ?_); intro w8 m8 s8 k8
   have hb8 := k7.mod m8 (by simp; omega)
   have hr8 := Rd.mod0 hr7 m8 (Rd.offNew hr (by omega))
   have hm : Mod [b] w w8 := by
    have a1 : Mod [b] w w5 := (Ext.mod e04).trans m5
    have a2 := a1.step m6 (fun q hq => .inr (by simp only [List.mem_singleton] at hq; omega))
    have a3 := a2.trans m7
    exact a3.step m8 (fun q hq => .inr (by simp only [List.mem_singleton] at hq; omega))
   repeat (refine TL_nil ?_)
   refine T_leave ?_
   refine LV_defer TE (args := []) (cap := [ptr x3, ptr x2, ptr x1]) rfl (by simp) (rdd0_int64 w8 x3 x2 x1) ?_ ?_ ?_
   ·rintro v u' w9 ⟨rfl, hv, rfl⟩
    refine LV_ret rfl (res1c TE rfl rfl rfl rfl k8 rfl) ?_
    exact ⟨rfl, hm, ⟨hb8, hr8, ho, hl, hp5, hpp, hbig, hcap⟩⟩
   ·rintro ch u' w9 ⟨_, hv, _⟩; cases hv
   ·rintro u' w9 ⟨_, hv, _⟩; cases hv
  ·rintro ch w5 ⟨e, p, hx, rfl, m5, h5⟩
   rw [take_err he hx]
   have k15 := k14.mod m5 (by simp; omega)
   have k25 := k24.mod m5 (by simp; omega)
   have k35 := k34.mod m5 (by simp; omega)
   refine LV_defer TE (args := []) (cap := [ptr x3, ptr x2, ptr x1]) rfl (by simp) (rdd1_int64 b _ A n c e w5 x3 x2 x1 _ _ _ s.pos _ h5 k35 k25 k15 (by omega) (by omega) (by omega) (by omega) (by omega) (Rd.offNew hr (by omega)) hpp) ?_ ?_ ?_
   ·rintro v u' w9 ⟨rfl, hv, m9, h9, k9⟩
    refine LV_ret rfl (res1c TE rfl rfl rfl rfl k9 rfl) ?_
    refine ⟨hV.symm, ?_, h9⟩
    exact ((Ext.mod e04).trans m5).step m9 (fun q hq => by simp only [List.mem_cons, List.not_mem_nil, or_false] at hq ⊢; omega)
   ·rintro ch u' w9 ⟨_, hv, _⟩; cases hv
   ·rintro u' w9 ⟨_, hv, _⟩; cases hv
 ·have hs0 : s.take z0 t = (z0, s) := by unfold RS.take; rw [if_neg he]
  rw [hs0]
  repeat (first | refine T_seq ?_ | refine T_region ?_ | refine T_cond_true rfl ?_ | refine TL_ne_t (hk := ?_) | refine TL_pnil_f TE (hk := ?_) | refine TL_nil ?_ | refine TL_move (hk := ?_) | refine TL_load TE (hk := ?_) | refine TL_fieldAddr TE (hk := ?_) | refine TL_yes (hk := ?_) | refine TL_pick_f (hk := ?_) | refine TL_nilCheck (hk := ?_))
  refine TL_store TE (hk := ?_); intro w3 m3 s3 k3
  have hm : Ext w w3 := Mod.step e02 m3 (fun y hy => .inr (by simp only [List.mem_singleton] at hy; omega))
  repeat (refine TL_nil ?_)
  exact T_ret1c TE rfl rfl rfl rfl k3 rfl ⟨hV.symm, Ext.mod hm, h0.ext hm⟩
theorem rdd0_string (w : World) (x y z : Nat) : CallsD Tryz.prog 196 #[ptr x, ptr y, ptr z] .returning w (fun e u w' => u = .returning ∧ e = .returned (.tuple #[]) ∧ w' = w) := by
 refine callsD_recover (n := 32) (args := [ptr x, ptr y, ptr z]) (st := params 0 [ptr x, ptr y, ptr z]) Tryz.func196 rfl rfl (st_params _ _ 0) rfl (.inl ⟨rfl, rfl, rfl⟩) ?_
 repeat (first | refine T_seq ?_ | refine T_region ?_ | refine T_cond_false rfl ?_ | refine T_skip ?_ | refine TL_ine_f TE (hk := ?_) | refine TL_nil ?_ | refine TL_move (hk := ?_) | refine TL_assign (hk := ?_))
 refine T_end0' rfl ⟨rfl, rfl⟩
theorem rdd1_string (b : Nat) (s : RS) (A : Option Addr) (n c : Nat) (e : Int) (w : World) (x y z : Nat) (tx ty tz : TypeId) (p : Nat) (v0 : Value) (h : Rdr w 218 b s A n c) (hx : Blk w x tx [.int .i64 (p : Int)]) (hy : Blk w y ty [v0]) (hz : Blk w z tz [ptr b])
  (hyb : y ≠ b) (hxb : x ≠ b) (hzb : z ≠ b) (hxy : x ≠ y) (hzy : z ≠ y) (hyA : 0 < n → Off A [y]) (hp : p ≤ n) :
  CallsD Tryz.prog 196 #[ptr x, ptr y, ptr z] (.panicking (gave e)) w (fun e' u w' => u = .panicking [{ v := .iface 223 (.agg #[.int .i64 e]), recovered := true }] ∧ e' = .returned (.tuple #[]) ∧ Mod [y, b] w w' ∧ Rdr w' 218 b { s with pos := p, err := e, spot := p } A n c ∧ Blk w' y ty [.string ⟨#[]⟩]) := by
 refine callsD_recover (n := 32) (args := [ptr x, ptr y, ptr z]) (st := params 0 [ptr x, ptr y, ptr z]) Tryz.func196 rfl rfl (st_params _ _ 0) rfl (.inr ⟨_, _, rfl, rfl, rfl⟩) ?_
 obtain ⟨hb, hr, ho, hl, hpp, hla, hbig, hcap⟩ := h
 repeat (first | refine T_seq ?_ | refine T_region ?_ | refine T_cond_true rfl ?_ | refine TL_ine_t TE (hk := ?_) | refine TL_nil ?_ | refine TL_move (hk := ?_) | refine TL_assign (hk := ?_) | refine TL_extract (hk := ?_) | refine TL_assert_t TE (hk := ?_))
 refine TL_alloc TE (hk := ?_); intro g w1 e1 g1 g2 kg
 --
 refine TL_store1 TE rfl rfl rfl rfl rfl (by exact kg) (by decide) (hk := ?_); intro w2 m2 s2 k2
 have e2 : Ext w w2 := Mod.step e1 m2 (fun y hy => .inr (by simp only [List.mem_singleton] at hy; omega))
 repeat (first | refine T_seq ?_ | refine T_region ?_ | refine T_cond_false rfl ?_ | refine T_skip ?_ | refine TL_nil ?_ | refine TL_move (hk := ?_) | refine TL_assign (hk := ?_) | refine TL_not (hk := ?_))
 have hxl := hx.be e2
 have hzl := hz.be e2
 have hyl := hy.be e2
 have hbl := hb.be e2
 refine T_region_h TE (fun w' => Blk w' x tx [.int .i64 (p : Int)] ∧ Blk w' z tz [ptr b] ∧ Blk w' g 223 [.int .i64 e]) (fun w3 e3 s3 => ⟨⟨hxl.be e3, hzl.be e3, k2.be e3⟩, ?_⟩)
 have hx3 := hxl.be e3
 have hz3 := hzl.be e3
 have hy3 := hyl.be e3
 have hb3 := hbl.be e3
 have hg3 := k2.be e3
 refine TH_load 0 TE rfl (by kernel_rfl) (by kernel_rfl) (by kernel_rfl) rfl rfl rfl rfl (by rintro w' ⟨h1, h2, h3⟩; first | exact h1 | exact h2 | exact h3) (by exact rfl) ?_; refine TH_load 1 TE rfl (by kernel_rfl) (by kernel_rfl) (by kernel_rfl) rfl rfl rfl rfl (by rintro w' ⟨h1, h2, h3⟩; first | exact h1 | exact h2 | exact h3) (by exact rfl) ?_; refine TH_load 2 TE rfl (by kernel_rfl) (by kernel_rfl) (by kernel_rfl) rfl rfl rfl rfl (by rintro w' ⟨h1, h2, h3⟩; first | exact h1 | exact h2 | exact h3) (by exact rfl) ?_
 refine TH_move 3 rfl (by kernel_rfl) (by kernel_rfl) (by kernel_rfl) rfl rfl ?_
 refine TH_load 4 TE rfl (by kernel_rfl) (by kernel_rfl) (by kernel_rfl) rfl rfl rfl rfl (by rintro w' ⟨h1, h2, h3⟩; first | exact h1 | exact h2 | exact h3) (by exact rfl) ?_
 refine TH_fieldAddr 5 TE rfl (by kernel_rfl) (by kernel_rfl) (by kernel_rfl) rfl rfl rfl rfl rfl rfl ?_
 refine TH_load 6 TE rfl (by kernel_rfl) (by kernel_rfl) (by kernel_rfl) rfl rfl rfl rfl (by rintro w' ⟨h1, h2, h3⟩; first | exact h1 | exact h2 | exact h3) (by exact rfl) ?_; refine TH_load 7 TE rfl (by kernel_rfl) (by kernel_rfl) (by kernel_rfl) rfl rfl rfl rfl (by rintro w' ⟨h1, h2, h3⟩; first | exact h1 | exact h2 | exact h3) (by exact rfl) ?_
 have yg : y < g := Nat.lt_of_lt_of_le hy.lt g1
 have bg : b < g := Nat.lt_of_lt_of_le hb.lt g1
 refine TH_store 8 TE rfl (by kernel_rfl) rfl rfl rfl rfl (by focus ((repeat (first | assumption | (apply Own.rd; assumption) | (apply Rd.blk; assumption; exact rfl) | (apply Blk.be; assumption) | (apply Rd.be; assumption) | (apply Own.be; assumption) | (apply Blk.bm; assumption; focus (first | assumption | (simp only [List.mem_cons, List.not_mem_nil, or_false]; omega))) | (apply Rd.bm; assumption; focus assumption) | (apply Own.bm; assumption; focus assumption))); done)) (by first | decide | (simp; done) | (simp; omega)) ?_; intro w4 m4 s4 k4
 have hx4 := hx3.mod m4 (by simpa using hxy)
 have hz4 := hz3.mod m4 (by simpa using hzy)
 have hg4 := hg3.mod m4 (by simp; omega)
 have hb4 := hb3.mod m4 (by simpa using Ne.symm hyb)
 refine ⟨⟨hx4, hz4, hg4⟩, ?_⟩
 refine TH_nilCheck 9 rfl (by kernel_rfl) (by kernel_rfl) (by kernel_rfl) rfl rfl ?_
 refine TH_fieldAddr 10 TE rfl (by kernel_rfl) (by kernel_rfl) (by kernel_rfl) rfl rfl rfl rfl rfl rfl ?_
 refine TH_store 11 TE rfl (by kernel_rfl) rfl rfl rfl rfl (by focus ((repeat (first | assumption | (apply Own.rd; assumption) | (apply Rd.blk; assumption; exact rfl) | (apply Blk.be; assumption) | (apply Rd.be; assumption) | (apply Own.be; assumption) | (apply Blk.bm; assumption; focus (first | assumption | (simp only [List.mem_cons, List.not_mem_nil, or_false]; omega))) | (apply Rd.bm; assumption; focus assumption) | (apply Own.bm; assumption; focus assumption))); done)) (by first | decide | (simp; done) | (simp; omega)) ?_; intro w5 m5 s5 k5
 have hx5 := hx4.mod m5 (by simpa using hxb)
 have hz5 := hz4.mod m5 (by simpa using hzb)
 have hg5 := hg4.mod m5 (by simp; omega)
 have hy5 := k4.mod m5 (by simpa using hyb)
 refine ⟨⟨hx5, hz5, hg5⟩, ?_⟩
 refine TH_nilCheck 12 rfl (by kernel_rfl) (by kernel_rfl) (by kernel_rfl) rfl rfl ?_
 refine TH_fieldAddr 13 TE rfl (by kernel_rfl) (by kernel_rfl) (by kernel_rfl) rfl rfl rfl rfl rfl rfl ?_
 refine TH_store 14 TE rfl (by kernel_rfl) rfl rfl rfl rfl (by focus ((repeat (first | assumption | (apply Own.rd; assumption) | (apply Rd.blk; assumption; exact rfl) | (apply Blk.be; assumption) | (apply Rd.be; assumption) | (apply Own.be; assumption) | (apply Blk.bm; assumption; focus (first | assumption | (simp only [List.mem_cons, List.not_mem_nil, or_false]; omega))) | (apply Rd.bm; assumption; focus assumption) | (apply Own.bm; assumption; focus assumption))); done)) (by first | decide | (simp; done) | (simp; omega)) ?_; intro w6 m6 s6 k6
 have hx6 := hx5.mod m6 (by simpa using hxb)
 have hz6 := hz5.mod m6 (by simpa using hzb)
 have hg6 := hg5.mod m6 (by simp; omega)
 have hy6 := hy5.mod m6 (by simpa using hyb)
 refine ⟨⟨hx6, hz6, hg6⟩, ?_⟩
 refine TH_nilCheck 15 rfl (by kernel_rfl) (by kernel_rfl) (by kernel_rfl) rfl rfl ?_
 refine TH_fieldAddr 16 TE rfl (by kernel_rfl) (by kernel_rfl) (by kernel_rfl) rfl rfl rfl rfl rfl rfl ?_
 refine TH_store 17 TE rfl (by kernel_rfl) rfl rfl rfl rfl (by focus ((repeat (first | assumption | (apply Own.rd; assumption) | (apply Rd.blk; assumption; exact rfl) | (apply Blk.be; assumption) | (apply Rd.be; assumption) | (apply Own.be; assumption) | (apply Blk.bm; assumption; focus (first | assumption | (simp only [List.mem_cons, List.not_mem_nil, or_false]; omega))) | (apply Rd.bm; assumption; focus assumption) | (apply Own.bm; assumption; focus assumption))); done)) (by first | decide | (simp; done) | (simp; omega)) ?_; intro w7 m7 s7 k7
 have hx7 := hx6.mod m7 (by simpa using hxb)
 have hz7 := hz6.mod m7 (by simpa using hzb)
 have hg7 := hg6.mod m7 (by simp; omega)
 have hy7 := hy6.mod m7 (by simpa using hyb)
 refine ⟨⟨hx7, hz7, hg7⟩, ?_⟩
 refine TH_done (by kernel_rfl) ?_
 have hm : Mod [y, b] w w7 := by
  have a1 : Mod [y, b] w w3 := Ext.mod (Mod.ext e2 e3)
  have a2 := a1.step m4 (fun q hq => .inl (by simp only [List.mem_cons, List.not_mem_nil, or_false] at hq ⊢; omega))
  have a3 := a2.step m5 (fun q hq => .inl (by simp only [List.mem_cons, List.not_mem_nil, or_false] at hq ⊢; omega))
  have a4 := a3.step m6 (fun q hq => .inl (by simp only [List.mem_cons, List.not_mem_nil, or_false] at hq ⊢; omega))
  exact a4.step m7 (fun q hq => .inl (by simp only [List.mem_cons, List.not_mem_nil, or_false] at hq ⊢; omega))
 refine T_end0' rfl ⟨rfl, hm, ⟨k7, Rd.mod0 hr hm ?_, ho, hl, hp, hla, hbig, hcap⟩, hy7⟩
 intro hn0 ad ea hq
 simp only [List.mem_cons, List.not_mem_nil, or_false] at hq
 rcases hq with hq | hq
 ·exact hyA hn0 ad ea (by simpa using hq)
 ·exact ho ad ea (by simpa using hq)
theorem rd_string {α : Type} (b : Nat) (s : RS) (A : Option Addr) (n c : Nat) (w : World) (g : Nat) (fst cap : List Value) (V : α → Value) (z0 : α) (hV : V z0 = .string ⟨#[]⟩) (hV1 : ∀ x, (V x).oneCell' = true) (t : List UInt8 → Except Int (α × Nat)) (hE : TE.fn g = true) (h : Rdr w 218 b s A n c)
  (hc : ∀ w', Ext w w' → Calls Tryz.prog g (fst ++ cap).toArray w' (Took w' b s A n c V (t (s.b.drop s.pos)))) :
  Ret Tryz.prog 164 [ptr b, .func (.func g) fst.toArray cap.toArray] w (fun v w' => v = V (s.take z0 t).1 ∧ Mod [b] w w' ∧ Rdr w' 218 b (s.take z0 t).2 A n c) := by
 have h0 := h
 obtain ⟨hb, hr, ho, hl, hpp, hla, hbig, hcap⟩ := h
 refine ret_T (n := 28) Tryz.func164 rfl rfl ?_
 repeat (first | refine T_seq ?_ | refine T_region ?_)
 refine TL_box (hk := ?_); intro x1 w1 e1 g1 g1' k1
 --
 refine TL_alloc TE (hk := ?_); intro x2 w2 e2 g2 g2' k2
 have e02 : Ext w w2 := e1.ext e2
 have hb2 := hb.be e02
 have k12 : Blk w2 x1 _ [ptr b] := k1.be e2
 have k22 : Blk w2 x2 _ [.string ⟨#[]⟩] := k2
 have lb := hb.lt
 have ls1 := e1.size
 by_cases he : s.err = 0
 ·rw [he] at hb2
  repeat (first | refine T_seq ?_ | refine T_region ?_ | refine T_cond_false rfl ?_ | refine T_skip ?_ | refine TL_ne_f (hk := ?_) | refine TL_pnil_f TE (hk := ?_) | refine TL_nil ?_ | refine TL_move (hk := ?_) | refine TL_load TE (hk := ?_) | refine TL_fieldAddr TE (hk := ?_) | refine TL_yes (hk := ?_) | refine TL_pick_f (hk := ?_) | refine TL_nilCheck (hk := ?_))
  refine TL_alloc TE (hk := ?_); intro x3 w3 e3 g3 g3' k3
  --
  refine TL_store TE (hk := ?_); intro w4 m4 s4 k4
  have e34 : Ext w2 w4 := Mod.step e3 m4 (fun y hy => .inr (by simp only [List.mem_singleton] at hy; omega))
  have e04 : Ext w w4 := e02.ext e34
  have k14 := k12.be e34
  have k24 := k22.be e34
  have k34 : Blk w4 x3 _ [.int .i64 (s.pos : Int)] := k4
  have hc4 := hc w4 e04
  have l12 : x1 < x2 := by omega
  have ls2 := e2.size
  have l23 : x2 < x3 := by omega
  repeat (first | refine T_seq ?_ | refine T_region ?_ | refine TL_nil ?_ | refine TL_makeFunc (hk := ?_))
  refine TL_defer rfl rfl rfl ?_
  repeat (first | refine T_seq ?_ | refine T_region ?_ | refine TL_nil ?_ | refine TL_move (hk := ?_))
  refine TL_callc TE (fst := fst) (cap := cap) (vs := []) rfl rfl hE rfl (by simpa using hc4) ?_ ?_ (fun _ h => h)
  ·rintro _ w5 ⟨x, k, hx, rfl, m5, h5⟩
   rw [take_ok he hx]
   have k15 := k14.mod m5 (by simp; omega)
   have k25 := k24.mod m5 (by simp; omega)
   have k35 := k34.mod m5 (by simp; omega)
   obtain ⟨hb5, hr5, _, _, hp5, _, _, _⟩ := h5
   simp only at hb5 hr5 hp5
   refine TL_store TE rfl rfl (hV1 x) rfl (by exact k25) (by decide) (hk := ?_); intro w6 m6 s6 k6
   have k16 := k15.mod m6 (by simp; omega)
   have k36 := k35.mod m6 (by simp; omega)
   have hb6 := hb5.mod m6 (by simp; omega)
   have hr6 := Rd.mod0 hr5 m6 (Rd.offNew hr (by omega))
   repeat (first | refine T_seq ?_ | refine T_region ?_ | refine TL_nil ?_ | refine TL_load TE (hk := ?_) | refine TL_fieldAddr TE (hk := ?_) | refine TL_nilCheck (hk := ?_))
   refine TL_store TE (hk := ?_); intro w7 m7 s7 k7
   have k17 := k16.mod m7 (by simp; omega)
   have k37 := k36.mod m7 (by simp; omega)
   have k27 : Blk w7 x2 _ [V x] := k6.mod m7 (by simp; omega)
   have hr7 := hr6.mod m7 ho
   repeat (first | refine T_seq ?_ | refine T_region ?_ | refine TL_nil ?_ | refine TL_load TE (hk := ?_))
   refine TL_store TE rfl rfl (hV1 x) rfl (by exact k27) (by simp) (hk := ?_); intro w8 m8 s8 k8
   have hb8 := k7.mod m8 (by simp; omega)
   have hr8 := Rd.mod0 hr7 m8 (Rd.offNew hr (by omega))
   have hm : Mod [b] w w8 := by
    have a1 : Mod [b] w w5 := (Ext.mod e04).trans m5
    have a2 := a1.step m6 (fun q hq => .inr (by simp only [List.mem_singleton] at hq; omega))
    have a3 := a2.trans m7
    exact a3.step m8 (fun q hq => .inr (by simp only [List.mem_singleton] at hq; omega))
   repeat (refine TL_nil ?_)
   refine T_leave ?_
   refine LV_defer TE (args := []) (cap := [ptr x3, ptr x2, ptr x1]) rfl (by simp) (rdd0_string w8 x3 x2 x1) ?_ ?_ ?_
   ·rintro v u' w9 ⟨rfl, hv, rfl⟩
    refine LV_ret rfl (res1c TE rfl rfl rfl rfl k8 rfl) ?_
    exact ⟨rfl, hm, ⟨hb8, hr8, ho, hl, hp5, hpp, hbig, hcap⟩⟩
   ·rintro ch u' w9 ⟨_, hv, _⟩; cases hv
   ·rintro u' w9 ⟨_, hv, _⟩; cases hv
  ·rintro ch w5 ⟨e, p, hx, rfl, m5, h5⟩
   rw [take_err he hx]
   have k15 := k14.mod m5 (by simp; omega)
   have k25 := k24.mod m5 (by simp; omega)
   have k35 := k34.mod m5 (by simp; omega)
   refine LV_defer TE (args := []) (cap := [ptr x3, ptr x2, ptr x1]) rfl (by simp) (rdd1_string b _ A n c e w5 x3 x2 x1 _ _ _ s.pos _ h5 k35 k25 k15 (by omega) (by omega) (by omega) (by omega) (by omega) (Rd.offNew hr (by omega)) hpp) ?_ ?_ ?_
   ·rintro v u' w9 ⟨rfl, hv, m9, h9, k9⟩
    refine LV_ret rfl (res1c TE rfl rfl rfl rfl k9 rfl) ?_
    refine ⟨hV.symm, ?_, h9⟩
    exact ((Ext.mod e04).trans m5).step m9 (fun q hq => by simp only [List.mem_cons, List.not_mem_nil, or_false] at hq ⊢; omega)
   ·rintro ch u' w9 ⟨_, hv, _⟩; cases hv
   ·rintro u' w9 ⟨_, hv, _⟩; cases hv
 ·have hs0 : s.take z0 t = (z0, s) := by unfold RS.take; rw [if_neg he]
  rw [hs0]
  repeat (first | refine T_seq ?_ | refine T_region ?_ | refine T_cond_true rfl ?_ | refine TL_ne_t (hk := ?_) | refine TL_pnil_f TE (hk := ?_) | refine TL_nil ?_ | refine TL_move (hk := ?_) | refine TL_load TE (hk := ?_) | refine TL_fieldAddr TE (hk := ?_) | refine TL_yes (hk := ?_) | refine TL_pick_f (hk := ?_) | refine TL_nilCheck (hk := ?_))
  refine TL_store TE (hk := ?_); intro w3 m3 s3 k3
  have hm : Ext w w3 := Mod.step e02 m3 (fun y hy => .inr (by simp only [List.mem_singleton] at hy; omega))
  repeat (refine TL_nil ?_)
  exact T_ret1c TE rfl rfl rfl rfl k3 rfl ⟨hV.symm, Ext.mod hm, h0.ext hm⟩
theorem rdd0_byte (w : World) (x y z : Nat) : CallsD Tryz.prog 197 #[ptr x, ptr y, ptr z] .returning w (fun e u w' => u = .returning ∧ e = .returned (.tuple #[]) ∧ w' = w) := by
 refine callsD_recover (n := 32) (args := [ptr x, ptr y, ptr z]) (st := params 0 [ptr x, ptr y, ptr z]) Tryz.func197 rfl rfl (st_params _ _ 0) rfl (.inl ⟨rfl, rfl, rfl⟩) ?_
 repeat (first | refine T_seq ?_ | refine T_region ?_ | refine T_cond_false rfl ?_ | refine T_skip ?_ | refine TL_ine_f TE (hk := ?_) | refine TL_nil ?_ | refine TL_move (hk := ?_) | refine TL_assign (hk := ?_))
 refine T_end0' rfl ⟨rfl, rfl⟩
theorem rdd1_byte (b : Nat) (s : RS) (A : Option Addr) (n c : Nat) (e : Int) (w : World) (x y z : Nat) (tx ty tz : TypeId) (p : Nat) (v0 : Value) (h : Rdr w 218 b s A n c) (hx : Blk w x tx [.int .i64 (p : Int)]) (hy : Blk w y ty [v0]) (hz : Blk w z tz [ptr b])
  (hyb : y ≠ b) (hxb : x ≠ b) (hzb : z ≠ b) (hxy : x ≠ y) (hzy : z ≠ y) (hyA : 0 < n → Off A [y]) (hp : p ≤ n) :
  CallsD Tryz.prog 197 #[ptr x, ptr y, ptr z] (.panicking (gave e)) w (fun e' u w' => u = .panicking [{ v := .iface 223 (.agg #[.int .i64 e]), recovered := true }] ∧ e' = .returned (.tuple #[]) ∧ Mod [y, b] w w' ∧ Rdr w' 218 b { s with pos := p, err := e, spot := p } A n c ∧ Blk w' y ty [.int .u8 0]) := by
 refine callsD_recover (n := 32) (args := [ptr x, ptr y, ptr z]) (st := params 0 [ptr x, ptr y, ptr z]) Tryz.func197 rfl rfl (st_params _ _ 0) rfl (.inr ⟨_, _, rfl, rfl, rfl⟩) ?_
 obtain ⟨hb, hr, ho, hl, hpp, hla, hbig, hcap⟩ := h
 repeat (first | refine T_seq ?_ | refine T_region ?_ | refine T_cond_true rfl ?_ | refine TL_ine_t TE (hk := ?_) | refine TL_nil ?_ | refine TL_move (hk := ?_) | refine TL_assign (hk := ?_) | refine TL_extract (hk := ?_) | refine TL_assert_t TE (hk := ?_))
 refine TL_alloc TE (hk := ?_); intro g w1 e1 g1 g2 kg
 --
 refine TL_store1 TE rfl rfl rfl rfl rfl (by exact kg) (by decide) (hk := ?_); intro w2 m2 s2 k2
 have e2 : Ext w w2 := Mod.step e1 m2 (fun y hy => .inr (by simp only [List.mem_singleton] at hy; omega))
 repeat (first | refine T_seq ?_ | refine T_region ?_ | refine T_cond_false rfl ?_ | refine T_skip ?_ | refine TL_nil ?_ | refine TL_move (hk := ?_) | refine TL_assign (hk := ?_) | refine TL_not (hk := ?_))
 have hxl := hx.be e2
 have hzl := hz.be e2
 have hyl := hy.be e2
 have hbl := hb.be e2
 refine T_region_h TE (fun w' => Blk w' x tx [.int .i64 (p : Int)] ∧ Blk w' z tz [ptr b] ∧ Blk w' g 223 [.int .i64 e]) (fun w3 e3 s3 => ⟨⟨hxl.be e3, hzl.be e3, k2.be e3⟩, ?_⟩)
 have hx3 := hxl.be e3
 have hz3 := hzl.be e3
 have hy3 := hyl.be e3
 have hb3 := hbl.be e3
 have hg3 := k2.be e3
 refine TH_load 0 TE rfl (by kernel_rfl) (by kernel_rfl) (by kernel_rfl) rfl rfl rfl rfl (by rintro w' ⟨h1, h2, h3⟩; first | exact h1 | exact h2 | exact h3) (by exact rfl) ?_; refine TH_load 1 TE rfl (by kernel_rfl) (by kernel_rfl) (by kernel_rfl) rfl rfl rfl rfl (by rintro w' ⟨h1, h2, h3⟩; first | exact h1 | exact h2 | exact h3) (by exact rfl) ?_; refine TH_load 2 TE rfl (by kernel_rfl) (by kernel_rfl) (by kernel_rfl) rfl rfl rfl rfl (by rintro w' ⟨h1, h2, h3⟩; first | exact h1 | exact h2 | exact h3) (by exact rfl) ?_
 refine TH_move 3 rfl (by kernel_rfl) (by kernel_rfl) (by kernel_rfl) rfl rfl ?_
 refine TH_load 4 TE rfl (by kernel_rfl) (by kernel_rfl) (by kernel_rfl) rfl rfl rfl rfl (by rintro w' ⟨h1, h2, h3⟩; first | exact h1 | exact h2 | exact h3) (by exact rfl) ?_
 refine TH_fieldAddr 5 TE rfl (by kernel_rfl) (by kernel_rfl) (by kernel_rfl) rfl rfl rfl rfl rfl rfl ?_
 refine TH_load 6 TE rfl (by kernel_rfl) (by kernel_rfl) (by kernel_rfl) rfl rfl rfl rfl (by rintro w' ⟨h1, h2, h3⟩; first | exact h1 | exact h2 | exact h3) (by exact rfl) ?_; refine TH_load 7 TE rfl (by kernel_rfl) (by kernel_rfl) (by kernel_rfl) rfl rfl rfl rfl (by rintro w' ⟨h1, h2, h3⟩; first | exact h1 | exact h2 | exact h3) (by exact rfl) ?_
 have yg : y < g := Nat.lt_of_lt_of_le hy.lt g1
 have bg : b < g := Nat.lt_of_lt_of_le hb.lt g1
 refine TH_store 8 TE rfl (by kernel_rfl) rfl rfl rfl rfl (by focus ((repeat (first | assumption | (apply Own.rd; assumption) | (apply Rd.blk; assumption; exact rfl) | (apply Blk.be; assumption) | (apply Rd.be; assumption) | (apply Own.be; assumption) | (apply Blk.bm; assumption; focus (first | assumption | (simp only [List.mem_cons, List.not_mem_nil, or_false]; omega))) | (apply Rd.bm; assumption; focus assumption) | (apply Own.bm; assumption; focus assumption))); done)) (by first | decide | (simp; done) | (simp; omega)) ?_; intro w4 m4 s4 k4
 have hx4 := hx3.mod m4 (by simpa using hxy)
 have hz4 := hz3.mod m4 (by simpa using hzy)
 have hg4 := hg3.mod m4 (by simp; omega)
 have hb4 := hb3.mod m4 (by simpa using Ne.symm hyb)
 refine ⟨⟨hx4, hz4, hg4⟩, ?_⟩
 refine TH_nilCheck 9 rfl (by kernel_rfl) (by kernel_rfl) (by kernel_rfl) rfl rfl ?_
 refine TH_fieldAddr 10 TE rfl (by kernel_rfl) (by kernel_rfl) (by kernel_rfl) rfl rfl rfl rfl rfl rfl ?_
 refine TH_store 11 TE rfl (by kernel_rfl) rfl rfl rfl rfl (by focus ((repeat (first | assumption | (apply Own.rd; assumption) | (apply Rd.blk; assumption; exact rfl) | (apply Blk.be; assumption) | (apply Rd.be; assumption) | (apply Own.be; assumption) | (apply Blk.bm; assumption; focus (first | assumption | (simp only [List.mem_cons, List.not_mem_nil, or_false]; omega))) | (apply Rd.bm; assumption; focus assumption) | (apply Own.bm; assumption; focus assumption))); done)) (by first | decide | (simp; done) | (simp; omega)) ?_; intro w5 m5 s5 k5
 have hx5 := hx4.mod m5 (by simpa using hxb)
 have hz5 := hz4.mod m5 (by simpa using hzb)
 have hg5 := hg4.mod m5 (by simp; omega)
 have hy5 := k4.mod m5 (by simpa using hyb)
 refine ⟨⟨hx5, hz5, hg5⟩, ?_⟩
 refine TH_nilCheck 12 rfl (by kernel_rfl) (by kernel_rfl) (by kernel_rfl) rfl rfl ?_
 refine TH_fieldAddr 13 TE rfl (by kernel_rfl) (by kernel_rfl) (by kernel_rfl) rfl rfl rfl rfl rfl rfl ?_
 refine TH_store 14 TE rfl (by kernel_rfl) rfl rfl rfl rfl (by focus ((repeat (first | assumption | (apply Own.rd; assumption) | (apply Rd.blk; assumption; exact rfl) | (apply Blk.be; assumption) | (apply Rd.be; assumption) | (apply Own.be; assumption) | (apply Blk.bm; assumption; focus (first | assumption | (simp only [List.mem_cons, List.not_mem_nil, or_false]; omega))) | (apply Rd.bm; assumption; focus assumption) | (apply Own.bm; assumption; focus assumption))); done)) (by first | decide | (simp; done) | (simp; omega)) ?_; intro w6 m6 s6 k6
 have hx6 := hx5.mod m6 (by simpa using hxb)
 have hz6 := hz5.mod m6 (by simpa using hzb)
 have hg6 := hg5.mod m6 (by simp; omega)
 have hy6 := hy5.mod m6 (by simpa using hyb)
 refine ⟨⟨hx6, hz6, hg6⟩, ?_⟩
 refine TH_nilCheck 15 rfl (by kernel_rfl) (by kernel_rfl) (by kernel_rfl) rfl rfl ?_
 refine TH_fieldAddr 16 TE rfl (by kernel_rfl) (by kernel_rfl) (by kernel_rfl) rfl rfl rfl rfl rfl rfl ?_
 refine TH_store 17 TE rfl (by kernel_rfl) rfl rfl rfl rfl (by focus ((repeat (first | assumption | (apply Own.rd; assumption) | (apply Rd.blk; assumption; exact rfl) | (apply Blk.be; assumption) | (apply Rd.be; assumption) | (apply Own.be; assumption) | (apply Blk.bm; assumption; focus (first | assumption | (simp only [List.mem_cons, List.not_mem_nil, or_false]; omega))) | (apply Rd.bm; assumption; focus assumption) | (apply Own.bm; assumption; focus assumption))); done)) (by first | decide | (simp; done) | (simp; omega)) ?_; intro w7 m7 s7 k7
 have hx7 := hx6.mod m7 (by simpa using hxb)
 have hz7 := hz6.mod m7 (by simpa using hzb)
 have hg7 := hg6.mod m7 (by simp; omega)
 have hy7 := hy6.mod m7 (by simpa using hyb)
 refine ⟨⟨hx7, hz7, hg7⟩, ?_⟩
 refine TH_done (by kernel_rfl) ?_
 have hm : Mod [y, b] w w7 := by
  have a1 : Mod [y, b] w w3 := Ext.mod (Mod.ext e2 e3)
  have a2 := a1.step m4 (fun q hq => .inl (by simp only [List.mem_cons, List.not_mem_nil, or_false] at hq ⊢; omega))
  have a3 := a2.step m5 (fun q hq => .inl (by simp only [List.mem_cons, List.not_mem_nil, or_false] at hq ⊢; omega))
  have a4 := a3.step m6 (fun q hq => .inl (by simp only [List.mem_cons, List.not_mem_nil, or_false] at hq ⊢; omega))
  exact a4.step m7 (fun q hq => .inl (by simp only [List.mem_cons, List.not_mem_nil, or_false] at hq ⊢; omega))
 refine T_end0' rfl ⟨rfl, hm, ⟨k7, Rd.mod0 hr hm ?_, ho, hl, hp, hla, hbig, hcap⟩, hy7⟩
 intro hn0 ad ea hq
 simp only [List.mem_cons, List.not_mem_nil, or_false] at hq
 rcases hq with hq | hq
 ·exact hyA hn0 ad ea (by simpa using hq)
 ·exact ho ad ea (by simpa using hq)
theorem rd_byte {α : Type} (b : Nat) (s : RS) (A : Option Addr) (n c : Nat) (w : World) (g : Nat) (fst cap : List Value) (V : α → Value) (z0 : α) (hV : V z0 = .int .u8 0) (hV1 : ∀ x, (V x).oneCell' = true) (t : List UInt8 → Except Int (α × Nat)) (hE : TE.fn g = true) (h : Rdr w 218 b s A n c)
  (hc : ∀ w', Ext w w' → Calls Tryz.prog g (fst ++ cap).toArray w' (Took w' b s A n c V (t (s.b.drop s.pos)))) :
  Ret Tryz.prog 167 [ptr b, .func (.func g) fst.toArray cap.toArray] w (fun v w' => v = V (s.take z0 t).1 ∧ Mod [b] w w' ∧ Rdr w' 218 b (s.take z0 t).2 A n c) := by
 have h0 := h
 obtain ⟨hb, hr, ho, hl, hpp, hla, hbig, hcap⟩ := h
 refine ret_T (n := 28) Tryz.func167 rfl rfl ?_
 repeat (first | refine T_seq ?_ | refine T_region ?_)
 refine TL_box (hk := ?_); intro x1 w1 e1 g1 g1' k1
 --
 refine TL_alloc TE (hk := ?_); intro x2 w2 e2 g2 g2' k2
 have e02 : Ext w w2 := e1.ext e2
 have hb2 := hb.be e02
 have k12 : Blk w2 x1 _ [ptr b] := k1.be e2
 have k22 : Blk w2 x2 _ [.int .u8 0] := k2
 have lb := hb.lt
 have ls1 := e1.size
 by_cases he : s.err = 0
 ·rw [he] at hb2
  repeat (first | refine T_seq ?_ | refine T_region ?_ | refine T_cond_false rfl ?_ | refine T_skip ?_ | refine TL_ne_f (hk := ?_) | refine TL_pnil_f TE (hk := ?_) | refine TL_nil ?_ | refine TL_move (hk := ?_) | refine TL_load TE (hk := ?_) | refine TL_fieldAddr TE (hk := ?_) | refine TL_yes (hk := ?_) | refine TL_pick_f (hk := ?_) | refine TL_nilCheck (hk := ?_))
  refine TL_alloc TE (hk := ?_); intro x3 w3 e3 g3 g3' k3
  --
  refine TL_store TE (hk := ?_); intro w4 m4 s4 k4
  have e34 : Ext w2 w4 := Mod.step e3 m4 (fun y hy => .inr (by simp only [List.mem_singleton] at hy; omega))
  have e04 : Ext w w4 := e02.ext e34
  have k14 := k12.be e34
  have k24 := k22.be e34
  have k34 : Blk w4 x3 _ [.int .i64 (s.pos : Int)] := k4
  have hc4 := hc w4 e04
  have l12 : x1 < x2 := by omega
  have ls2 := e2.size
  have l23 : x2 < x3 := by omega
  repeat (first | refine T_seq ?_ | refine T_region ?_ | refine TL_nil ?_ | refine TL_makeFunc (hk := ?_))
  refine TL_defer rfl rfl rfl ?_
  repeat (first | refine T_seq ?_ | refine T_region ?_ | refine TL_nil ?_ | refine TL_move (hk := ?_))
  refine TL_callc TE (fst := fst) (cap := cap) (vs := []) rfl rfl hE rfl (by simpa using hc4) ?_ ?_ (fun _ h => h)
  ·rintro _ w5 ⟨x, k, hx, rfl, m5, h5⟩
   rw [take_ok he hx]
   have k15 := k14.mod m5 (by simp; omega)
   have k25 := k24.mod m5 (by simp; omega)
   have k35 := k34.mod m5 (by simp; omega)
   obtain ⟨hb5, hr5, _, _, hp5, _, _, _⟩ := h5
   simp only at hb5 hr5 hp5
   refine TL_store TE rfl rfl (hV1 x) rfl (by exact k25) (by decide) (hk := ?_); intro w6 m6 s6 k6
   have k16 := k15.mod m6 (by simp; omega)
   have k36 := k35.mod m6 (by simp; omega)
   have hb6 := hb5.mod m6 (by simp; omega)
   have hr6 := Rd.mod0 hr5 m6 (Rd.offNew hr (by omega))
   repeat (first | refine T_seq ?_ | refine T_region ?_ | refine TL_nil ?_ | refine TL_load TE (hk := ?_) | refine TL_fieldAddr TE (hk := ?_) | refine TL_nilCheck (hk := ?_))
   refine TL_store TE (hk := ?_); intro w7 m7 s7 k7
   have k17 := k16.mod m7 (by simp; omega)
   have k37 := k36.mod m7 (by simp; omega)
   have k27 : Blk w7 x2 _ [V x] := k6.mod m7 (by simp; omega)
   have hr7 := hr6.mod m7 ho
   repeat (first | refine T_seq ?_ | refine T_region ?_ | refine TL_nil ?_ | refine TL_load TE (hk := ?_))
   refine TL_store TE rfl rfl (hV1 x) rfl (by exact k27) (by simp) (hk := ?_); intro w8 m8 s8 k8
   have hb8 := k7.mod m8 (by simp; omega)
   have hr8 := Rd.mod0 hr7 m8 (Rd.offNew hr (by omega))
   have hm : Mod [b] w w8 := by
    have a1 : Mod [b] w w5 := (Ext.mod e04).trans m5
    have a2 := a1.step m6 (fun q hq => .inr (by simp only [List.mem_singleton] at hq; omega))
    have a3 := a2.trans m7
    exact a3.step m8 (fun q hq => .inr (by simp only [List.mem_singleton] at hq; omega))
   repeat (refine TL_nil ?_)
   refine T_leave ?_
   refine LV_defer TE (args := []) (cap := [ptr x3, ptr x2, ptr x1]) rfl (by simp) (rdd0_byte w8 x3 x2 x1) ?_ ?_ ?_
   ·rintro v u' w9 ⟨rfl, hv, rfl⟩
    refine LV_ret rfl (res1c TE rfl rfl rfl rfl k8 rfl) ?_
    exact ⟨rfl, hm, ⟨hb8, hr8, ho, hl, hp5, hpp, hbig, hcap⟩⟩
   ·rintro ch u' w9 ⟨_, hv, _⟩; cases hv
   ·rintro u' w9 ⟨_, hv, _⟩; cases hv
  ·rintro ch w5 ⟨e, p, hx, rfl, m5, h5⟩
   rw [take_err he hx]
   have k15 := k14.mod m5 (by simp; omega)
   have k25 := k24.mod m5 (by simp; omega)
   have k35 := k34.mod m5 (by simp; omega)
   refine LV_defer TE (args := []) (cap := [ptr x3, ptr x2, ptr x1]) rfl (by simp) (rdd1_byte b _ A n c e w5 x3 x2 x1 _ _ _ s.pos _ h5 k35 k25 k15 (by omega) (by omega) (by omega) (by omega) (by omega) (Rd.offNew hr (by omega)) hpp) ?_ ?_ ?_
   ·rintro v u' w9 ⟨rfl, hv, m9, h9, k9⟩
    refine LV_ret rfl (res1c TE rfl rfl rfl rfl k9 rfl) ?_
    refine ⟨hV.symm, ?_, h9⟩
    exact ((Ext.mod e04).trans m5).step m9 (fun q hq => by simp only [List.mem_cons, List.not_mem_nil, or_false] at hq ⊢; omega)
   ·rintro ch u' w9 ⟨_, hv, _⟩; cases hv
   ·rintro u' w9 ⟨_, hv, _⟩; cases hv
 ·have hs0 : s.take z0 t = (z0, s) := by unfold RS.take; rw [if_neg he]
  rw [hs0]
  repeat (first | refine T_seq ?_ | refine T_region ?_ | refine T_cond_true rfl ?_ | refine TL_ne_t (hk := ?_) | refine TL_pnil_f TE (hk := ?_) | refine TL_nil ?_ | refine TL_move (hk := ?_) | refine TL_load TE (hk := ?_) | refine TL_fieldAddr TE (hk := ?_) | refine TL_yes (hk := ?_) | refine TL_pick_f (hk := ?_) | refine TL_nilCheck (hk := ?_))
  refine TL_store TE (hk := ?_); intro w3 m3 s3 k3
  have hm : Ext w w3 := Mod.step e02 m3 (fun y hy => .inr (by simp only [List.mem_singleton] at hy; omega))
  repeat (refine TL_nil ?_)
  exact T_ret1c TE rfl rfl rfl rfl k3 rfl ⟨hV.symm, Ext.mod hm, h0.ext hm⟩
theorem rdd0_int (w : World) (x y z : Nat) : CallsD Tryz.prog 203 #[ptr x, ptr y, ptr z] .returning w (fun e u w' => u = .returning ∧ e = .returned (.tuple #[]) ∧ w' = w) := by
 refine callsD_recover (n := 32) (args := [ptr x, ptr y, ptr z]) (st := params 0 [ptr x, ptr y, ptr z]) Tryz.func203 rfl rfl (st_params _ _ 0) rfl (.inl ⟨rfl, rfl, rfl⟩) ?_
 repeat (first | refine T_seq ?_ | refine T_region ?_ | refine T_cond_false rfl ?_ | refine T_skip ?_ | refine TL_ine_f TE (hk := ?_) | refine TL_nil ?_ | refine TL_move (hk := ?_) | refine TL_assign (hk := ?_))
 refine T_end0' rfl ⟨rfl, rfl⟩
theorem rdd1_int (b : Nat) (s : RS) (A : Option Addr) (n c : Nat) (e : Int) (w : World) (x y z : Nat) (tx ty tz : TypeId) (p : Nat) (v0 : Value) (h : Rdr w 218 b s A n c) (hx : Blk w x tx [.int .i64 (p : Int)]) (hy : Blk w y ty [v0]) (hz : Blk w z tz [ptr b])
  (hyb : y ≠ b) (hxb : x ≠ b) (hzb : z ≠ b) (hxy : x ≠ y) (hzy : z ≠ y) (hyA : 0 < n → Off A [y]) (hp : p ≤ n) :
  CallsD Tryz.prog 203 #[ptr x, ptr y, ptr z] (.panicking (gave e)) w (fun e' u w' => u = .panicking [{ v := .iface 223 (.agg #[.int .i64 e]), recovered := true }] ∧ e' = .returned (.tuple #[]) ∧ Mod [y, b] w w' ∧ Rdr w' 218 b { s with pos := p, err := e, spot := p } A n c ∧ Blk w' y ty [.int .i64 0]) := by
 refine callsD_recover (n := 32) (args := [ptr x, ptr y, ptr z]) (st := params 0 [ptr x, ptr y, ptr z]) Tryz.func203 rfl rfl (st_params _ _ 0) rfl (.inr ⟨_, _, rfl, rfl, rfl⟩) ?_
 obtain ⟨hb, hr, ho, hl, hpp, hla, hbig, hcap⟩ := h
 repeat (first | refine T_seq ?_ | refine T_region ?_ | refine T_cond_true rfl ?_ | refine TL_ine_t TE (hk := ?_) | refine TL_nil ?_ | refine TL_move (hk := ?_) | refine TL_assign (hk := ?_) | refine TL_extract (hk := ?_) | refine TL_assert_t TE (hk := ?_))
 refine TL_alloc TE (hk := ?_); intro g w1 e1 g1 g2 kg
 --
 refine TL_store1 TE rfl rfl rfl rfl rfl (by exact kg) (by decide) (hk := ?_); intro w2 m2 s2 k2
 have e2 : Ext w w2 := Mod.step e1 m2 (fun y hy => .inr (by simp only [List.mem_singleton] at hy; omega))
 repeat (first | refine T_seq ?_ | refine T_region ?_ | refine T_cond_false rfl ?_ | refine T_skip ?_ | refine TL_nil ?_ | refine TL_move (hk := ?_) | refine TL_assign (hk := ?_) | refine TL_not (hk := ?_))
 have hxl := hx.be e2
 have hzl := hz.be e2
 have hyl := hy.be e2
 have hbl := hb.be e2
 refine T_region_h TE (fun w' => Blk w' x tx [.int .i64 (p : Int)] ∧ Blk w' z tz [ptr b] ∧ Blk w' g 223 [.int .i64 e]) (fun w3 e3 s3 => ⟨⟨hxl.be e3, hzl.be e3, k2.be e3⟩, ?_⟩)
 have hx3 := hxl.be e3
 have hz3 := hzl.be e3
 have hy3 := hyl.be e3
 have hb3 := hbl.be e3
 have hg3 := k2.be e3
 refine TH_load 0 TE rfl (by kernel_rfl) (by kernel_rfl) (by kernel_rfl) rfl rfl rfl rfl (by rintro w' ⟨h1, h2, h3⟩; first | exact h1 | exact h2 | exact h3) (by exact rfl) ?_; refine TH_load 1 TE rfl (by kernel_rfl) (by kernel_rfl) (by kernel_rfl) rfl rfl rfl rfl (by rintro w' ⟨h1, h2, h3⟩; first | exact h1 | exact h2 | exact h3) (by exact rfl) ?_; refine TH_load 2 TE rfl (by kernel_rfl) (by kernel_rfl) (by kernel_rfl) rfl rfl rfl rfl (by rintro w' ⟨h1, h2, h3⟩; first | exact h1 | exact h2 | exact h3) (by exact rfl) ?_
 refine TH_move 3 rfl (by kernel_rfl) (by kernel_rfl) (by kernel_rfl) rfl rfl ?_
 refine TH_load 4 TE rfl (by kernel_rfl) (by kernel_rfl) (by kernel_rfl) rfl rfl rfl rfl (by rintro w' ⟨h1, h2, h3⟩; first | exact h1 | exact h2 | exact h3) (by exact rfl) ?_
 refine TH_fieldAddr 5 TE rfl (by kernel_rfl) (by kernel_rfl) (by kernel_rfl) rfl rfl rfl rfl rfl rfl ?_
 refine TH_load 6 TE rfl (by kernel_rfl) (by kernel_rfl) (by kernel_rfl) rfl rfl rfl rfl (by rintro w' ⟨h1, h2, h3⟩; first | exact h1 | exact h2 | exact h3) (by exact rfl) ?_; refine TH_load 7 TE rfl (by kernel_rfl) (by kernel_rfl) (by kernel_rfl) rfl rfl rfl rfl (by rintro w' ⟨h1, h2, h3⟩; first | exact h1 | exact h2 | exact h3) (by exact rfl) ?_
 have yg : y < g := Nat.lt_of_lt_of_le hy.lt g1
 have bg : b < g := Nat.lt_of_lt_of_le hb.lt g1
 refine TH_store 8 TE rfl (by kernel_rfl) rfl rfl rfl rfl (by focus ((repeat (first | assumption | (apply Own.rd; assumption) | (apply Rd.blk; assumption; exact rfl) | (apply Blk.be; assumption) | (apply Rd.be; assumption) | (apply Own.be; assumption) | (apply Blk.bm; assumption; focus (first | assumption | (simp only [List.mem_cons, List.not_mem_nil, or_false]; omega))) | (apply Rd.bm; assumption; focus assumption) | (apply Own.bm; assumption; focus assumption))); done)) (by first | decide | (simp; done) | (simp; omega)) ?_; intro w4 m4 s4 k4
 have hx4 := hx3.mod m4 (by simpa using hxy)
 have hz4 := hz3.mod m4 (by simpa using hzy)
 have hg4 := hg3.mod m4 (by simp; omega)
 have hb4 := hb3.mod m4 (by simpa using Ne.symm hyb)
 refine ⟨⟨hx4, hz4, hg4⟩, ?_⟩
 refine TH_nilCheck 9 rfl (by kernel_rfl) (by kernel_rfl) (by kernel_rfl) rfl rfl ?_
 refine TH_fieldAddr 10 TE rfl (by kernel_rfl) (by kernel_rfl) (by kernel_rfl) rfl rfl rfl rfl rfl rfl ?_
 refine TH_store 11 TE rfl (by kernel_rfl) rfl rfl rfl rfl (by focus ((repeat (first | assumption | (apply Own.rd; assumption) | (apply Rd.blk; assumption; exact rfl) | (apply Blk.be; assumption) | (apply Rd.be; assumption) | (apply Own.be; assumption) | (apply Blk.bm; assumption; focus (first | assumption | (simp only [List.mem_cons, List.not_mem_nil, or_false]; omega))) | (apply Rd.bm; assumption; focus assumption) | (apply Own.bm; assumption; focus assumption))); done)) (by first | decide | (simp; done) | (simp; omega)) ?_; intro w5 m5 s5 k5
 have hx5 := hx4.mod m5 (by simpa using hxb)
 have hz5 := hz4.mod m5 (by simpa using hzb)
 have hg5 := hg4.mod m5 (by simp; omega)
 have hy5 := k4.mod m5 (by simpa using hyb)
 refine ⟨⟨hx5, hz5, hg5⟩, ?_⟩
 refine TH_nilCheck 12 rfl (by kernel_rfl) (by kernel_rfl) (by kernel_rfl) rfl rfl ?_
 refine TH_fieldAddr 13 TE rfl (by kernel_rfl) (by kernel_rfl) (by kernel_rfl) rfl rfl rfl rfl rfl rfl ?_
 refine TH_store 14 TE rfl (by kernel_rfl) rfl rfl rfl rfl (by focus ((repeat (first | assumption | (apply Own.rd; assumption) | (apply Rd.blk; assumption; exact rfl) | (apply Blk.be; assumption) | (apply Rd.be; assumption) | (apply Own.be; assumption) | (apply Blk.bm; assumption; focus (first | assumption | (simp only [List.mem_cons, List.not_mem_nil, or_false]; omega))) | (apply Rd.bm; assumption; focus assumption) | (apply Own.bm; assumption; focus assumption))); done)) (by first | decide | (simp; done) | (simp; omega)) ?_; intro w6 m6 s6 k6
 have hx6 := hx5.mod m6 (by simpa using hxb)
 have hz6 := hz5.mod m6 (by simpa using hzb)
 have hg6 := hg5.mod m6 (by simp; omega)
 have hy6 := hy5.mod m6 (by simpa using hyb)
 refine ⟨⟨hx6, hz6, hg6⟩, ?_⟩
 refine TH_nilCheck 15 rfl (by kernel_rfl) (by kernel_rfl) (by kernel_rfl) rfl rfl ?_
 refine TH_fieldAddr 16 TE rfl (by kernel_rfl) (by kernel_rfl) (by kernel_rfl) rfl rfl rfl rfl rfl rfl ?_
 refine TH_store 17 TE rfl (by kernel_rfl) rfl rfl rfl rfl (by focus ((repeat (first | assumption | (apply Own.rd; assumption) | (apply Rd.blk; assumption; exact rfl) | (apply Blk.be; assumption) | (apply Rd.be; assumption) | (apply Own.be; assumption) | (apply Blk.bm; assumption; focus (first | assumption | (simp only [List.mem_cons, List.not_mem_nil, or_false]; omega))) | (apply Rd.bm; assumption; focus assumption) | (apply Own.bm; assumption; focus assumption))); done)) (by first | decide | (simp; done) | (simp; omega)) ?_; intro w7 m7 s7 k7
 have hx7 := hx6.mod m7 (by simpa using hxb)
 have hz7 := hz6.mod m7 (by simpa using hzb)
 have hg7 := hg6.mod m7 (by simp; omega)
 have hy7 := hy6.mod m7 (by simpa using hyb)
 refine ⟨⟨hx7, hz7, hg7⟩, ?_⟩
 refine TH_done (by kernel_rfl) ?_
 have hm : Mod [y, b] w w7 := by
  have a1 : Mod [y, b] w w3 := Ext.mod (Mod.ext e2 e3)
  have a2 := a1.step m4 (fun q hq => .inl (by simp only [List.mem_cons, List.not_mem_nil, or_false] at hq ⊢; omega))
  have a3 := a2.step m5 (fun q hq => .inl (by simp only [List.mem_cons, List.not_mem_nil, or_false] at hq ⊢; omega))
  have a4 := a3.step m6 (fun q hq => .inl (by simp only [List.mem_cons, List.not_mem_nil, or_false] at hq ⊢; omega))
  exact a4.step m7 (fun q hq => .inl (by simp only [List.mem_cons, List.not_mem_nil, or_false] at hq ⊢; omega))
 refine T_end0' rfl ⟨rfl, hm, ⟨k7, Rd.mod0 hr hm ?_, ho, hl, hp, hla, hbig, hcap⟩, hy7⟩
 intro hn0 ad ea hq
 simp only [List.mem_cons, List.not_mem_nil, or_false] at hq
 rcases hq with hq | hq
 ·exact hyA hn0 ad ea (by simpa using hq)
 ·exact ho ad ea (by simpa using hq)
theorem rd_int {α : Type} (b : Nat) (s : RS) (A : Option Addr) (n c : Nat) (w : World) (g : Nat) (fst cap : List Value) (V : α → Value) (z0 : α) (hV : V z0 = .int .i64 0) (hV1 : ∀ x, (V x).oneCell' = true) (t : List UInt8 → Except Int (α × Nat)) (hE : TE.fn g = true) (h : Rdr w 218 b s A n c)
  (hc : ∀ w', Ext w w' → Calls Tryz.prog g (fst ++ cap).toArray w' (Took w' b s A n c V (t (s.b.drop s.pos)))) :
  Ret Tryz.prog 186 [ptr b, .func (.func g) fst.toArray cap.toArray] w (fun v w' => v = V (s.take z0 t).1 ∧ Mod [b] w w' ∧ Rdr w' 218 b (s.take z0 t).2 A n c) := by
 have h0 := h
 obtain ⟨hb, hr, ho, hl, hpp, hla, hbig, hcap⟩ := h
 refine ret_T (n := 28) Tryz.func186 rfl rfl ?_
 repeat (first | refine T_seq ?_ | refine T_region ?_)
 refine TL_box (hk := ?_); intro x1 w1 e1 g1 g1' k1
 --
 refine TL_alloc TE (hk := ?_); intro x2 w2 e2 g2 g2' k2
 have e02 : Ext w w2 := e1.ext e2
 have hb2 := hb.be e02
 have k12 : Blk w2 x1 _ [ptr b] := k1.be e2
 have k22 : Blk w2 x2 _ [.int .i64 0] := k2
 have lb := hb.lt
 have ls1 := e1.size
 by_cases he : s.err = 0
 ·rw [he] at hb2
  repeat (first | refine T_seq ?_ | refine T_region ?_ | refine T_cond_false rfl ?_ | refine T_skip ?_ | refine TL_ne_f (hk := ?_) | refine TL_pnil_f TE (hk := ?_) | refine TL_nil ?_ | refine TL_move (hk := ?_) | refine TL_load TE (hk := ?_) | refine TL_fieldAddr TE (hk := ?_) | refine TL_yes (hk := ?_) | refine TL_pick_f (hk := ?_) | refine TL_nilCheck (hk := ?_))
  refine TL_alloc TE (hk := ?_); intro x3 w3 e3 g3 g3' k3
  --
  refine TL_store TE (hk := ?_); intro w4 m4 s4 k4
  have e34 : Ext w2 w4 := Mod.step e3 m4 (fun y hy => .inr (by simp only [List.mem_singleton] at hy; omega))
  have e04 : Ext w w4 := e02.ext e34
  have k14 := k12.be e34
  have k24 := k22.be e34
  have k34 : Blk w4 x3 _ [.int .i64 (s.pos : Int)] := k4
  have hc4 := hc w4 e04
  have l12 : x1 < x2 := by omega
  have ls2 := e2.size
  have l23 : x2 < x3 := by omega
  repeat (first | refine T_seq ?_ | refine T_region ?_ | refine TL_nil ?_ | refine TL_makeFunc (hk := ?_))
  refine TL_defer rfl rfl rfl ?_
  repeat (first | refine T_seq ?_ | refine T_region ?_ | refine TL_nil ?_ | refine TL_move (hk := ?_))
  refine TL_callc TE (fst := fst) (cap := cap) (vs := []) rfl rfl hE rfl (by simpa using hc4) ?_ ?_ (fun _ h => h)
  ·rintro _ w5 ⟨x, k, hx, rfl, m5, h5⟩
   rw [take_ok he hx]
   have k15 := k14.mod m5 (by simp; omega)
   have k25 := k24.mod m5 (by simp; omega)
   have k35 := k34.mod m5 (by simp; omega)
   obtain ⟨hb5, hr5, _, _, hp5, _, _, _⟩ := h5
   simp only at hb5 hr5 hp5
   refine TL_store TE rfl rfl (hV1 x) rfl (by exact k25) (by decide) (hk := ?_); intro w6 m6 s6 k6
   have k16 := k15.mod m6 (by simp; omega)
   have k36 := k35.mod m6 (by simp; omega)
   have hb6 := hb5.mod m6 (by simp; omega)
   have hr6 := Rd.mod0 hr5 m6 (Rd.offNew hr (by omega))
   repeat (first | refine T_seq ?_ | refine T_region ?_ | refine TL_nil ?_ | refine TL_load TE (hk := ?_) | refine TL_fieldAddr TE (hk := ?_) | refine TL_nilCheck (hk := ?_))
   refine TL_store TE (hk := ?_); intro w7 m7 s7 k7
   have k17 := k16.mod m7 (by simp; omega)
   have k37 := k36.mod m7 (by simp; omega)
   have k27 : Blk w7 x2 _ [V x] := k6.mod m7 (by simp; omega)
   have hr7 := hr6.mod m7 ho
   repeat (first | refine T_seq ?_ | refine T_region ?_ | refine TL_nil ?_ | refine TL_load TE (hk := ?_))
   refine TL_store TE rfl rfl (hV1 x) rfl (by exact k27) (by simp) (hk := ?_); intro w8 m8 s8 k8
   have hb8 := k7.mod m8 (by simp; omega)
   have hr8 := Rd.mod0 hr7 m8 (Rd.offNew hr (by omega))
   have hm : Mod [b] w w8 := by
    have a1 : Mod [b] w w5 := (Ext.mod e04).trans m5
    have a2 := a1.step m6 (fun q hq => .inr (by simp only [List.mem_singleton] at hq; omega))
    have a3 := a2.trans m7
    exact a3.step m8 (fun q hq => .inr (by simp only [List.mem_singleton] at hq; omega))
   repeat (refine TL_nil ?_)
   refine T_leave ?_
   refine LV_defer TE (args := []) (cap := [ptr x3, ptr x2, ptr x1]) rfl (by simp) (rdd0_int w8 x3 x2 x1) ?_ ?_ ?_
   ·rintro v u' w9 ⟨rfl, hv, rfl⟩
    refine LV_ret rfl (res1c TE rfl rfl rfl rfl k8 rfl) ?_
    exact ⟨rfl, hm, ⟨hb8, hr8, ho, hl, hp5, hpp, hbig, hcap⟩⟩
   ·rintro ch u' w9 ⟨_, hv, _⟩; cases hv
   ·rintro u' w9 ⟨_, hv, _⟩; cases hv
  ·rintro ch w5 ⟨e, p, hx, rfl, m5, h5⟩
   rw [take_err he hx]
   have k15 := k14.mod m5 (by simp; omega)
   have k25 := k24.mod m5 (by simp; omega)
   have k35 := k34.mod m5 (by simp; omega)
   refine LV_defer TE (args := []) (cap := [ptr x3, ptr x2, ptr x1]) rfl (by simp) (rdd1_int b _ A n c e w5 x3 x2 x1 _ _ _ s.pos _ h5 k35 k25 k15 (by omega) (by omega) (by omega) (by omega) (by omega) (Rd.offNew hr (by omega)) hpp) ?_ ?_ ?_
   ·rintro v u' w9 ⟨rfl, hv, m9, h9, k9⟩
    refine LV_ret rfl (res1c TE rfl rfl rfl rfl k9 rfl) ?_
    refine ⟨hV.symm, ?_, h9⟩
    exact ((Ext.mod e04).trans m5).step m9 (fun q hq => by simp only [List.mem_cons, List.not_mem_nil, or_false] at hq ⊢; omega)
   ·rintro ch u' w9 ⟨_, hv, _⟩; cases hv
   ·rintro u' w9 ⟨_, hv, _⟩; cases hv
 ·have hs0 : s.take z0 t = (z0, s) := by unfold RS.take; rw [if_neg he]
  rw [hs0]
  repeat (first | refine T_seq ?_ | refine T_region ?_ | refine T_cond_true rfl ?_ | refine TL_ne_t (hk := ?_) | refine TL_pnil_f TE (hk := ?_) | refine TL_nil ?_ | refine TL_move (hk := ?_) | refine TL_load TE (hk := ?_) | refine TL_fieldAddr TE (hk := ?_) | refine TL_yes (hk := ?_) | refine TL_pick_f (hk := ?_) | refine TL_nilCheck (hk := ?_))
  refine TL_store TE (hk := ?_); intro w3 m3 s3 k3
  have hm : Ext w w3 := Mod.step e02 m3 (fun y hy => .inr (by simp only [List.mem_singleton] at hy; omega))
  repeat (refine TL_nil ?_)
  exact T_ret1c TE rfl rfl rfl rfl k3 rfl ⟨hV.symm, Ext.mod hm, h0.ext hm⟩
set_option maxHeartbeats 1000000
set_option maxHeartbeats 1000000
theorem Byte_c (b : Nat) (s : RS) (A : Option Addr) (n c : Nat) (w : World) (h : Rdr w 218 b s A n c) :
  Ret Tryz.prog 122 [ptr b] w (fun v w' => v = (fun x : Nat => Value.int .u8 (x : Int)) (s.take (0 : Nat) tByte).1 ∧ Mod [b] w w' ∧ Rdr w' 218 b (s.take (0 : Nat) tByte).2 A n c) := by
 refine ret_T (n := 7) Tryz.func122 rfl rfl ?_
 repeat (first | refine T_seq ?_ | refine T_region ?_ | refine TL_nil ?_ | refine TL_move (hk := ?_) | refine TL_assign (hk := ?_) | refine TL_makeFunc (hk := ?_))
 refine TL_call TE (hc := rd_byte b s A n c w 168 [ptr b] [] (fun x : Nat => Value.int .u8 (x : Int)) (0 : Nat) rfl (fun _ => rfl) tByte rfl h (fun w' e => byte_c b s A n c w' (h.ext e))) (hk := ?_)
 rintro _ w1 ⟨rfl, m1, h1⟩
 repeat (first | refine TL_nil ?_ | refine TL_assign (hk := ?_))
 exact T_ret1 rfl rfl ⟨rfl, m1, h1⟩
theorem Uint_c (b : Nat) (s : RS) (A : Option Addr) (n c : Nat) (w : World) (h : Rdr w 218 b s A n c) :
  Ret Tryz.prog 120 [ptr b] w (fun v w' => v = (fun x : Nat => Value.int .u64 (x : Int)) (s.take (0 : Nat) num0).1 ∧ Mod [b] w w' ∧ Rdr w' 218 b (s.take (0 : Nat) num0).2 A n c) := by
 refine ret_T (n := 7) Tryz.func120 rfl rfl ?_
 repeat (first | refine T_seq ?_ | refine T_region ?_ | refine TL_nil ?_ | refine TL_move (hk := ?_) | refine TL_assign (hk := ?_) | refine TL_makeFunc (hk := ?_))
 refine TL_call TE (hc := rd_uint64 b s A n c w 163 [ptr b] [] (fun x : Nat => Value.int .u64 (x : Int)) (0 : Nat) rfl (fun _ => rfl) num0 rfl h (fun w' e => uint_c b s A n c w' (h.ext e))) (hk := ?_)
 rintro _ w1 ⟨rfl, m1, h1⟩
 repeat (first | refine TL_nil ?_ | refine TL_assign (hk := ?_))
 exact T_ret1 rfl rfl ⟨rfl, m1, h1⟩
theorem Int_c (b : Nat) (s : RS) (A : Option Addr) (n c : Nat) (w : World) (h : Rdr w 218 b s A n c) :
  Ret Tryz.prog 199 [ptr b] w (fun v w' => v = (fun x : Int => Value.int .i64 x) (s.take (0 : Int) tInt).1 ∧ Mod [b] w w' ∧ Rdr w' 218 b (s.take (0 : Int) tInt).2 A n c) := by
 refine ret_T (n := 7) Tryz.func199 rfl rfl ?_
 repeat (first | refine T_seq ?_ | refine T_region ?_ | refine TL_nil ?_ | refine TL_move (hk := ?_) | refine TL_assign (hk := ?_) | refine TL_makeFunc (hk := ?_))
 refine TL_call TE (hc := rd_int64 b s A n c w 209 [ptr b] [] (fun x : Int => Value.int .i64 x) (0 : Int) rfl (fun _ => rfl) tInt rfl h (fun w' e => int_c b s A n c w' (h.ext e))) (hk := ?_)
 rintro _ w1 ⟨rfl, m1, h1⟩
 repeat (first | refine TL_nil ?_ | refine TL_assign (hk := ?_))
 exact T_ret1 rfl rfl ⟨rfl, m1, h1⟩
theorem Count_c (b : Nat) (s : RS) (A : Option Addr) (n c : Nat) (most : Int) (hmo : -9223372036854775808 ≤ most ∧ most ≤ 9223372036854775807) (w : World) (h : Rdr w 218 b s A n c) :
  Ret Tryz.prog 150 [ptr b, .int .i64 most] w (fun v w' => v = (fun x : Nat => Value.int .i64 (x : Int)) (s.take (0 : Nat) (tLim most 6)).1 ∧ Mod [b] w w' ∧ Rdr w' 218 b (s.take (0 : Nat) (tLim most 6)).2 A n c) := by
 refine ret_T (n := 8) Tryz.func150 rfl rfl ?_
 repeat (first | refine T_seq ?_ | refine T_region ?_)
 refine TL_box (hk := ?_); intro x1 w1 e1 g1 g1' k1
 --
 refine TL_box (hk := ?_); intro x2 w2 e2 g2 g2' k2
 have k12 : Blk w2 x1 _ [ptr b] := k1.be e2
 have k22 : Blk w2 x2 _ [.int .i64 most] := k2
 have e02 : Ext w w2 := e1.ext e2
 have lb := h.blk.lt
 repeat (first | refine T_seq ?_ | refine T_region ?_ | refine TL_nil ?_ | refine TL_assign (hk := ?_) | refine TL_load TE (hk := ?_) | refine TL_makeFunc (hk := ?_))
 refine TL_call TE (hc := rd_int b s A n c w2 187 [] [ptr x1, ptr x2] (fun x : Nat => Value.int .i64 (x : Int)) (0 : Nat) rfl (fun _ => rfl) (tLim most 6) rfl (h.ext e02) (fun w' e => Count1_c b x1 x2 _ _ s A n c most hmo w' ((h.ext e02).ext e) (k12.ext e) (k22.ext e) )) (hk := ?_)
 rintro _ w3 ⟨rfl, m3, h3⟩
 repeat (first | refine TL_nil ?_ | refine TL_assign (hk := ?_))
 exact T_ret1 rfl rfl ⟨rfl, (Ext.mod e02).trans m3, h3⟩
theorem Text_c (b : Nat) (s : RS) (A : Option Addr) (n c : Nat) (most : Int) (hmo : -9223372036854775808 ≤ most ∧ most ≤ 9223372036854775807) (w : World) (h : Rdr w 218 b s A n c) :
  Ret Tryz.prog 121 [ptr b, .int .i64 most] w (fun v w' => v = (fun x : List UInt8 => Value.string ⟨x.toArray⟩) (s.take ([] : List UInt8) (tText most)).1 ∧ Mod [b] w w' ∧ Rdr w' 218 b (s.take ([] : List UInt8) (tText most)).2 A n c) := by
 refine ret_T (n := 8) Tryz.func121 rfl rfl ?_
 repeat (first | refine T_seq ?_ | refine T_region ?_)
 refine TL_box (hk := ?_); intro x1 w1 e1 g1 g1' k1
 --
 refine TL_box (hk := ?_); intro x2 w2 e2 g2 g2' k2
 have k12 : Blk w2 x1 _ [ptr b] := k1.be e2
 have k22 : Blk w2 x2 _ [.int .i64 most] := k2
 have e02 : Ext w w2 := e1.ext e2
 have lb := h.blk.lt
 repeat (first | refine T_seq ?_ | refine T_region ?_ | refine TL_nil ?_ | refine TL_assign (hk := ?_) | refine TL_load TE (hk := ?_) | refine TL_makeFunc (hk := ?_))
 refine TL_call TE (hc := rd_string b s A n c w2 165 [] [ptr x1, ptr x2] (fun x : List UInt8 => Value.string ⟨x.toArray⟩) ([] : List UInt8) rfl (fun _ => rfl) (tText most) rfl (h.ext e02) (fun w' e => Text1_c b x1 x2 _ _ s A n c most hmo w' ((h.ext e02).ext e) (k12.ext e) (k22.ext e) (by omega))) (hk := ?_)
 rintro _ w3 ⟨rfl, m3, h3⟩
 repeat (first | refine TL_nil ?_ | refine TL_assign (hk := ?_))
 exact T_ret1 rfl rfl ⟨rfl, (Ext.mod e02).trans m3, h3⟩
theorem Fail_c (b : Nat) (s : RS) (A : Option Addr) (n c : Nat) (e : Int) (w : World) (h : Rdr w 218 b s A n c) :
  Ret Tryz.prog 170 [ptr b, .int .i64 e] w (fun v w' => v = .tuple #[] ∧ Mod [b] w w' ∧ Rdr w' 218 b (s.fail e) A n c) := by
 have h0 := h
 obtain ⟨hb, hr, ho, hl, hp, hla, hbig, hcap⟩ := h
 refine ret_T (n := 28) Tryz.func170 rfl rfl ?_
 by_cases he : s.err = 0
 ·by_cases he2 : e = 0
  ·have hs : s.fail e = s := by unfold RS.fail; rw [if_neg (by omega)]
   rw [hs]
   repeat (first | refine T_seq ?_ | refine T_region ?_ | refine T_cond_false rfl ?_ | refine T_skip ?_ | refine TL_eq_t (hk := ?_) | refine TL_ne_f (hk := ?_) | refine TL_pnn_t TE (hk := ?_) | refine TL_nil ?_ | refine TL_move (hk := ?_) | refine TL_load TE (hk := ?_) | refine TL_fieldAddr TE (hk := ?_) | refine TL_yes (hk := ?_) | refine TL_pick_t (hk := ?_) | refine TL_nilCheck (hk := ?_))
   exact T_end0 rfl ⟨rfl, Mod.refl _ _, h0⟩
  ·have hs : s.fail e = { s with err := e, spot := s.last } := by unfold RS.fail; rw [if_pos ⟨he, he2⟩]
   rw [hs]
   repeat (first | refine T_seq ?_ | refine T_region ?_ | refine T_cond_true rfl ?_ | refine TL_eq_t (hk := ?_) | refine TL_ne_t (hk := ?_) | refine TL_pnn_t TE (hk := ?_) | refine TL_nil ?_ | refine TL_move (hk := ?_) | refine TL_load TE (hk := ?_) | refine TL_fieldAddr TE (hk := ?_) | refine TL_yes (hk := ?_) | refine TL_pick_t (hk := ?_) | refine TL_nilCheck (hk := ?_))
   refine TL_store TE (hk := ?_); intro w1 m1 s1 k1
   repeat (first | refine TL_fieldAddr TE (hk := ?_) | refine TL_nilCheck (hk := ?_))
   refine TL_store TE (hk := ?_); intro w2 m2 s2 k2
   repeat (refine TL_nil ?_)
   have hm := m1.trans m2
   exact T_end0 rfl ⟨rfl, hm, ⟨k2, hr.mod hm ho, ho, hl, hp, hla, hbig, hcap⟩⟩
 ·have hs : s.fail e = s := by unfold RS.fail; rw [if_neg (by omega)]
  rw [hs]
  repeat (first | refine T_seq ?_ | refine T_region ?_ | refine T_cond_false rfl ?_ | refine T_skip ?_ | refine TL_eq_f (hk := ?_) | refine TL_pnn_t TE (hk := ?_) | refine TL_nil ?_ | refine TL_move (hk := ?_) | refine TL_load TE (hk := ?_) | refine TL_fieldAddr TE (hk := ?_) | refine TL_yes (hk := ?_) | refine TL_no (hk := ?_) | refine TL_pick_t (hk := ?_) | refine TL_pick_f (hk := ?_) | refine TL_nilCheck (hk := ?_))
  exact T_end0 rfl ⟨rfl, Mod.refl _ _, h0⟩
theorem End_c (b : Nat) (s : RS) (A : Option Addr) (n c : Nat) (w : World) (h : Rdr w 218 b s A n c) :
  Ret Tryz.prog 131 [ptr b] w (fun v w' => v = .int .i64 s.fin.err ∧ Mod [b] w w' ∧ Rdr w' 218 b s.fin A n c) := by
 have h0 := h
 obtain ⟨hb, hr, ho, hl, hp, hla, hbig, hcap⟩ := h
 refine ret_T (n := 36) Tryz.func131 rfl rfl ?_
 by_cases he : s.err = 0
 ·by_cases he2 : s.pos < n
  ·have hs : s.fin = { s with err := 4, spot := s.pos } := by unfold RS.fin; rw [if_pos ⟨he, by omega⟩]
   rw [hs]
   repeat (first | refine T_seq ?_ | refine T_region ?_ | refine T_region_q TE.mixed (by kernel_rfl) ?_ | refine T_cond_false rfl ?_ | refine T_skip ?_ | refine TL_lt_t (hk := ?_) | refine TL_eq_t (hk := ?_) | refine TL_pnil_f TE (hk := ?_) | refine TL_nil ?_ | refine TL_move (hk := ?_) | refine TL_assign (hk := ?_) | refine TL_load TE (hk := ?_) | refine TL_fieldAddr TE (hk := ?_) | refine TL_len TE (hk := ?_) | refine TL_yes (hk := ?_) | refine TL_pick_t (hk := ?_) | refine TL_nilCheck (hk := ?_))
   refine TL_nil_q ?_; intro w1 e1
   repeat (first | refine T_region ?_ | refine T_cond_true rfl ?_ | refine TL_move (hk := ?_) | refine TL_load TE (hk := ?_) | refine TL_fieldAddr TE (hk := ?_) | refine TL_nilCheck (hk := ?_))
   refine TL_store TE (hk := ?_); intro w2 m2 s2 k2
   repeat (first | refine TL_fieldAddr TE (hk := ?_) | refine TL_nilCheck (hk := ?_))
   refine TL_store TE (hk := ?_); intro w3 m3 s3 k3
   repeat (first | refine T_seq ?_ | refine T_region ?_ | refine TL_nil ?_ | refine TL_move (hk := ?_) | refine TL_assign (hk := ?_) | refine TL_load TE (hk := ?_) | refine TL_fieldAddr TE (hk := ?_) | refine TL_nilCheck (hk := ?_))
   have hm := ((Ext.mod e1).trans m2).trans m3
   exact T_ret1 rfl rfl ⟨rfl, hm, ⟨k3, hr.mod hm ho, ho, hl, hp, hla, hbig, hcap⟩⟩
  ·have hs : s.fin = s := by unfold RS.fin; rw [if_neg (by omega)]
   rw [hs]
   repeat (first | refine T_seq ?_ | refine T_region ?_ | refine T_region_q TE.mixed (by kernel_rfl) ?_ | refine T_cond_false rfl ?_ | refine T_skip ?_ | refine TL_lt_f (hk := ?_) | refine TL_eq_t (hk := ?_) | refine TL_pnil_f TE (hk := ?_) | refine TL_nil ?_ | refine TL_move (hk := ?_) | refine TL_assign (hk := ?_) | refine TL_load TE (hk := ?_) | refine TL_fieldAddr TE (hk := ?_) | refine TL_len TE (hk := ?_) | refine TL_yes (hk := ?_) | refine TL_pick_t (hk := ?_) | refine TL_nilCheck (hk := ?_))
   refine TL_nil_q ?_; intro w1 e1
   repeat (first | refine T_seq ?_ | refine T_region ?_ | refine T_cond_false rfl ?_ | refine T_skip ?_ | refine TL_nil ?_ | refine TL_move (hk := ?_) | refine TL_assign (hk := ?_) | refine TL_load TE (hk := ?_) | refine TL_fieldAddr TE (hk := ?_) | refine TL_nilCheck (hk := ?_))
   exact T_ret1 rfl rfl ⟨rfl, Ext.mod e1, h0.ext e1⟩
 ·have hs : s.fin = s := by unfold RS.fin; rw [if_neg (by omega)]
  rw [hs]
  repeat (first | refine T_seq ?_ | refine T_region ?_ | refine T_region_q TE.mixed (by kernel_rfl) ?_ | refine T_cond_false rfl ?_ | refine T_skip ?_ | refine TL_eq_f (hk := ?_) | refine TL_pnil_f TE (hk := ?_) | refine TL_nil ?_ | refine TL_move (hk := ?_) | refine TL_assign (hk := ?_) | refine TL_load TE (hk := ?_) | refine TL_fieldAddr TE (hk := ?_) | refine TL_no (hk := ?_) | refine TL_pick_f (hk := ?_) | refine TL_nilCheck (hk := ?_))
  refine TL_nil_q ?_; intro w1 e1
  repeat (first | refine T_seq ?_ | refine T_region ?_ | refine T_cond_false rfl ?_ | refine T_skip ?_ | refine TL_nil ?_ | refine TL_move (hk := ?_) | refine TL_assign (hk := ?_) | refine TL_load TE (hk := ?_) | refine TL_fieldAddr TE (hk := ?_) | refine TL_nilCheck (hk := ?_))
  exact T_ret1 rfl rfl ⟨rfl, Ext.mod e1, h0.ext e1⟩
theorem Why_c (b : Nat) (s : RS) (A : Option Addr) (n c : Nat) (w : World) (h : Rdr w 218 b s A n c) :
  Ret Tryz.prog 123 [ptr b] w (fun v w' => v = .tuple #[.int .i64 s.err, .int .i64 ((if s.err = 0 then 0 else s.spot : Nat) : Int)] ∧ Ext w w') := by
 have h0 := h
 obtain ⟨hb, hr, ho, hl, hp, hla, hbig, hcap⟩ := h
 refine ret_T (n := 21) Tryz.func123 rfl rfl ?_
 by_cases he : s.err = 0
 ·rw [if_pos he, he]
  repeat (first | refine T_seq ?_ | refine T_region ?_ | refine T_cond_true rfl ?_ | refine TL_eq_t (hk := ?_) | refine TL_pnil_f TE (hk := ?_) | refine TL_nil ?_ | refine TL_move (hk := ?_) | refine TL_assign (hk := ?_) | refine TL_load TE (hk := ?_) | refine TL_fieldAddr TE (hk := ?_) | refine TL_yes (hk := ?_) | refine TL_pick_f (hk := ?_) | refine TL_nilCheck (hk := ?_))
  exact T_ret2 rfl rfl rfl ⟨rfl, Mod.refl _ _⟩
 ·rw [if_neg he]
  repeat (first | refine T_seq ?_ | refine T_region ?_ | refine T_region_q TE.mixed (by kernel_rfl) ?_ | refine T_cond_false rfl ?_ | refine T_skip ?_ | refine TL_eq_f (hk := ?_) | refine TL_pnil_f TE (hk := ?_) | refine TL_nil ?_ | refine TL_move (hk := ?_) | refine TL_assign (hk := ?_) | refine TL_load TE (hk := ?_) | refine TL_fieldAddr TE (hk := ?_) | refine TL_yes (hk := ?_) | refine TL_pick_f (hk := ?_) | refine TL_nilCheck (hk := ?_))
  refine TL_nil_q ?_; intro w1 e1
  exact T_ret2 rfl rfl rfl ⟨rfl, e1⟩
theorem Rest_c (b : Nat) (s : RS) (A : Option Addr) (n c : Nat) (w : World) (h : Rdr w 218 b s A n c) :
  Ret Tryz.prog 126 [ptr b] w (fun v w' => v = .int .i64 (s.rest : Int) ∧ Ext w w') := by
 have h0 := h
 obtain ⟨hb, hr, ho, hl, hp, hla, hbig, hcap⟩ := h
 refine ret_T (n := 22) Tryz.func126 rfl rfl ?_
 by_cases he : s.err = 0
 ·have hs : s.rest = n - s.pos := by unfold RS.rest; rw [if_pos he, hl]
  rw [hs]
  repeat (first | refine T_seq ?_ | refine T_region ?_ | refine T_region_q TE.mixed (by kernel_rfl) ?_ | refine T_cond_false rfl ?_ | refine T_skip ?_ | refine TL_sub (hk := ?_) | refine TL_ne_f (hk := ?_) | refine TL_pnil_f TE (hk := ?_) | refine TL_nil ?_ | refine TL_move (hk := ?_) | refine TL_assign (hk := ?_) | refine TL_load TE (hk := ?_) | refine TL_fieldAddr TE (hk := ?_) | refine TL_len TE (hk := ?_) | refine TL_yes (hk := ?_) | refine TL_pick_f (hk := ?_) | refine TL_nilCheck (hk := ?_))
  refine TL_nil_q ?_; intro w1 e1
  refine T_ret1 rfl rfl ⟨?_, e1⟩
  show Value.int .i64 ((n : Int) - (s.pos : Int)) = _
  rw [show ((n - s.pos : Nat) : Int) = (n : Int) - (s.pos : Int) by omega]
 ·have hs : s.rest = 0 := by unfold RS.rest; rw [if_neg he]
  rw [hs]
  repeat (first | refine T_seq ?_ | refine T_region ?_ | refine T_cond_true rfl ?_ | refine TL_ne_t (hk := ?_) | refine TL_pnil_f TE (hk := ?_) | refine TL_nil ?_ | refine TL_move (hk := ?_) | refine TL_assign (hk := ?_) | refine TL_load TE (hk := ?_) | refine TL_fieldAddr TE (hk := ?_) | refine TL_yes (hk := ?_) | refine TL_pick_f (hk := ?_) | refine TL_nilCheck (hk := ?_))
  exact T_ret1 rfl rfl ⟨rfl, Mod.refl _ _⟩
set_option maxHeartbeats 1000000
theorem NewReader_c (A : Option Addr) (n c : Nat) (l : List UInt8) (w : World) (h : Rd w A n 1 (bv l)) (hn : n ≤ 7036874417) :
  Ret Tryz.prog 119 [.slice A n c] w (fun v w' => ∃ b A' n' c', v = ptr b ∧ Ext w w' ∧ w.heap.size ≤ b ∧ Hi A' w.heap.size ∧ Lo A' w'.heap.size ∧ Rdr w' 218 b ⟨l, 0, 0, 0, 0⟩ A' n' c') := by
 refine ret_T (n := 7) Tryz.func119 rfl rfl ?_
 repeat (first | refine T_seq ?_ | refine T_region ?_ | refine TL_nil ?_ | refine TL_move (hk := ?_) | refine TL_assign (hk := ?_))
 refine TL_call TE (hc := Clone_c A n c l w h (by omega)) (hk := ?_)
 rintro _ w1 ⟨A1, c1, rfl, e1, o1⟩
 repeat (refine TL_build TE (hk := ?_))
 refine TL_box (hk := ?_); intro b w2 e2 h1 h2 k
 repeat (first | refine TL_nil ?_ | refine TL_assign (hk := ?_))
 have hs := e1.size
 refine T_ret1 rfl rfl ⟨b, A1, n, c1, rfl, e1.ext e2, by omega, o1.hi, o1.lo.mono e2.size, ?_⟩
 exact ⟨k, (o1.be e2).rd, Off.lo o1.lo h1, by have := h.1; simpa using this, Nat.zero_le _, Nat.zero_le _, hn, o1.cap.1⟩
end Go.Proofs.YtjlaomcankmdjaaGreat
namespace Go.Proofs.YtjlaomcankmdjaaGreat
open Go.RowKit Go.Proofs.Eng Go.Proofs.Foot Go.Proofs.Codec
set_option linter.unusedVariables false set_option maxRecDepth 10000
attribute [local irreducible] T TL LV TH TA
theorem norm_short {r k : List Tx} (h : isNorm r k = true) : (∀ t ∈ r ++ k, t.length ≤ 32) ∧ (ofM r k).length ≤ 64 := by
 unfold isNorm at h
 have h := of_decide_eq_true h
 have e := norm_eq r k
 rw [← of_len] at e
 rw [e] at h
 by_cases q : (r.all validT && k.all validT) = true
 ·rw [if_pos q] at h
  by_cases g : 64 < (ofM r k).length
  ·rw [if_pos g] at h; exact absurd h.1 (by decide)
  ·refine ⟨fun t ht => ?_, by omega⟩
   simp only [Bool.and_eq_true, List.all_eq_true] at q
   have hv : validT t = true := by
    rcases List.mem_append.1 ht with h | h
    ·exact q.1 t h
    ·exact q.2 t h
   simp only [validT, Bool.and_eq_true, decide_eq_true_eq] at hv
   exact hv.2.2
 ·rw [if_neg q] at h; exact absurd h.1 (by decide)
theorem keys3_short {r k : List Tx} (h : isNorm r k = true) : ∀ t ∈ keysM (ofM r k) 3, t.length ≤ 32 := fun t ht => by
 rw [keys3, set_mem] at ht
 exact (norm_short h).1 t ht
theorem entryB_len (m : TM) (t : Tx) (h : t.length ≤ 32) : (entryB m t).length ≤ 43 := by
 have := encU_len64 (n := t.length) (by omega)
 simp only [entryB, List.length_append, List.length_cons, List.length_nil]
 omega
theorem Put_c (B A C : Option Addr) (nb cb n c m d : Nat) (ahead : List UInt8) (r k : List Tx) (w : World) (hb : Rd w B nb 1 (bv ahead)) (h : Rd w A n 1 (sv r)) (g : Rd w C m 1 (sv k)) (hnb : nb ≤ 200000) (hn : n ≤ 1048576) (hm : m ≤ 1048576) (sr : Short r) (sk : Short k) :
  Ret Tryz.prog 113 [.slice B nb cb, .agg #[.slice A n c, .slice C m d]] w (fun v w' => ∃ P np cp, v = .tuple #[.slice P np cp, .int .i64 (if isNorm r k = true then 0 else 31)] ∧ Ext w w' ∧ Own w' w.heap.size 5 1 P np cp (if isNorm r k = true then bv (ahead ++ putB (ofM r k)) else [])) := by
 refine ret_T (n := 36) Tryz.func113 rfl rfl ?_
 repeat (first | refine T_seq ?_ | refine T_region ?_)
 refine TL_box (hk := ?_); intro b1 w1 e1 h1 h1' k1
 repeat (first | refine T_seq ?_ | refine T_region ?_ | refine TL_nil ?_ | refine TL_assign (hk := ?_))
 refine TL_loadb TE (cs := [.slice A n c, .slice C m d]) (o := 0) rfl rfl k1 rfl rfl (Nat.succ_pos _) (hk := ?_)
 refine TL_call TE (hc := normal_c A C n c m d r k _ (h.be e1) (g.be e1) hn hm sr sk) (hk := ?_)
 rintro _ w2 ⟨rfl, e2⟩
 by_cases hN : isNorm r k = true
 ·rw [if_pos hN, if_pos hN]
  have hshort := keys3_short hN
  have h64 := (norm_short hN).2
  have hl3 := of_len3 r k
  rw [hN]
  have k12 := k1.be e2
  have e02 := e1.ext e2
  have hb2 := hb.be e02
  have hA2 := h.be e02
  have hC2 := g.be e02
  clear k1 h g
  repeat (first | refine T_seq ?_ | refine T_region ?_ | refine T_cond_false rfl ?_ | refine T_skip ?_ | refine TL_nil ?_ | refine TL_not (hk := ?_))
  refine TL_loadb TE (cs := [.slice A n c, .slice C m d]) (o := 0) rfl rfl k12 rfl rfl (Nat.succ_pos _) (hk := ?_)
  refine TL_call TE (hc := of_c A C n c m d r k _ hA2 hC2 (by omega) (by omega)) (hk := ?_)
  rintro _ w3 ⟨bm, rfl, e3, hbm, mp⟩
  have hb3 := hb2.be e3
  have z3 := e02.size
  have z3' := e3.size
  repeat (first | refine T_seq ?_ | refine T_region ?_ | refine TL_nil ?_ | refine TL_move (hk := ?_) | refine TL_assign (hk := ?_) | refine TL_conv TE (hk := ?_) | refine TL_len_m TE (hk := ?_))
  refine TL_call TE (hc := PutUint_c B nb cb ahead (ofM r k).length _ rfl hb3 (by omega) (by omega)) (hk := ?_)
  rintro _ w4 ⟨A4, n4, c4, rfl, e4, o4⟩
  have mp4 := mp.be e4
  have z4 := e4.size
  have hlb := hb.1
  have hlen4 := o4.len
  have henc := encU_len64 (n := (ofM r k).length) (by omega)
  simp only [bv_length, List.length_append, Nat.mul_one] at hlen4 hlb
  repeat (first | refine T_seq ?_ | refine T_region ?_ | refine TL_nil ?_ | refine TL_move (hk := ?_) | refine TL_assign (hk := ?_))
  refine TL_call TE (hc := keys_c bm 3 (ofM r k) _ mp4 (by decide) (of_lt4 r k) (by omega)) (hk := ?_)
  rintro _ w5 ⟨A5, n5, c5, rfl, e5, o5⟩
  have mp5 := mp4.be e5
  have z5 := e5.size
  obtain ⟨ks, hks⟩ : ∃ ks, keysM (ofM r k) 3 = ks := ⟨_, rfl⟩
  rw [hks] at o5 hshort hl3
  have hkl : ks.length = n5 := by simpa using o5.len
  have o45 := o4.be e5
  have e05 := ((e02.ext e3).ext e4).ext e5
  have hi5 := o5.hi
  clear mp mp4 o4 hb2 hb3 hA2 hC2
  repeat (first | refine T_block ?_ | refine TL_nil ?_ | refine TL_move (hk := ?_) | refine TL_len TE (hk := ?_))
  refine T_loop (ι := (Option Addr × Nat × Nat) × Nat) (fun i => [(22, .int .i64 (i.2 : Int)), (21, .int .i64 (n5 : Int)), (20, .slice A5 n5 c5), (6, .map (some bm)), (0, .slice i.1.1 i.1.2.1 i.1.2.2)])
   (fun i w' => Ext w w' ∧ Ext w5 w' ∧ i.2 ≤ n5 ∧ i.1.2.1 ≤ 200010 + 43 * i.2 ∧ Own w' w.heap.size 5 1 i.1.1 i.1.2.1 i.1.2.2 (bv (ahead ++ (encU n5 ++ bodyB (ofM r k) (ks.take i.2))))) (fun i => n5 - i.2) ((A4, n4, c4), 0) (.c rfl (.c rfl (.c rfl (.c rfl (.c rfl (.n))))))
   ⟨e05, Mod.refl _ _, Nat.zero_le _, by show n4 ≤ 200010 + 43 * 0; omega, ?_⟩ ?_
  ·have := o45.weaken (base' := w.heap.size) (by omega)
   rw [hl3, hkl] at this
   simpa [bodyB] using this
  rintro ⟨⟨A6, n6, c6⟩, i⟩ w6 ⟨e6, e56, hi, hn6, o6⟩ ih
  simp only at hi hn6 o6 ih ⊢
  have z6 := e6.size
  by_cases hlt : i < n5
  ·obtain ⟨t, ht⟩ : ∃ t, ks.getD i [] = t := ⟨_, rfl⟩
   have htm : t ∈ ks := by rw [← ht]; exact getD_mem (by omega)
   have ht32 := hshort t htm
   have hbt := bodyB_take (ofM r k) ks i (by omega)
   rw [ht] at hbt
   have hel := entryB_len (ofM r k) t ht32
   have hb4 := bits_lt4 r k t
   obtain ⟨u, hu⟩ : ∃ u, (mget (ofM r k) t).getD 0 = u := ⟨_, rfl⟩
   have hu' : bitsM (ofM r k) t = u := hu
   have mp6 := mp5.be e56
   have o56 := o5.be e56
   have e1t := encU_len64 (n := t.length) (by omega)
   have hsz := ofL_size t
   rw [hu'] at hb4
   clear hshort
   repeat (first | refine T_seq ?_ | refine T_region ?_ | refine T_cond_true rfl ?_ | refine T_block ?_ | refine T_skip ?_ | refine TL_lt_t (hk := ?_) | refine TL_nil ?_ | refine TL_assign (hk := ?_) | refine TL_indexAddr1n TE (hk := ?_) | refine TL_load_s TE (hk := ?_))
   rw [ht]
   --
   refine T_region_any TE.mixed [] ?_; intro w7 e7 z7
   have hd7 : Eng.Mod [] w7 w7 := Mod.refl _ _
   have mp7 := mp6.be e7
   have o7 := o6.be e7
   have e07 := e6.ext e7
   clear o6 mp6
   (refine TA_take 0 rfl (by kernel_rfl) (by kernel_rfl) (by kernel_rfl) ?_; (repeat (refine TL_move (hk := ?_))); refine TL_nil_p ?_); (refine TA_take 1 rfl (by kernel_rfl) (by kernel_rfl) (by kernel_rfl) ?_; (repeat (refine TL_move (hk := ?_))); refine TL_nil_p ?_); (refine TA_take 3 rfl (by kernel_rfl) (by kernel_rfl) (by kernel_rfl) ?_; (repeat (refine TL_move (hk := ?_))); refine TL_nil_p ?_); (refine TA_take 4 rfl (by kernel_rfl) (by kernel_rfl) (by kernel_rfl) ?_; (repeat (refine TL_move (hk := ?_))); refine TL_nil_p ?_)
   refine TA_take 5 rfl (by kernel_rfl) (by kernel_rfl) (by kernel_rfl) ?_
   refine TLP_lookup TE 0 mp7 (by simp) (hk := ?_)
   rw [hu]
   refine TL_nil_p ?_
   refine TA_two 2 6 rfl rfl (by kernel_rfl) (by kernel_rfl) ?_ ?_
   ·refine TL_call TE (hc := PutText_c A6 n6 c6 _ (ofL t) w7 o7.rd (by omega) (by omega)) (hq := fun v w' ⟨_, _, _, _, h, _⟩ => hd7.ext h) (hk := ?_)
    rintro _ w8 ⟨A8, n8, c8, rfl, e8, o8⟩
    have z8 := e8.size
    refine TL_nil_p ?_
    refine TA_one 6 rfl (by kernel_rfl) (by kernel_rfl) ?_
    refine TL_buildSlice TE (hf := rfl) (hq := fun w' h => (hd7.ext e8).ext h) (hk := ?_); intro b9 w9 e9 h9 h9' k9
    have z9 := e9.size
    have o89 := o8.be e9
    have hl8 := o8.len
    simp only [bv_length, List.length_append, Nat.mul_one, ofL_toList, ofL_size] at hl8
    have hl7 := o7.len
    simp only [bv_length, List.length_append, Nat.mul_one] at hl7
    have E9 := e8.ext e9
    refine TL_nil_p ?_
    refine TA_one 7 rfl (by kernel_rfl) (by kernel_rfl) ?_
    refine TL_append TE (hf := rfl) (hq := fun w' m => Mod.own E9 m o8.hi) (hk := ?_); intro A10 c10 w10 o10 m10 n10
    have E10 : Ext w7 w10 := (Mod.own E9 m10 o8.hi)
    refine TL_nil_p ?_
    (refine TA_one 8 rfl (by kernel_rfl) (by kernel_rfl) ?_; (repeat (refine TL_assign (hk := ?_))); refine TL_nil_p ?_)
    refine TA_done (by kernel_rfl) ?_
    repeat (first | refine T_region ?_ | refine T_inBlock ?_ | refine TL_add (hk := ?_) | refine TL_nil ?_ | refine TL_move (hk := ?_))
    refine ih ((A10, n8 + 1, c10), i + 1) _ _ (by simp only; omega) ⟨e07.ext E10, (e56.ext e7).ext E10, by show i + 1 ≤ n5; omega, by show n8 + 1 ≤ 200010 + 43 * (i + 1); omega, ?_⟩ (.c rfl (.c rfl (.c rfl (.c rfl (.c rfl (.n))))))
    have o11 := o10.weaken (base' := w.heap.size) (by have := e07.size; omega)
    simp only
    rw [hbt, entryB, hu']
    have hv := bv_snoc (ahead ++ (encU n5 ++ bodyB (ofM r k) (ks.take i)) ++ (encU (ofL t).size ++ (ofL t).data.toList)) u (by omega)
    have hv2 : bv (ahead ++ (encU n5 ++ bodyB (ofM r k) (ks.take i)) ++ (encU (ofL t).size ++ (ofL t).data.toList)) ++ [uV u] = bv (ahead ++ (encU n5 ++ (bodyB (ofM r k) (ks.take i) ++ (encU t.length ++ t ++ [UInt8.ofNat u])))) := by
     rw [show uV u = Value.int .u8 (u : Int) from rfl, hv, ofL_toList, ofL_size]
     simp only [List.append_assoc]
    rw [← hv2]
    exact o11
   ·refine TL_buildSlice TE (hf := rfl) (hq := fun w' h => hd7.ext h) (hk := ?_); intro b9 w9 e9 h9 h9' k9
    have z9 := e9.size
    have o79 := o7.be e9
    refine TL_nil_p ?_
    refine TA_one 2 rfl (by kernel_rfl) (by kernel_rfl) ?_
    refine TL_call TE (hc := PutText_c A6 n6 c6 _ (ofL t) w9 o79.rd (by omega) (by omega)) (hq := fun v w' ⟨_, _, _, _, h, _⟩ => (hd7.ext e9).ext h) (hk := ?_)
    rintro _ w8 ⟨A8, n8, c8, rfl, e8, o8⟩
    have z8 := e8.size
    have o89 := o8.weaken (base' := w7.heap.size) (by omega)
    have hl8 := o8.len
    simp only [bv_length, List.length_append, Nat.mul_one, ofL_toList, ofL_size] at hl8
    have hl7 := o7.len
    simp only [bv_length, List.length_append, Nat.mul_one] at hl7
    have k98 := k9.be e8
    have E9 := e9.ext e8
    refine TL_nil_p ?_
    refine TA_one 7 rfl (by kernel_rfl) (by kernel_rfl) ?_
    refine TL_append TE (hf := rfl) (hq := fun w' m => Mod.own E9 m o89.hi) (hk := ?_); intro A10 c10 w10 o10 m10 n10
    have E10 : Ext w7 w10 := (Mod.own E9 m10 o89.hi)
    refine TL_nil_p ?_
    (refine TA_one 8 rfl (by kernel_rfl) (by kernel_rfl) ?_; (repeat (refine TL_assign (hk := ?_))); refine TL_nil_p ?_)
    refine TA_done (by kernel_rfl) ?_
    repeat (first | refine T_region ?_ | refine T_inBlock ?_ | refine TL_add (hk := ?_) | refine TL_nil ?_ | refine TL_move (hk := ?_))
    refine ih ((A10, n8 + 1, c10), i + 1) _ _ (by simp only; omega) ⟨e07.ext E10, (e56.ext e7).ext E10, by show i + 1 ≤ n5; omega, by show n8 + 1 ≤ 200010 + 43 * (i + 1); omega, ?_⟩ (.c rfl (.c rfl (.c rfl (.c rfl (.c rfl (.n))))))
    have o11 := o10.weaken (base' := w.heap.size) (by have := e07.size; omega)
    simp only
    rw [hbt, entryB, hu']
    have hv := bv_snoc (ahead ++ (encU n5 ++ bodyB (ofM r k) (ks.take i)) ++ (encU (ofL t).size ++ (ofL t).data.toList)) u (by omega)
    have hv2 : bv (ahead ++ (encU n5 ++ bodyB (ofM r k) (ks.take i)) ++ (encU (ofL t).size ++ (ofL t).data.toList)) ++ [uV u] = bv (ahead ++ (encU n5 ++ (bodyB (ofM r k) (ks.take i) ++ (encU t.length ++ t ++ [UInt8.ofNat u])))) := by
     rw [show uV u = Value.int .u8 (u : Int) from rfl, hv, ofL_toList, ofL_size]
     simp only [List.append_assoc]
    rw [← hv2]
    exact o11
  ·have hin : i = n5 := by omega
   have hall : ks.take i = ks := List.take_of_length_le (by omega)
   repeat (first | refine T_seq ?_ | refine T_region ?_ | refine T_cond_false rfl ?_ | refine T_exit rfl ?_ | refine TL_lt_f (hk := ?_) | refine TL_nil ?_ | refine TL_move (hk := ?_) | refine TL_assign (hk := ?_))
   refine T_ret2 rfl rfl rfl ⟨A6, n6, c6, rfl, e6, ?_⟩
   rw [hall] at o6
   unfold putB
   rw [hks, hkl]
   exact o6
 ·have hN' : isNorm r k = false := by simpa using hN
  rw [hN']
  repeat (first | refine T_seq ?_ | refine T_region ?_ | refine T_cond_true rfl ?_ | refine TL_nil ?_ | refine TL_assign (hk := ?_) | refine TL_not (hk := ?_))
  exact T_ret2 rfl rfl rfl ⟨none, 0, 0, rfl, e1.ext e2, Own.nil _ _ _ _⟩
end Go.Proofs.YtjlaomcankmdjaaGreat
namespace Go.Proofs.YtjlaomcankmdjaaGreat
open Go.RowKit Go.Proofs.Eng Go.Proofs.Codec Go.Proofs.Foot Go.Proofs.Journal
set_option linter.unusedVariables false set_option maxRecDepth 10000
attribute [local irreducible] T TL LV TH TA
set_option maxHeartbeats 1600000
theorem veV_one (v : VE) : ∀ u ∈ veV v, u.oneCell' = true := by
 intro u hu
 simp only [veV, List.mem_cons, List.not_mem_nil, or_false] at hu
 rcases hu with rfl | rfl | rfl <;> rfl
theorem VClone_c (A : Option Addr) (n c : Nat) (l : List VE) (w : World) (h : Rd w A n 3 (rowV veV l)) (hn : n ≤ 100000000) :
  Ret Tryz.prog 91 [.slice A n c] w (fun v w' => ∃ x : SL, v = sL x ∧ Ext w w' ∧ Own w' w.heap.size 161 3 x.1 x.2.1 x.2.2 (rowV veV l)) := by
 cases A with
 |none =>
  obtain ⟨rfl, hl⟩ := Rd.none h
  have hl0 : l = [] := by
   have := rowV_len veV_len l
   rw [hl] at this
   exact List.length_eq_zero_iff.1 (by simp at this; omega)
  subst hl0
  refine ret_T (n := 8) Tryz.func91 rfl rfl ?_
  repeat (first | refine T_seq ?_ | refine T_region ?_ | refine T_cond_true rfl ?_ | refine TL_nil_t TE (hk := ?_) | refine TL_nil ?_ | refine TL_move (hk := ?_) | refine TL_assign (hk := ?_))
  exact T_ret1 rfl rfl ⟨(none, 0, 0), rfl, Mod.refl _ _, Own.nil _ _ _ _⟩
 |some ad =>
  have hone := rowV_one veV_one l
  refine ret_T (n := 8) Tryz.func91 rfl rfl ?_
  repeat (first | refine T_seq ?_ | refine T_region ?_ | refine T_cond_false rfl ?_ | refine T_skip ?_ | refine TL_nil_f TE (hk := ?_) | refine TL_nil ?_ | refine TL_move (hk := ?_) | refine TL_assign (hk := ?_))
  refine TL_buildSlice0 TE (hk := ?_); intro b1 w1 e1 h1 h1' k1
  have o1 : Own w1 w.heap.size 161 3 (some ⟨b1, 0, none⟩) 0 0 [] := Own.of_blk k1 h1 rfl (by decide)
  have h2 := h.be e1
  repeat (refine TL_move (hk := ?_))
  refine TL_append TE (hk := ?_); intro A2 c2 w2 o2 m2 n2
  rw [List.nil_append] at o2
  repeat (first | refine TL_nil ?_ | refine TL_assign (hk := ?_))
  exact T_ret1 rfl rfl ⟨(A2, 0 + n, c2), rfl, Mod.own e1 m2 o1.hi, o2⟩
theorem TClone_c (A : Option Addr) (n c : Nat) (l : List (List UInt8)) (w : World) (h : Rd w A n 1 (sv l)) (hn : n ≤ 100000000) :
  Ret Tryz.prog 92 [.slice A n c] w (fun v w' => ∃ x : SL, v = sL x ∧ Ext w w' ∧ Own w' w.heap.size 9 1 x.1 x.2.1 x.2.2 (sv l)) := by
 cases A with
 |none =>
  obtain ⟨rfl, hl⟩ := Rd.none h
  rw [hl]
  refine ret_T (n := 8) Tryz.func92 rfl rfl ?_
  repeat (first | refine T_seq ?_ | refine T_region ?_ | refine T_cond_true rfl ?_ | refine TL_nil_t TE (hk := ?_) | refine TL_nil ?_ | refine TL_move (hk := ?_) | refine TL_assign (hk := ?_))
  exact T_ret1 rfl rfl ⟨(none, 0, 0), rfl, Mod.refl _ _, Own.nil _ _ _ _⟩
 |some ad =>
  have hone := sv_one l
  refine ret_T (n := 8) Tryz.func92 rfl rfl ?_
  repeat (first | refine T_seq ?_ | refine T_region ?_ | refine T_cond_false rfl ?_ | refine T_skip ?_ | refine TL_nil_f TE (hk := ?_) | refine TL_nil ?_ | refine TL_move (hk := ?_) | refine TL_assign (hk := ?_))
  refine TL_buildSlice0 TE (hk := ?_); intro b1 w1 e1 h1 h1' k1
  have o1 : Own w1 w.heap.size 9 1 (some ⟨b1, 0, none⟩) 0 0 [] := Own.of_blk k1 h1 rfl (by decide)
  have h2 := h.be e1
  repeat (refine TL_move (hk := ?_))
  refine TL_append TE (hk := ?_); intro A2 c2 w2 o2 m2 n2
  rw [List.nil_append] at o2
  repeat (first | refine TL_nil ?_ | refine TL_assign (hk := ?_))
  exact T_ret1 rfl rfl ⟨(A2, 0 + n, c2), rfl, Mod.own e1 m2 o1.hi, o2⟩
theorem same_c (A B C D : Option Addr) (n m p q c d e f : Nat) (l k l2 k2 : List (List UInt8)) (w : World) (hA : Rd w A n 1 (sv l)) (hB : Rd w B m 1 (sv k)) (hC : Rd w C p 1 (sv l2)) (hD : Rd w D q 1 (sv k2)) (hn : n ≤ 10000000) (hm : m ≤ 10000000) (hp : p ≤ 10000000) (hq : q ≤ 10000000) :
  Ret Tryz.prog 161 [.agg #[.slice A n c, .slice B m d], .agg #[.slice C p e, .slice D q f]] w (fun v w' => v = .bool (decide (l = l2 ∧ k = k2)) ∧ Ext w w') := by
 refine ret_T (n := 17) Tryz.func161 rfl rfl ?_
 repeat (first | refine T_seq ?_ | refine T_region ?_)
 refine TL_box (hk := ?_); intro b1 w1 e1 h1 h1' k1
 replace k1 : Blk w1 b1 43 [.slice A n c, .slice B m d] := k1
 --
 refine TL_box (hk := ?_); intro b2 w2 e2 h2 h2' k2
 replace k2 : Blk w2 b2 43 [.slice C p e, .slice D q f] := k2
 have k12 := k1.be e2
 have e02 := e1.ext e2
 clear k1
 repeat (first | refine T_seq ?_ | refine T_region ?_ | refine TL_nil ?_ | refine TL_assign (hk := ?_) | refine TL_load TE (hk := ?_) | refine TL_fieldAddr TE (hk := ?_))
 refine TL_call TE (hc := Equals_c A C n p c e l l2 w2 (hA.be e02) (hC.be e02) hn hp) (hk := ?_)
 rintro _ w3 ⟨rfl, e3⟩
 have k13 := k12.be e3
 have k23 := k2.be e3
 have e03 := e02.ext e3
 clear k12 k2
 by_cases c1 : l = l2
 ·rw [decide_eq_true c1]
  repeat (first | refine TL_move (hk := ?_) | refine TL_load TE (hk := ?_) | refine TL_fieldAddr TE (hk := ?_) | refine TL_yes (hk := ?_))
  refine TL_call TE (hc := Equals_c B D m q d f k k2 w3 (hB.be e03) (hD.be e03) hm hq) (hk := ?_)
  rintro _ w4 ⟨rfl, e4⟩
  repeat (first | refine TL_nil ?_ | refine TL_assign (hk := ?_) | refine TL_pick_t (hk := ?_))
  exact T_ret1 rfl rfl ⟨by rw [show decide (l = l2 ∧ k = k2) = decide (k = k2) by simp [c1]], e03.ext e4⟩
 ·rw [decide_eq_false c1]
  repeat (first | refine TL_nil ?_ | refine TL_move (hk := ?_) | refine TL_assign (hk := ?_) | refine TL_no (hk := ?_) | refine TL_pick_f (hk := ?_))
  exact T_ret1 rfl rfl ⟨by rw [decide_eq_false (fun z => c1 z.1)], e03⟩
theorem snormal_c (A B : Option Addr) (n c m d : Nat) (r k : List (List UInt8)) (w : World) (h : Rd w A n 1 (sv r)) (g : Rd w B m 1 (sv k)) (hn : n ≤ 1048576) (hm : m ≤ 1048576) (sr : Short r) (sk : Short k) :
  Ret Tryz.prog 118 [.agg #[.slice A n c, .slice B m d]] w (fun v w' => v = .bool (normB r k) ∧ Ext w w') := by
 unfold normB
 refine ret_T (n := 17) Tryz.func118 rfl rfl ?_
 repeat (first | refine T_seq ?_ | refine T_region ?_)
 refine TL_box (hk := ?_); intro b1 w1 e1 h1 h1' k1
 replace k1 : Blk w1 b1 43 [.slice A n c, .slice B m d] := k1
 repeat (first | refine T_seq ?_ | refine T_region ?_ | refine TL_nil ?_ | refine TL_assign (hk := ?_))
 refine TL_loadb TE (cs := [.slice A n c, .slice B m d]) (o := 0) rfl rfl k1 rfl rfl (Nat.succ_pos _) (hk := ?_)
 --
 refine TL_call TE (hc := Norm_c A B n c m d r k w1 (h.be e1) (g.be e1) hn hm sr sk) (hk := ?_)
 rintro _ w2 ⟨u, rfl, e2, A1, n1, c1, B1, m1, d1, rfl, oA, oB, _⟩
 have k2 := k1.be e2
 clear k1
 repeat (first | refine TL_move (hk := ?_) | refine TL_extract (hk := ?_))
 refine TL_alloc TE (hk := ?_); intro b3 w3 e3 h3 h3' k3
 --
 refine TL_storea TE (hk := ?_); intro w4 m4 z4 k4
 replace k4 : Blk w4 b3 43 [.slice A1 n1 c1, .slice B1 m1 d1] := k4
 have z2 := e2.size
 have z3 := e3.size
 have e24 : Ext w2 w4 := Mod.step e3 m4 (by simp; omega)
 have e04 := (e1.ext e2).ext e24
 have k24 := k2.be e24
 have rA := (oA.be e24).rd
 have rB := (oB.be e24).rd
 have lA := oA.len
 have lB := oB.len
 have hl1 := (normF_len r k).1
 have hl2 := (normF_len r k).2
 rw [sv_length] at lA lB
 clear k2 k3 m4
 by_cases q0 : (normF r k).2 = 0
 ·rw [q0]
  repeat (first | refine T_seq ?_ | refine T_region ?_ | refine TL_eq_t (hk := ?_) | refine TL_nil ?_ | refine TL_move (hk := ?_) | refine TL_assign (hk := ?_) | refine TL_yes (hk := ?_))
  refine TL_loadb TE (cs := [.slice A n c, .slice B m d]) (o := 0) rfl rfl k24 rfl rfl (Nat.succ_pos _) (hk := ?_)
  repeat (refine TL_yes (hk := ?_))
  refine TL_loadb TE (cs := [.slice A1 n1 c1, .slice B1 m1 d1]) (o := 0) rfl rfl k4 rfl rfl (Nat.succ_pos _) (hk := ?_)
  repeat (refine TL_yes (hk := ?_))
  refine TL_call TE (hc := same_c A B A1 B1 n m n1 m1 c d c1 d1 r k _ _ w4 (h.be e04) (g.be e04) rA rB (by omega) (by omega) (by omega) (by omega)) (hk := ?_)
  rintro _ w5 ⟨rfl, e5⟩
  repeat (first | refine TL_nil ?_ | refine TL_assign (hk := ?_) | refine TL_pick_t (hk := ?_))
  have hd : decide (r = (normF r k).1.1 ∧ k = (normF r k).1.2) = decide ((0 : Int) = 0 ∧ (normF r k).1.1 = r ∧ (normF r k).1.2 = k) := by
   rw [decide_eq_decide]
   exact ⟨fun z => ⟨rfl, z.1.symm, z.2.symm⟩, fun z => ⟨z.2.1.symm, z.2.2.symm⟩⟩
  exact T_ret1 rfl rfl ⟨congrArg Value.bool hd, e04.ext e5⟩
 ·have hrg : True := trivial
  rw [decide_eq_false (fun z => q0 z.1)]
  repeat (first | refine T_seq ?_ | refine T_region ?_ | refine TL_eq_f (hk := ?_) | refine TL_nil ?_ | refine TL_move (hk := ?_) | refine TL_assign (hk := ?_) | refine TL_no (hk := ?_) | refine TL_pick_f (hk := ?_))
  exact T_ret1 rfl rfl ⟨rfl, e04⟩
set_option maxHeartbeats 1600000
structure PM where
 p : PE
 a : SL
 b : SL
 c : SL
def pmV (x : PM) : List Value := [.int .i64 x.p.q.cl, .int .u64 (x.p.q.tk : Int), .string (ofL x.p.q.nm), sL x.a, .int .i64 x.p.how, sL x.b, sL x.c]
abbrev pA (x : PM) : Value := .agg #[.int .i64 x.p.q.cl, .int .u64 (x.p.q.tk : Int), .string (ofL x.p.q.nm), sL x.a, .int .i64 x.p.how, sL x.b, sL x.c]
structure PFit (p : PE) : Prop where
 q : RFit p.q
 how : -9223372036854775808 ≤ p.how ∧ p.how ≤ 9223372036854775807
 na : p.q.ar.length ≤ 1048576
 nb : p.rd.length ≤ 1048576
 nc : p.wr.length ≤ 1048576
 sr : Short p.rd
 sk : Short p.wr
structure PLies (w : World) (x : PM) : Prop where
 ra : Rd w x.a.1 x.a.2.1 3 (rowV veV x.p.q.ar)
 rb : Rd w x.b.1 x.b.2.1 1 (sv x.p.rd)
 rc : Rd w x.c.1 x.c.2.1 1 (sv x.p.wr)
structure POwn (w : World) (base : Nat) (x : PM) : Prop where
 ra : Own w base 161 3 x.a.1 x.a.2.1 x.a.2.2 (rowV veV x.p.q.ar)
 rb : Own w base 9 1 x.b.1 x.b.2.1 x.b.2.2 (sv x.p.rd)
 rc : Own w base 9 1 x.c.1 x.c.2.1 x.c.2.2 (sv x.p.wr)
section
variable {w w' : World} {base base' : Nat} {x : PM}
theorem PLies.len (X : PLies w x) : x.p.q.ar.length = x.a.2.1 ∧ x.p.rd.length = x.b.2.1 ∧ x.p.wr.length = x.c.2.1 := by
 have h1 := X.ra.1
 have h2 := X.rb.1
 have h3 := X.rc.1
 rw [rowV_len veV_len] at h1
 rw [sv_length] at h2 h3
 omega
theorem PLies.be (X : PLies w x) (e : Ext w w') : PLies w' x := ⟨X.ra.be e, X.rb.be e, X.rc.be e⟩
theorem POwn.lies (X : POwn w base x) : PLies w x := ⟨X.ra.rd, X.rb.rd, X.rc.rd⟩
theorem POwn.be (X : POwn w base x) (e : Ext w w') : POwn w' base x := ⟨X.ra.be e, X.rb.be e, X.rc.be e⟩
theorem POwn.weaken (X : POwn w base x) (h : base' ≤ base) : POwn w base' x := ⟨Own.weaken X.ra h, Own.weaken X.rb h, Own.weaken X.rc h⟩
end
theorem pown_c (x : PM) (w : World) (X : PLies w x) (F : PFit x.p) : Ret Tryz.prog 110 [pA x] w (fun v w' => ∃ x', v = pA x' ∧ x'.p = x.p ∧ Ext w w' ∧ POwn w' w.heap.size x') := by
 obtain ⟨l1, l2, l3⟩ := X.len
 have na := F.na
 have nb := F.nb
 have nc := F.nc
 refine ret_T (n := 22) Tryz.func110 rfl rfl ?_
 repeat (first | refine T_seq ?_ | refine T_region ?_)
 refine TL_box (hk := ?_); intro b1 w1 e1 h1 h1' k1
 replace k1 : Blk w1 b1 45 (pmV x) := k1
 unfold pmV at k1
 --
 refine TL_alloc TE (hk := ?_); intro b2 w2 e2 h2 h2' k2
 have k12 := k1.be e2
 have e02 := e1.ext e2
 have z1 := e1.size
 have z2 := e2.size
 clear k1
 repeat (first | refine T_seq ?_ | refine T_region ?_ | refine TL_nil ?_ | refine TL_load TE (hk := ?_) | refine TL_fieldAddr TE (hk := ?_))
 refine TL_call TE (hc := VClone_c x.a.1 x.a.2.1 x.a.2.2 x.p.q.ar w2 (X.ra.be e02) (by omega)) (hk := ?_)
 rintro _ w3 ⟨a, rfl, e3, oa⟩
 have k13 := k12.be e3
 have k23 := k2.be e3
 have z3 := e3.size
 clear k12 k2
 repeat (refine TL_fieldAddr TE (hk := ?_))
 refine TL_store TE (hk := ?_); intro w4 m4 z4 k4
 replace k4 : Blk w4 b1 45 [.int .i64 x.p.q.cl, .int .u64 (x.p.q.tk : Int), .string (ofL x.p.q.nm), sL a, .int .i64 x.p.how, sL x.b, sL x.c] := k4
 have k24 := k23.mod m4 (by simp; omega)
 have e04 : Ext w w4 := (e02.ext e3).step m4 (fun u hu => .inr (by rw [List.mem_singleton.1 hu]; omega))
 have oa4 : Own w4 w2.heap.size 161 3 a.1 a.2.1 a.2.2 (rowV veV x.p.q.ar) := oa.modL m4 (fun u hu q => by have := (oa.bl u hu).1; rw [List.mem_singleton] at q; omega)
 clear k13 k23
 repeat (first | refine T_seq ?_ | refine T_region ?_ | refine TL_nil ?_ | refine TL_load TE (hk := ?_) | refine TL_fieldAddr TE (hk := ?_))
 refine TL_call TE (hc := TClone_c x.b.1 x.b.2.1 x.b.2.2 x.p.rd w4 (X.rb.be e04) (by omega)) (hk := ?_)
 rintro _ w5 ⟨b, rfl, e5, ob⟩
 have k15 := k4.be e5
 have k25 := k24.be e5
 have oa5 := oa4.be e5
 have z5 := e5.size
 clear k4 k24
 repeat (refine TL_fieldAddr TE (hk := ?_))
 refine TL_store TE (hk := ?_); intro w6 m6 z6 k6
 replace k6 : Blk w6 b1 45 [.int .i64 x.p.q.cl, .int .u64 (x.p.q.tk : Int), .string (ofL x.p.q.nm), sL a, .int .i64 x.p.how, sL b, sL x.c] := k6
 have k26 := k25.mod m6 (by simp; omega)
 have e06 : Ext w w6 := (e04.ext e5).step m6 (fun u hu => .inr (by rw [List.mem_singleton.1 hu]; omega))
 have oa6 : Own w6 w2.heap.size 161 3 a.1 a.2.1 a.2.2 (rowV veV x.p.q.ar) := oa5.modL m6 (fun u hu q => by have := (oa.bl u hu).1; rw [List.mem_singleton] at q; omega)
 have ob6 : Own w6 w4.heap.size 9 1 b.1 b.2.1 b.2.2 (sv x.p.rd) := ob.modL m6 (fun u hu q => by have := (ob.bl u hu).1; rw [List.mem_singleton] at q; omega)
 clear k15 k25
 repeat (first | refine T_seq ?_ | refine T_region ?_ | refine TL_nil ?_ | refine TL_load TE (hk := ?_) | refine TL_fieldAddr TE (hk := ?_))
 refine TL_call TE (hc := TClone_c x.c.1 x.c.2.1 x.c.2.2 x.p.wr w6 (X.rc.be e06) (by omega)) (hk := ?_)
 rintro _ w7 ⟨c, rfl, e7, oc⟩
 have k17 := k6.be e7
 have k27 := k26.be e7
 have oa7 := oa6.be e7
 have ob7 := ob6.be e7
 have z7 := e7.size
 clear k6 k26
 repeat (refine TL_fieldAddr TE (hk := ?_))
 refine TL_store TE (hk := ?_); intro w8 m8 z8 k8
 replace k8 : Blk w8 b1 45 [.int .i64 x.p.q.cl, .int .u64 (x.p.q.tk : Int), .string (ofL x.p.q.nm), sL a, .int .i64 x.p.how, sL b, sL c] := k8
 have k28 := k27.mod m8 (by simp; omega)
 have e08 : Ext w w8 := (e06.ext e7).step m8 (fun u hu => .inr (by rw [List.mem_singleton.1 hu]; omega))
 have oa8 : Own w8 w2.heap.size 161 3 a.1 a.2.1 a.2.2 (rowV veV x.p.q.ar) := oa7.modL m8 (fun u hu q => by have := (oa.bl u hu).1; rw [List.mem_singleton] at q; omega)
 have ob8 : Own w8 w4.heap.size 9 1 b.1 b.2.1 b.2.2 (sv x.p.rd) := ob7.modL m8 (fun u hu q => by have := (ob.bl u hu).1; rw [List.mem_singleton] at q; omega)
 have oc8 : Own w8 w6.heap.size 9 1 c.1 c.2.1 c.2.2 (sv x.p.wr) := oc.modL m8 (fun u hu q => by have := (oc.bl u hu).1; rw [List.mem_singleton] at q; omega)
 clear k17 k27
 repeat (first | refine T_seq ?_ | refine T_region ?_ | refine TL_nil ?_)
 refine TL_loadb TE (cs := [.int .i64 x.p.q.cl, .int .u64 (x.p.q.tk : Int), .string (ofL x.p.q.nm), sL a, .int .i64 x.p.how, sL b, sL c]) (o := 0) rfl rfl k8 rfl rfl (Nat.succ_pos _) (hk := ?_)
 --
 refine TL_storea TE (hk := ?_); intro w9 m9 z9 k9
 have d9 : ∀ u, w2.heap.size ≤ u → u ∉ [b2] := fun u hu q => by rw [List.mem_singleton] at q; omega
 repeat (refine TL_nil ?_)
 refine T_retA1 TE (vs := [.int .i64 x.p.q.cl, .int .u64 (x.p.q.tk : Int), .string (ofL x.p.q.nm), sL a, .int .i64 x.p.how, sL b, sL c]) (o := 0) rfl rfl rfl rfl k9 rfl (Nat.succ_pos _) ⟨⟨x.p, a, b, c⟩, rfl, rfl, e08.step m9 (fun u hu => .inr (by rw [List.mem_singleton.1 hu]; omega)), ⟨Own.weaken (oa8.modL m9 (fun u hu => d9 u (oa.bl u hu).1)) (by omega), Own.weaken (ob8.modL m9 (fun u hu => d9 u (by have := (ob.bl u hu).1; omega))) (by omega), Own.weaken (oc8.modL m9 (fun u hu => d9 u (by have := (oc.bl u hu).1; omega))) (by omega)⟩⟩
theorem Right_c (x : PM) (w : World) (X : PLies w x) (F : PFit x.p) : Ret Tryz.prog 88 [pA x] w (fun v w' => v = .int .i64 (rightP x.p : Int) ∧ Ext w w') := by
 obtain ⟨l1, l2, l3⟩ := X.len
 have na := F.na
 have nb := F.nb
 have nc := F.nc
 have hh := F.how
 unfold rightP
 refine ret_T (n := 26) Tryz.func88 rfl rfl ?_
 repeat (first | refine T_seq ?_ | refine T_region ?_)
 refine TL_box (hk := ?_); intro b1 w1 e1 h1 h1' k1
 replace k1 : Blk w1 b1 45 (pmV x) := k1
 unfold pmV at k1
 have rn : Rd w1 none 0 1 (bv []) := (Own.nil w1 w1.heap.size 5 1).rd
 repeat (first | refine T_seq ?_ | refine T_region ?_ | refine TL_nil ?_ | refine TL_assign (hk := ?_) | refine TL_fieldAddr TE (hk := ?_))
 refine TL_loadb TE (cs := [.int .i64 x.p.q.cl, .int .u64 (x.p.q.tk : Int), .string (ofL x.p.q.nm), sL x.a]) (o := 0) rfl rfl k1 rfl rfl (Nat.succ_pos _) (hk := ?_)
 --
 refine TL_call TE (hc := RqPut_c x.p.q none x.a.1 0 0 x.a.2.1 x.a.2.2 [] w1 F.q rn (X.ra.be e1) (by omega) (by omega)) (hk := ?_)
 rintro _ w2 ⟨A2, n2, c2, rfl, e2, o2⟩
 have k2 := k1.be e2
 have e02 := e1.ext e2
 clear k1
 by_cases hc : checkR x.p.q = 0
 ·have hp : (putR [] x.p.q).2 = 0 := by unfold putR; rw [if_neg (by omega)]
  rw [hp, if_neg (by omega)]
  by_cases h1 : x.p.how = 1
  ·rw [if_neg (by omega)]
   repeat (first | refine T_seq ?_ | refine T_region ?_ | refine T_cond_false rfl ?_ | refine T_skip ?_ | refine TL_ne_f (hk := ?_) | refine TL_nil ?_ | refine TL_move (hk := ?_) | refine TL_assign (hk := ?_) | refine TL_load TE (hk := ?_) | refine TL_fieldAddr TE (hk := ?_) | refine TL_no (hk := ?_) | refine TL_pick_f (hk := ?_) | refine TL_extract (hk := ?_))
   refine TL_loadb TE (cs := [sL x.b, sL x.c]) (o := 5) rfl rfl k2 rfl rfl (Nat.succ_pos _) (hk := ?_)
   --
   refine TL_call TE (hc := snormal_c x.b.1 x.c.1 x.b.2.1 x.b.2.2 x.c.2.1 x.c.2.2 x.p.rd x.p.wr w2 (X.rb.be e02) (X.rc.be e02) (by omega) (by omega) F.sr F.sk) (hk := ?_)
   rintro _ w3 ⟨rfl, e3⟩
   cases hn : normB x.p.rd x.p.wr with
   |true =>
    rw [if_neg (by simp)]
    repeat (first | refine T_seq ?_ | refine T_region ?_ | refine T_cond_false rfl ?_ | refine T_skip ?_ | refine TL_nil ?_ | refine TL_assign (hk := ?_) | refine TL_not (hk := ?_))
    exact T_ret1 rfl rfl ⟨rfl, e02.ext e3⟩
   |false =>
    rw [if_pos rfl]
    repeat (first | refine T_seq ?_ | refine T_region ?_ | refine T_cond_true rfl ?_ | refine TL_nil ?_ | refine TL_assign (hk := ?_) | refine TL_not (hk := ?_))
    exact T_ret1 rfl rfl ⟨rfl, e02.ext e3⟩
  ·by_cases h2 : x.p.how = 2
   ·rw [if_neg (by omega)]
    repeat (first | refine T_seq ?_ | refine T_region ?_ | refine T_cond_false rfl ?_ | refine T_skip ?_ | refine TL_ne_t (hk := ?_) | refine TL_ne_f (hk := ?_) | refine TL_nil ?_ | refine TL_move (hk := ?_) | refine TL_assign (hk := ?_) | refine TL_load TE (hk := ?_) | refine TL_fieldAddr TE (hk := ?_) | refine TL_yes (hk := ?_) | refine TL_pick_t (hk := ?_) | refine TL_extract (hk := ?_))
    refine TL_loadb TE (cs := [sL x.b, sL x.c]) (o := 5) rfl rfl k2 rfl rfl (Nat.succ_pos _) (hk := ?_)
    --
    refine TL_call TE (hc := snormal_c x.b.1 x.c.1 x.b.2.1 x.b.2.2 x.c.2.1 x.c.2.2 x.p.rd x.p.wr w2 (X.rb.be e02) (X.rc.be e02) (by omega) (by omega) F.sr F.sk) (hk := ?_)
    rintro _ w3 ⟨rfl, e3⟩
    cases hn : normB x.p.rd x.p.wr with
    |true =>
     rw [if_neg (by simp)]
     repeat (first | refine T_seq ?_ | refine T_region ?_ | refine T_cond_false rfl ?_ | refine T_skip ?_ | refine TL_nil ?_ | refine TL_assign (hk := ?_) | refine TL_not (hk := ?_))
     exact T_ret1 rfl rfl ⟨rfl, e02.ext e3⟩
    |false =>
     rw [if_pos rfl]
     repeat (first | refine T_seq ?_ | refine T_region ?_ | refine T_cond_true rfl ?_ | refine TL_nil ?_ | refine TL_assign (hk := ?_) | refine TL_not (hk := ?_))
     exact T_ret1 rfl rfl ⟨rfl, e02.ext e3⟩
   ·rw [if_pos ⟨h1, h2⟩]
    repeat (first | refine T_seq ?_ | refine T_region ?_ | refine T_cond_true rfl ?_ | refine T_cond_false rfl ?_ | refine T_skip ?_ | refine TL_ne_t (hk := ?_) | refine TL_ne_f (hk := ?_) | refine TL_nil ?_ | refine TL_move (hk := ?_) | refine TL_assign (hk := ?_) | refine TL_load TE (hk := ?_) | refine TL_fieldAddr TE (hk := ?_) | refine TL_yes (hk := ?_) | refine TL_pick_t (hk := ?_) | refine TL_extract (hk := ?_))
    exact T_ret1 rfl rfl ⟨rfl, e02⟩
 ·have hp : (putR [] x.p.q).2 = checkR x.p.q := by unfold putR; rw [if_pos hc]
  have hc' : ¬ ((checkR x.p.q : Nat) : Int) = 0 := by omega
  rw [hp, if_pos hc]
  repeat (first | refine T_seq ?_ | refine T_region ?_ | refine T_cond_true rfl ?_ | refine TL_ne_t (hk := ?_) | refine TL_nil ?_ | refine TL_move (hk := ?_) | refine TL_assign (hk := ?_) | refine TL_extract (hk := ?_))
  exact T_ret1 rfl rfl ⟨rfl, e02⟩
structure EM where
 sq : Int
 ep : Int
 m : PM
def emV (x : EM) : List Value := [.int .i64 x.sq, .int .i64 x.ep] ++ pmV x.m
theorem emV_len (x : EM) : (emV x).length = 9 := rfl
theorem emV_one (x : EM) : ∀ u ∈ emV x, u.oneCell' = true := by
 intro u hu
 simp only [emV, pmV, List.cons_append, List.nil_append, List.mem_cons, List.not_mem_nil, or_false] at hu
 rcases hu with rfl | rfl | rfl | rfl | rfl | rfl | rfl | rfl | rfl <;> rfl
def emE (x : EM) : EE := ⟨x.sq, x.ep, x.m.p⟩
def em0 : EM := ⟨0, 0, ⟨⟨⟨0, 0, [], []⟩, 0, [], []⟩, (none, 0, 0), (none, 0, 0), (none, 0, 0)⟩⟩
def pmB (x : PM) : List Nat := blkL x.a.1 ++ (blkL x.b.1 ++ blkL x.c.1)
theorem PLies.mod {w w' : World} {x : PM} {S : List Nat} (X : PLies w x) (m : Eng.Mod S w w') (h : ∀ b ∈ pmB x, b ∉ S) : PLies w' x :=
 ⟨X.ra.mod m (off_ofL fun b hb => h b (List.mem_append_left _ hb)), X.rb.mod m (off_ofL fun b hb => h b (List.mem_append_right _ (List.mem_append_left _ hb))), X.rc.mod m (off_ofL fun b hb => h b (List.mem_append_right _ (List.mem_append_right _ hb)))⟩
theorem POwn.bl {w : World} {base : Nat} {x : PM} (X : POwn w base x) : ∀ b ∈ pmB x, base ≤ b ∧ b < w.heap.size := fun b hb => by
 rcases List.mem_append.1 hb with q | q
 ·exact X.ra.bl b q
 ·rcases List.mem_append.1 q with q | q
  ·exact X.rb.bl b q
  ·exact X.rc.bl b q
structure LogM (w : World) (base lg : Nat) (sl : SL) (es : List EM) (g : Nat → Nat) (L : LE) : Prop where
 blk : Blk w lg 139 [sL sl, .int .i64 L.ep]
 ow : Own w base 47 9 sl.1 sl.2.1 sl.2.2 (rowV emV es)
 ee : es.map emE = L.l
 ek : ∀ z ∈ es, PLies w z.m ∧ PFit z.m.p ∧ ∀ b ∈ pmB z.m, g b = 6
 g1 : g lg = 4
 g2 : ∀ b ∈ blkL sl.1, g b = 5
 old : ∀ b, g b ≠ 0 → base ≤ b ∧ b < w.heap.size
section
variable {w w' w1 w2 w3 : World} {base lg : Nat} {sl sl' : SL} {es : List EM} {g g' : Nat → Nat} {L : LE} {Z : List Nat}
theorem LogM.len (D : LogM w base lg sl es g L) : L.l.length = sl.2.1 ∧ es.length = L.l.length := by
 have h1 := D.ow.len
 rw [rowV_len emV_len] at h1
 have h2 := congrArg List.length D.ee
 rw [List.length_map] at h2
 omega
theorem LogM.mod (D : LogM w base lg sl es g L) (m : Eng.Mod Z w w') (hZ : ∀ b ∈ Z, g b = 0) : LogM w' base lg sl es g L :=
 have nin : ∀ b c, g b = c + 1 → b ∉ Z := fun b c e q => by rw [hZ b q] at e; cases e
 { D with
  blk := D.blk.mod m (nin _ _ D.g1)
  ow := D.ow.modL m (fun b hb => nin b _ (D.g2 b hb))
  ek := fun z hz => ⟨(D.ek z hz).1.mod m (fun b hb => nin b _ ((D.ek z hz).2.2 b hb)), (D.ek z hz).2⟩
  old := fun b hb => by have := D.old b hb; have := m.size; omega }
theorem LogM.ext (D : LogM w base lg sl es g L) (e : Ext w w') : LogM w' base lg sl es g L := D.mod e (fun b hb => by cases hb)
theorem LogM.tn (D : LogM w base lg sl es g L) {o o' : Nat → Nat} (t : Tn o o' w w') (hd : ∀ b, o b = 0 ∨ g b = 0) : LogM w' base lg sl es g L ∧ ∀ b, o' b = 0 ∨ g b = 0 := by
 obtain ⟨⟨S, m1, s1⟩, n1, z1⟩ := t
 refine ⟨D.mod m1 (fun b hb => (hd b).resolve_left (s1 b hb)), fun b => ?_⟩
 by_cases q : o' b = 0
 ·exact .inl q
 ·right
  rcases n1 b q with h1 | h1
  ·exact (hd b).resolve_left h1
  ·by_cases y : g b = 0
   ·exact y
   ·have := (D.old b y).2; omega
theorem LogM.at (D : LogM w base lg sl es g L) {i : Nat} (hi : i < L.l.length) : emE (es.getD i em0) = L.l.getD i (emE em0) := by
 have hl := D.len.2
 rw [← D.ee, List.getD_eq_getElem?_getD, List.getD_eq_getElem?_getD, List.getElem?_map, List.getElem?_eq_getElem (by omega)]
 rfl
theorem LogM.setE (D : LogM w base lg sl es g L) {ep : Int} (m : Eng.Mod [lg] w w') (hb : Blk w' lg 139 [sL sl, .int .i64 ep]) : LogM w' base lg sl es g { L with ep := ep } ∧ Tn g g w w' := by
 have nin : ∀ b c, g b = c → c ≠ 4 → b ∉ [lg] := fun b c e k q => by rw [List.mem_singleton.1 q, D.g1] at e; omega
 exact ⟨{ D with
  blk := hb
  ow := D.ow.modL m (fun b hb => nin b _ (D.g2 b hb) (by decide))
  ek := fun z hz => ⟨(D.ek z hz).1.mod m (fun b hb => nin b _ ((D.ek z hz).2.2 b hb) (by decide)), (D.ek z hz).2⟩
  old := fun b hb => by have := D.old b hb; have := m.size; omega }, ⟨_, m, fun b hb => by rw [List.mem_singleton.1 hb, D.g1]; decide⟩, fun b hb => .inl hb, m.size⟩
theorem LogM.push (D : LogM w base lg sl es g L) {z : EM} (e1 : Ext w w1) (X : POwn w1 w.heap.size z.m) (F : PFit z.m.p) (m2 : Eng.Mod (blkL sl.1) w1 w2) (ho : Own w2 base 47 9 sl'.1 sl'.2.1 sl'.2.2 (rowV emV (es ++ [z]))) (hn : Near sl.1 sl'.1 w1) (m3 : Eng.Mod [lg] w2 w3) (hb : Blk w3 lg 139 [sL sl', .int .i64 L.ep]) :
  ∃ g', LogM w3 base lg sl' (es ++ [z]) g' { L with l := L.l ++ [emE z] } ∧ Tn g g' w w3 := by
 have z1 := e1.size
 have z2 := m2.size
 have z3 := m3.size
 have hz : ∀ b, w.heap.size ≤ b → g b = 0 := fun b hb => by
  by_cases q : g b = 0
  ·exact q
  ·have := (D.old b q).2; omega
 have hbs : base ≤ w.heap.size := by have := D.old lg (by rw [D.g1]; decide); omega
 have hn' : ∀ b ∈ blkL sl'.1, b ∈ blkL sl.1 ∨ w1.heap.size ≤ b := fun b hb => Near.mem hn b hb
 have M : Eng.Mod (lg :: blkL sl.1) w w3 := ((e1.mono (S' := lg :: blkL sl.1) (fun b hb => by cases hb)).step m2 (fun b hb => .inl (List.mem_cons_of_mem _ hb))).step m3 (fun b hb => .inl (by rw [List.mem_singleton.1 hb]; exact List.mem_cons_self))
 have M13 : Eng.Mod (lg :: blkL sl.1) w1 w3 := (m2.mono (S' := lg :: blkL sl.1) (fun b hb => .inl (List.mem_cons_of_mem _ hb))).step m3 (fun b hb => .inl (by rw [List.mem_singleton.1 hb]; exact List.mem_cons_self))
 have hS : ∀ b ∈ lg :: blkL sl.1, g b = 4 ∨ g b = 5 := fun b hb => by
  rcases List.mem_cons.1 hb with rfl | hb
  ·exact .inl D.g1
  ·exact .inr (D.g2 b hb)
 obtain ⟨g', hg'⟩ : ∃ g' : Nat → Nat, g' = fun b => if b ∈ pmB z.m then 6 else if b ∈ blkL sl'.1 then 5 else g b := ⟨_, rfl⟩
 have kF : ∀ b ∈ pmB z.m, g' b = 6 := fun b hb => by rw [hg']; exact if_pos hb
 have hF := X.bl
 have kL : ∀ b ∈ blkL sl'.1, g' b = 5 := fun b hb => by
  have q : b ∉ pmB z.m := fun q => by
   have h1 := hF b q
   rcases hn' b hb with y | y
   ·have := D.g2 b y; have := hz b h1.1; omega
   ·omega
  rw [hg']; simp only; rw [if_neg q, if_pos hb]
 have keep : ∀ b, g b ≠ 0 → g' b = g b := fun b hb => by
  have q : b ∉ pmB z.m := fun q => hb (hz b (hF b q).1)
  rw [hg']; simp only; rw [if_neg q]
  by_cases q2 : b ∈ blkL sl'.1
  ·rw [if_pos q2]
   rcases hn' b q2 with y | y
   ·exact (D.g2 b y).symm
   ·exact absurd (hz b (by omega)) hb
  ·rw [if_neg q2]
 have kp : ∀ {b k}, g b = k + 1 → g' b = k + 1 := fun {b k} e => by rw [keep b (by omega), e]
 have hnz : ∀ b, g' b ≠ 0 → g b ≠ 0 ∨ b ∈ pmB z.m ∨ b ∈ blkL sl'.1 := fun b hb => by
  by_cases q : b ∈ pmB z.m
  ·exact .inr (.inl q)
  ·by_cases q2 : b ∈ blkL sl'.1
   ·exact .inr (.inr q2)
   ·rw [hg'] at hb; simp only at hb; rw [if_neg q, if_neg q2] at hb; exact .inl hb
 have hyL : ∀ b ∈ blkL sl'.1, b ∉ [lg] := fun b hb q => by
  rw [List.mem_singleton] at q
  have h3 := D.g1
  rcases hn' b hb with y | y
  ·have := D.g2 b y; rw [q] at this; omega
  ·have := hz b (by omega); rw [q] at this; omega
 refine ⟨g', { D with
  blk := hb
  ow := ho.modL m3 hyL
  ee := by rw [List.map_append, D.ee]; rfl
  ek := fun u hu => ?_
  g1 := kp D.g1
  g2 := kL
  old := fun b hb => ?_ }, ⟨⟨_, M, fun b hb => by rcases hS b hb with y | y <;> omega⟩, fun b hb => ?_, by omega⟩⟩
 ·rcases List.mem_append.1 hu with q | q
  ·have h := D.ek u q
   exact ⟨h.1.mod M (fun b hb e => by have := h.2.2 b hb; rcases hS b e with y | y <;> omega), h.2.1, fun b hb => kp (h.2.2 b hb)⟩
  ·rw [List.mem_singleton.1 q]
   exact ⟨X.lies.mod M13 (fun b hb e => by have := hz b (hF b hb).1; rcases hS b e with y | y <;> omega), F, kF⟩
 ·rcases hnz b hb with q | q | q
  ·have := D.old b q; omega
  ·have := hF b q; omega
  ·have := ho.bl b q; omega
 ·rcases hnz b hb with q | q | q
  ·exact .inl q
  ·exact .inr (hF b q).1
  ·rcases hn' b q with y | y
   ·left; rw [D.g2 b y]; decide
   ·exact .inr (by omega)
end
set_option maxHeartbeats 1600000
section
variable {base lg : Nat} {sl : SL} {es : List EM} {g : Nat → Nat} {L : LE}
theorem LLen_c (w : World) (D : LogM w base lg sl es g L) : Ret Tryz.prog 52 [pB lg] w (fun v w' => v = .int .i64 (L.l.length : Int) ∧ w' = w) := by
 have hb := D.blk
 rw [D.len.1]
 refine ret_T (n := 10) Tryz.func52 rfl rfl ?_
 repeat (first | refine T_seq ?_ | refine T_region ?_ | refine T_cond_false rfl ?_ | refine T_skip ?_ | refine TL_pnil_f TE (hk := ?_) | refine TL_nil ?_ | refine TL_move (hk := ?_) | refine TL_assign (hk := ?_) | refine TL_load TE (hk := ?_) | refine TL_fieldAddr TE (hk := ?_) | refine TL_len TE (hk := ?_) | refine TL_nilCheck (hk := ?_))
 exact T_ret1 rfl rfl ⟨rfl, rfl⟩
theorem LNew_c (w : World) : Ret Tryz.prog 50 [] w (fun v w' => ∃ lg g, v = pB lg ∧ Ext w w' ∧ LogM w' w.heap.size lg (none, 0, 0) [] g ⟨[], 0⟩) := by
 refine ret_T (n := 3) Tryz.func50 rfl rfl ?_
 repeat (first | refine T_seq ?_ | refine T_region ?_ | refine TL_nil ?_ | refine TL_assign (hk := ?_) | refine TL_build TE (hk := ?_))
 refine TL_box (hk := ?_); intro b1 w1 e1 h1 h1' k1
 repeat (first | refine TL_nil ?_ | refine TL_assign (hk := ?_))
 exact T_ret1 rfl rfl ⟨b1, fun b => if b = b1 then 4 else 0, rfl, e1, ⟨k1, Own.nil _ _ _ _, rfl, fun z hz => (by cases hz), if_pos rfl, fun b hb => (by cases hb), fun b hb => by
  by_cases q : b = b1
  ·rw [q]; exact ⟨h1, k1.lt⟩
  ·rw [if_neg q] at hb; exact absurd rfl hb⟩⟩
end
set_option maxHeartbeats 3200000
def pm0 : PM := ⟨pe0, (none, 0, 0), (none, 0, 0), (none, 0, 0)⟩
theorem pmV_len (x : PM) : (pmV x).length = 7 := rfl
theorem map_at (xs : List PM) (i : Nat) : (xs.map (·.p)).getD i pe0 = (xs.getD i pm0).p := by
 rw [List.getD_eq_getElem?_getD, List.getD_eq_getElem?_getD, List.getElem?_map]
 cases xs[i]? <;> rfl
theorem in_at {xs : List PM} {i : Nat} (h : i < xs.length) : xs.getD i pm0 ∈ xs := by
 rw [List.getD_eq_getElem?_getD, List.getElem?_eq_getElem h]; exact List.getElem_mem _
section
variable {base lg : Nat} {sl : SL} {es : List EM} {g : Nat → Nat} {L : LE}
theorem LAppend_c (ep : Int) (A : Option Addr) (n c : Nat) (xs : List PM) (w : World) (D : LogM w base lg sl es g L) (hp : Rd w A n 7 (rowV pmV xs)) (hx : ∀ x ∈ xs, PLies w x ∧ PFit x.p) (hA : ∀ b ∈ blkL A, g b = 0) (hB : ∀ x ∈ xs, ∀ b ∈ pmB x, g b = 0) (hn : n ≤ 1000000) (hl : L.l.length ≤ 65536) :
  Ret Tryz.prog 63 [pB lg, .int .i64 ep, .slice A n c] w (fun v w' => v = .tuple #[.int .i64 (appL L ep (xs.map (·.p))).2.1, .int .i64 ((appL L ep (xs.map (·.p))).2.2.1 : Int), .int .i64 ((appL L ep (xs.map (·.p))).2.2.2 : Int)] ∧ ∃ sl' es' g', LogM w' base lg sl' es' g' (appL L ep (xs.map (·.p))).1 ∧ Tn g g' w w') := by
 have hxl : xs.length = n := by have := hp.1; rw [rowV_len pmV_len] at this; omega
 have hml : (xs.map (·.p)).length = n := by rw [List.length_map]; exact hxl
 have hb := D.blk
 obtain ⟨hl1, hl2⟩ := D.len
 unfold appL
 refine ret_T (n := 88) Tryz.func63 rfl rfl ?_
 by_cases c1 : ep < L.ep
 ·rw [if_pos (.inl c1)]
  repeat (first | refine T_seq ?_ | refine T_region ?_ | refine T_cond_true rfl ?_ | refine T_cond_false rfl ?_ | refine T_block ?_ | refine TL_lt_t (hk := ?_) | refine TL_pnil_f TE (hk := ?_) | refine TL_nil ?_ | refine TL_move (hk := ?_) | refine TL_assign (hk := ?_) | refine TL_load TE (hk := ?_) | refine TL_fieldAddr TE (hk := ?_) | refine TL_no (hk := ?_) | refine TL_pick_t (hk := ?_) | refine TL_nilCheck (hk := ?_))
  exact T_ret3 rfl rfl rfl rfl ⟨rfl, sl, es, g, D, Tn.refl _ _⟩
 by_cases c2 : ep < 0
 ·rw [if_pos (.inr c2)]
  repeat (first | refine T_seq ?_ | refine T_region ?_ | refine T_cond_true rfl ?_ | refine T_cond_false rfl ?_ | refine T_block ?_ | refine TL_lt_t (hk := ?_) | refine TL_lt_f (hk := ?_) | refine TL_pnil_f TE (hk := ?_) | refine TL_nil ?_ | refine TL_move (hk := ?_) | refine TL_assign (hk := ?_) | refine TL_load TE (hk := ?_) | refine TL_fieldAddr TE (hk := ?_) | refine TL_yes (hk := ?_) | refine TL_pick_f (hk := ?_) | refine TL_nilCheck (hk := ?_))
  exact T_ret3 rfl rfl rfl rfl ⟨rfl, sl, es, g, D, Tn.refl _ _⟩
 rw [if_neg (fun q => q.elim c1 c2)]
 by_cases c3 : 65536 < L.l.length + (xs.map (·.p)).length
 ·rw [if_pos c3]
  have c3' : (65536 : Int) < (sl.2.1 : Int) + (n : Int) := by omega
  repeat (first | refine T_seq ?_ | refine T_region ?_ | refine T_cond_true rfl ?_ | refine T_cond_false rfl ?_ | refine T_block ?_ | refine TL_add (hk := ?_) | refine TL_lt_f (hk := ?_) | refine TL_gt_t (hk := ?_) | refine TL_pnil_f TE (hk := ?_) | refine TL_nil ?_ | refine TL_move (hk := ?_) | refine TL_assign (hk := ?_) | refine TL_load TE (hk := ?_) | refine TL_fieldAddr TE (hk := ?_) | refine TL_len TE (hk := ?_) | refine TL_yes (hk := ?_) | refine TL_pick_f (hk := ?_) | refine TL_nilCheck (hk := ?_))
  exact T_ret3 rfl rfl rfl rfl ⟨rfl, sl, es, g, D, Tn.refl _ _⟩
 rw [if_neg c3]
 have c3' : ¬ (65536 : Int) < (sl.2.1 : Int) + (n : Int) := by omega
 repeat (first | refine T_seq ?_ | refine T_region ?_ | refine T_cond_false rfl ?_ | refine T_block ?_ | refine T_inBlock ?_ | refine T_skip ?_ | refine TL_add (hk := ?_) | refine TL_lt_f (hk := ?_) | refine TL_gt_f (hk := ?_) | refine TL_pnil_f TE (hk := ?_) | refine TL_nil ?_ | refine TL_move (hk := ?_) | refine TL_assign (hk := ?_) | refine TL_load TE (hk := ?_) | refine TL_fieldAddr TE (hk := ?_) | refine TL_len TE (hk := ?_) | refine TL_yes (hk := ?_) | refine TL_pick_f (hk := ?_) | refine TL_nilCheck (hk := ?_))
 refine T_loop (ι := Nat) (fun i => [(41, .int .i64 (i : Int)), (40, .int .i64 (n : Int)), (39, .slice A n c), (0, pB lg), (1, .int .i64 ep), (2, .slice A n c)]) (fun i w' => i ≤ n ∧ Ext w w' ∧ ∀ j, j < i → rightP ((xs.map (·.p)).getD j pe0) = 0) (fun i => n - i) 0 (.c rfl (.c rfl (.c rfl (.c rfl (.c rfl (.c rfl (.n))))))) ⟨Nat.zero_le _, Mod.refl _ _, fun j hj => by omega⟩ ?_
 rintro i w1 ⟨hi, e1, h0⟩ ih
 have hp1 := hp.be e1
 by_cases hlt : i < n
 ·have hAn : A ≠ none := by obtain ⟨_, _, hq, _⟩ := hp1.2 (by omega); rw [hq]; simp
  have t1 := rowV_elem pmV_len xs i pm0 (by omega)
  obtain ⟨hX, hF⟩ := hx _ (in_at (i := i) (by omega))
  have hma := map_at xs i
  generalize xs.getD i pm0 = x at t1 hX hF hma
  repeat (first | refine T_seq ?_ | refine T_region ?_ | refine T_cond_true rfl ?_ | refine T_block ?_ | refine T_skip ?_ | refine TL_lt_t (hk := ?_) | refine TL_nil ?_ | refine TL_move (hk := ?_) | refine TL_indexAddrn TE (hk := ?_))
  refine TL_loada TE (cs := pmV x) (hx := rfl) (ht := rfl) (hi := rfl) (hr := hp1) (hc := t1) (h0 := Nat.succ_pos _) (hk := ?_)
  --
  refine TL_alloc TE (hk := ?_); intro b2 w2 e2 h2 h2' k2
  repeat (refine TL_assign (hk := ?_))
  refine TL_storea TE (hk := ?_); intro w3 m3 z3 k3
  have z2 := e2.size
  have e13 : Ext w1 w3 := Mod.step e2 m3 (by simp; omega)
  replace k3 : Blk w3 b2 45 (pmV x) := k3
  unfold pmV at k3
  repeat (first | refine T_seq ?_ | refine T_region ?_ | refine TL_nil ?_)
  refine TL_loadb TE (cs := [.int .i64 x.p.q.cl, .int .u64 (x.p.q.tk : Int), .string (ofL x.p.q.nm), sL x.a, .int .i64 x.p.how, sL x.b, sL x.c]) (o := 0) rfl rfl k3 rfl rfl (Nat.succ_pos _) (hk := ?_)
  --
  refine TL_call TE (hc := Right_c x w3 (hX.be (e1.ext e13)) hF) (hk := ?_)
  rintro _ w4 ⟨rfl, e4⟩
  have e14 := (e1.ext e13).ext e4
  by_cases hr : rightP x.p = 0
  ·have hr' : ((rightP x.p : Nat) : Int) = 0 := by omega
   repeat (first | refine T_seq ?_ | refine T_region ?_ | refine T_cond_false rfl ?_ | refine T_inBlock ?_ | refine T_skip ?_ | refine TL_add (hk := ?_) | refine TL_ne_f (hk := ?_) | refine TL_nil ?_ | refine TL_move (hk := ?_) | refine TL_assign (hk := ?_))
   exact ih (i + 1) _ _ (by omega) ⟨by omega, e14, fun j hj => by
    by_cases q : j = i
    ·rw [q, hma]; exact hr
    ·exact h0 j (by omega)⟩ (.c rfl (.c rfl (.c rfl (.c rfl (.c rfl (.c rfl (.n)))))))
  ·have hr' : ¬ ((rightP x.p : Nat) : Int) = 0 := by omega
   have hfi := first_at (xs.map (·.p)) 0 i (by omega) h0 (by rw [hma]; exact hr)
   rw [hma, Nat.zero_add] at hfi
   rw [hfi]
   repeat (first | refine T_seq ?_ | refine T_region ?_ | refine T_cond_true rfl ?_ | refine TL_ne_t (hk := ?_) | refine TL_nil ?_ | refine TL_move (hk := ?_) | refine TL_assign (hk := ?_))
   exact T_ret3 rfl rfl rfl rfl ⟨rfl, sl, es, g, D.ext e14, Tn.ext e14⟩
 ·clear ih
  have hin : i = n := by omega
  subst hin
  rw [first_no (xs.map (·.p)) 0 (fun j hj => h0 j (by omega))]
  simp only
  have D1 := D.ext e1
  have hb1 := D1.blk
  have hAdd0 : addK L ep (xs.map (·.p)) 0 = L := by unfold addK; simp
  have hlen0 : (sl.2.1 : Int) = (L.l.length : Int) := by omega
  repeat (first | refine T_seq ?_ | refine T_region ?_ | refine T_cond_false rfl ?_ | refine T_block ?_ | refine T_exit rfl ?_ | refine TL_lt_f (hk := ?_) | refine TL_nil ?_ | refine TL_move (hk := ?_) | refine TL_assign (hk := ?_) | refine TL_load TE (hk := ?_) | refine TL_fieldAddr TE (hk := ?_) | refine TL_len TE (hk := ?_) | refine TL_nilCheck (hk := ?_))
  rw [hlen0]
  refine T_loop (ι := Nat) (fun j => [(60, .int .i64 (j : Int)), (59, .int .i64 (i : Int)), (58, .slice A i c), (12, .int .i64 (L.l.length : Int)), (0, pB lg), (1, .int .i64 ep)]) (fun j w' => j ≤ i ∧ ∃ sl' es' g', LogM w' base lg sl' es' g' (addK L ep (xs.map (·.p)) j) ∧ Tn g g' w w') (fun j => i - j) 0 (.c rfl (.c rfl (.c rfl (.c rfl (.c rfl (.c rfl (.n))))))) ⟨Nat.zero_le _, sl, es, g, by rw [hAdd0]; exact D1, Tn.ext e1⟩ ?_
  clear D1 hb1 hp1 hb
  rintro j w2 ⟨hj, sl2, es2, g2, D2, t2⟩ ih
  have hb2 := D2.blk
  have hl3 := D2.len.1
  rw [addK_len] at hl3
  have m2 : ∃ S, Eng.Mod S w w2 ∧ ∀ b ∈ S, g b ≠ 0 := t2.1
  obtain ⟨S2, mS, hS⟩ := m2
  have hp2 := hp.mod mS (off_ofL fun u hu q => hS u q (hA u hu))
  have hep2 : (addK L ep (xs.map (·.p)) j).ep = L.ep := rfl
  by_cases hlt2 : j < i
  ·have hAn : A ≠ none := by obtain ⟨_, _, hq, _⟩ := hp2.2 (by omega); rw [hq]; simp
   have t1 := rowV_elem pmV_len xs j pm0 (by omega)
   have hmem := in_at (xs := xs) (i := j) (by omega)
   obtain ⟨hX, hF⟩ := hx _ hmem
   have hXB := hB _ hmem
   have hma := map_at xs j
   have hsu := addK_succ L ep (xs.map (·.p)) j
   rw [hma] at hsu
   generalize xs.getD j pm0 = x at t1 hX hF hma hsu hXB
   have hX2 := hX.mod mS (fun b hb q => hS b q (hXB b hb))
   have hbs : base ≤ w2.heap.size := by have := D2.old lg (by rw [D2.g1]; decide); omega
   repeat (first | refine T_seq ?_ | refine T_region ?_ | refine T_cond_true rfl ?_ | refine T_block ?_ | refine T_skip ?_ | refine TL_lt_t (hk := ?_) | refine TL_nil ?_ | refine TL_indexAddrn TE (hk := ?_))
   refine TL_loada TE (cs := pmV x) (hx := rfl) (ht := rfl) (hi := rfl) (hr := hp2) (hc := t1) (h0 := Nat.succ_pos _) (hk := ?_)
   --
   refine TL_alloc TE (hk := ?_); intro b3 w3 e3 h3 h3' k3
   --
   refine TL_storea TE (hk := ?_); intro w4 m4 z4 k4
   have z3 := e3.size
   have e24 : Ext w2 w4 := Mod.step e3 m4 (by simp; omega)
   replace k4 : Blk w4 b3 45 (pmV x) := k4
   unfold pmV at k4
   have D4 := D2.ext e24
   have hb4 := D4.blk
   have hX4 := hX2.be e24
   have h3D : b3 ∉ blkL sl2.1 := fun q => by have := (D2.ow.bl b3 q).2; omega
   have hgD : lg ∉ blkL sl2.1 := fun q => by have := D2.g2 lg q; have := D2.g1; omega
   repeat (refine TL_nil ?_)
   refine T_region_anyz TE.mixed (blkL sl2.1) (some 18) ?_; intro w5 e5 z5
   have D5 := D4.ext e5
   have hb5 := D5.blk
   have k5 := k4.be e5
   have zz5 := e5.size
   (refine TA_take 0 rfl (by kernel_rfl) (by kernel_rfl) (by kernel_rfl) ?_; (repeat (first | refine TL_move (hk := ?_) | refine TLP_load TE (hk := ?_) | refine TL_fieldAddr TE (hk := ?_) | refine TL_len TE (hk := ?_) | refine TL_nilCheck (hk := ?_))); refine TL_nil_p ?_); (refine TA_take 1 rfl (by kernel_rfl) (by kernel_rfl) (by kernel_rfl) ?_; (repeat (first | refine TL_move (hk := ?_) | refine TLP_load TE (hk := ?_) | refine TL_fieldAddr TE (hk := ?_) | refine TL_len TE (hk := ?_) | refine TL_nilCheck (hk := ?_))); refine TL_nil_p ?_); (refine TA_take 2 rfl (by kernel_rfl) (by kernel_rfl) (by kernel_rfl) ?_; (repeat (first | refine TL_move (hk := ?_) | refine TLP_load TE (hk := ?_) | refine TL_fieldAddr TE (hk := ?_) | refine TL_len TE (hk := ?_) | refine TL_nilCheck (hk := ?_))); refine TL_nil_p ?_); (refine TA_take 3 rfl (by kernel_rfl) (by kernel_rfl) (by kernel_rfl) ?_; (repeat (first | refine TL_move (hk := ?_) | refine TLP_load TE (hk := ?_) | refine TL_fieldAddr TE (hk := ?_) | refine TL_len TE (hk := ?_) | refine TL_nilCheck (hk := ?_))); refine TL_nil_p ?_); (refine TA_take 4 rfl (by kernel_rfl) (by kernel_rfl) (by kernel_rfl) ?_; (repeat (first | refine TL_move (hk := ?_) | refine TLP_load TE (hk := ?_) | refine TL_fieldAddr TE (hk := ?_) | refine TL_len TE (hk := ?_) | refine TL_nilCheck (hk := ?_))); refine TL_nil_p ?_); (refine TA_take 5 rfl (by kernel_rfl) (by kernel_rfl) (by kernel_rfl) ?_; (repeat (first | refine TL_move (hk := ?_) | refine TLP_load TE (hk := ?_) | refine TL_fieldAddr TE (hk := ?_) | refine TL_len TE (hk := ?_) | refine TL_nilCheck (hk := ?_))); refine TL_nil_p ?_); (refine TA_take 6 rfl (by kernel_rfl) (by kernel_rfl) (by kernel_rfl) ?_; (repeat (first | refine TL_move (hk := ?_) | refine TLP_load TE (hk := ?_) | refine TL_fieldAddr TE (hk := ?_) | refine TL_len TE (hk := ?_) | refine TL_nilCheck (hk := ?_))); refine TL_nil_p ?_); (refine TA_take 7 rfl (by kernel_rfl) (by kernel_rfl) (by kernel_rfl) ?_; (repeat (first | refine TL_move (hk := ?_) | refine TLP_load TE (hk := ?_) | refine TL_fieldAddr TE (hk := ?_) | refine TL_len TE (hk := ?_) | refine TL_nilCheck (hk := ?_))); refine TL_nil_p ?_); (refine TA_take 8 rfl (by kernel_rfl) (by kernel_rfl) (by kernel_rfl) ?_; (repeat (first | refine TL_move (hk := ?_) | refine TLP_load TE (hk := ?_) | refine TL_fieldAddr TE (hk := ?_) | refine TL_len TE (hk := ?_) | refine TL_nilCheck (hk := ?_))); refine TL_nil_p ?_); (refine TA_take 9 rfl (by kernel_rfl) (by kernel_rfl) (by kernel_rfl) ?_; (repeat (first | refine TL_move (hk := ?_) | refine TLP_load TE (hk := ?_) | refine TL_fieldAddr TE (hk := ?_) | refine TL_len TE (hk := ?_) | refine TL_nilCheck (hk := ?_))); refine TL_nil_p ?_); (refine TA_take 10 rfl (by kernel_rfl) (by kernel_rfl) (by kernel_rfl) ?_; (repeat (first | refine TL_move (hk := ?_) | refine TLP_load TE (hk := ?_) | refine TL_fieldAddr TE (hk := ?_) | refine TL_len TE (hk := ?_) | refine TL_nilCheck (hk := ?_))); refine TL_nil_p ?_)
   refine TA_take 11 rfl (by kernel_rfl) (by kernel_rfl) (by kernel_rfl) ?_
   refine TLP_loadb TE (cs := [.int .i64 x.p.q.cl, .int .u64 (x.p.q.tk : Int), .string (ofL x.p.q.nm), sL x.a, .int .i64 x.p.how, sL x.b, sL x.c]) (o := 0) (hb := k5) (hD := h3D) (hk := ?_)
   refine TL_nil_p ?_
   refine TA_one 12 rfl (by kernel_rfl) (by kernel_rfl) ?_; (try refine TL_yes (hk := ?_)); refine TL_call TE (hc := (pown_c x w5 (hX4.be e5) hF)) (hq := (by rintro _ w' ⟨x', rfl, _, e, _⟩; exact Ext.un e)) (hk := ?_)
   rintro _ w6 ⟨x6, rfl, hx6, e6, o6⟩
   have D6 := D5.ext e6
   have hb6 := D6.blk
   have z6 := e6.size
   refine TL_nil_p ?_
   (refine TA_take 13 rfl (by kernel_rfl) (by kernel_rfl) (by kernel_rfl) ?_; (repeat (refine TL_build TE (hk := ?_))); refine TL_nil_p ?_)
   refine TA_one 14 rfl (by kernel_rfl) (by kernel_rfl) ?_
   refine TL_buildSliceA TE (hf := rfl) (hq := fun w' h => Ext.un (e6.ext h)) (hk := ?_); intro b7 w7 e7 h7 h7' k7
   obtain ⟨y, hy⟩ : ∃ y : EM, y = ⟨(sl2.2.1 : Int), ep, x6⟩ := ⟨_, rfl⟩
   replace k7 : Blk w7 b7 47 (rowV emV [y]) := by rw [hy]; exact k7
   have r7 : Rd w7 (some ⟨b7, 0, none⟩) 1 9 (rowV emV [y]) := Rd.blk k7 rfl
   have D7 := D6.ext e7
   have hb7 := hb6.be e7
   have z7 := e7.size
   refine TL_nil_p ?_
   refine TA_one 15 rfl (by kernel_rfl) (by kernel_rfl) ?_
   refine TL_append TE (ho := D7.ow) (hr := r7) (h1 := rowV_one emV_one _) (hf := rfl) (hq := fun w' m => (Ext.un (e6.ext e7)).trans m) (hk := ?_); intro A8 c8 w8 o8 m8 n8
   rw [← rowV_append] at o8
   have hb8 := hb7.mod m8 hgD
   refine TL_nil_p ?_
   (refine TA_one 16 rfl (by kernel_rfl) (by kernel_rfl) ?_; (repeat (first | refine TL_fieldAddr TE (hk := ?_) | refine TL_nilCheck (hk := ?_))); refine TL_nil_p ?_); (refine TA_one 17 rfl (by kernel_rfl) (by kernel_rfl) ?_; (repeat (first | refine TL_fieldAddr TE (hk := ?_) | refine TL_nilCheck (hk := ?_))); refine TL_nil_p ?_)
   refine TA_one 18 rfl (by kernel_rfl) (by kernel_rfl) ?_
   refine TL_store TE (hb := hb8) (hf := rfl) (hq := fun _ _ _ => trivial) (hk := ?_); intro w9 m9 z9 k9
   refine TL_nil_z (by kernel_rfl) ?_
   obtain ⟨g9, D9, t9⟩ := D5.push (z := y) (sl' := (A8, sl2.2.1 + 1, c8)) (e6.ext e7) (by rw [hy]; exact o6.be e7) (by rw [hy]; show PFit x6.p; rw [hx6]; exact hF) m8 o8 n8 m9 k9
   have hE : (⟨(addK L ep (xs.map (·.p)) j).l ++ [emE y], (addK L ep (xs.map (·.p)) j).ep⟩ : LE) = addK L ep (xs.map (·.p)) (j + 1) := by
    rw [hsu, hy]
    unfold emE
    simp only
    rw [hx6, ← hl3]
    rfl
   rw [hE] at D9
   repeat (first | refine T_region ?_ | refine T_inBlock ?_ | refine TL_add (hk := ?_) | refine TL_nil ?_ | refine TL_move (hk := ?_))
   exact ih (j + 1) _ _ (by omega) ⟨by omega, _, _, g9, D9, (t2.trans (Tn.ext (e24.ext e5))).trans t9⟩ (.c rfl (.c rfl (.c rfl (.c rfl (.c rfl (.c rfl (.n)))))))
  ·clear ih
   have hji : j = i := by omega
   subst hji
   have hb2' := hb2
   repeat (first | refine T_seq ?_ | refine T_region ?_ | refine T_cond_false rfl ?_ | refine T_exit rfl ?_ | refine TL_lt_f (hk := ?_) | refine TL_nil ?_ | refine TL_move (hk := ?_) | refine TL_fieldAddr TE (hk := ?_) | refine TL_nilCheck (hk := ?_))
   refine TL_store TE (hk := ?_); intro w3 m3 z3 k3
   obtain ⟨D3, t3⟩ := D2.setE (ep := ep) m3 k3
   have hE : ({ addK L ep (xs.map (·.p)) j with ep := ep } : LE) = Journal.addL L ep (xs.map (·.p)) := by unfold Journal.addL; rw [hml]
   rw [hE] at D3
   repeat (first | refine T_seq ?_ | refine T_region ?_ | refine TL_nil ?_ | refine TL_move (hk := ?_) | refine TL_assign (hk := ?_))
   exact T_ret3 rfl rfl rfl rfl ⟨rfl, sl2, es2, g2, D3, t2.trans t3⟩
end
set_option maxHeartbeats 1600000
abbrev eA (x : EM) : Value := .agg #[.int .i64 x.sq, .int .i64 x.ep, .int .i64 x.m.p.q.cl, .int .u64 (x.m.p.q.tk : Int), .string (ofL x.m.p.q.nm), sL x.m.a, .int .i64 x.m.p.how, sL x.m.b, sL x.m.c]
theorem told_c (x : EM) (w : World) (X : PLies w x.m) (F : PFit x.m.p) : Ret Tryz.prog 78 [eA x] w (fun v w' => ∃ x', v = eA x' ∧ emE x' = emE x ∧ Ext w w' ∧ POwn w' w.heap.size x'.m) := by
 refine ret_T (n := 8) Tryz.func78 rfl rfl ?_
 repeat (first | refine T_seq ?_ | refine T_region ?_)
 refine TL_box (hk := ?_); intro b1 w1 e1 h1 h1' k1
 replace k1 : Blk w1 b1 47 [.int .i64 x.sq, .int .i64 x.ep, .int .i64 x.m.p.q.cl, .int .u64 (x.m.p.q.tk : Int), .string (ofL x.m.p.q.nm), sL x.m.a, .int .i64 x.m.p.how, sL x.m.b, sL x.m.c] := k1
 --
 refine TL_alloc TE (hk := ?_); intro b2 w2 e2 h2 h2' k2
 have k12 := k1.be e2
 have e02 := e1.ext e2
 have z1 := e1.size
 have z2 := e2.size
 clear k1
 repeat (first | refine T_seq ?_ | refine T_region ?_ | refine TL_nil ?_ | refine TL_fieldAddr TE (hk := ?_))
 refine TL_loadb TE (cs := [.int .i64 x.m.p.q.cl, .int .u64 (x.m.p.q.tk : Int), .string (ofL x.m.p.q.nm), sL x.m.a, .int .i64 x.m.p.how, sL x.m.b, sL x.m.c]) (o := 2) rfl rfl k12 rfl rfl (Nat.succ_pos _) (hk := ?_)
 --
 refine TL_call TE (hc := pown_c x.m w2 (X.be e02) F) (hk := ?_)
 rintro _ w3 ⟨m, rfl, hm, e3, o3⟩
 have k13 := k12.be e3
 have k23 := k2.be e3
 have z3 := e3.size
 clear k12 k2
 repeat (refine TL_fieldAddr TE (hk := ?_))
 refine TL_storea TE (hk := ?_); intro w4 m4 z4 k4
 replace k4 : Blk w4 b1 47 [.int .i64 x.sq, .int .i64 x.ep, .int .i64 m.p.q.cl, .int .u64 (m.p.q.tk : Int), .string (ofL m.p.q.nm), sL m.a, .int .i64 m.p.how, sL m.b, sL m.c] := k4
 have k24 := k23.mod m4 (by simp; omega)
 have e04 : Ext w w4 := (e02.ext e3).step m4 (fun u hu => .inr (by rw [List.mem_singleton.1 hu]; omega))
 repeat (first | refine T_seq ?_ | refine T_region ?_ | refine TL_nil ?_)
 refine TL_loadb TE (cs := [.int .i64 x.sq, .int .i64 x.ep, .int .i64 m.p.q.cl, .int .u64 (m.p.q.tk : Int), .string (ofL m.p.q.nm), sL m.a, .int .i64 m.p.how, sL m.b, sL m.c]) (o := 0) rfl rfl k4 rfl rfl (Nat.succ_pos _) (hk := ?_)
 --
 refine TL_storea TE (hk := ?_); intro w9 m9 z9 k9
 have M39 : Eng.Mod [b1, b2] w3 w9 := (m4.mono (S' := [b1, b2]) (fun b hb => .inl (by simp at hb; simp [hb]))).step m9 (fun b hb => .inl (by simp at hb; simp [hb]))
 have dd : ∀ u, w2.heap.size ≤ u → u ∉ [b1, b2] := fun u hu q => by simp at q; omega
 repeat (refine TL_nil ?_)
 refine T_retA1 TE (vs := [.int .i64 x.sq, .int .i64 x.ep, .int .i64 m.p.q.cl, .int .u64 (m.p.q.tk : Int), .string (ofL m.p.q.nm), sL m.a, .int .i64 m.p.how, sL m.b, sL m.c]) (o := 0) rfl rfl rfl rfl k9 rfl (Nat.succ_pos _) ⟨⟨x.sq, x.ep, m⟩, rfl, by unfold emE; simp only; rw [hm], e04.step m9 (fun u hu => .inr (by rw [List.mem_singleton.1 hu]; omega)), ⟨Own.weaken (o3.ra.modL M39 (fun u hu => dd u (o3.ra.bl u hu).1)) (by omega), Own.weaken (o3.rb.modL M39 (fun u hu => dd u (o3.rb.bl u hu).1)) (by omega), Own.weaken (o3.rc.modL M39 (fun u hu => dd u (o3.rc.bl u hu).1)) (by omega)⟩⟩
end Go.Proofs.YtjlaomcankmdjaaGreat
