import Derived.Test.YtkmdmpmimojmbaaCW7
import Derived.Test.YtkmdmpmimojmbaaEng6
namespace Go.Proofs.Ytkmdmpmimojmbaa
open Go.RowKit Go.Proofs.Eng Go.Proofs.Codec
set_option linter.unusedSimpArgs false
set_option linter.unusedVariables false
attribute [local irreducible] T TL LV TH
set_option maxHeartbeats 1000000
theorem rdn_uint64 (w : World) (f : Fn) (fst cap : List Value) :
    Ret Try.prog 46 [.pointer none, .func f fst.toArray cap.toArray] w (fun v w' => v = .int .u64 0 ∧ Ext w w') := by
  refine ret_T (n := 28) Try.func46 rfl rfl ?_
  repeat (first | refine T_seq ?_ | refine T_region ?_)
  refine TL_box (hk := ?_); intro x1 w1 e1 g1 g1' k1
  --
  refine TL_alloc TE (hk := ?_); intro x2 w2 e2 g2 g2' k2
  have k12 := k1.be e2
  have e02 : Ext w w2 := e1.ext e2
  have ls1 := e1.size
  repeat (first | refine T_seq ?_ | refine T_region ?_ | refine T_cond_true rfl ?_ | refine TL_pnil_t TE (hk := ?_) | refine TL_nil ?_ | refine TL_move (hk := ?_) | refine TL_load TE (hk := ?_) | refine TL_no (hk := ?_) | refine TL_pick_t (hk := ?_))
  refine TL_store TE (hk := ?_); intro w3 m3 s3 k3
  have hm : Ext w w3 := Mod.step e02 m3 (fun y hy => .inr (by simp only [List.mem_singleton] at hy; omega))
  repeat (refine TL_nil ?_)
  exact T_ret1c TE rfl rfl rfl rfl k3 rfl ⟨rfl, hm⟩
theorem rdn_int64 (w : World) (f : Fn) (fst cap : List Value) :
    Ret Try.prog 48 [.pointer none, .func f fst.toArray cap.toArray] w (fun v w' => v = .int .i64 0 ∧ Ext w w') := by
  refine ret_T (n := 28) Try.func48 rfl rfl ?_
  repeat (first | refine T_seq ?_ | refine T_region ?_)
  refine TL_box (hk := ?_); intro x1 w1 e1 g1 g1' k1
  --
  refine TL_alloc TE (hk := ?_); intro x2 w2 e2 g2 g2' k2
  have k12 := k1.be e2
  have e02 : Ext w w2 := e1.ext e2
  have ls1 := e1.size
  repeat (first | refine T_seq ?_ | refine T_region ?_ | refine T_cond_true rfl ?_ | refine TL_pnil_t TE (hk := ?_) | refine TL_nil ?_ | refine TL_move (hk := ?_) | refine TL_load TE (hk := ?_) | refine TL_no (hk := ?_) | refine TL_pick_t (hk := ?_))
  refine TL_store TE (hk := ?_); intro w3 m3 s3 k3
  have hm : Ext w w3 := Mod.step e02 m3 (fun y hy => .inr (by simp only [List.mem_singleton] at hy; omega))
  repeat (refine TL_nil ?_)
  exact T_ret1c TE rfl rfl rfl rfl k3 rfl ⟨rfl, hm⟩
theorem rdn_string (w : World) (f : Fn) (fst cap : List Value) :
    Ret Try.prog 50 [.pointer none, .func f fst.toArray cap.toArray] w (fun v w' => v = .string ⟨#[]⟩ ∧ Ext w w') := by
  refine ret_T (n := 28) Try.func50 rfl rfl ?_
  repeat (first | refine T_seq ?_ | refine T_region ?_)
  refine TL_box (hk := ?_); intro x1 w1 e1 g1 g1' k1
  --
  refine TL_alloc TE (hk := ?_); intro x2 w2 e2 g2 g2' k2
  have k12 := k1.be e2
  have e02 : Ext w w2 := e1.ext e2
  have ls1 := e1.size
  repeat (first | refine T_seq ?_ | refine T_region ?_ | refine T_cond_true rfl ?_ | refine TL_pnil_t TE (hk := ?_) | refine TL_nil ?_ | refine TL_move (hk := ?_) | refine TL_load TE (hk := ?_) | refine TL_no (hk := ?_) | refine TL_pick_t (hk := ?_))
  refine TL_store TE (hk := ?_); intro w3 m3 s3 k3
  have hm : Ext w w3 := Mod.step e02 m3 (fun y hy => .inr (by simp only [List.mem_singleton] at hy; omega))
  repeat (refine TL_nil ?_)
  exact T_ret1c TE rfl rfl rfl rfl k3 rfl ⟨rfl, hm⟩
theorem rdn_byte (w : World) (f : Fn) (fst cap : List Value) :
    Ret Try.prog 62 [.pointer none, .func f fst.toArray cap.toArray] w (fun v w' => v = .int .u8 0 ∧ Ext w w') := by
  refine ret_T (n := 28) Try.func62 rfl rfl ?_
  repeat (first | refine T_seq ?_ | refine T_region ?_)
  refine TL_box (hk := ?_); intro x1 w1 e1 g1 g1' k1
  --
  refine TL_alloc TE (hk := ?_); intro x2 w2 e2 g2 g2' k2
  have k12 := k1.be e2
  have e02 : Ext w w2 := e1.ext e2
  have ls1 := e1.size
  repeat (first | refine T_seq ?_ | refine T_region ?_ | refine T_cond_true rfl ?_ | refine TL_pnil_t TE (hk := ?_) | refine TL_nil ?_ | refine TL_move (hk := ?_) | refine TL_load TE (hk := ?_) | refine TL_no (hk := ?_) | refine TL_pick_t (hk := ?_))
  refine TL_store TE (hk := ?_); intro w3 m3 s3 k3
  have hm : Ext w w3 := Mod.step e02 m3 (fun y hy => .inr (by simp only [List.mem_singleton] at hy; omega))
  repeat (refine TL_nil ?_)
  exact T_ret1c TE rfl rfl rfl rfl k3 rfl ⟨rfl, hm⟩
theorem rdn_int (w : World) (f : Fn) (fst cap : List Value) :
    Ret Try.prog 64 [.pointer none, .func f fst.toArray cap.toArray] w (fun v w' => v = .int .i64 0 ∧ Ext w w') := by
  refine ret_T (n := 28) Try.func64 rfl rfl ?_
  repeat (first | refine T_seq ?_ | refine T_region ?_)
  refine TL_box (hk := ?_); intro x1 w1 e1 g1 g1' k1
  --
  refine TL_alloc TE (hk := ?_); intro x2 w2 e2 g2 g2' k2
  have k12 := k1.be e2
  have e02 : Ext w w2 := e1.ext e2
  have ls1 := e1.size
  repeat (first | refine T_seq ?_ | refine T_region ?_ | refine T_cond_true rfl ?_ | refine TL_pnil_t TE (hk := ?_) | refine TL_nil ?_ | refine TL_move (hk := ?_) | refine TL_load TE (hk := ?_) | refine TL_no (hk := ?_) | refine TL_pick_t (hk := ?_))
  refine TL_store TE (hk := ?_); intro w3 m3 s3 k3
  have hm : Ext w w3 := Mod.step e02 m3 (fun y hy => .inr (by simp only [List.mem_singleton] at hy; omega))
  repeat (refine TL_nil ?_)
  exact T_ret1c TE rfl rfl rfl rfl k3 rfl ⟨rfl, hm⟩
end Go.Proofs.Ytkmdmpmimojmbaa
