import Derived.Test.YtkmdmpmimojmbaaCW6
import Derived.Test.YtkmdmpmimojmbaaEng6
namespace Go.Proofs.Ytkmdmpmimojmbaa
open Go.RowKit Go.Proofs.Eng Go.Proofs.Codec
set_option linter.unusedSimpArgs false
set_option linter.unusedVariables false
attribute [local irreducible] T TL LV TH
set_option maxHeartbeats 1000000
theorem NewReader_c (A : Option Addr) (n c : Nat) (l : List UInt8) (w : World) (h : Rd w A n 1 (bv l)) (hn : n ≤ 7036874417) :
    Ret Try.prog 24 [.slice A n c] w (fun v w' => ∃ b A' n' c', v = ptr b ∧ Ext w w' ∧ w.heap.size ≤ b ∧ Hi A' w.heap.size ∧ Lo A' w'.heap.size ∧ Rdr w' 76 b ⟨l, 0, 0, 0, 0⟩ A' n' c') := by
  refine ret_T (n := 7) Try.func24 rfl rfl ?_
  repeat (first | refine T_seq ?_ | refine T_region ?_ | refine TL_nil ?_ | refine TL_move (hk := ?_) | refine TL_assign (hk := ?_))
  refine TL_call TE (hc := Clone_c A n c l w h (by omega)) (hk := ?_)
  rintro _ w1 ⟨A1, c1, rfl, e1, o1⟩
  repeat (refine TL_build TE (hk := ?_))
  refine TL_box (hk := ?_); intro b w2 e2 h1 h2 k
  repeat (first | refine TL_nil ?_ | refine TL_assign (hk := ?_))
  have hs := e1.size
  refine T_ret1 rfl rfl ⟨b, A1, n, c1, rfl, e1.ext e2, by omega, o1.hi, o1.lo.mono e2.size, ?_⟩
  exact ⟨k, (o1.be e2).rd, Off.lo o1.lo h1, by have := h.1; simpa using this, Nat.zero_le _, Nat.zero_le _, hn, o1.cap.1⟩
end Go.Proofs.Ytkmdmpmimojmbaa
