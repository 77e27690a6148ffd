import Derived.Test.YtkmdmpmimojmbaaEng6
namespace Go.Proofs.Eng
open Go.RowKit
set_option linter.unusedSimpArgs false
set_option linter.unusedVariables false
section
variable {q : Qm} {P : Program} {fn : Func} {R : Ending → World → Prop} {M : Md} {n : Nat} {st : Slots} {k : List Item} {w : World} {ops rest : List Oper} {d : Nat} {ty : TypeId} {ps : String} {af : Array Edge} {X : Operand} {t e : TypeId}
theorem freeze_blk {b o : Nat} {bt : TypeId} {cs : List Value} (hb : Blk w b bt cs) : (w.freeze ⟨b, o, none⟩ 1).heap[b]? = some (.cells cs.toArray bt (o, o + 1)) := by
  unfold Blk at hb
  have hlt : b < w.heap.size := by
    rcases Nat.lt_or_ge b w.heap.size with h | h
    · exact h
    · rw [Array.getElem?_eq_none h] at hb; cases hb
  unfold World.freeze
  rw [if_neg (by decide)]
  simp only [Array.getElem?_modify, if_true, hb]
  simp
theorem freeze_mod (b o : Nat) : Mod [b] w (w.freeze ⟨b, o, none⟩ 1) := by
  unfold World.freeze
  rw [if_neg (by decide)]
  refine ⟨rfl, rfl, rfl, by simp, fun j hj hn => ?_⟩
  have hjb : b ≠ j := fun h => hn (by simp [h])
  simp [Array.getElem?_modify, hjb]
/-- []byte of a literal text: a literal's row, and behind it a conversion to its own type. -/
theorem TL_conv_ss {b m c : Nat} {bt : TypeId} {cs : List Value} (E : Env P) (hx : ev st X = some (.slice (some ⟨b, 0, none⟩) m c) := by exact rfl) (ht : E.und t = some (.slice e) := by exact rfl) (he : E.und e = some (.int .u8) := by exact rfl) (hd : Nat.blt d n = true := by exact rfl) (hb : Blk w b bt cs := by focus ((repeat (first | assumption | (apply Own.rd; assumption) | (apply Rd.blk; assumption; exact rfl) | (apply Blk.be; assumption) | (apply Rd.be; assumption) | (apply Own.be; assumption) | (apply Blk.bm; assumption; focus (first | assumption | (simp only [List.mem_cons, List.not_mem_nil, or_false]; omega))) | (apply Rd.bm; assumption; focus assumption) | (apply Own.bm; assumption; focus assumption))); done)) (hm : cs.length = m := by exact rfl)
    (hf : Fl q (rest.length + 1) := by first | exact trivial | exact rfl) (hq : ∀ w', Mod [b] w w' → w'.heap.size = w.heap.size → Kp q w' := by exact fun _ _ _ => trivial)
    (hk : ∀ w', Mod [b] w w' → w'.heap.size = w.heap.size → Rd w' (some ⟨b, 0, none⟩) m 1 cs → TL q P fn R M n ((d, .slice (some ⟨b, 0, none⟩) m c) :: st) ops rest k w') :
    TL q P fn R M n st ops (⟨some d, .convert t t X, ty, ps, af, none⟩ :: rest) k w :=
  TL_new (w' := w.freeze ⟨b, cs.length, none⟩ 1) hd (fun ρ h => by
    have hsh : w.shape? b = some (bt, cs.length) := by
      unfold Blk at hb
      unfold World.shape?
      rw [hb]
      simp
    simp [execOp, h _ _ hx, convert, run_underlying (E.und_ok _ _ ht), run_underlying (E.und_ok _ _ he), markStringish, hsh])
    hf (hq _ (freeze_mod _ _) (by unfold World.freeze; rw [if_neg (by decide)]; simp))
    (hk _ (freeze_mod _ _) (by unfold World.freeze; rw [if_neg (by decide)]; simp) ⟨by omega, fun _ => ⟨b, 0, rfl, by have := hb.lt; unfold World.freeze; rw [if_neg (by decide)]; simpa using this, fun j u hu => by
      simp only [World.cell?, freeze_blk hb]
      simpa using hu⟩⟩)
end
end Go.Proofs.Eng
