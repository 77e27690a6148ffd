import Derived.Test.YtkmdmpmimojmbaaEng7
/- A store into a row of one's own. -/
namespace Go.Proofs.Eng
open Go.RowKit
set_option linter.unusedSimpArgs false
set_option linter.unusedVariables false
section
variable {q : Qm} {P : Program} {fn : Func} {R : Ending → World → Prop} {M : Md} {n : Nat} {st : Slots} {k : List Item} {w : World} {ops rest : List Oper}
  {d : Nat} {v : Value} {ty : TypeId} {ps : String} {af : Array Edge} {X V : Operand} {t e : TypeId} {by_ s m c base : Nat} {z : Value}
theorem TL_store_own {A : Option Addr} {j : Nat} {xs : List Value} (E : Env P) (hx : ev st X = some (.pointer (some (adr A j))) := by exact rfl) (hv : ev st V = some v := by exact rfl) (h1 : v.oneCell' = true := by exact rfl) (hi : E.inf t = some (1, by_, z) := by exact rfl)
    (ho : Own w base e s A m c xs := by focus ((repeat (first | assumption | (apply Own.rd; assumption) | (apply Rd.blk; assumption; exact rfl) | (apply Blk.be; assumption) | (apply Rd.be; assumption) | (apply Own.be; assumption) | (apply Blk.bm; assumption; focus (first | assumption | (simp only [List.mem_cons, List.not_mem_nil, or_false]; omega))) | (apply Rd.bm; assumption; focus assumption) | (apply Own.bm; assumption; focus assumption))); done)) (hj : j < xs.length := by first | assumption | omega | (simp; omega))
    (hf : Fl q (rest.length + 1) := by first | exact trivial | exact rfl) (hq : ∀ w', Mod (blkL A) w w' → w'.heap.size = w.heap.size → Kp q w' := by exact fun _ _ _ => trivial)
    (hk : ∀ w', Mod (blkL A) w w' → w'.heap.size = w.heap.size → Own w' base e s A m c (xs.set j v) → TL q P fn R M n st ops rest k w') :
    TL q P fn R M n st ops (⟨none, .store t X V, ty, ps, af, none⟩ :: rest) k w := by
  obtain ⟨hl, h0 | ⟨g, cap, cur, hs, hg, hh, hnc, hcm, hcs, htk⟩⟩ := id ho
  · obtain ⟨_, hm⟩ := h0
    subst hm
    rw [hl] at hj
    simp at hj
  · cases hs
    have hb : Blk w g e cur.toList := by unfold Blk; simpa using hh
    have hj' : j < cur.toList.length := by rw [← htk] at hj; simp at hj ⊢; omega
    have hx' : ev st X = some (.pointer (some ⟨g, 0 + j, none⟩)) := hx
    refine TL_store E hx' hv h1 hi hb (by simpa using hj') hf (fun w' m' s' => hq w' (by simpa [blkL] using m') s') (fun w' m' s' b' => hk w' (by simpa [blkL] using m') s' ?_)
    refine ⟨by simpa using hl, .inr ⟨g, _, (cur.toList.set (0 + j) v).toArray, rfl, hg, b', hnc, hcm, by simpa using hcs, ?_⟩⟩
    rw [← htk]
    simp [List.take_set]
/-! ### In a region that is held -/
variable {w0 : World} {D : List Nat} {plan : List (Nat × Bool)} {dsc : TypeDesc}
theorem TLH_load {b o : Nat} {bt : TypeId} {cs : List Value} (E : Env P) (hx : ev st X = some (.pointer (some ⟨b, o, none⟩)) := by exact rfl) (ht : E.und t = some dsc := by exact rfl) (hn : nonAgg dsc = true := by exact rfl) (hd : Nat.blt d n = true := by exact rfl) (hb : Blk w0 b bt cs := by focus ((repeat (first | assumption | (apply Own.rd; assumption) | (apply Rd.blk; assumption; exact rfl) | (apply Blk.be; assumption) | (apply Rd.be; assumption) | (apply Own.be; assumption) | (apply Blk.bm; assumption; focus (first | assumption | (simp only [List.mem_cons, List.not_mem_nil, or_false]; omega))) | (apply Rd.bm; assumption; focus assumption) | (apply Own.bm; assumption; focus assumption))); done)) (hv : cs[o]? = some v := by exact rfl)
    (hD : b ∉ D := by first | assumption | (simp only [List.mem_cons, List.not_mem_nil, or_false]; omega))
    (hk : TL (.held w0 D plan) P fn R M n ((d, v) :: st) ops rest k w) : TL (.held w0 D plan) P fn R M n st ops (⟨some d, .load t X, ty, ps, af, none⟩ :: rest) k w :=
  TL_val hd (fun w' hw ρ h => by
    have hc : w'.cell? ⟨b, o, none⟩ = some v := by rw [(hb.mod hw hD).cell, hv]
    simp [execOp, Instr.loadAt, h _ _ hx, Instr.sureAddr, loadVar, run_isAgg_no (E.und_ok _ _ ht) hn, hc]) hk
theorem TLH_load_rd {A : Option Addr} {j m : Nat} {xs : List Value} (E : Env P) (hx : ev st X = some (.pointer (some (adr A j))) := by exact rfl) (ht : E.und t = some dsc := by exact rfl) (hn : nonAgg dsc = true := by exact rfl) (hd : Nat.blt d n = true := by exact rfl) (hr : Rd w0 A m s xs := by focus ((repeat (first | assumption | (apply Own.rd; assumption) | (apply Rd.blk; assumption; exact rfl) | (apply Blk.be; assumption) | (apply Rd.be; assumption) | (apply Own.be; assumption) | (apply Blk.bm; assumption; focus (first | assumption | (simp only [List.mem_cons, List.not_mem_nil, or_false]; omega))) | (apply Rd.bm; assumption; focus assumption) | (apply Own.bm; assumption; focus assumption))); done)) (hv : xs[j]? = some v := by first | assumption | exact rfl)
    (hD : Off A D := by first | assumption | exact Off.nil _)
    (hk : TL (.held w0 D plan) P fn R M n ((d, v) :: st) ops rest k w) : TL (.held w0 D plan) P fn R M n st ops (⟨some d, .load t X, ty, ps, af, none⟩ :: rest) k w :=
  TL_val hd (fun w' hw ρ h => by
    have hc : w'.cell? (adr A j) = some v := (hr.mod hw hD).cell hv
    simp [execOp, Instr.loadAt, h _ _ hx, Instr.sureAddr, loadVar, run_isAgg_no (E.und_ok _ _ ht) hn, hc]) hk
theorem TLH_load_b {A : Option Addr} {j m : Nat} {l : List UInt8} (E : Env P) (hx : ev st X = some (.pointer (some (adr A j))) := by exact rfl) (ht : E.und t = some (.int .u8) := by exact rfl) (hn : nonAgg (.int .u8) = true := by exact rfl) (hd : Nat.blt d n = true := by exact rfl) (hr : Rd w0 A m 1 (bv l) := by focus ((repeat (first | assumption | (apply Own.rd; assumption) | (apply Rd.blk; assumption; exact rfl) | (apply Blk.be; assumption) | (apply Rd.be; assumption) | (apply Own.be; assumption) | (apply Blk.bm; assumption; focus (first | assumption | (simp only [List.mem_cons, List.not_mem_nil, or_false]; omega))) | (apply Rd.bm; assumption; focus assumption) | (apply Own.bm; assumption; focus assumption))); done)) (hj : j < m := by first | assumption | omega)
    (hD : Off A D := by first | assumption | exact Off.nil _)
    (hk : gb l j < 256 → TL (.held w0 D plan) P fn R M n ((d, .int .u8 (gb l j : Nat)) :: st) ops rest k w) : TL (.held w0 D plan) P fn R M n st ops (⟨some d, .load t X, ty, ps, af, none⟩ :: rest) k w :=
  TLH_load_rd E hx ht hn hd hr (bv_get l j (by have := hr.1; simp at this; omega)) hD (hk (gb_lt l j))
/-- A load of what is turned in the region, where nothing else may come up. -/
theorem TL_new1 {op : Op} (hd : Nat.blt d n = true) (h : RunV P w st ⟨some d, op, ty, ps, af, none⟩ v) (hf : Fl q (rest.length + 1)) (hq : Kp q w) (hk : TL q P fn R M n ((d, v) :: st) ops rest k w) :
    TL q P fn R M n st ops (⟨some d, op, ty, ps, af, none⟩ :: rest) k w := TL_new hd (fun ρ h' => h ρ h') hf hq hk
theorem TLH_load1 {b o : Nat} {bt : TypeId} {cs : List Value} (E : Env P) (hx : ev st X = some (.pointer (some ⟨b, o, none⟩)) := by exact rfl) (ht : E.und t = some dsc := by exact rfl) (hn : nonAgg dsc = true := by exact rfl) (hd : Nat.blt d n = true := by exact rfl) (hb : Blk w b bt cs := by focus ((repeat (first | assumption | (apply Own.rd; assumption) | (apply Rd.blk; assumption; exact rfl) | (apply Blk.be; assumption) | (apply Rd.be; assumption) | (apply Own.be; assumption) | (apply Blk.bm; assumption; focus (first | assumption | (simp only [List.mem_cons, List.not_mem_nil, or_false]; omega))) | (apply Rd.bm; assumption; focus assumption) | (apply Own.bm; assumption; focus assumption))); done)) (hv : cs[o]? = some v := by exact rfl)
    (hf : Fl (.held w0 D plan) (rest.length + 1) := by exact rfl) (hq : Mod D w0 w := by assumption)
    (hk : TL (.held w0 D plan) P fn R M n ((d, v) :: st) ops rest k w) : TL (.held w0 D plan) P fn R M n st ops (⟨some d, .load t X, ty, ps, af, none⟩ :: rest) k w :=
  TL_new1 hd (fun ρ h => by
    have hc : w.cell? ⟨b, o, none⟩ = some v := by rw [hb.cell, hv]
    simp [execOp, Instr.loadAt, h _ _ hx, Instr.sureAddr, loadVar, run_isAgg_no (E.und_ok _ _ ht) hn, hc]) hf hq hk
end
theorem blkL_cutA (A : Option Addr) (c l s : Nat) : blkL (cutA A c l s) = blkL A := by
  cases A with
  | none => unfold cutA; split <;> rfl
  | some a => unfold cutA; split <;> simp [blkL, Addr.add] <;> split <;> rfl
end Go.Proofs.Eng
