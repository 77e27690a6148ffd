import Derived.Test.YtkmdmpmimojmbaaEng5
namespace Go.Proofs.Eng
open Go.RowKit
set_option linter.unusedSimpArgs false
set_option linter.unusedVariables false

/-! ## A region that draws its order and stores: what may come up is taken first, under a condition S that every store keeps -/
def TH (S : World → Prop) (P : Program) (fn : Func) (R : Ending → World → Prop) (M : Md) (n : Nat) (st : Slots) (l : List Oper) (fuel : Nat) (listed : Array Bool) (k : List Item) (w : World) : Prop :=
  S w → ∀ a, OK M n st a → wpAnyH P .any l.toArray (TQ M.dfd P fn R k) S fuel listed a w
section
variable {q : Qm} {P : Program} {fn : Func} {R : Ending → World → Prop} {M : Md} {n : Nat} {st : Slots} {k : List Item} {w : World} {l : List Oper} {fuel : Nat} {listed : Array Bool} {S : World → Prop}
  {d i : Nat} {v : Value} {ty : TypeId} {ps : String} {af : Array Edge} {X V : Operand} {t : TypeId} {s by_ : Nat} {z : Value} {dsc : TypeDesc}
theorem T_region_h (E : Env P) (S : World → Prop) {id : Nat} (h : ∀ w1, Ext w w1 → w1.heap.size = w.heap.size → S w1 ∧ TH S P fn R M n st l l.length (Array.replicate l.length false) k w1) : T P fn R M n st (.code (.region id l.toArray true) :: k) w := by
  intro a ha
  obtain ⟨hS, h1⟩ := h { w with drawn := w.drawn + 1 } (Ext.drewN w 1) rfl
  have h2 : (Code.region id l.toArray true).wp P (TQ M.dfd P fn R k) a w := wp_region_held E.mixed (by simp only [List.size_toArray]; exact h1 hS a ha)
  refine Tat.of_wp (fun b k cs => ?_)
  obtain ⟨e, a', w', hq, harr⟩ := h2 b k cs
  cases e with
  | normal => exact ⟨.normal, a', w', hq, harr⟩
  | _ => exact hq.elim
theorem TH_take {op : Op} (i : Nat) (ho : l[i]? = some ⟨some d, op, ty, ps, af, none⟩) (hn : Region.noSelect l.toArray = true) (hf : Region.free .any l.toArray listed i = true) (hr : (Region.ready .any l.toArray listed).contains i = true) (hd : Nat.blt d n = true)
    (hv : ∀ w', S w' → RunV P w' st ⟨some d, op, ty, ps, af, none⟩ v) (hk : TH S P fn R M n ((d, v) :: st) l fuel (listed.setIfInBounds i true) k w) : TH S P fn R M n st l (fuel + 1) listed k w := fun hS a ha =>
  wpAnyH_take (i := i) (oi := ⟨some d, op, ty, ps, af, none⟩) (by simpa using ho) hn hf hr (fun c a w h => h) (.inl ⟨by simp [Region.wanted], fun w' hw' => hv w' hw' a.eval (fun x u hx => ha.ev hx)⟩) hS (hk hS _ (ha.put hd v))
theorem TH_move {x : Operand} (i : Nat) (ho : l[i]? = some ⟨some d, .move x, ty, ps, af, none⟩) (hn : Region.noSelect l.toArray = true) (hf : Region.free .any l.toArray listed i = true) (hr : (Region.ready .any l.toArray listed).contains i = true) (hd : Nat.blt d n = true)
    (hx : ev st x = some v) (hk : TH S P fn R M n ((d, v) :: st) l fuel (listed.setIfInBounds i true) k w) : TH S P fn R M n st l (fuel + 1) listed k w :=
  TH_take i ho hn hf hr hd (fun w _ ρ h => by simp [execOp, h _ _ hx]) hk
theorem TH_nilCheck {x : Operand} {p : Addr} (i : Nat) (ho : l[i]? = some ⟨some d, .nilCheck x, ty, ps, af, none⟩) (hn : Region.noSelect l.toArray = true) (hf : Region.free .any l.toArray listed i = true) (hr : (Region.ready .any l.toArray listed).contains i = true) (hd : Nat.blt d n = true)
    (hx : ev st x = some (.pointer (some p))) (hk : TH S P fn R M n ((d, .pointer (some p)) :: st) l fuel (listed.setIfInBounds i true) k w) : TH S P fn R M n st l (fuel + 1) listed k w :=
  TH_take i ho hn hf hr hd (fun w _ ρ h => by simp [execOp, h _ _ hx]) hk
theorem TH_load {b o : Nat} {bt : TypeId} {cs : List Value} (i : Nat) (E : Env P) (ho : l[i]? = some ⟨some d, .load t X, ty, ps, af, none⟩) (hn : Region.noSelect l.toArray = true) (hf : Region.free .any l.toArray listed i = true) (hr : (Region.ready .any l.toArray listed).contains i = true) (hd : Nat.blt d n = true)
    (hx : ev st X = some (.pointer (some ⟨b, o, none⟩))) (ht : E.und t = some dsc) (hna : nonAgg dsc = true) (hb : ∀ w', S w' → Blk w' b bt cs) (hv : cs[o]? = some v) (hk : TH S P fn R M n ((d, v) :: st) l fuel (listed.setIfInBounds i true) k w) : TH S P fn R M n st l (fuel + 1) listed k w :=
  TH_take i ho hn hf hr hd (fun w' hw ρ h => by
    have hc : w'.cell? ⟨b, o, none⟩ = some v := by rw [(hb w' hw).cell, hv]
    simp [execOp, Instr.loadAt, h _ _ hx, Instr.sureAddr, loadVar, run_isAgg_no (E.und_ok _ _ ht) hna, hc]) hk
theorem TH_fieldAddr {b o j off : Nat} {fl : List (Nat × TypeId)} {ft : TypeId} {s1 b1 : Nat} {z1 : Value} (i : Nat) (E : Env P) (ho : l[i]? = some ⟨some d, .fieldAddr t X j, ty, ps, af, none⟩) (hn : Region.noSelect l.toArray = true) (hf : Region.free .any l.toArray listed i = true) (hr : (Region.ready .any l.toArray listed).contains i = true) (hd : Nat.blt d n = true)
    (hx : ev st X = some (.pointer (some ⟨b, o, none⟩))) (ht : E.fld t = some fl) (hff : fl[j]? = some (off, ft)) (hz : E.inf ft = some (s1, b1, z1)) (h1 : Nat.beq s1 0 = false) (hk : TH S P fn R M n ((d, .pointer (some ⟨b, o + off, none⟩)) :: st) l fuel (listed.setIfInBounds i true) k w) : TH S P fn R M n st l (fuel + 1) listed k w :=
  TH_take i ho hn hf hr hd (fun w' hw ρ h => by
    obtain ⟨fs, f, hu, hf', ho', rfl⟩ := fld_at ht hff
    have h1' : s1 ≠ 0 := fun e => by subst e; simp at h1
    have he : (⟨b, o, none⟩ : Addr).add f.offset = ⟨b, o + off, none⟩ := by rw [ho']; unfold Addr.add; split <;> simp_all
    simp [execOp, h _ _ hx, Instr.fieldAt, run_underlying hu, hf', Instr.sureAddr, fieldPlace, run_sizeOf' (E.inf_ok _ _ _ _ hz), h1', he]) hk
theorem TH_store {b o : Nat} {bt : TypeId} {cs : List Value} (i : Nat) (E : Env P) (ho : l[i]? = some ⟨none, .store t X V, ty, ps, af, none⟩) (hr : Region.ready .any l.toArray listed = [i])
    (hx : ev st X = some (.pointer (some ⟨b, o, none⟩))) (hv : ev st V = some v) (h1 : v.oneCell' = true) (hi : E.inf t = some (1, by_, z)) (hb : Blk w b bt cs) (hl : o < cs.length)
    (hk : ∀ w', Mod [b] w w' → w'.heap.size = w.heap.size → Blk w' b bt (cs.set o v) → S w' ∧ TH S P fn R M n st l fuel (listed.setIfInBounds i true) k w') : TH S P fn R M n st l (fuel + 1) listed k w := by
  intro hS a ha
  refine wpAnyH_all hr (by simp) (fun j hj => ?_)
  simp only [List.mem_singleton] at hj
  subst hj
  have hrun : (execOp a.eval ⟨none, .store t X V, ty, ps, af, none⟩).run P w = .ok .skip (w.setCell ⟨b, o, none⟩ v) := by
    have hc : w.cell? ⟨b, o, none⟩ = some (cs[o]) := by rw [hb.cell]; exact List.getElem?_eq_getElem hl
    have hz : v.cells = #[v] := by cases v <;> simp_all [Value.cells, Value.oneCell']
    have he : (⟨b, o, none⟩ : Addr).add 0 = ⟨b, o, none⟩ := by simp [Addr.add]
    simp [execOp, Instr.storeAt, ha.ev hx, ha.ev hv, Instr.sureAddr, storeVar, hz, run_sizeOf' (E.inf_ok _ _ _ _ hi), storeCells, he, run_store _ _ _ _ _ h1, hc, hb.thawed]
  obtain ⟨hS', hT⟩ := hk _ (Mod.setCell w ⟨b, o, none⟩ v) (by simp [World.setCell]) (hb.set _ _)
  refine wpOp_step (o := ⟨none, .store t X V, ty, ps, af, none⟩) (by simpa using ho) (fun K hK => ?_)
  rw [if_pos (by simp [Region.wanted])]
  unfold Oper.wp
  rw [hrun]
  exact hK _ _ ⟨hS', hT hS' a ha⟩
theorem TH_done (hr : Region.ready .any l.toArray listed = []) (h : T P fn R M n st k w) : TH S P fn R M n st l fuel listed k w := fun hS a ha => wpAnyH_done hr (h a ha) fuel

theorem TL_store1 {b o : Nat} {bt : TypeId} {u : Value} {ops rest : List Oper} {cs : List Value} (E : Env P) (hx : ev st X = some (.pointer (some ⟨b, o, none⟩)) := by exact rfl) (hv : ev st V = some v := by exact rfl) (hu : v.cells = #[u] := by exact rfl) (h1 : u.oneCell' = true := by exact rfl) (hi : E.inf t = some (1, by_, z) := by exact rfl) (hb : Blk w b bt cs := by focus ((repeat (first | assumption | (apply Own.rd; assumption) | (apply Rd.blk; assumption; exact rfl) | (apply Blk.be; assumption) | (apply Rd.be; assumption) | (apply Own.be; assumption) | (apply Blk.bm; assumption; focus (first | assumption | (simp only [List.mem_cons, List.not_mem_nil, or_false]; omega))) | (apply Rd.bm; assumption; focus assumption) | (apply Own.bm; assumption; focus assumption))); done)) (ho : o < cs.length := by first | decide | (simp; done) | (simp; omega))
    (hf : Fl q (rest.length + 1) := by first | exact trivial | exact rfl) (hq : ∀ w', Mod [b] w w' → w'.heap.size = w.heap.size → Kp q w' := by exact fun _ _ _ => trivial)
    (hk : ∀ w', Mod [b] w w' → w'.heap.size = w.heap.size → Blk w' b bt (cs.set o u) → TL q P fn R M n st ops rest k w') :
    TL q P fn R M n st ops (⟨none, .store t X V, ty, ps, af, none⟩ :: rest) k w :=
  TL_do (w' := w.setCell ⟨b, o, none⟩ u) (fun ρ h => by
    have hc : w.cell? ⟨b, o, none⟩ = some (cs[o]) := by rw [hb.cell]; exact List.getElem?_eq_getElem ho
    have he : (⟨b, o, none⟩ : Addr).add 0 = ⟨b, o, none⟩ := by simp [Addr.add]
    simp [execOp, Instr.storeAt, h _ _ hx, h _ _ hv, Instr.sureAddr, storeVar, hu, run_sizeOf' (E.inf_ok _ _ _ _ hi), storeCells, he, run_store _ _ _ _ _ h1, hc, hb.thawed]) hf (hq _ (Mod.setCell w ⟨b, o, none⟩ u) (by simp [World.setCell]))
    (hk _ (Mod.setCell w ⟨b, o, none⟩ u) (by simp [World.setCell]) (hb.set _ _))
theorem LV_ret {v : Value} (hd : M.ds = []) (hr : ∀ a, OK M n st a → (results fn a.tmps).run P w = .ok v w) (hR : R (.returned v) w) : LV P fn R M n st .returning w := fun a ha => .nil_ret (by rw [ha.defers, hd]) (hr a ha) hR
end
end Go.Proofs.Eng
