import Derived.Test.YtkmdmpmimojmbaaEng9
/- What an argument that reads as data looks like, and how much it holds. -/
namespace Go.Proofs.Eng
open Go.RowKit Go.WideShapes
set_option linter.unusedSimpArgs false
set_option linter.unusedVariables false
/-- How much a reading holds. -/
structure Bulk (H : Type) where
  one : DataW H → Nat
  all : List (DataW H) → Nat
  lit : ∀ l, 1 ≤ one (.lit l)
  str : ∀ b, one (.lit (.string b)) = b.length + 1
  nil : one .nil = 1
  slice : ∀ e s, one (.slice e s) = all e + all s + 1
  agg : ∀ p, one (.agg p) = all p + 1
  none : all [] = 0
  some : ∀ d r, all (d :: r) = one d + all r
def FitB (w : World) : Ty → List Value → Nat → Prop
  | .int k, cs, m => 1 ≤ m ∧ ∃ n, cs = [.int k n] ∧ Fits k n
  | .bool, cs, m => 1 ≤ m ∧ ∃ b, cs = [.bool b]
  | .str, cs, m => ∃ s : ByteArray, cs = [.string s] ∧ s.size ≤ maxLen ∧ s.size + 1 ≤ m
  | .slice e, cs, m => ∃ (A : Option Addr) (n c : Nat) (xs : List (List Value)) (ms : List Nat), cs = [.slice A n c] ∧ n ≤ c ∧ c ≤ maxLen ∧ xs.length = n ∧ ms.length = n ∧ ms.sum + 1 ≤ m ∧ Rd w A n e.size xs.flatten ∧
      ∀ (i : Nat) (x : List Value) (k : Nat), xs[i]? = some x → ms[i]? = some k → x.length = e.size ∧ FitB w e x k
  | .unit, cs, _ => cs = []
  | .cons a b, cs, m => ∃ x y p q, cs = x ++ y ∧ x.length = a.size ∧ p + q ≤ m ∧ FitB w a x p ∧ FitB w b y q
  | .struct p, cs, m => FitB w p cs m
  | .array n e, cs, m => ∃ (xs : List (List Value)) (ms : List Nat), cs = xs.flatten ∧ xs.length = n ∧ ms.length = n ∧ ms.sum ≤ m ∧ ∀ (i : Nat) (x : List Value) (k : Nat), xs[i]? = some x → ms[i]? = some k → x.length = e.size ∧ FitB w e x k
theorem FitB.mono {w : World} : ∀ {ty : Ty} {cs : List Value} {m m' : Nat}, FitB w ty cs m → m ≤ m' → FitB w ty cs m'
  | .int _, _, _, _, ⟨h, r⟩, hm => ⟨Nat.le_trans h hm, r⟩
  | .bool, _, _, _, ⟨h, r⟩, hm => ⟨Nat.le_trans h hm, r⟩
  | .str, _, _, _, ⟨s, h1, h2, h3⟩, hm => ⟨s, h1, h2, Nat.le_trans h3 hm⟩
  | .slice _, _, _, _, ⟨A, n, c, xs, ms, h1, h2, h3, h4, h5, h6, h7⟩, hm => ⟨A, n, c, xs, ms, h1, h2, h3, h4, h5, Nat.le_trans h6 hm, h7⟩
  | .unit, _, _, _, h, _ => h
  | .cons _ _, _, _, _, ⟨x, y, p, q, h1, h2, h3, h4⟩, hm => ⟨x, y, p, q, h1, h2, Nat.le_trans h3 hm, h4⟩
  | .struct p, _, _, _, h, hm => FitB.mono (ty := p) h hm
  | .array _ _, _, _, _, ⟨xs, ms, h1, h2, h3, h4, h5⟩, hm => ⟨xs, ms, h1, h2, h3, Nat.le_trans h4 hm, h5⟩
section
variable {H : Type} {enc : TypeId × Value → H} {P : Program} {w : World} {base : Nat} {spare : Nat → Bool} {held : Bool}
theorem Bulk.map_sum (K : Bulk H) (l : List (DataW H × List MemPlace)) : K.all (l.map (·.1)) = (l.map fun x => K.one x.1).sum := by
  induction l with
  | nil => simp [K.none]
  | cons a l ih => simp [K.some, ih]
theorem fitb_of_trod (E : Env P) (K : Bulk H) : ∀ (ty : Ty),
    (∀ t, tyOk E ty (.at t) = true → ∀ fuel cs x, DataW.trod enc P w base spare held fuel t cs = some x → FitB w ty cs (K.one x.1)) ∧
    (∀ off fl, tyOk E ty (.from off fl) = true → ∀ (cs : List Value) (ys : List (DataW H × List MemPlace)), cs.length = off + ty.size → ys.length = fl.length →
      (∀ (i : Nat) (o : Nat) (t : TypeId) y, fl[i]? = some (o, t) → ys[i]? = some y → ∃ n, DataW.trod enc P w base spare held n t ((cs.drop o).take (P.cellsOf t)) = some y) → FitB w ty (cs.drop off) (ys.map fun x => K.one x.1).sum) := by
  intro ty
  induction ty with
  | int k =>
    refine ⟨fun t h fuel cs x hd => ?_, fun _ _ h => by simp [tyOk] at h⟩
    obtain ⟨n, h1, h3, h2⟩ := DataW.trod_int (und_int h) hd
    rw [h3]
    exact ⟨K.lit _, n, h1, fits_of_wf h2⟩
  | bool =>
    refine ⟨fun t h fuel cs x hd => ?_, fun _ _ h => by simp [tyOk] at h⟩
    obtain ⟨b, h1, h3⟩ := DataW.trod_bool (und_bool h) hd
    rw [h3]
    exact ⟨K.lit _, b, h1⟩
  | str =>
    refine ⟨fun t h fuel cs x hd => ?_, fun _ _ h => by simp [tyOk] at h⟩
    obtain ⟨s, h1, h3, h2⟩ := DataW.trod_string (und_str h) hd
    rw [h3]
    exact ⟨s, h1, h2, by rw [K.str]; simp⟩
  | slice e ih =>
    refine ⟨fun t h fuel cs x hd => ?_, fun _ _ h => by simp [tyOk] at h⟩
    simp only [tyOk] at h
    split at h
    · rename_i u hu
      simp only [Bool.and_eq_true] at h
      obtain ⟨⟨h1, h2⟩, h3⟩ := h
      have hsz := sizeIs_ok h2
      have h0 : 0 < e.size := by simpa [Nat.blt_eq] using h3
      rcases DataW.trod_slice (E.und_ok _ _ hu) hd with ⟨rfl, hx⟩ | ⟨a, len, cap, elems, rest, n, _, rfl, hx, hb, hl, hm, hlen, hel, _⟩
      · rw [hx]
        exact ⟨none, 0, 0, [], [], rfl, Nat.le_refl _, by decide, rfl, rfl, by simp [K.nil], Rd.nil _ _ _, by simp⟩
      · rw [hsz] at hel
        have hget : ∀ i, i < len → ∃ y z, w.cells? base (a.add (i * e.size)) e.size = some y ∧ elems[i]? = some z ∧ DataW.trod enc P w base spare held n u y = some z := fun i hi => by
          have h4 := hel i hi
          rw [List.getElem?_eq_getElem (by omega)] at h4
          cases hc : w.cells? base (a.add (i * e.size)) e.size with
          | none => rw [hc] at h4; simp at h4
          | some y => rw [hc] at h4; simp at h4; exact ⟨y, _, rfl, List.getElem?_eq_getElem (by omega), h4⟩
        have hsome : ∀ (i : Nat) (x : List Value), ((List.range len).map fun i => (w.cells? base (a.add (i * e.size)) e.size).getD [])[i]? = some x → w.cells? base (a.add (i * e.size)) e.size = some x ∧ x.length = e.size ∧ ∃ z, elems[i]? = some z ∧ FitB w e x (K.one z.1) := fun i x hx => by
          have hi : i < len := by have := (List.getElem?_eq_some_iff.1 hx).1; simpa using this
          obtain ⟨y, z, hy, hz, ht⟩ := hget i hi
          rw [List.getElem?_map, List.getElem?_range hi] at hx
          simp only [Option.map_some, hy, Option.getD_some, Option.some.injEq] at hx
          subst hx
          exact ⟨hy, (World.cells?_some hy).2.1, z, hz, ih.1 u h1 n y z ht⟩
        have hmem : ∀ x ∈ (List.range len).map (fun i => (w.cells? base (a.add (i * e.size)) e.size).getD []), x.length = e.size := fun x hx => by
          obtain ⟨i, hi⟩ := List.getElem?_of_mem hx
          exact (hsome i x hi).2.1
        refine ⟨some a, len, cap, _, elems.map fun x => K.one x.1, rfl, hl, hm, by simp, by simp [hlen], ?_, rows_read h0 (by simp) (fun i x hx => (hsome i x hx).1) hmem, ?_⟩
        · rw [hx]
          simp only [K.slice, K.map_sum]
          omega
        · intro i x k hx hk
          obtain ⟨_, h5, z, hz, h6⟩ := hsome i x hx
          rw [List.getElem?_map, hz] at hk
          simp at hk
          subst hk
          exact ⟨h5, h6⟩
    · cases h
  | unit =>
    refine ⟨fun t h => by simp [tyOk] at h, fun off fl h cs ys hl _ _ => ?_⟩
    show cs.drop off = []
    exact List.drop_of_length_le (by simp only [Ty.size] at hl; omega)
  | cons a b iha ihb =>
    refine ⟨fun t h => by simp [tyOk] at h, fun off fl h cs ys hl hyl hf => ?_⟩
    cases fl with
    | nil => simp [tyOk] at h
    | cons p fl =>
      cases ys with
      | nil => simp at hyl
      | cons y ys =>
        obtain ⟨o, t⟩ := p
        simp only [tyOk, Bool.and_eq_true] at h
        obtain ⟨⟨⟨h1, h2⟩, h3⟩, h4⟩ := h
        have ho := Nat.eq_of_beq_eq_true h1
        subst ho
        simp only [Ty.size] at hl
        have hsz := sizeIs_ok h3
        obtain ⟨n, hx⟩ := hf 0 o t y rfl rfl
        rw [hsz] at hx
        refine ⟨(cs.drop o).take a.size, cs.drop (o + a.size), K.one y.1, (ys.map fun x => K.one x.1).sum, ?_, by simp; omega, by simp, iha.1 t h2 n _ y hx, ?_⟩
        · rw [← List.drop_drop, List.take_append_drop]
        · exact ihb.2 (o + a.size) fl h4 cs ys (by omega) (by simpa using hyl) (fun i o' t' y' h' g' => hf (i + 1) o' t' y' (by simpa using h') (by simpa using g'))
  | struct p ih =>
    refine ⟨fun t h fuel cs x hd => ?_, fun _ _ h => by simp [tyOk] at h⟩
    simp only [tyOk] at h
    split at h
    · rename_i fl hfl
      simp only [Bool.and_eq_true] at h
      obtain ⟨h1, h2⟩ := h
      obtain ⟨fs, hu, hmap⟩ := E.fld_ok _ _ hfl
      obtain ⟨xs, n, _, hx, hl, hxl, hfs⟩ := DataW.trod_struct hu hd
      rw [sizeIs_ok h2] at hl
      have := ih.2 0 fl h1 cs xs (by omega) (by rw [hxl, ← hmap]; simp) (fun i o t' y h' g' => by
        rw [← hmap, List.getElem?_map] at h'
        cases hf : fs.toList[i]? with
        | none => rw [hf] at h'; cases h'
        | some f =>
          rw [hf] at h'
          cases h'
          have hf' : fs[i]? = some f := by simpa using hf
          have h5 := hfs i f hf'
          rw [g'] at h5
          exact ⟨n, h5⟩)
      rw [hx]
      refine FitB.mono (ty := p) (by simpa using this) ?_
      rw [K.agg, K.map_sum]
      omega
    · cases h
  | array n e ih =>
    refine ⟨fun t h fuel cs x hd => ?_, fun _ _ h => by simp [tyOk] at h⟩
    simp only [tyOk] at h
    split at h
    · rename_i m u hu
      simp only [Bool.and_eq_true] at h
      obtain ⟨⟨⟨h1, h2⟩, h3⟩, h4⟩ := h
      have hm := Nat.eq_of_beq_eq_true h1
      subst hm
      obtain ⟨xs, q, _, hx, hl, hxl, hel⟩ := DataW.trod_array (E.und_ok _ _ hu) hd
      rw [sizeIs_ok h4] at hl
      rw [sizeIs_ok h3] at hel
      refine ⟨(List.range m).map fun i => (cs.drop (i * e.size)).take e.size, xs.map fun x => K.one x.1, (take_drop_chunks m cs hl).symm, by simp, by simp [hxl], ?_, fun i y k hy hk => ?_⟩
      · rw [hx, K.agg, K.map_sum]
        omega
      · have hi' : i < m := by have := (List.getElem?_eq_some_iff.1 hy).1; simpa using this
        rw [List.getElem?_map, List.getElem?_range hi'] at hy
        simp at hy
        subst hy
        have h5 := hel i hi'
        rw [List.getElem?_map, ← h5] at hk
        cases ht : DataW.trod enc P w base spare held q u ((cs.drop (i * e.size)).take e.size) with
        | none => rw [ht] at hk; simp at hk
        | some z =>
          rw [ht] at hk
          simp at hk
          subst hk
          refine ⟨?_, ih.1 u h2 q _ _ ht⟩
          have : (i + 1) * e.size ≤ m * e.size := Nat.mul_le_mul_right _ hi'
          rw [Nat.succ_mul] at this
          simp; omega
    · cases h
/-- An argument that reads as data and holds so much. -/
def ReadsB (P : Program) (w : World) (base : Nat) (t : TypeId) (v : Value) (m : Nat) : Prop :=
  ∃ (H : Type) (enc : TypeId × Value → H) (d : DataW H) (ps : List MemPlace) (K : Bulk H), DataW.Trod enc P w 0 (fun _ => true) true t v d ps ∧ Value.okWide P w .any base t v ∧ K.one d ≤ m
theorem ReadsB.fit {t : TypeId} {v : Value} {m : Nat} (E : Env P) (h : ReadsB P w base t v m) (ty : Ty) (hok : tyOk E ty (.at t) = true) : FitB w ty v.cells.toList m := by
  obtain ⟨H, enc, d, ps, K, ⟨fuel, hf⟩, _, hm⟩ := h
  exact FitB.mono ((fitb_of_trod E K ty).1 t hok fuel _ _ hf) hm
theorem ReadsB.slice {t e : TypeId} {v : Value} {m : Nat} (E : Env P) (h : ReadsB P w base t v m) (ht : E.und t = some (.slice e)) : ∃ A n c, v = .slice A n c := by
  obtain ⟨_, _, _, _, _, _, hv, _⟩ := h
  exact okWide_slice (E.und_ok _ _ ht) hv
theorem FitB.bytes {A : Option Addr} {n c m : Nat} (h : FitB w (.slice (.int .u8)) [.slice A n c] m) : ∃ l, Rd w A n 1 (bv l) ∧ n ≤ c ∧ c ≤ maxLen ∧ n + 1 ≤ m := by
  obtain ⟨A', n', c', xs, ms, hv, h1, h2, h3, h4, h5, h6, h7⟩ := h
  cases hv
  have hn : n ≤ ms.sum := by
    rw [← h4]
    have key : ∀ (xs : List (List Value)) (ms : List Nat), xs.length = ms.length → (∀ (i : Nat) (x : List Value) (k : Nat), xs[i]? = some x → ms[i]? = some k → 1 ≤ k) → ms.length ≤ ms.sum := by
      intro xs
      induction xs with
      | nil => intro ms hl _; cases ms <;> simp at hl ⊢
      | cons x xs ih =>
        intro ms hl hk
        cases ms with
        | nil => simp
        | cons k ms =>
          have := ih ms (by simpa using hl) (fun i x k a b => hk (i + 1) x k (by simpa using a) (by simpa using b))
          have := hk 0 x k rfl rfl
          simp
          omega
    exact key xs ms (by omega) (fun i x k a b => (h7 i x k a b).2.1)
  have h8 : ∀ x ∈ xs, x.length = 1 ∧ Fit w (.int .u8) x := fun x hx => by
    obtain ⟨i, hi⟩ := List.getElem?_of_mem hx
    have hlt := (List.getElem?_eq_some_iff.1 hi).1
    have := h7 i x ms[i] hi (List.getElem?_eq_getElem (by omega))
    exact ⟨this.1, this.2.2⟩
  obtain ⟨l, hl, h9, h10⟩ := Fit.bytes (w := w) (A := A) (n := n) (c := c) ⟨A, n, c, xs, rfl, h1, h2, h3, h6, h8⟩
  exact ⟨l, hl, h9, h10, by omega⟩
end
end Go.Proofs.Eng
