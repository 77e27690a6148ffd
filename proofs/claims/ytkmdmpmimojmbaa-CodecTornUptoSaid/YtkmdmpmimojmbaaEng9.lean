import Derived.Test.YtkmdmpmimojmbaaEng8
import Derived.OpenShut
import Derived.ChangeOld
import Derived.ChangeArms
import Derived.DataReads
import Derived.WideShapes
/- What an argument that reads as data looks like in memory; loads of whole structs. -/
namespace Go.Proofs.Eng
open Go.RowKit Go.WideShapes
set_option linter.unusedSimpArgs false
set_option linter.unusedVariables false
/-- Plain data's types: a struct is a chain of its fields. -/
inductive Ty where
  | int (k : IntKind)
  | bool
  | str
  | slice (e : Ty)
  | unit
  | cons (a b : Ty)
  | struct (p : Ty)
  | array (n : Nat) (e : Ty)
def Ty.size : Ty → Nat
  | .int _ => 1
  | .bool => 1
  | .str => 1
  | .slice _ => 1
  | .unit => 0
  | .cons a b => a.size + b.size
  | .struct p => p.size
  | .array n e => n * e.size
/-- Cells that read as data of a type. -/
def Fit (w : World) : Ty → List Value → Prop
  | .int k, cs => ∃ n, cs = [.int k n] ∧ Fits k n
  | .bool, cs => ∃ b, cs = [.bool b]
  | .str, cs => ∃ s : ByteArray, cs = [.string s] ∧ s.size ≤ maxLen
  | .slice e, cs => ∃ (A : Option Addr) (n c : Nat) (xs : List (List Value)), cs = [.slice A n c] ∧ n ≤ c ∧ c ≤ maxLen ∧ xs.length = n ∧ Rd w A n e.size xs.flatten ∧ ∀ x ∈ xs, x.length = e.size ∧ Fit w e x
  | .unit, cs => cs = []
  | .cons a b, cs => ∃ x y, cs = x ++ y ∧ x.length = a.size ∧ Fit w a x ∧ Fit w b y
  | .struct p, cs => Fit w p cs
  | .array n e, cs => ∃ xs : List (List Value), cs = xs.flatten ∧ xs.length = n ∧ ∀ x ∈ xs, x.length = e.size ∧ Fit w e x
def isInt (k : IntKind) : Option TypeDesc → Bool
  | some (.int k') => k' == k
  | _ => false
def isStr : Option TypeDesc → Bool
  | some .string => true
  | _ => false
def isBool : Option TypeDesc → Bool
  | some .bool => true
  | _ => false
def sizeIs (n : Nat) : Option (Nat × Nat × Value) → Bool
  | some (s, _, _) => Nat.beq s n
  | none => false
inductive Where where
  | at (t : TypeId)
  | from (off : Nat) (fl : List (Nat × TypeId))
def tyOk {P : Program} (E : Env P) : Ty → Where → Bool
  | .int k, .at t => isInt k (E.und t)
  | .bool, .at t => isBool (E.und t)
  | .str, .at t => isStr (E.und t)
  | .slice e, .at t => match E.und t with
    | some (.slice u) => tyOk E e (.at u) && sizeIs e.size (E.inf u) && Nat.blt 0 e.size
    | _ => false
  | .array n e, .at t => match E.und t with
    | some (.array m u) => Nat.beq m n && tyOk E e (.at u) && sizeIs e.size (E.inf u) && sizeIs (n * e.size) (E.inf t)
    | _ => false
  | .struct p, .at t => match E.fld t with
    | some fl => tyOk E p (.from 0 fl) && sizeIs p.size (E.inf t)
    | none => false
  | .unit, .from _ [] => true
  | .cons a b, .from off ((o, t) :: fl) => Nat.beq o off && tyOk E a (.at t) && sizeIs a.size (E.inf t) && tyOk E b (.from (off + a.size) fl)
  | _, _ => false
theorem fits_of_wf {k : IntKind} {n : Int} (h : (Lit.int k n).wf = true) : Fits k n := by
  cases k <;> simp [Lit.wf, IntKind.min, IntKind.max, IntKind.bits, IntKind.signed] at h <;> unfold Fits <;> omega
theorem sizeIs_ok {P : Program} {E : Env P} {t : TypeId} {n : Nat} (h : sizeIs n (E.inf t) = true) : P.cellsOf t = n := by
  cases hi : E.inf t with
  | none => rw [hi] at h; cases h
  | some x =>
    obtain ⟨s, b, z⟩ := x
    rw [hi] at h
    obtain ⟨i, h1, h2, _⟩ := E.inf_ok _ _ _ _ hi
    have := Nat.eq_of_beq_eq_true h
    unfold Program.cellsOf
    rw [h1]
    simp [h2, this]
section
variable {H : Type} {enc : TypeId × Value → H} {P : Program} {w : World} {base : Nat} {spare : Nat → Bool} {held : Bool}
theorem flat_get {s : Nat} : ∀ (xs : List (List Value)) (j : Nat) (u : Value), (∀ x ∈ xs, x.length = s) → xs.flatten[j]? = some u → ∃ (i : Nat) (x : List Value) (k : Nat), xs[i]? = some x ∧ x[k]? = some u ∧ j = i * s + k
  | [], j, u, _, h => by simp at h
  | x :: t, j, u, hs, h => by
    have hx : x.length = s := hs x (by simp)
    simp only [List.flatten_cons] at h
    rcases Nat.lt_or_ge j x.length with hj | hj
    · rw [List.getElem?_append_left hj] at h
      exact ⟨0, x, j, rfl, h, by omega⟩
    · rw [List.getElem?_append_right hj] at h
      obtain ⟨i, y, k, h1, h2, h3⟩ := flat_get t _ u (fun y hy => hs y (by simp [hy])) h
      exact ⟨i + 1, y, k, by simpa using h1, h2, by rw [Nat.succ_mul]; omega⟩
theorem flat_len {s n : Nat} {xs : List (List Value)} (hl : xs.length = n) (hs : ∀ x ∈ xs, x.length = s) : xs.flatten.length = n * s := by
  rw [List.length_flatten]
  have : xs.map List.length = List.replicate n s := by
    rw [← hl]
    exact List.eq_replicate_iff.2 ⟨by simp, fun b hb => by obtain ⟨x, hx, rfl⟩ := List.mem_map.1 hb; exact hs x hx⟩
  rw [this]
  simp
theorem rows_read {a : Addr} {n s : Nat} {xs : List (List Value)} (h0 : 0 < s) (hl : xs.length = n) (hx : ∀ (i : Nat) (x : List Value), xs[i]? = some x → w.cells? base (a.add (i * s)) s = some x) (hs : ∀ x ∈ xs, x.length = s) : Rd w (some a) n s xs.flatten := by
  refine ⟨flat_len hl hs, fun hn => ?_⟩
  obtain ⟨x0, hx0⟩ : ∃ x0, xs[0]? = some x0 := ⟨_, List.getElem?_eq_getElem (by omega)⟩
  have hc0 := hx 0 x0 hx0
  have hb := World.cells?_block hc0 h0
  have hcell : ∀ (i : Nat) (x : List Value) (j : Nat) (u : Value), xs[i]? = some x → x[j]? = some u → w.cell? ((a.add (i * s)).add j) = some u := by
    intro i x j u h1 h2
    obtain ⟨hb, hl', hc⟩ := World.cells?_some (hx i x h1)
    have hj : j < x.length := (List.getElem?_eq_some_iff.1 h2).1
    rw [hc j (by omega), h2]
  have hx0l : x0.length = s := hs x0 (List.mem_of_getElem? hx0)
  obtain ⟨u0, hu0⟩ : ∃ u0, x0[0]? = some u0 := ⟨_, List.getElem?_eq_getElem (by omega)⟩
  have hspot := World.cell?_spot (hcell 0 x0 0 u0 hx0 hu0)
  obtain ⟨b, off, spot⟩ := a
  have : spot = none := by simpa [Addr.add] using hspot
  subst this
  refine ⟨b, off, rfl, by simpa [Addr.add] using hb, fun j u hu => ?_⟩
  obtain ⟨i, x, k, h1, h2, rfl⟩ := flat_get xs j u hs hu
  have h3 := hcell i x k u h1 h2
  have e : ((⟨b, off, none⟩ : Addr).add (i * s)).add k = ⟨b, off + (i * s + k), none⟩ := by
    unfold Addr.add
    split <;> split <;> simp_all <;> omega
  rw [e] at h3
  exact h3
theorem und_int {P : Program} {E : Env P} {t : TypeId} {k : IntKind} (h : isInt k (E.und t) = true) : P.underlying t = some (.int k) := by
  cases hu : E.und t with
  | none => rw [hu] at h; cases h
  | some d =>
    rw [hu] at h
    cases d <;> simp [isInt] at h
    subst h
    exact E.und_ok _ _ hu
theorem und_str {P : Program} {E : Env P} {t : TypeId} (h : isStr (E.und t) = true) : P.underlying t = some .string := by
  cases hu : E.und t with
  | none => rw [hu] at h; cases h
  | some d =>
    rw [hu] at h
    cases d <;> simp [isStr] at h
    exact E.und_ok _ _ hu
theorem und_bool {P : Program} {E : Env P} {t : TypeId} (h : isBool (E.und t) = true) : P.underlying t = some .bool := by
  cases hu : E.und t with
  | none => rw [hu] at h; cases h
  | some d =>
    rw [hu] at h
    cases d <;> simp [isBool] at h
    exact E.und_ok _ _ hu
theorem take_drop_chunks {s : Nat} : ∀ (n : Nat) (cs : List Value), cs.length = n * s → ((List.range n).map fun i => (cs.drop (i * s)).take s).flatten = cs
  | 0, cs, h => by simp at h; subst h; rfl
  | n + 1, cs, h => by
    rw [List.range_succ_eq_map, List.map_cons, List.flatten_cons, List.map_map]
    have ih := take_drop_chunks (s := s) n (cs.drop s) (by rw [List.length_drop, h, Nat.succ_mul]; omega)
    have e : (List.range n).map ((fun i => (cs.drop (i * s)).take s) ∘ Nat.succ) = (List.range n).map fun i => ((cs.drop s).drop (i * s)).take s := by
      refine List.map_congr_left (fun i _ => ?_)
      simp only [Function.comp, List.drop_drop, Nat.succ_mul]
      rw [Nat.add_comm s]
    rw [e, ih]
    simp
theorem fit_of_trod (E : Env P) : ∀ (ty : Ty),
    (∀ t, tyOk E ty (.at t) = true → ∀ fuel cs x, DataW.trod enc P w base spare held fuel t cs = some x → Fit w ty cs) ∧
    (∀ off fl, tyOk E ty (.from off fl) = true → ∀ (cs : List Value), cs.length = off + ty.size → (∀ (i : Nat) (o : Nat) (t : TypeId), fl[i]? = some (o, t) → ∃ n x, DataW.trod enc P w base spare held n t ((cs.drop o).take (P.cellsOf t)) = some x) → Fit w ty (cs.drop off)) := by
  intro ty
  induction ty with
  | int k =>
    refine ⟨fun t h fuel cs x hd => ?_, fun _ _ h => by simp [tyOk] at h⟩
    obtain ⟨n, h1, _, h2⟩ := DataW.trod_int (und_int h) hd
    exact ⟨n, h1, fits_of_wf h2⟩
  | bool =>
    refine ⟨fun t h fuel cs x hd => ?_, fun _ _ h => by simp [tyOk] at h⟩
    obtain ⟨b, h1, _⟩ := DataW.trod_bool (und_bool h) hd
    exact ⟨b, h1⟩
  | str =>
    refine ⟨fun t h fuel cs x hd => ?_, fun _ _ h => by simp [tyOk] at h⟩
    obtain ⟨s, h1, _, h2⟩ := DataW.trod_string (und_str h) hd
    exact ⟨s, h1, h2⟩
  | slice e ih =>
    refine ⟨fun t h fuel cs x hd => ?_, fun _ _ h => by simp [tyOk] at h⟩
    simp only [tyOk] at h
    split at h
    · rename_i u hu
      simp only [Bool.and_eq_true] at h
      obtain ⟨⟨h1, h2⟩, h3⟩ := h
      have hsz := sizeIs_ok h2
      have h0 : 0 < e.size := by simpa [Nat.blt_eq] using h3
      rcases DataW.trod_slice (E.und_ok _ _ hu) hd with ⟨rfl, _⟩ | ⟨a, len, cap, elems, rest, n, _, rfl, _, hb, hl, hm, hlen, hel, _⟩
      · exact ⟨none, 0, 0, [], rfl, Nat.le_refl _, by decide, rfl, Rd.nil _ _ _, by simp⟩
      · rw [hsz] at hel
        have hget : ∀ i, i < len → ∃ y z, w.cells? base (a.add (i * e.size)) e.size = some y ∧ DataW.trod enc P w base spare held n u y = some z := fun i hi => by
          have h4 := hel i hi
          rw [List.getElem?_eq_getElem (by omega)] at h4
          cases hc : w.cells? base (a.add (i * e.size)) e.size with
          | none => rw [hc] at h4; simp at h4
          | some y => rw [hc] at h4; simp at h4; exact ⟨y, _, rfl, h4⟩
        have hsome : ∀ (i : Nat) (x : List Value), ((List.range len).map fun i => (w.cells? base (a.add (i * e.size)) e.size).getD [])[i]? = some x → w.cells? base (a.add (i * e.size)) e.size = some x ∧ x.length = e.size ∧ Fit w e x := fun i x hx => by
          have hi : i < len := by have := (List.getElem?_eq_some_iff.1 hx).1; simpa using this
          obtain ⟨y, z, hy, hz⟩ := hget i hi
          rw [List.getElem?_map, List.getElem?_range hi] at hx
          simp only [Option.map_some, hy, Option.getD_some, Option.some.injEq] at hx
          subst hx
          exact ⟨hy, (World.cells?_some hy).2.1, ih.1 u h1 n y z hz⟩
        have hmem : ∀ x ∈ (List.range len).map (fun i => (w.cells? base (a.add (i * e.size)) e.size).getD []), x.length = e.size ∧ Fit w e x := fun x hx => by
          obtain ⟨i, hi⟩ := List.getElem?_of_mem hx
          exact (hsome i x hi).2
        exact ⟨some a, len, cap, _, rfl, hl, hm, by simp, rows_read h0 (by simp) (fun i x hx => (hsome i x hx).1) (fun x hx => (hmem x hx).1), hmem⟩
    · cases h
  | unit =>
    refine ⟨fun t h => by simp [tyOk] at h, fun off fl h cs hl _ => ?_⟩
    show cs.drop off = []
    exact List.drop_of_length_le (by simp only [Ty.size] at hl; omega)
  | cons a b iha ihb =>
    refine ⟨fun t h => by simp [tyOk] at h, fun off fl h cs hl hf => ?_⟩
    cases fl with
    | nil => simp [tyOk] at h
    | cons p fl =>
      obtain ⟨o, t⟩ := p
      simp only [tyOk, Bool.and_eq_true] at h
      obtain ⟨⟨⟨h1, h2⟩, h3⟩, h4⟩ := h
      have ho := Nat.eq_of_beq_eq_true h1
      subst ho
      simp only [Ty.size] at hl
      have hsz := sizeIs_ok h3
      obtain ⟨n, x, hx⟩ := hf 0 o t rfl
      rw [hsz] at hx
      refine ⟨(cs.drop o).take a.size, cs.drop (o + a.size), ?_, by simp; omega, iha.1 t h2 n _ x hx, ?_⟩
      · rw [← List.drop_drop, List.take_append_drop]
      · exact ihb.2 (o + a.size) fl h4 cs (by omega) (fun i o' t' h' => hf (i + 1) o' t' (by simpa using h'))
  | struct p ih =>
    refine ⟨fun t h fuel cs x hd => ?_, fun _ _ h => by simp [tyOk] at h⟩
    simp only [tyOk] at h
    split at h
    · rename_i fl hfl
      simp only [Bool.and_eq_true] at h
      obtain ⟨h1, h2⟩ := h
      obtain ⟨fs, hu, hmap⟩ := E.fld_ok _ _ hfl
      obtain ⟨xs, n, _, _, hl, hxl, hfs⟩ := DataW.trod_struct hu hd
      rw [sizeIs_ok h2] at hl
      have := ih.2 0 fl h1 cs (by omega) (fun i o t' h' => by
        rw [← hmap, List.getElem?_map] at h'
        cases hf : fs.toList[i]? with
        | none => rw [hf] at h'; cases h'
        | some f =>
          rw [hf] at h'
          cases h'
          have hf' : fs[i]? = some f := by simpa using hf
          have hi : i < xs.length := by rw [hxl]; exact (Array.getElem?_eq_some_iff.1 hf').1
          have h5 := hfs i f hf'
          rw [List.getElem?_eq_getElem hi] at h5
          exact ⟨n, _, h5⟩)
      simpa [Fit] using this
    · cases h
  | array n e ih =>
    refine ⟨fun t h fuel cs x hd => ?_, fun _ _ h => by simp [tyOk] at h⟩
    simp only [tyOk] at h
    split at h
    · rename_i m u hu
      simp only [Bool.and_eq_true] at h
      obtain ⟨⟨⟨h1, h2⟩, h3⟩, h4⟩ := h
      have hm := Nat.eq_of_beq_eq_true h1
      subst hm
      obtain ⟨xs, q, _, _, hl, hxl, hel⟩ := DataW.trod_array (E.und_ok _ _ hu) hd
      rw [sizeIs_ok h4] at hl
      rw [sizeIs_ok h3] at hel
      refine ⟨(List.range m).map fun i => (cs.drop (i * e.size)).take e.size, (take_drop_chunks m cs hl).symm, by simp, fun y hy => ?_⟩
      obtain ⟨i, hi, rfl⟩ := List.mem_map.1 hy
      have hi' : i < m := by simpa using hi
      have h5 := hel i hi'
      rw [List.getElem?_eq_getElem (by omega)] at h5
      refine ⟨?_, ih.1 u h2 q _ _ h5⟩
      have : (i + 1) * e.size ≤ m * e.size := Nat.mul_le_mul_right _ hi'
      rw [Nat.succ_mul] at this
      simp; omega
    · cases h
/-- An argument that reads as data. -/
def Reads (P : Program) (w : World) (base : Nat) (t : TypeId) (v : Value) : Prop :=
  ∃ (H : Type) (enc : TypeId × Value → H) (d : DataW H) (ps : List MemPlace), DataW.Trod enc P w 0 (fun _ => true) true t v d ps ∧ Value.okWide P w .any base t v
theorem Reads.fit {t : TypeId} {v : Value} (E : Env P) (h : Reads P w base t v) (ty : Ty) (hok : tyOk E ty (.at t) = true) : Fit w ty v.cells.toList := by
  obtain ⟨H, enc, d, ps, ⟨fuel, hf⟩, _⟩ := h
  exact (fit_of_trod E ty).1 t hok fuel _ _ hf
theorem Reads.slice {t e : TypeId} {v : Value} (E : Env P) (h : Reads P w base t v) (ht : E.und t = some (.slice e)) : ∃ A n c, v = .slice A n c := by
  obtain ⟨_, _, _, _, _, hv⟩ := h
  exact okWide_slice (E.und_ok _ _ ht) hv
theorem Fit.bytes {A : Option Addr} {n c : Nat} (h : Fit w (.slice (.int .u8)) [.slice A n c]) : ∃ l, Rd w A n 1 (bv l) ∧ n ≤ c ∧ c ≤ maxLen := by
  obtain ⟨A', n', c', xs, hv, h1, h2, h3, h4, h5⟩ := h
  cases hv
  refine ⟨xs.map fun x => match x with | [.int .u8 z] => UInt8.ofNat z.toNat | _ => 0, ?_, h1, h2⟩
  have e : bv (xs.map fun x => match x with | [.int .u8 z] => UInt8.ofNat z.toNat | _ => 0) = xs.flatten := by
    clear h3 h4
    induction xs with
    | nil => rfl
    | cons x t ih =>
      obtain ⟨_, z, rfl, hz⟩ := h5 x (by simp)
      have := ih (fun y hy => h5 y (by simp [hy]))
      simp only [bv, List.map_cons, List.flatten_cons] at this ⊢
      rw [this]
      have hz' : ((UInt8.ofNat z.toNat).toNat : Int) = z := by
        unfold Fits at hz
        rw [UInt8.toNat_ofNat']
        omega
      show Value.int .u8 ((UInt8.ofNat z.toNat).toNat : Int) :: _ = Value.int .u8 z :: _
      rw [hz']
      rfl
  rw [e]
  exact h4
theorem bytes_in {H : Type} {enc : TypeId × Value → H} (E : Env P) {t : TypeId} {A : Option Addr} {n c : Nat} {d : DataW H} {ps : List MemPlace} (hok : tyOk E (.slice (.int .u8)) (.at t) = true)
    (h : DataW.Trod enc P w 0 (fun _ => true) true t (.slice A n c) d ps) : ∃ l, Rd w A n 1 (bv l) ∧ n ≤ c ∧ c ≤ maxLen := by
  obtain ⟨fuel, hf⟩ := h
  exact Fit.bytes ((fit_of_trod E _).1 t hok fuel _ _ hf)
end
/-! ### Loads of whole structs and arrays -/
def aggD : TypeDesc → Bool
  | .struct _ | .array _ _ => true
  | _ => false
section
variable {q : Qm} {P : Program} {fn : Func} {R : Ending → World → Prop} {M : Md} {n : Nat} {st : Slots} {k : List Item} {w : World} {ops rest : List Oper}
  {d : Nat} {v : Value} {ty : TypeId} {ps : String} {af : Array Edge} {X : Operand} {t : TypeId} {by_ s m c j : Nat} {z : Value}
theorem Blk.rd {w : World} {b : Nat} {t : TypeId} {cs : List Value} (h : Blk w b t cs) : Rd w (some ⟨b, 0, none⟩) 1 cs.length cs := Rd.blk h (by simp)
theorem run_isAgg_fld (E : Env P) {fl : List (Nat × TypeId)} (h : E.fld t = some fl) (w : World) : (isAgg t).run P w = .ok true w := by
  obtain ⟨fs, hu, _⟩ := E.fld_ok _ _ h
  simp [isAgg, run_underlying hu]
theorem load_cells {A : Option Addr} {xs cs : List Value} (hr : Rd w A m s xs) (hc : (xs.drop j).take cs.length = cs) (h0 : 0 < cs.length) : (loadCells (adr A j) cs.length).run P w = .ok cs.toArray w := by
  have hlen : j + cs.length ≤ xs.length := by
    have := congrArg List.length hc
    simp at this
    omega
  have := loadCellsFrom_eq (P := P) (w := w) (a := adr A j) cs 0 #[] (fun i u hu => by
    have hi : i < cs.length := (List.getElem?_eq_some_iff.1 hu).1
    have hx : xs[j + i]? = some u := by
      rw [← hc, List.getElem?_take, if_pos hi, List.getElem?_drop] at hu
      exact hu
    have h9 := hr.cell hx
    have hm : 0 < m := by
      rcases Nat.eq_zero_or_pos m with h1 | h1
      · have hz := hr.1; rw [h1, Nat.zero_mul] at hz; omega
      · exact h1
    obtain ⟨b, off, rfl, _, _⟩ := hr.2 hm
    have e : (adr (some ⟨b, off, none⟩) j).add (0 + i) = adr (some ⟨b, off, none⟩) (j + i) := by
      unfold adr Addr.add
      by_cases h : i = 0 <;> simp [h, Nat.add_assoc]
    rw [e]
    exact h9)
  simpa [loadCells] using this
theorem TL_loada {A : Option Addr} {xs cs : List Value} {fl : List (Nat × TypeId)} (E : Env P) (hx : ev st X = some (.pointer (some (adr A j)))) (ht : E.fld t = some fl) (hi : E.inf t = some (cs.length, by_, z)) (hr : Rd w A m s xs) (hc : (xs.drop j).take cs.length = cs) (h0 : 0 < cs.length) (hpl : q.plain = true := by exact rfl) (hd : Nat.blt d n = true := by exact rfl)
    (hk : TL q P fn R M n ((d, .agg cs.toArray) :: st) ops rest k w) : TL q P fn R M n st ops (⟨some d, .load t X, ty, ps, af, none⟩ :: rest) k w :=
  TL_val hd (fun w' hw ρ h => by
    have h1 := load_cells (P := P) (hr.ext (hw.ext hpl)) hc h0
    simp [execOp, Instr.loadAt, h _ _ hx, Instr.sureAddr, loadVar, run_isAgg_fld E ht, run_sizeOf' (E.inf_ok _ _ _ _ hi), h1]) hk
theorem TL_loadb {b o : Nat} {bt : TypeId} {xs cs : List Value} {fl : List (Nat × TypeId)} (E : Env P) (hx : ev st X = some (.pointer (some ⟨b, o, none⟩))) (ht : E.fld t = some fl) (hb : Blk w b bt xs) (hc : (xs.drop o).take cs.length = cs) (hi : E.inf t = some (cs.length, by_, z)) (h0 : 0 < cs.length) (hpl : q.plain = true := by exact rfl) (hd : Nat.blt d n = true := by exact rfl)
    (hk : TL q P fn R M n ((d, .agg cs.toArray) :: st) ops rest k w) : TL q P fn R M n st ops (⟨some d, .load t X, ty, ps, af, none⟩ :: rest) k w := by
  refine TL_loada (A := some ⟨b, 0, none⟩) (j := o) E ?_ ht hi hb.rd hc h0 hpl hd hk
  rw [hx]
  simp [adr]
end
end Go.Proofs.Eng
