import Derived.Test.YtkmdmpmimojmbaaEng4
namespace Go.Proofs.Eng
open Go.RowKit
set_option linter.unusedSimpArgs false
set_option linter.unusedVariables false
section
variable {q : Qm} {P : Program} {fn : Func} {R : Ending → World → Prop} {M : Md} {n : Nat} {st : Slots} {k : List Item} {w : World} {ops rest : List Oper} {d : Nat} {v : Value} {ty : TypeId} {ps : String} {af : Array Edge}
  {X Y : Operand} {K : IntKind} {x y : Int} {t t2 : TypeId} {a b : Nat}
theorem TL_makeIface_s {x : Operand} {fl : List (Nat × TypeId)} (E : Env P) (hx : ev st x = some v := by exact rfl) (ht : E.fld t = some fl := by exact rfl) (hd : Nat.blt d n = true := by exact rfl) (hk : TL q P fn R M n ((d, .iface t v) :: st) ops rest k w) : TL q P fn R M n st ops (⟨some d, .makeInterface t x, ty, ps, af, none⟩ :: rest) k w :=
  TL_val_w hd (fun w ρ h => by
    obtain ⟨fs, this, _⟩ := E.fld_ok _ _ ht
    simp_all [execOp, h _ _ hx, Instr.makeInterface, run_underlying this]) hk
theorem andNot_byte (a : Nat) (h : a < 256) : a &&& 127 = a % 128 := Nat.and_two_pow_sub_one_eq_mod a 7
/-- c &^ 0x80 of a byte. -/
theorem TL_andNot80 (hx : ev st X = some (.int .u8 x) := by exact rfl) (hy : ev st Y = some (.int .u8 128) := by exact rfl) (hxa : x = (a : Int) := by first | with_reducible exact litZ _ | with_reducible exact rfl | with_reducible exact litS _ _ | exact rfl) (h1 : a < 256 := by first | omega | decide | assumption) (hd : Nat.blt d n = true := by exact rfl) (hk : a % 128 < 256 → TL q P fn R M n ((d, .int .u8 ((a % 128 : Nat) : Int)) :: st) ops rest k w) : TL q P fn R M n st ops (⟨some d, .binOp .andNot t X Y t2, ty, ps, af, none⟩ :: rest) k w :=
  TL_val_w hd (fun w ρ h => by
    subst hxa
    have hx : ev st X = some (.int .u8 (a : Int)) := hx
    have e : (BitVec.ofInt 8 (a : Int)) = BitVec.ofNat 8 a := BitVec.ofInt_natCast ..
    have e2 : (BitVec.ofNat 8 a &&& ~~~(BitVec.ofInt 8 128)).toNat = a % 128 := by
      have : ~~~(BitVec.ofInt 8 128) = 127#8 := by decide
      rw [this, BitVec.toNat_and, BitVec.toNat_ofNat, Nat.mod_eq_of_lt (show a < 2 ^ 8 from h1)]
      exact Nat.and_two_pow_sub_one_eq_mod a 7
    simp only [execOp, h _ _ hx, h _ _ hy, eqGuard, binOp, Op.intBits, Sem.run_bind, Sem.run_pure, Result.andThen_ok, ne_eq, not_true_eq_false, if_false, Bool.not_false, if_true, IntKind.bits, e]
    show Result.ok (Next.value (.int .u8 (IntKind.u8.wrap ((BitVec.ofNat 8 a &&& ~~~BitVec.ofInt 8 128).toNat : Int)))) w = _
    rw [e2, wrap_nat (k := .u8) (b := 8) rfl, Nat.mod_eq_of_lt (show a % 128 < 2 ^ 8 by omega)]) (hk (by omega))
theorem Ext.mod {a b : World} {S : List Nat} (h : Ext a b) : Mod S a b := h.mono (by simp)
end
end Go.Proofs.Eng
