/-
  No cell of these rows narrows 'for every input' (looked for: loops, veiled, ifaces, maps, wideKeys, modest, calm, conditions, laid).
  DERIVED. THE GIVEN ROWS OF THIS SEAT. 5 by the template 'for every input the law returns true; each argument reads behind the call as it read before'; 0 by the template 'total and deterministic' (their statements: YthiacmmkfngpbaaTotals.lean).
  GIVEN WITH THE SEED: the statements are not yours to turn. If you find one false, say at which input.
  Laid BY PROGRAM, IN A SANDBOX (cutbox-rows.mjs): the forced cells as the released guide's own fill.sh prints them over the translation 0ca6eb6eba909786… (all of the seat's roots in one cut). By AI agents, Wed Nov 11 2026. No macro, syntax, notation, axiom, sorry.
-/
import Derived.Test.YthiacmmkfngpbaaChecked
import GoSem.Claim
import GoSem.ClaimJoined
import GoSem.ClaimMapViews
import Derived.JoinedTies
import Derived.KernelRfl
namespace Go.Proofs.Ythiacmmkfngpbaa
/- THE CELL 'sum', in the pinned program and in every row, IS THE sha256 OF THE DUMP (.gsa) THAT YthiacmmkfngpbaaProg.lean LOADS. Nothing in Lean hashes anything: it is a label: what it is worth is what the hold of that sum in a sandbox is worth. -/
noncomputable def Try.pinned : Pinned := { name := "ythiacmmkfngpbaa", sum := "0ca6eb6eba909786e49586cfdd808a2fbba2298a2bb3ea4c2785f74848e5f8a7", checked := Try.checked }
namespace Rows
def none {H : Type} : Left H := { results := [], args := [] }

/-- 'tranchelaw28.ColdOrder': WHATEVER THE INPUT: true; the input reads as it did. -/
def coldOrderSpec : ChangeSpec := { name := "coldOrder", fn := fun _ => fun
  | [d] => { results := [.lit (.bool true)], args := [d] }
  | _ => none }
def coldOrderRow : OpenClaim := { program := "ythiacmmkfngpbaa", sum := "0ca6eb6eba909786e49586cfdd808a2fbba2298a2bb3ea4c2785f74848e5f8a7", func := "tranche/tranchelaw28.ColdOrder", spec := "coldOrder", inPlace := ["internal/bytealg.IndexByteString"], unfollowed := true, recurses := true, apart := false }
def ColdOrderSaid : Prop := coldOrderRow.holds Try.pinned (OpenSpec.ofChange coldOrderSpec)

/-- ITS FALSE NEIGHBOUR: 'it returns false'. Refute it at one input. -/
def coldOrderWrong : ChangeSpec := { name := "coldOrder", fn := fun _ => fun
  | [d] => { results := [.lit (.bool false)], args := [d] }
  | _ => none }
def ColdOrderWrongFalsely : Prop := coldOrderRow.holds Try.pinned (OpenSpec.ofChange coldOrderWrong)

/-- 'tranchelaw28.ColdEnds': WHATEVER THE INPUT: true; the input reads as it did. -/
def coldEndsSpec : ChangeSpec := { name := "coldEnds", fn := fun _ => fun
  | [d] => { results := [.lit (.bool true)], args := [d] }
  | _ => none }
def coldEndsRow : OpenClaim := { program := "ythiacmmkfngpbaa", sum := "0ca6eb6eba909786e49586cfdd808a2fbba2298a2bb3ea4c2785f74848e5f8a7", func := "tranche/tranchelaw28.ColdEnds", spec := "coldEnds", inPlace := ["internal/bytealg.IndexByteString"], unfollowed := true, recurses := true, apart := false }
def ColdEndsSaid : Prop := coldEndsRow.holds Try.pinned (OpenSpec.ofChange coldEndsSpec)

/-- ITS FALSE NEIGHBOUR: 'it returns false'. Refute it at one input. -/
def coldEndsWrong : ChangeSpec := { name := "coldEnds", fn := fun _ => fun
  | [d] => { results := [.lit (.bool false)], args := [d] }
  | _ => none }
def ColdEndsWrongFalsely : Prop := coldEndsRow.holds Try.pinned (OpenSpec.ofChange coldEndsWrong)

/-- 'tranchelaw28.ColdHolds': WHATEVER THE INPUT: true; the input reads as it did. -/
def coldHoldsSpec : ChangeSpec := { name := "coldHolds", fn := fun _ => fun
  | [d] => { results := [.lit (.bool true)], args := [d] }
  | _ => none }
def coldHoldsRow : OpenClaim := { program := "ythiacmmkfngpbaa", sum := "0ca6eb6eba909786e49586cfdd808a2fbba2298a2bb3ea4c2785f74848e5f8a7", func := "tranche/tranchelaw28.ColdHolds", spec := "coldHolds", inPlace := ["internal/bytealg.IndexByteString"], unfollowed := true, recurses := true, apart := false }
def ColdHoldsSaid : Prop := coldHoldsRow.holds Try.pinned (OpenSpec.ofChange coldHoldsSpec)

/-- ITS FALSE NEIGHBOUR: 'it returns false'. Refute it at one input. -/
def coldHoldsWrong : ChangeSpec := { name := "coldHolds", fn := fun _ => fun
  | [d] => { results := [.lit (.bool false)], args := [d] }
  | _ => none }
def ColdHoldsWrongFalsely : Prop := coldHoldsRow.holds Try.pinned (OpenSpec.ofChange coldHoldsWrong)

/-- 'tranchelaw28.ColdPins': WHATEVER THE INPUT: true; the input reads as it did. -/
def coldPinsSpec : ChangeSpec := { name := "coldPins", fn := fun _ => fun
  | [d1, d2] => { results := [.lit (.bool true)], args := [d1, d2] }
  | _ => none }
def coldPinsRow : OpenClaim := { program := "ythiacmmkfngpbaa", sum := "0ca6eb6eba909786e49586cfdd808a2fbba2298a2bb3ea4c2785f74848e5f8a7", func := "tranche/tranchelaw28.ColdPins", spec := "coldPins", inPlace := ["internal/bytealg.IndexByteString"], unfollowed := true, recurses := true, apart := false }
def ColdPinsSaid : Prop := coldPinsRow.holds Try.pinned (OpenSpec.ofChange coldPinsSpec)

/-- ITS FALSE NEIGHBOUR: 'it returns false'. Refute it at one input. -/
def coldPinsWrong : ChangeSpec := { name := "coldPins", fn := fun _ => fun
  | [d1, d2] => { results := [.lit (.bool false)], args := [d1, d2] }
  | _ => none }
def ColdPinsWrongFalsely : Prop := coldPinsRow.holds Try.pinned (OpenSpec.ofChange coldPinsWrong)

/-- 'tranchelaw28.ColdNil': WHATEVER THE INPUT: true; the input reads as it did. -/
def coldNilSpec : ChangeSpec := { name := "coldNil", fn := fun _ => fun
  | [] => { results := [.lit (.bool true)], args := [] }
  | _ => none }
def coldNilRow : OpenClaim := { program := "ythiacmmkfngpbaa", sum := "0ca6eb6eba909786e49586cfdd808a2fbba2298a2bb3ea4c2785f74848e5f8a7", func := "tranche/tranchelaw28.ColdNil", spec := "coldNil", inPlace := ["internal/bytealg.IndexByteString"], unfollowed := true, recurses := true, apart := false }
def ColdNilSaid : Prop := coldNilRow.holds Try.pinned (OpenSpec.ofChange coldNilSpec)

/-- ITS FALSE NEIGHBOUR: 'it returns false'. Refute it at one input. -/
def coldNilWrong : ChangeSpec := { name := "coldNil", fn := fun _ => fun
  | [] => { results := [.lit (.bool false)], args := [] }
  | _ => none }
def ColdNilWrongFalsely : Prop := coldNilRow.holds Try.pinned (OpenSpec.ofChange coldNilWrong)

/- THE SECOND FORM. 'bulk': how many values and letters a reading holds, each counted each time it is reached (what is shared counts as often as it is met; a slice's spare places count too). A statement '..UptoSaid' is the law's where the arguments, and the package variables that the reading takes, are together of bulk at most 1048576: NARROWER than '..Said'. Prove '..Said' where nothing that the law and all that it calls make is longer than what came in: it says more and counts as full. Else prove '..UptoSaid'. A law counts once. -/
mutual
def uptoBulk {H : Type} : DataW H → Nat
  | .lit (.string bytes) => bytes.length + 1
  | .lit _ => 1
  | .nil => 1
  | .ptr d => uptoBulk d + 1
  | .slice elems spare => uptoBulkAll elems + uptoBulkAll spare + 1
  | .agg parts => uptoBulkAll parts + 1
  | .iface _ d => uptoBulk d + 1
  | .map entries => uptoBulkEntries entries + 1
  | .held _ => 1
def uptoBulkAll {H : Type} : List (DataW H) → Nat
  | [] => 0
  | d :: r => uptoBulk d + uptoBulkAll r
def uptoBulkEntries {H : Type} : List (Lit × DataW H) → Nat
  | [] => 0
  | x :: r => uptoBulkEntry x + uptoBulkEntries r
def uptoBulkEntry {H : Type} : Lit × DataW H → Nat
  | (.string bytes, d) => bytes.length + uptoBulk d + 1
  | (_, d) => uptoBulk d + 1
 end
def uptoSmall : (H : Type) → List (DataW H) → Bool := fun _ ds => decide (uptoBulkAll ds ≤ 1048576)
def OpenSpec.upto (s : _root_.Go.ChangeSpec) : _root_.Go.OpenSpec := { _root_.Go.OpenSpec.ofChange s with cond := some uptoSmall }

/-- 'tranchelaw28.ColdOrder', WHERE WHAT IT READS IS OF BULK AT MOST 1048576: true; the input reads as it did. -/
def coldOrderUptoRow : OpenClaim := { program := "ythiacmmkfngpbaa", sum := "0ca6eb6eba909786e49586cfdd808a2fbba2298a2bb3ea4c2785f74848e5f8a7", func := "tranche/tranchelaw28.ColdOrder", spec := "coldOrder", inPlace := ["internal/bytealg.IndexByteString"], unfollowed := true, recurses := true, apart := false, narrowed := true }
def ColdOrderUptoSaid : Prop := coldOrderUptoRow.holds Try.pinned (OpenSpec.upto coldOrderSpec)

/-- 'tranchelaw28.ColdEnds', WHERE WHAT IT READS IS OF BULK AT MOST 1048576: true; the input reads as it did. -/
def coldEndsUptoRow : OpenClaim := { program := "ythiacmmkfngpbaa", sum := "0ca6eb6eba909786e49586cfdd808a2fbba2298a2bb3ea4c2785f74848e5f8a7", func := "tranche/tranchelaw28.ColdEnds", spec := "coldEnds", inPlace := ["internal/bytealg.IndexByteString"], unfollowed := true, recurses := true, apart := false, narrowed := true }
def ColdEndsUptoSaid : Prop := coldEndsUptoRow.holds Try.pinned (OpenSpec.upto coldEndsSpec)

/-- 'tranchelaw28.ColdHolds', WHERE WHAT IT READS IS OF BULK AT MOST 1048576: true; the input reads as it did. -/
def coldHoldsUptoRow : OpenClaim := { program := "ythiacmmkfngpbaa", sum := "0ca6eb6eba909786e49586cfdd808a2fbba2298a2bb3ea4c2785f74848e5f8a7", func := "tranche/tranchelaw28.ColdHolds", spec := "coldHolds", inPlace := ["internal/bytealg.IndexByteString"], unfollowed := true, recurses := true, apart := false, narrowed := true }
def ColdHoldsUptoSaid : Prop := coldHoldsUptoRow.holds Try.pinned (OpenSpec.upto coldHoldsSpec)

/-- 'tranchelaw28.ColdPins', WHERE WHAT IT READS IS OF BULK AT MOST 1048576: true; the input reads as it did. -/
def coldPinsUptoRow : OpenClaim := { program := "ythiacmmkfngpbaa", sum := "0ca6eb6eba909786e49586cfdd808a2fbba2298a2bb3ea4c2785f74848e5f8a7", func := "tranche/tranchelaw28.ColdPins", spec := "coldPins", inPlace := ["internal/bytealg.IndexByteString"], unfollowed := true, recurses := true, apart := false, narrowed := true }
def ColdPinsUptoSaid : Prop := coldPinsUptoRow.holds Try.pinned (OpenSpec.upto coldPinsSpec)

/-- 'tranchelaw28.ColdNil', WHERE WHAT IT READS IS OF BULK AT MOST 1048576: true; the input reads as it did. -/
def coldNilUptoRow : OpenClaim := { program := "ythiacmmkfngpbaa", sum := "0ca6eb6eba909786e49586cfdd808a2fbba2298a2bb3ea4c2785f74848e5f8a7", func := "tranche/tranchelaw28.ColdNil", spec := "coldNil", inPlace := ["internal/bytealg.IndexByteString"], unfollowed := true, recurses := true, apart := false, narrowed := true }
def ColdNilUptoSaid : Prop := coldNilUptoRow.holds Try.pinned (OpenSpec.upto coldNilSpec)

end Rows
end Go.Proofs.Ythiacmmkfngpbaa
