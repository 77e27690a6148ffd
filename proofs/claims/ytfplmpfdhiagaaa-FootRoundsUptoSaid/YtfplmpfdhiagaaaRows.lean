/-
  No cell of these rows narrows 'for every input' (looked for: loops, veiled, ifaces, maps, wideKeys, modest, calm, conditions, laid).
  DERIVED. THE GIVEN ROWS OF THIS SEAT. 9 by the template 'for every input the law returns true; each argument reads behind the call as it read before'; 0 by the template 'total and deterministic' (their statements: YtfplmpfdhiagaaaTotals.lean).
  GIVEN WITH THE SEED: the statements are not yours to turn. If you find one false, say at which input.
  Laid BY PROGRAM, IN A SANDBOX (cutbox-rows.mjs): the forced cells as the released guide's own fill.sh prints them over the translation 83f5d2bf1ed0e7c9… (all of the seat's roots in one cut). By AI agents, Wed Nov 11 2026. No macro, syntax, notation, axiom, sorry.
-/
import Derived.Test.YtfplmpfdhiagaaaChecked
import GoSem.Claim
import GoSem.ClaimJoined
import GoSem.ClaimMapViews
import Derived.JoinedTies
import Derived.KernelRfl
namespace Go.Proofs.Ytfplmpfdhiagaaa
/- THE CELL 'sum', in the pinned program and in every row, IS THE sha256 OF THE DUMP (.gsa) THAT YtfplmpfdhiagaaaProg.lean LOADS. Nothing in Lean hashes anything: it is a label: what it is worth is what the hold of that sum in a sandbox is worth. -/
noncomputable def Try.pinned : Pinned := { name := "ytfplmpfdhiagaaa", sum := "83f5d2bf1ed0e7c99c8ba075b21fea58d5815edb6ceac12553a67d73ec034b8a", checked := Try.checked }
namespace Rows
def none {H : Type} : Left H := { results := [], args := [] }

/-- 'tranchelaw03.FootNames': WHATEVER THE INPUT: true; the input reads as it did. -/
def footNamesSpec : ChangeSpec := { name := "footNames", fn := fun _ => fun
  | [] => { results := [.lit (.bool true)], args := [] }
  | _ => none }
def footNamesRow : OpenClaim := { program := "ytfplmpfdhiagaaa", sum := "83f5d2bf1ed0e7c99c8ba075b21fea58d5815edb6ceac12553a67d73ec034b8a", func := "tranche/tranchelaw03.FootNames", spec := "footNames", inPlace := ["internal/bytealg.IndexByteString"], unfollowed := true, recurses := true, apart := false }
def FootNamesSaid : Prop := footNamesRow.holds Try.pinned (OpenSpec.ofChange footNamesSpec)

/-- ITS FALSE NEIGHBOUR: 'it returns false'. Refute it at one input. -/
def footNamesWrong : ChangeSpec := { name := "footNames", fn := fun _ => fun
  | [] => { results := [.lit (.bool false)], args := [] }
  | _ => none }
def FootNamesWrongFalsely : Prop := footNamesRow.holds Try.pinned (OpenSpec.ofChange footNamesWrong)

/-- 'tranchelaw03.FootBytes': WHATEVER THE INPUT: true; the input reads as it did. -/
def footBytesSpec : ChangeSpec := { name := "footBytes", fn := fun _ => fun
  | [d1, d2, d3] => { results := [.lit (.bool true)], args := [d1, d2, d3] }
  | _ => none }
def footBytesRow : OpenClaim := { program := "ytfplmpfdhiagaaa", sum := "83f5d2bf1ed0e7c99c8ba075b21fea58d5815edb6ceac12553a67d73ec034b8a", func := "tranche/tranchelaw03.FootBytes", spec := "footBytes", inPlace := ["internal/bytealg.IndexByteString"], unfollowed := true, recurses := true, apart := false }
def FootBytesSaid : Prop := footBytesRow.holds Try.pinned (OpenSpec.ofChange footBytesSpec)

/-- ITS FALSE NEIGHBOUR: 'it returns false'. Refute it at one input. -/
def footBytesWrong : ChangeSpec := { name := "footBytes", fn := fun _ => fun
  | [d1, d2, d3] => { results := [.lit (.bool false)], args := [d1, d2, d3] }
  | _ => none }
def FootBytesWrongFalsely : Prop := footBytesRow.holds Try.pinned (OpenSpec.ofChange footBytesWrong)

/-- 'tranchelaw03.FootBack': WHATEVER THE INPUT: true; the input reads as it did. -/
def footBackSpec : ChangeSpec := { name := "footBack", fn := fun _ => fun
  | [d1, d2] => { results := [.lit (.bool true)], args := [d1, d2] }
  | _ => none }
def footBackRow : OpenClaim := { program := "ytfplmpfdhiagaaa", sum := "83f5d2bf1ed0e7c99c8ba075b21fea58d5815edb6ceac12553a67d73ec034b8a", func := "tranche/tranchelaw03.FootBack", spec := "footBack", inPlace := ["internal/bytealg.IndexByteString"], unfollowed := true, recurses := true, apart := false }
def FootBackSaid : Prop := footBackRow.holds Try.pinned (OpenSpec.ofChange footBackSpec)

/-- ITS FALSE NEIGHBOUR: 'it returns false'. Refute it at one input. -/
def footBackWrong : ChangeSpec := { name := "footBack", fn := fun _ => fun
  | [d1, d2] => { results := [.lit (.bool false)], args := [d1, d2] }
  | _ => none }
def FootBackWrongFalsely : Prop := footBackRow.holds Try.pinned (OpenSpec.ofChange footBackWrong)

/-- 'tranchelaw03.FootKeys': WHATEVER THE INPUT: true; the input reads as it did. -/
def footKeysSpec : ChangeSpec := { name := "footKeys", fn := fun _ => fun
  | [d1, d2] => { results := [.lit (.bool true)], args := [d1, d2] }
  | _ => none }
def footKeysRow : OpenClaim := { program := "ytfplmpfdhiagaaa", sum := "83f5d2bf1ed0e7c99c8ba075b21fea58d5815edb6ceac12553a67d73ec034b8a", func := "tranche/tranchelaw03.FootKeys", spec := "footKeys", inPlace := ["internal/bytealg.IndexByteString"], unfollowed := true, recurses := true, apart := false }
def FootKeysSaid : Prop := footKeysRow.holds Try.pinned (OpenSpec.ofChange footKeysSpec)

/-- ITS FALSE NEIGHBOUR: 'it returns false'. Refute it at one input. -/
def footKeysWrong : ChangeSpec := { name := "footKeys", fn := fun _ => fun
  | [d1, d2] => { results := [.lit (.bool false)], args := [d1, d2] }
  | _ => none }
def FootKeysWrongFalsely : Prop := footKeysRow.holds Try.pinned (OpenSpec.ofChange footKeysWrong)

/-- 'tranchelaw03.FootNorms': WHATEVER THE INPUT: true; the input reads as it did. -/
def footNormsSpec : ChangeSpec := { name := "footNorms", fn := fun _ => fun
  | [d] => { results := [.lit (.bool true)], args := [d] }
  | _ => none }
def footNormsRow : OpenClaim := { program := "ytfplmpfdhiagaaa", sum := "83f5d2bf1ed0e7c99c8ba075b21fea58d5815edb6ceac12553a67d73ec034b8a", func := "tranche/tranchelaw03.FootNorms", spec := "footNorms", inPlace := ["internal/bytealg.IndexByteString"], unfollowed := true, recurses := true, apart := false }
def FootNormsSaid : Prop := footNormsRow.holds Try.pinned (OpenSpec.ofChange footNormsSpec)

/-- ITS FALSE NEIGHBOUR: 'it returns false'. Refute it at one input. -/
def footNormsWrong : ChangeSpec := { name := "footNorms", fn := fun _ => fun
  | [d] => { results := [.lit (.bool false)], args := [d] }
  | _ => none }
def FootNormsWrongFalsely : Prop := footNormsRow.holds Try.pinned (OpenSpec.ofChange footNormsWrong)

/-- 'tranchelaw03.FootSets': WHATEVER THE INPUT: true; the input reads as it did. -/
def footSetsSpec : ChangeSpec := { name := "footSets", fn := fun _ => fun
  | [d1, d2, d3] => { results := [.lit (.bool true)], args := [d1, d2, d3] }
  | _ => none }
def footSetsRow : OpenClaim := { program := "ytfplmpfdhiagaaa", sum := "83f5d2bf1ed0e7c99c8ba075b21fea58d5815edb6ceac12553a67d73ec034b8a", func := "tranche/tranchelaw03.FootSets", spec := "footSets", inPlace := ["internal/bytealg.IndexByteString"], unfollowed := true, recurses := true, apart := false }
def FootSetsSaid : Prop := footSetsRow.holds Try.pinned (OpenSpec.ofChange footSetsSpec)

/-- ITS FALSE NEIGHBOUR: 'it returns false'. Refute it at one input. -/
def footSetsWrong : ChangeSpec := { name := "footSets", fn := fun _ => fun
  | [d1, d2, d3] => { results := [.lit (.bool false)], args := [d1, d2, d3] }
  | _ => none }
def FootSetsWrongFalsely : Prop := footSetsRow.holds Try.pinned (OpenSpec.ofChange footSetsWrong)

/-- 'tranchelaw03.FootPairs': WHATEVER THE INPUT: true; the input reads as it did. -/
def footPairsSpec : ChangeSpec := { name := "footPairs", fn := fun _ => fun
  | [d1, d2] => { results := [.lit (.bool true)], args := [d1, d2] }
  | _ => none }
def footPairsRow : OpenClaim := { program := "ytfplmpfdhiagaaa", sum := "83f5d2bf1ed0e7c99c8ba075b21fea58d5815edb6ceac12553a67d73ec034b8a", func := "tranche/tranchelaw03.FootPairs", spec := "footPairs", inPlace := ["internal/bytealg.IndexByteString"], unfollowed := true, recurses := true, apart := false }
def FootPairsSaid : Prop := footPairsRow.holds Try.pinned (OpenSpec.ofChange footPairsSpec)

/-- ITS FALSE NEIGHBOUR: 'it returns false'. Refute it at one input. -/
def footPairsWrong : ChangeSpec := { name := "footPairs", fn := fun _ => fun
  | [d1, d2] => { results := [.lit (.bool false)], args := [d1, d2] }
  | _ => none }
def FootPairsWrongFalsely : Prop := footPairsRow.holds Try.pinned (OpenSpec.ofChange footPairsWrong)

/-- 'tranchelaw03.FootRounds': WHATEVER THE INPUT: true; the input reads as it did. -/
def footRoundsSpec : ChangeSpec := { name := "footRounds", fn := fun _ => fun
  | [d] => { results := [.lit (.bool true)], args := [d] }
  | _ => none }
def footRoundsRow : OpenClaim := { program := "ytfplmpfdhiagaaa", sum := "83f5d2bf1ed0e7c99c8ba075b21fea58d5815edb6ceac12553a67d73ec034b8a", func := "tranche/tranchelaw03.FootRounds", spec := "footRounds", inPlace := ["internal/bytealg.IndexByteString"], unfollowed := true, recurses := true, apart := false }
def FootRoundsSaid : Prop := footRoundsRow.holds Try.pinned (OpenSpec.ofChange footRoundsSpec)

/-- ITS FALSE NEIGHBOUR: 'it returns false'. Refute it at one input. -/
def footRoundsWrong : ChangeSpec := { name := "footRounds", fn := fun _ => fun
  | [d] => { results := [.lit (.bool false)], args := [d] }
  | _ => none }
def FootRoundsWrongFalsely : Prop := footRoundsRow.holds Try.pinned (OpenSpec.ofChange footRoundsWrong)

/-- 'tranchelaw03.FootLevels': WHATEVER THE INPUT: true; the input reads as it did. -/
def footLevelsSpec : ChangeSpec := { name := "footLevels", fn := fun _ => fun
  | [d] => { results := [.lit (.bool true)], args := [d] }
  | _ => none }
def footLevelsRow : OpenClaim := { program := "ytfplmpfdhiagaaa", sum := "83f5d2bf1ed0e7c99c8ba075b21fea58d5815edb6ceac12553a67d73ec034b8a", func := "tranche/tranchelaw03.FootLevels", spec := "footLevels", inPlace := ["internal/bytealg.IndexByteString"], unfollowed := true, recurses := true, apart := false }
def FootLevelsSaid : Prop := footLevelsRow.holds Try.pinned (OpenSpec.ofChange footLevelsSpec)

/-- ITS FALSE NEIGHBOUR: 'it returns false'. Refute it at one input. -/
def footLevelsWrong : ChangeSpec := { name := "footLevels", fn := fun _ => fun
  | [d] => { results := [.lit (.bool false)], args := [d] }
  | _ => none }
def FootLevelsWrongFalsely : Prop := footLevelsRow.holds Try.pinned (OpenSpec.ofChange footLevelsWrong)

/- THE SECOND FORM. 'bulk': how many values and letters a reading holds, each counted each time it is reached (what is shared counts as often as it is met; a slice's spare places count too). A statement '..UptoSaid' is the law's where the arguments, and the package variables that the reading takes, are together of bulk at most 1048576: NARROWER than '..Said'. Prove '..Said' where nothing that the law and all that it calls make is longer than what came in: it says more and counts as full. Else prove '..UptoSaid'. A law counts once. -/
mutual
def uptoBulk {H : Type} : DataW H → Nat
  | .lit (.string bytes) => bytes.length + 1
  | .lit _ => 1
  | .nil => 1
  | .ptr d => uptoBulk d + 1
  | .slice elems spare => uptoBulkAll elems + uptoBulkAll spare + 1
  | .agg parts => uptoBulkAll parts + 1
  | .iface _ d => uptoBulk d + 1
  | .map entries => uptoBulkEntries entries + 1
  | .held _ => 1
def uptoBulkAll {H : Type} : List (DataW H) → Nat
  | [] => 0
  | d :: r => uptoBulk d + uptoBulkAll r
def uptoBulkEntries {H : Type} : List (Lit × DataW H) → Nat
  | [] => 0
  | x :: r => uptoBulkEntry x + uptoBulkEntries r
def uptoBulkEntry {H : Type} : Lit × DataW H → Nat
  | (.string bytes, d) => bytes.length + uptoBulk d + 1
  | (_, d) => uptoBulk d + 1
 end
def uptoSmall : (H : Type) → List (DataW H) → Bool := fun _ ds => decide (uptoBulkAll ds ≤ 1048576)
def OpenSpec.upto (s : _root_.Go.ChangeSpec) : _root_.Go.OpenSpec := { _root_.Go.OpenSpec.ofChange s with cond := some uptoSmall }

/-- 'tranchelaw03.FootNames', WHERE WHAT IT READS IS OF BULK AT MOST 1048576: true; the input reads as it did. -/
def footNamesUptoRow : OpenClaim := { program := "ytfplmpfdhiagaaa", sum := "83f5d2bf1ed0e7c99c8ba075b21fea58d5815edb6ceac12553a67d73ec034b8a", func := "tranche/tranchelaw03.FootNames", spec := "footNames", inPlace := ["internal/bytealg.IndexByteString"], unfollowed := true, recurses := true, apart := false, narrowed := true }
def FootNamesUptoSaid : Prop := footNamesUptoRow.holds Try.pinned (OpenSpec.upto footNamesSpec)

/-- 'tranchelaw03.FootBytes', WHERE WHAT IT READS IS OF BULK AT MOST 1048576: true; the input reads as it did. -/
def footBytesUptoRow : OpenClaim := { program := "ytfplmpfdhiagaaa", sum := "83f5d2bf1ed0e7c99c8ba075b21fea58d5815edb6ceac12553a67d73ec034b8a", func := "tranche/tranchelaw03.FootBytes", spec := "footBytes", inPlace := ["internal/bytealg.IndexByteString"], unfollowed := true, recurses := true, apart := false, narrowed := true }
def FootBytesUptoSaid : Prop := footBytesUptoRow.holds Try.pinned (OpenSpec.upto footBytesSpec)

/-- 'tranchelaw03.FootBack', WHERE WHAT IT READS IS OF BULK AT MOST 1048576: true; the input reads as it did. -/
def footBackUptoRow : OpenClaim := { program := "ytfplmpfdhiagaaa", sum := "83f5d2bf1ed0e7c99c8ba075b21fea58d5815edb6ceac12553a67d73ec034b8a", func := "tranche/tranchelaw03.FootBack", spec := "footBack", inPlace := ["internal/bytealg.IndexByteString"], unfollowed := true, recurses := true, apart := false, narrowed := true }
def FootBackUptoSaid : Prop := footBackUptoRow.holds Try.pinned (OpenSpec.upto footBackSpec)

/-- 'tranchelaw03.FootKeys', WHERE WHAT IT READS IS OF BULK AT MOST 1048576: true; the input reads as it did. -/
def footKeysUptoRow : OpenClaim := { program := "ytfplmpfdhiagaaa", sum := "83f5d2bf1ed0e7c99c8ba075b21fea58d5815edb6ceac12553a67d73ec034b8a", func := "tranche/tranchelaw03.FootKeys", spec := "footKeys", inPlace := ["internal/bytealg.IndexByteString"], unfollowed := true, recurses := true, apart := false, narrowed := true }
def FootKeysUptoSaid : Prop := footKeysUptoRow.holds Try.pinned (OpenSpec.upto footKeysSpec)

/-- 'tranchelaw03.FootNorms', WHERE WHAT IT READS IS OF BULK AT MOST 1048576: true; the input reads as it did. -/
def footNormsUptoRow : OpenClaim := { program := "ytfplmpfdhiagaaa", sum := "83f5d2bf1ed0e7c99c8ba075b21fea58d5815edb6ceac12553a67d73ec034b8a", func := "tranche/tranchelaw03.FootNorms", spec := "footNorms", inPlace := ["internal/bytealg.IndexByteString"], unfollowed := true, recurses := true, apart := false, narrowed := true }
def FootNormsUptoSaid : Prop := footNormsUptoRow.holds Try.pinned (OpenSpec.upto footNormsSpec)

/-- 'tranchelaw03.FootSets', WHERE WHAT IT READS IS OF BULK AT MOST 1048576: true; the input reads as it did. -/
def footSetsUptoRow : OpenClaim := { program := "ytfplmpfdhiagaaa", sum := "83f5d2bf1ed0e7c99c8ba075b21fea58d5815edb6ceac12553a67d73ec034b8a", func := "tranche/tranchelaw03.FootSets", spec := "footSets", inPlace := ["internal/bytealg.IndexByteString"], unfollowed := true, recurses := true, apart := false, narrowed := true }
def FootSetsUptoSaid : Prop := footSetsUptoRow.holds Try.pinned (OpenSpec.upto footSetsSpec)

/-- 'tranchelaw03.FootPairs', WHERE WHAT IT READS IS OF BULK AT MOST 1048576: true; the input reads as it did. -/
def footPairsUptoRow : OpenClaim := { program := "ytfplmpfdhiagaaa", sum := "83f5d2bf1ed0e7c99c8ba075b21fea58d5815edb6ceac12553a67d73ec034b8a", func := "tranche/tranchelaw03.FootPairs", spec := "footPairs", inPlace := ["internal/bytealg.IndexByteString"], unfollowed := true, recurses := true, apart := false, narrowed := true }
def FootPairsUptoSaid : Prop := footPairsUptoRow.holds Try.pinned (OpenSpec.upto footPairsSpec)

/-- 'tranchelaw03.FootRounds', WHERE WHAT IT READS IS OF BULK AT MOST 1048576: true; the input reads as it did. -/
def footRoundsUptoRow : OpenClaim := { program := "ytfplmpfdhiagaaa", sum := "83f5d2bf1ed0e7c99c8ba075b21fea58d5815edb6ceac12553a67d73ec034b8a", func := "tranche/tranchelaw03.FootRounds", spec := "footRounds", inPlace := ["internal/bytealg.IndexByteString"], unfollowed := true, recurses := true, apart := false, narrowed := true }
def FootRoundsUptoSaid : Prop := footRoundsUptoRow.holds Try.pinned (OpenSpec.upto footRoundsSpec)

/-- 'tranchelaw03.FootLevels', WHERE WHAT IT READS IS OF BULK AT MOST 1048576: true; the input reads as it did. -/
def footLevelsUptoRow : OpenClaim := { program := "ytfplmpfdhiagaaa", sum := "83f5d2bf1ed0e7c99c8ba075b21fea58d5815edb6ceac12553a67d73ec034b8a", func := "tranche/tranchelaw03.FootLevels", spec := "footLevels", inPlace := ["internal/bytealg.IndexByteString"], unfollowed := true, recurses := true, apart := false, narrowed := true }
def FootLevelsUptoSaid : Prop := footLevelsUptoRow.holds Try.pinned (OpenSpec.upto footLevelsSpec)

end Rows
end Go.Proofs.Ytfplmpfdhiagaaa
