/-
  No cell of these rows narrows 'for every input' (looked for: loops, veiled, ifaces, maps, wideKeys, modest, calm, conditions, laid).
  DERIVED. THE GIVEN ROWS OF THIS SEAT. 8 by the template 'for every input the law returns true; each argument reads behind the call as it read before'; 0 by the template 'total and deterministic' (their statements: YtjjgojgahibpgaaTotals.lean).
  GIVEN WITH THE SEED: the statements are not yours to turn. If you find one false, say at which input.
  Laid BY PROGRAM, IN A SANDBOX (cutbox-rows.mjs): the forced cells as the released guide's own fill.sh prints them over the translation 5d054073f9c5d95b… (all of the seat's roots in one cut). By AI agents, Wed Nov 11 2026. No macro, syntax, notation, axiom, sorry.
-/
import Derived.Test.YtjjgojgahibpgaaChecked
import GoSem.Claim
import GoSem.ClaimJoined
import GoSem.ClaimMapViews
import Derived.JoinedTies
import Derived.KernelRfl
namespace Go.Proofs.Ytjjgojgahibpgaa
/- THE CELL 'sum', in the pinned program and in every row, IS THE sha256 OF THE DUMP (.gsa) THAT YtjjgojgahibpgaaProg.lean LOADS. Nothing in Lean hashes anything: it is a label: what it is worth is what the hold of that sum in a sandbox is worth. -/
noncomputable def Try.pinned : Pinned := { name := "ytjjgojgahibpgaa", sum := "5d054073f9c5d95ba74ad8a0d99867bdc9bc5dc7193119b679eb36329cb425f3", checked := Try.checked }
namespace Rows
def none {H : Type} : Left H := { results := [], args := [] }

/-- 'tranchelaw26.LinkFrames': WHATEVER THE INPUT: true; the input reads as it did. -/
def linkFramesSpec : ChangeSpec := { name := "linkFrames", fn := fun _ => fun
  | [d] => { results := [.lit (.bool true)], args := [d] }
  | _ => none }
def linkFramesRow : OpenClaim := { program := "ytjjgojgahibpgaa", sum := "5d054073f9c5d95ba74ad8a0d99867bdc9bc5dc7193119b679eb36329cb425f3", func := "tranche/tranchelaw26.LinkFrames", spec := "linkFrames", unfollowed := true, recurses := true, apart := false }
def LinkFramesSaid : Prop := linkFramesRow.holds Try.pinned (OpenSpec.ofChange linkFramesSpec)

/-- ITS FALSE NEIGHBOUR: 'it returns false'. Refute it at one input. -/
def linkFramesWrong : ChangeSpec := { name := "linkFrames", fn := fun _ => fun
  | [d] => { results := [.lit (.bool false)], args := [d] }
  | _ => none }
def LinkFramesWrongFalsely : Prop := linkFramesRow.holds Try.pinned (OpenSpec.ofChange linkFramesWrong)

/-- 'tranchelaw26.LinkMeets': WHATEVER THE INPUT: true; the input reads as it did. -/
def linkMeetsSpec : ChangeSpec := { name := "linkMeets", fn := fun _ => fun
  | [d] => { results := [.lit (.bool true)], args := [d] }
  | _ => none }
def linkMeetsRow : OpenClaim := { program := "ytjjgojgahibpgaa", sum := "5d054073f9c5d95ba74ad8a0d99867bdc9bc5dc7193119b679eb36329cb425f3", func := "tranche/tranchelaw26.LinkMeets", spec := "linkMeets", unfollowed := true, recurses := true, apart := false }
def LinkMeetsSaid : Prop := linkMeetsRow.holds Try.pinned (OpenSpec.ofChange linkMeetsSpec)

/-- ITS FALSE NEIGHBOUR: 'it returns false'. Refute it at one input. -/
def linkMeetsWrong : ChangeSpec := { name := "linkMeets", fn := fun _ => fun
  | [d] => { results := [.lit (.bool false)], args := [d] }
  | _ => none }
def LinkMeetsWrongFalsely : Prop := linkMeetsRow.holds Try.pinned (OpenSpec.ofChange linkMeetsWrong)

/-- 'tranchelaw26.LinkWindows': WHATEVER THE INPUT: true; the input reads as it did. -/
def linkWindowsSpec : ChangeSpec := { name := "linkWindows", fn := fun _ => fun
  | [d1, d2, d3] => { results := [.lit (.bool true)], args := [d1, d2, d3] }
  | _ => none }
def linkWindowsRow : OpenClaim := { program := "ytjjgojgahibpgaa", sum := "5d054073f9c5d95ba74ad8a0d99867bdc9bc5dc7193119b679eb36329cb425f3", func := "tranche/tranchelaw26.LinkWindows", spec := "linkWindows", unfollowed := true, recurses := true, apart := false }
def LinkWindowsSaid : Prop := linkWindowsRow.holds Try.pinned (OpenSpec.ofChange linkWindowsSpec)

/-- ITS FALSE NEIGHBOUR: 'it returns false'. Refute it at one input. -/
def linkWindowsWrong : ChangeSpec := { name := "linkWindows", fn := fun _ => fun
  | [d1, d2, d3] => { results := [.lit (.bool false)], args := [d1, d2, d3] }
  | _ => none }
def LinkWindowsWrongFalsely : Prop := linkWindowsRow.holds Try.pinned (OpenSpec.ofChange linkWindowsWrong)

/-- 'tranchelaw26.LinkPlays': WHATEVER THE INPUT: true; the input reads as it did. -/
def linkPlaysSpec : ChangeSpec := { name := "linkPlays", fn := fun _ => fun
  | [d1, d2, d3] => { results := [.lit (.bool true)], args := [d1, d2, d3] }
  | _ => none }
def linkPlaysRow : OpenClaim := { program := "ytjjgojgahibpgaa", sum := "5d054073f9c5d95ba74ad8a0d99867bdc9bc5dc7193119b679eb36329cb425f3", func := "tranche/tranchelaw26.LinkPlays", spec := "linkPlays", unfollowed := true, recurses := true, apart := false }
def LinkPlaysSaid : Prop := linkPlaysRow.holds Try.pinned (OpenSpec.ofChange linkPlaysSpec)

/-- ITS FALSE NEIGHBOUR: 'it returns false'. Refute it at one input. -/
def linkPlaysWrong : ChangeSpec := { name := "linkPlays", fn := fun _ => fun
  | [d1, d2, d3] => { results := [.lit (.bool false)], args := [d1, d2, d3] }
  | _ => none }
def LinkPlaysWrongFalsely : Prop := linkPlaysRow.holds Try.pinned (OpenSpec.ofChange linkPlaysWrong)

/-- 'tranchelaw26.LinkEnds': WHATEVER THE INPUT: true; the input reads as it did. -/
def linkEndsSpec : ChangeSpec := { name := "linkEnds", fn := fun _ => fun
  | [d] => { results := [.lit (.bool true)], args := [d] }
  | _ => none }
def linkEndsRow : OpenClaim := { program := "ytjjgojgahibpgaa", sum := "5d054073f9c5d95ba74ad8a0d99867bdc9bc5dc7193119b679eb36329cb425f3", func := "tranche/tranchelaw26.LinkEnds", spec := "linkEnds", unfollowed := true, recurses := true, apart := false }
def LinkEndsSaid : Prop := linkEndsRow.holds Try.pinned (OpenSpec.ofChange linkEndsSpec)

/-- ITS FALSE NEIGHBOUR: 'it returns false'. Refute it at one input. -/
def linkEndsWrong : ChangeSpec := { name := "linkEnds", fn := fun _ => fun
  | [d] => { results := [.lit (.bool false)], args := [d] }
  | _ => none }
def LinkEndsWrongFalsely : Prop := linkEndsRow.holds Try.pinned (OpenSpec.ofChange linkEndsWrong)

/-- 'tranchelaw26.LinkNil': WHATEVER THE INPUT: true; the input reads as it did. -/
def linkNilSpec : ChangeSpec := { name := "linkNil", fn := fun _ => fun
  | [] => { results := [.lit (.bool true)], args := [] }
  | _ => none }
def linkNilRow : OpenClaim := { program := "ytjjgojgahibpgaa", sum := "5d054073f9c5d95ba74ad8a0d99867bdc9bc5dc7193119b679eb36329cb425f3", func := "tranche/tranchelaw26.LinkNil", spec := "linkNil", unfollowed := true, recurses := true, apart := false }
def LinkNilSaid : Prop := linkNilRow.holds Try.pinned (OpenSpec.ofChange linkNilSpec)

/-- ITS FALSE NEIGHBOUR: 'it returns false'. Refute it at one input. -/
def linkNilWrong : ChangeSpec := { name := "linkNil", fn := fun _ => fun
  | [] => { results := [.lit (.bool false)], args := [] }
  | _ => none }
def LinkNilWrongFalsely : Prop := linkNilRow.holds Try.pinned (OpenSpec.ofChange linkNilWrong)

/-- 'tranchelaw26.LinkNets': WHATEVER THE INPUT: true; the input reads as it did. -/
def linkNetsSpec : ChangeSpec := { name := "linkNets", fn := fun _ => fun
  | [d] => { results := [.lit (.bool true)], args := [d] }
  | _ => none }
def linkNetsRow : OpenClaim := { program := "ytjjgojgahibpgaa", sum := "5d054073f9c5d95ba74ad8a0d99867bdc9bc5dc7193119b679eb36329cb425f3", func := "tranche/tranchelaw26.LinkNets", spec := "linkNets", unfollowed := true, recurses := true, apart := false }
def LinkNetsSaid : Prop := linkNetsRow.holds Try.pinned (OpenSpec.ofChange linkNetsSpec)

/-- ITS FALSE NEIGHBOUR: 'it returns false'. Refute it at one input. -/
def linkNetsWrong : ChangeSpec := { name := "linkNets", fn := fun _ => fun
  | [d] => { results := [.lit (.bool false)], args := [d] }
  | _ => none }
def LinkNetsWrongFalsely : Prop := linkNetsRow.holds Try.pinned (OpenSpec.ofChange linkNetsWrong)

/-- 'tranchelaw26.LinkHeals': WHATEVER THE INPUT: true; the input reads as it did. -/
def linkHealsSpec : ChangeSpec := { name := "linkHeals", fn := fun _ => fun
  | [d] => { results := [.lit (.bool true)], args := [d] }
  | _ => none }
def linkHealsRow : OpenClaim := { program := "ytjjgojgahibpgaa", sum := "5d054073f9c5d95ba74ad8a0d99867bdc9bc5dc7193119b679eb36329cb425f3", func := "tranche/tranchelaw26.LinkHeals", spec := "linkHeals", unfollowed := true, recurses := true, apart := false }
def LinkHealsSaid : Prop := linkHealsRow.holds Try.pinned (OpenSpec.ofChange linkHealsSpec)

/-- ITS FALSE NEIGHBOUR: 'it returns false'. Refute it at one input. -/
def linkHealsWrong : ChangeSpec := { name := "linkHeals", fn := fun _ => fun
  | [d] => { results := [.lit (.bool false)], args := [d] }
  | _ => none }
def LinkHealsWrongFalsely : Prop := linkHealsRow.holds Try.pinned (OpenSpec.ofChange linkHealsWrong)

/- THE SECOND FORM. 'bulk': how many values and letters a reading holds, each counted each time it is reached (what is shared counts as often as it is met; a slice's spare places count too). A statement '..UptoSaid' is the law's where the arguments, and the package variables that the reading takes, are together of bulk at most 1048576: NARROWER than '..Said'. Prove '..Said' where nothing that the law and all that it calls make is longer than what came in: it says more and counts as full. Else prove '..UptoSaid'. A law counts once. -/
mutual
def uptoBulk {H : Type} : DataW H → Nat
  | .lit (.string bytes) => bytes.length + 1
  | .lit _ => 1
  | .nil => 1
  | .ptr d => uptoBulk d + 1
  | .slice elems spare => uptoBulkAll elems + uptoBulkAll spare + 1
  | .agg parts => uptoBulkAll parts + 1
  | .iface _ d => uptoBulk d + 1
  | .map entries => uptoBulkEntries entries + 1
  | .held _ => 1
def uptoBulkAll {H : Type} : List (DataW H) → Nat
  | [] => 0
  | d :: r => uptoBulk d + uptoBulkAll r
def uptoBulkEntries {H : Type} : List (Lit × DataW H) → Nat
  | [] => 0
  | x :: r => uptoBulkEntry x + uptoBulkEntries r
def uptoBulkEntry {H : Type} : Lit × DataW H → Nat
  | (.string bytes, d) => bytes.length + uptoBulk d + 1
  | (_, d) => uptoBulk d + 1
 end
def uptoSmall : (H : Type) → List (DataW H) → Bool := fun _ ds => decide (uptoBulkAll ds ≤ 1048576)
def OpenSpec.upto (s : _root_.Go.ChangeSpec) : _root_.Go.OpenSpec := { _root_.Go.OpenSpec.ofChange s with cond := some uptoSmall }

/-- 'tranchelaw26.LinkFrames', WHERE WHAT IT READS IS OF BULK AT MOST 1048576: true; the input reads as it did. -/
def linkFramesUptoRow : OpenClaim := { program := "ytjjgojgahibpgaa", sum := "5d054073f9c5d95ba74ad8a0d99867bdc9bc5dc7193119b679eb36329cb425f3", func := "tranche/tranchelaw26.LinkFrames", spec := "linkFrames", unfollowed := true, recurses := true, apart := false, narrowed := true }
def LinkFramesUptoSaid : Prop := linkFramesUptoRow.holds Try.pinned (OpenSpec.upto linkFramesSpec)

/-- 'tranchelaw26.LinkMeets', WHERE WHAT IT READS IS OF BULK AT MOST 1048576: true; the input reads as it did. -/
def linkMeetsUptoRow : OpenClaim := { program := "ytjjgojgahibpgaa", sum := "5d054073f9c5d95ba74ad8a0d99867bdc9bc5dc7193119b679eb36329cb425f3", func := "tranche/tranchelaw26.LinkMeets", spec := "linkMeets", unfollowed := true, recurses := true, apart := false, narrowed := true }
def LinkMeetsUptoSaid : Prop := linkMeetsUptoRow.holds Try.pinned (OpenSpec.upto linkMeetsSpec)

/-- 'tranchelaw26.LinkWindows', WHERE WHAT IT READS IS OF BULK AT MOST 1048576: true; the input reads as it did. -/
def linkWindowsUptoRow : OpenClaim := { program := "ytjjgojgahibpgaa", sum := "5d054073f9c5d95ba74ad8a0d99867bdc9bc5dc7193119b679eb36329cb425f3", func := "tranche/tranchelaw26.LinkWindows", spec := "linkWindows", unfollowed := true, recurses := true, apart := false, narrowed := true }
def LinkWindowsUptoSaid : Prop := linkWindowsUptoRow.holds Try.pinned (OpenSpec.upto linkWindowsSpec)

/-- 'tranchelaw26.LinkPlays', WHERE WHAT IT READS IS OF BULK AT MOST 1048576: true; the input reads as it did. -/
def linkPlaysUptoRow : OpenClaim := { program := "ytjjgojgahibpgaa", sum := "5d054073f9c5d95ba74ad8a0d99867bdc9bc5dc7193119b679eb36329cb425f3", func := "tranche/tranchelaw26.LinkPlays", spec := "linkPlays", unfollowed := true, recurses := true, apart := false, narrowed := true }
def LinkPlaysUptoSaid : Prop := linkPlaysUptoRow.holds Try.pinned (OpenSpec.upto linkPlaysSpec)

/-- 'tranchelaw26.LinkEnds', WHERE WHAT IT READS IS OF BULK AT MOST 1048576: true; the input reads as it did. -/
def linkEndsUptoRow : OpenClaim := { program := "ytjjgojgahibpgaa", sum := "5d054073f9c5d95ba74ad8a0d99867bdc9bc5dc7193119b679eb36329cb425f3", func := "tranche/tranchelaw26.LinkEnds", spec := "linkEnds", unfollowed := true, recurses := true, apart := false, narrowed := true }
def LinkEndsUptoSaid : Prop := linkEndsUptoRow.holds Try.pinned (OpenSpec.upto linkEndsSpec)

/-- 'tranchelaw26.LinkNil', WHERE WHAT IT READS IS OF BULK AT MOST 1048576: true; the input reads as it did. -/
def linkNilUptoRow : OpenClaim := { program := "ytjjgojgahibpgaa", sum := "5d054073f9c5d95ba74ad8a0d99867bdc9bc5dc7193119b679eb36329cb425f3", func := "tranche/tranchelaw26.LinkNil", spec := "linkNil", unfollowed := true, recurses := true, apart := false, narrowed := true }
def LinkNilUptoSaid : Prop := linkNilUptoRow.holds Try.pinned (OpenSpec.upto linkNilSpec)

/-- 'tranchelaw26.LinkNets', WHERE WHAT IT READS IS OF BULK AT MOST 1048576: true; the input reads as it did. -/
def linkNetsUptoRow : OpenClaim := { program := "ytjjgojgahibpgaa", sum := "5d054073f9c5d95ba74ad8a0d99867bdc9bc5dc7193119b679eb36329cb425f3", func := "tranche/tranchelaw26.LinkNets", spec := "linkNets", unfollowed := true, recurses := true, apart := false, narrowed := true }
def LinkNetsUptoSaid : Prop := linkNetsUptoRow.holds Try.pinned (OpenSpec.upto linkNetsSpec)

/-- 'tranchelaw26.LinkHeals', WHERE WHAT IT READS IS OF BULK AT MOST 1048576: true; the input reads as it did. -/
def linkHealsUptoRow : OpenClaim := { program := "ytjjgojgahibpgaa", sum := "5d054073f9c5d95ba74ad8a0d99867bdc9bc5dc7193119b679eb36329cb425f3", func := "tranche/tranchelaw26.LinkHeals", spec := "linkHeals", unfollowed := true, recurses := true, apart := false, narrowed := true }
def LinkHealsUptoSaid : Prop := linkHealsUptoRow.holds Try.pinned (OpenSpec.upto linkHealsSpec)

end Rows
end Go.Proofs.Ytjjgojgahibpgaa
