/-
  No cell of these rows narrows 'for every input' (looked for: loops, veiled, ifaces, maps, wideKeys, modest, calm, conditions, laid).
  DERIVED. THE GIVEN ROWS OF THIS SEAT. 6 by the template 'for every input the law returns true; each argument reads behind the call as it read before'; 0 by the template 'total and deterministic' (their statements: YtomabcbemokijaaTotals.lean).
  GIVEN WITH THE SEED: the statements are not yours to turn. If you find one false, say at which input.
  Laid BY PROGRAM, IN A SANDBOX (cutbox-rows.mjs): the forced cells as the released guide's own fill.sh prints them over the translation 6c0150d1ea8b9f4a… (all of the seat's roots in one cut). By AI agents, Wed Nov 11 2026. No macro, syntax, notation, axiom, sorry.
-/
import Derived.Test.YtomabcbemokijaaChecked
import GoSem.Claim
import GoSem.ClaimJoined
import GoSem.ClaimMapViews
import Derived.JoinedTies
import Derived.KernelRfl
namespace Go.Proofs.Ytomabcbemokijaa
/- THE CELL 'sum', in the pinned program and in every row, IS THE sha256 OF THE DUMP (.gsa) THAT YtomabcbemokijaaProg.lean LOADS. Nothing in Lean hashes anything: it is a label: what it is worth is what the hold of that sum in a sandbox is worth. -/
noncomputable def Try.pinned : Pinned := { name := "ytomabcbemokijaa", sum := "6c0150d1ea8b9f4a2b4a16cb82c7bfada62671bc5265ed2140f80c3916380de8", checked := Try.checked }
namespace Rows
def none {H : Type} : Left H := { results := [], args := [] }

/-- 'tranchelaw14.LocksApart': WHATEVER THE INPUT: true; the input reads as it did. -/
def locksApartSpec : ChangeSpec := { name := "locksApart", fn := fun _ => fun
  | [d] => { results := [.lit (.bool true)], args := [d] }
  | _ => none }
def locksApartRow : OpenClaim := { program := "ytomabcbemokijaa", sum := "6c0150d1ea8b9f4a2b4a16cb82c7bfada62671bc5265ed2140f80c3916380de8", func := "tranche/tranchelaw14.LocksApart", spec := "locksApart", inPlace := ["internal/bytealg.IndexByteString"], unfollowed := true, recurses := true, apart := false }
def LocksApartSaid : Prop := locksApartRow.holds Try.pinned (OpenSpec.ofChange locksApartSpec)

/-- ITS FALSE NEIGHBOUR: 'it returns false'. Refute it at one input. -/
def locksApartWrong : ChangeSpec := { name := "locksApart", fn := fun _ => fun
  | [d] => { results := [.lit (.bool false)], args := [d] }
  | _ => none }
def LocksApartWrongFalsely : Prop := locksApartRow.holds Try.pinned (OpenSpec.ofChange locksApartWrong)

/-- 'tranchelaw14.LocksEnds': WHATEVER THE INPUT: true; the input reads as it did. -/
def locksEndsSpec : ChangeSpec := { name := "locksEnds", fn := fun _ => fun
  | [d1, d2] => { results := [.lit (.bool true)], args := [d1, d2] }
  | _ => none }
def locksEndsRow : OpenClaim := { program := "ytomabcbemokijaa", sum := "6c0150d1ea8b9f4a2b4a16cb82c7bfada62671bc5265ed2140f80c3916380de8", func := "tranche/tranchelaw14.LocksEnds", spec := "locksEnds", inPlace := ["internal/bytealg.IndexByteString"], unfollowed := true, recurses := true, apart := false }
def LocksEndsSaid : Prop := locksEndsRow.holds Try.pinned (OpenSpec.ofChange locksEndsSpec)

/-- ITS FALSE NEIGHBOUR: 'it returns false'. Refute it at one input. -/
def locksEndsWrong : ChangeSpec := { name := "locksEnds", fn := fun _ => fun
  | [d1, d2] => { results := [.lit (.bool false)], args := [d1, d2] }
  | _ => none }
def LocksEndsWrongFalsely : Prop := locksEndsRow.holds Try.pinned (OpenSpec.ofChange locksEndsWrong)

/-- 'tranchelaw14.LocksStay': WHATEVER THE INPUT: true; the input reads as it did. -/
def locksStaySpec : ChangeSpec := { name := "locksStay", fn := fun _ => fun
  | [d1, d2] => { results := [.lit (.bool true)], args := [d1, d2] }
  | _ => none }
def locksStayRow : OpenClaim := { program := "ytomabcbemokijaa", sum := "6c0150d1ea8b9f4a2b4a16cb82c7bfada62671bc5265ed2140f80c3916380de8", func := "tranche/tranchelaw14.LocksStay", spec := "locksStay", inPlace := ["internal/bytealg.IndexByteString"], unfollowed := true, recurses := true, apart := false }
def LocksStaySaid : Prop := locksStayRow.holds Try.pinned (OpenSpec.ofChange locksStaySpec)

/-- ITS FALSE NEIGHBOUR: 'it returns false'. Refute it at one input. -/
def locksStayWrong : ChangeSpec := { name := "locksStay", fn := fun _ => fun
  | [d1, d2] => { results := [.lit (.bool false)], args := [d1, d2] }
  | _ => none }
def LocksStayWrongFalsely : Prop := locksStayRow.holds Try.pinned (OpenSpec.ofChange locksStayWrong)

/-- 'tranchelaw14.LocksHold': WHATEVER THE INPUT: true; the input reads as it did. -/
def locksHoldSpec : ChangeSpec := { name := "locksHold", fn := fun _ => fun
  | [d1, d2] => { results := [.lit (.bool true)], args := [d1, d2] }
  | _ => none }
def locksHoldRow : OpenClaim := { program := "ytomabcbemokijaa", sum := "6c0150d1ea8b9f4a2b4a16cb82c7bfada62671bc5265ed2140f80c3916380de8", func := "tranche/tranchelaw14.LocksHold", spec := "locksHold", inPlace := ["internal/bytealg.IndexByteString"], unfollowed := true, recurses := true, apart := false }
def LocksHoldSaid : Prop := locksHoldRow.holds Try.pinned (OpenSpec.ofChange locksHoldSpec)

/-- ITS FALSE NEIGHBOUR: 'it returns false'. Refute it at one input. -/
def locksHoldWrong : ChangeSpec := { name := "locksHold", fn := fun _ => fun
  | [d1, d2] => { results := [.lit (.bool false)], args := [d1, d2] }
  | _ => none }
def LocksHoldWrongFalsely : Prop := locksHoldRow.holds Try.pinned (OpenSpec.ofChange locksHoldWrong)

/-- 'tranchelaw14.LocksPlays': WHATEVER THE INPUT: true; the input reads as it did. -/
def locksPlaysSpec : ChangeSpec := { name := "locksPlays", fn := fun _ => fun
  | [d1, d2] => { results := [.lit (.bool true)], args := [d1, d2] }
  | _ => none }
def locksPlaysRow : OpenClaim := { program := "ytomabcbemokijaa", sum := "6c0150d1ea8b9f4a2b4a16cb82c7bfada62671bc5265ed2140f80c3916380de8", func := "tranche/tranchelaw14.LocksPlays", spec := "locksPlays", inPlace := ["internal/bytealg.IndexByteString"], unfollowed := true, recurses := true, apart := false }
def LocksPlaysSaid : Prop := locksPlaysRow.holds Try.pinned (OpenSpec.ofChange locksPlaysSpec)

/-- ITS FALSE NEIGHBOUR: 'it returns false'. Refute it at one input. -/
def locksPlaysWrong : ChangeSpec := { name := "locksPlays", fn := fun _ => fun
  | [d1, d2] => { results := [.lit (.bool false)], args := [d1, d2] }
  | _ => none }
def LocksPlaysWrongFalsely : Prop := locksPlaysRow.holds Try.pinned (OpenSpec.ofChange locksPlaysWrong)

/-- 'tranchelaw14.LocksNil': WHATEVER THE INPUT: true; the input reads as it did. -/
def locksNilSpec : ChangeSpec := { name := "locksNil", fn := fun _ => fun
  | [] => { results := [.lit (.bool true)], args := [] }
  | _ => none }
def locksNilRow : OpenClaim := { program := "ytomabcbemokijaa", sum := "6c0150d1ea8b9f4a2b4a16cb82c7bfada62671bc5265ed2140f80c3916380de8", func := "tranche/tranchelaw14.LocksNil", spec := "locksNil", inPlace := ["internal/bytealg.IndexByteString"], unfollowed := true, recurses := true, apart := false }
def LocksNilSaid : Prop := locksNilRow.holds Try.pinned (OpenSpec.ofChange locksNilSpec)

/-- ITS FALSE NEIGHBOUR: 'it returns false'. Refute it at one input. -/
def locksNilWrong : ChangeSpec := { name := "locksNil", fn := fun _ => fun
  | [] => { results := [.lit (.bool false)], args := [] }
  | _ => none }
def LocksNilWrongFalsely : Prop := locksNilRow.holds Try.pinned (OpenSpec.ofChange locksNilWrong)

/- THE SECOND FORM. 'bulk': how many values and letters a reading holds, each counted each time it is reached (what is shared counts as often as it is met; a slice's spare places count too). A statement '..UptoSaid' is the law's where the arguments, and the package variables that the reading takes, are together of bulk at most 1048576: NARROWER than '..Said'. Prove '..Said' where nothing that the law and all that it calls make is longer than what came in: it says more and counts as full. Else prove '..UptoSaid'. A law counts once. -/
mutual
def uptoBulk {H : Type} : DataW H → Nat
  | .lit (.string bytes) => bytes.length + 1
  | .lit _ => 1
  | .nil => 1
  | .ptr d => uptoBulk d + 1
  | .slice elems spare => uptoBulkAll elems + uptoBulkAll spare + 1
  | .agg parts => uptoBulkAll parts + 1
  | .iface _ d => uptoBulk d + 1
  | .map entries => uptoBulkEntries entries + 1
  | .held _ => 1
def uptoBulkAll {H : Type} : List (DataW H) → Nat
  | [] => 0
  | d :: r => uptoBulk d + uptoBulkAll r
def uptoBulkEntries {H : Type} : List (Lit × DataW H) → Nat
  | [] => 0
  | x :: r => uptoBulkEntry x + uptoBulkEntries r
def uptoBulkEntry {H : Type} : Lit × DataW H → Nat
  | (.string bytes, d) => bytes.length + uptoBulk d + 1
  | (_, d) => uptoBulk d + 1
 end
def uptoSmall : (H : Type) → List (DataW H) → Bool := fun _ ds => decide (uptoBulkAll ds ≤ 1048576)
def OpenSpec.upto (s : _root_.Go.ChangeSpec) : _root_.Go.OpenSpec := { _root_.Go.OpenSpec.ofChange s with cond := some uptoSmall }

/-- 'tranchelaw14.LocksApart', WHERE WHAT IT READS IS OF BULK AT MOST 1048576: true; the input reads as it did. -/
def locksApartUptoRow : OpenClaim := { program := "ytomabcbemokijaa", sum := "6c0150d1ea8b9f4a2b4a16cb82c7bfada62671bc5265ed2140f80c3916380de8", func := "tranche/tranchelaw14.LocksApart", spec := "locksApart", inPlace := ["internal/bytealg.IndexByteString"], unfollowed := true, recurses := true, apart := false, narrowed := true }
def LocksApartUptoSaid : Prop := locksApartUptoRow.holds Try.pinned (OpenSpec.upto locksApartSpec)

/-- 'tranchelaw14.LocksEnds', WHERE WHAT IT READS IS OF BULK AT MOST 1048576: true; the input reads as it did. -/
def locksEndsUptoRow : OpenClaim := { program := "ytomabcbemokijaa", sum := "6c0150d1ea8b9f4a2b4a16cb82c7bfada62671bc5265ed2140f80c3916380de8", func := "tranche/tranchelaw14.LocksEnds", spec := "locksEnds", inPlace := ["internal/bytealg.IndexByteString"], unfollowed := true, recurses := true, apart := false, narrowed := true }
def LocksEndsUptoSaid : Prop := locksEndsUptoRow.holds Try.pinned (OpenSpec.upto locksEndsSpec)

/-- 'tranchelaw14.LocksStay', WHERE WHAT IT READS IS OF BULK AT MOST 1048576: true; the input reads as it did. -/
def locksStayUptoRow : OpenClaim := { program := "ytomabcbemokijaa", sum := "6c0150d1ea8b9f4a2b4a16cb82c7bfada62671bc5265ed2140f80c3916380de8", func := "tranche/tranchelaw14.LocksStay", spec := "locksStay", inPlace := ["internal/bytealg.IndexByteString"], unfollowed := true, recurses := true, apart := false, narrowed := true }
def LocksStayUptoSaid : Prop := locksStayUptoRow.holds Try.pinned (OpenSpec.upto locksStaySpec)

/-- 'tranchelaw14.LocksHold', WHERE WHAT IT READS IS OF BULK AT MOST 1048576: true; the input reads as it did. -/
def locksHoldUptoRow : OpenClaim := { program := "ytomabcbemokijaa", sum := "6c0150d1ea8b9f4a2b4a16cb82c7bfada62671bc5265ed2140f80c3916380de8", func := "tranche/tranchelaw14.LocksHold", spec := "locksHold", inPlace := ["internal/bytealg.IndexByteString"], unfollowed := true, recurses := true, apart := false, narrowed := true }
def LocksHoldUptoSaid : Prop := locksHoldUptoRow.holds Try.pinned (OpenSpec.upto locksHoldSpec)

/-- 'tranchelaw14.LocksPlays', WHERE WHAT IT READS IS OF BULK AT MOST 1048576: true; the input reads as it did. -/
def locksPlaysUptoRow : OpenClaim := { program := "ytomabcbemokijaa", sum := "6c0150d1ea8b9f4a2b4a16cb82c7bfada62671bc5265ed2140f80c3916380de8", func := "tranche/tranchelaw14.LocksPlays", spec := "locksPlays", inPlace := ["internal/bytealg.IndexByteString"], unfollowed := true, recurses := true, apart := false, narrowed := true }
def LocksPlaysUptoSaid : Prop := locksPlaysUptoRow.holds Try.pinned (OpenSpec.upto locksPlaysSpec)

/-- 'tranchelaw14.LocksNil', WHERE WHAT IT READS IS OF BULK AT MOST 1048576: true; the input reads as it did. -/
def locksNilUptoRow : OpenClaim := { program := "ytomabcbemokijaa", sum := "6c0150d1ea8b9f4a2b4a16cb82c7bfada62671bc5265ed2140f80c3916380de8", func := "tranche/tranchelaw14.LocksNil", spec := "locksNil", inPlace := ["internal/bytealg.IndexByteString"], unfollowed := true, recurses := true, apart := false, narrowed := true }
def LocksNilUptoSaid : Prop := locksNilUptoRow.holds Try.pinned (OpenSpec.upto locksNilSpec)

end Rows
end Go.Proofs.Ytomabcbemokijaa
