/-
  No cell of these rows narrows 'for every input' (looked for: loops, veiled, ifaces, maps, wideKeys, modest, calm, conditions, laid).
  DERIVED. THE GIVEN ROWS OF THIS SEAT. 7 by the template 'for every input the law returns true; each argument reads behind the call as it read before'; 0 by the template 'total and deterministic' (their statements: YtbmbplmcdbgnnaaTotals.lean).
  GIVEN WITH THE SEED: the statements are not yours to turn. If you find one false, say at which input.
  Laid BY PROGRAM, IN A SANDBOX (cutbox-rows.mjs): the forced cells as the released guide's own fill.sh prints them over the translation 7e64cb5a1b41cc3a… (all of the seat's roots in one cut). By AI agents, Wed Nov 11 2026. No macro, syntax, notation, axiom, sorry.
-/
import Derived.Test.YtbmbplmcdbgnnaaChecked
import GoSem.Claim
import GoSem.ClaimJoined
import GoSem.ClaimMapViews
import Derived.JoinedTies
import Derived.KernelRfl
namespace Go.Proofs.Ytbmbplmcdbgnnaa
/- THE CELL 'sum', in the pinned program and in every row, IS THE sha256 OF THE DUMP (.gsa) THAT YtbmbplmcdbgnnaaProg.lean LOADS. Nothing in Lean hashes anything: it is a label: what it is worth is what the hold of that sum in a sandbox is worth. -/
noncomputable def Try.pinned : Pinned := { name := "ytbmbplmcdbgnnaa", sum := "7e64cb5a1b41cc3aa282199b6260a0d148b55356285505d0b3a3228c32f2b5a6", checked := Try.checked }
namespace Rows
def none {H : Type} : Left H := { results := [], args := [] }

/-- 'laws.FnExactOpeningTurns': WHATEVER THE INPUT: true; the input reads as it did. -/
def fnExactOpeningTurnsSpec : ChangeSpec := { name := "fnExactOpeningTurns", fn := fun _ => fun
  | [d1, d2, d3] => { results := [.lit (.bool true)], args := [d1, d2, d3] }
  | _ => none }
def fnExactOpeningTurnsRow : OpenClaim := { program := "ytbmbplmcdbgnnaa", sum := "7e64cb5a1b41cc3aa282199b6260a0d148b55356285505d0b3a3228c32f2b5a6", func := "loop.example/g01304/laws.FnExactOpeningTurns", spec := "fnExactOpeningTurns", unfollowed := true, recurses := true, apart := false }
def FnExactOpeningTurnsSaid : Prop := fnExactOpeningTurnsRow.holds Try.pinned (OpenSpec.ofChange fnExactOpeningTurnsSpec)

/-- ITS FALSE NEIGHBOUR: 'it returns false'. Refute it at one input. -/
def fnExactOpeningTurnsWrong : ChangeSpec := { name := "fnExactOpeningTurns", fn := fun _ => fun
  | [d1, d2, d3] => { results := [.lit (.bool false)], args := [d1, d2, d3] }
  | _ => none }
def FnExactOpeningTurnsWrongFalsely : Prop := fnExactOpeningTurnsRow.holds Try.pinned (OpenSpec.ofChange fnExactOpeningTurnsWrong)

/-- 'laws.FnExactCountByLength': WHATEVER THE INPUT: true; the input reads as it did. -/
def fnExactCountByLengthSpec : ChangeSpec := { name := "fnExactCountByLength", fn := fun _ => fun
  | [d1, d2, d3, d4] => { results := [.lit (.bool true)], args := [d1, d2, d3, d4] }
  | _ => none }
def fnExactCountByLengthRow : OpenClaim := { program := "ytbmbplmcdbgnnaa", sum := "7e64cb5a1b41cc3aa282199b6260a0d148b55356285505d0b3a3228c32f2b5a6", func := "loop.example/g01304/laws.FnExactCountByLength", spec := "fnExactCountByLength", unfollowed := true, recurses := true, apart := false }
def FnExactCountByLengthSaid : Prop := fnExactCountByLengthRow.holds Try.pinned (OpenSpec.ofChange fnExactCountByLengthSpec)

/-- ITS FALSE NEIGHBOUR: 'it returns false'. Refute it at one input. -/
def fnExactCountByLengthWrong : ChangeSpec := { name := "fnExactCountByLength", fn := fun _ => fun
  | [d1, d2, d3, d4] => { results := [.lit (.bool false)], args := [d1, d2, d3, d4] }
  | _ => none }
def FnExactCountByLengthWrongFalsely : Prop := fnExactCountByLengthRow.holds Try.pinned (OpenSpec.ofChange fnExactCountByLengthWrong)

/-- 'laws.FnExactIsOpening': WHATEVER THE INPUT: true; the input reads as it did. -/
def fnExactIsOpeningSpec : ChangeSpec := { name := "fnExactIsOpening", fn := fun _ => fun
  | [d1, d2, d3, d4] => { results := [.lit (.bool true)], args := [d1, d2, d3, d4] }
  | _ => none }
def fnExactIsOpeningRow : OpenClaim := { program := "ytbmbplmcdbgnnaa", sum := "7e64cb5a1b41cc3aa282199b6260a0d148b55356285505d0b3a3228c32f2b5a6", func := "loop.example/g01304/laws.FnExactIsOpening", spec := "fnExactIsOpening", unfollowed := true, recurses := true, apart := false }
def FnExactIsOpeningSaid : Prop := fnExactIsOpeningRow.holds Try.pinned (OpenSpec.ofChange fnExactIsOpeningSpec)

/-- ITS FALSE NEIGHBOUR: 'it returns false'. Refute it at one input. -/
def fnExactIsOpeningWrong : ChangeSpec := { name := "fnExactIsOpening", fn := fun _ => fun
  | [d1, d2, d3, d4] => { results := [.lit (.bool false)], args := [d1, d2, d3, d4] }
  | _ => none }
def FnExactIsOpeningWrongFalsely : Prop := fnExactIsOpeningRow.holds Try.pinned (OpenSpec.ofChange fnExactIsOpeningWrong)

/-- 'laws.FnExactOpeningLength': WHATEVER THE INPUT: true; the input reads as it did. -/
def fnExactOpeningLengthSpec : ChangeSpec := { name := "fnExactOpeningLength", fn := fun _ => fun
  | [d1, d2, d3] => { results := [.lit (.bool true)], args := [d1, d2, d3] }
  | _ => none }
def fnExactOpeningLengthRow : OpenClaim := { program := "ytbmbplmcdbgnnaa", sum := "7e64cb5a1b41cc3aa282199b6260a0d148b55356285505d0b3a3228c32f2b5a6", func := "loop.example/g01304/laws.FnExactOpeningLength", spec := "fnExactOpeningLength", unfollowed := true, recurses := true, apart := false }
def FnExactOpeningLengthSaid : Prop := fnExactOpeningLengthRow.holds Try.pinned (OpenSpec.ofChange fnExactOpeningLengthSpec)

/-- ITS FALSE NEIGHBOUR: 'it returns false'. Refute it at one input. -/
def fnExactOpeningLengthWrong : ChangeSpec := { name := "fnExactOpeningLength", fn := fun _ => fun
  | [d1, d2, d3] => { results := [.lit (.bool false)], args := [d1, d2, d3] }
  | _ => none }
def FnExactOpeningLengthWrongFalsely : Prop := fnExactOpeningLengthRow.holds Try.pinned (OpenSpec.ofChange fnExactOpeningLengthWrong)

/-- 'laws.FnExactCodeOfTurns': WHATEVER THE INPUT: true; the input reads as it did. -/
def fnExactCodeOfTurnsSpec : ChangeSpec := { name := "fnExactCodeOfTurns", fn := fun _ => fun
  | [d1, d2, d3] => { results := [.lit (.bool true)], args := [d1, d2, d3] }
  | _ => none }
def fnExactCodeOfTurnsRow : OpenClaim := { program := "ytbmbplmcdbgnnaa", sum := "7e64cb5a1b41cc3aa282199b6260a0d148b55356285505d0b3a3228c32f2b5a6", func := "loop.example/g01304/laws.FnExactCodeOfTurns", spec := "fnExactCodeOfTurns", unfollowed := true, recurses := true, apart := false }
def FnExactCodeOfTurnsSaid : Prop := fnExactCodeOfTurnsRow.holds Try.pinned (OpenSpec.ofChange fnExactCodeOfTurnsSpec)

/-- ITS FALSE NEIGHBOUR: 'it returns false'. Refute it at one input. -/
def fnExactCodeOfTurnsWrong : ChangeSpec := { name := "fnExactCodeOfTurns", fn := fun _ => fun
  | [d1, d2, d3] => { results := [.lit (.bool false)], args := [d1, d2, d3] }
  | _ => none }
def FnExactCodeOfTurnsWrongFalsely : Prop := fnExactCodeOfTurnsRow.holds Try.pinned (OpenSpec.ofChange fnExactCodeOfTurnsWrong)

/-- 'laws.FnExactLongestDial': WHATEVER THE INPUT: true; the input reads as it did. -/
def fnExactLongestDialSpec : ChangeSpec := { name := "fnExactLongestDial", fn := fun _ => fun
  | [d1, d2, d3] => { results := [.lit (.bool true)], args := [d1, d2, d3] }
  | _ => none }
def fnExactLongestDialRow : OpenClaim := { program := "ytbmbplmcdbgnnaa", sum := "7e64cb5a1b41cc3aa282199b6260a0d148b55356285505d0b3a3228c32f2b5a6", func := "loop.example/g01304/laws.FnExactLongestDial", spec := "fnExactLongestDial", unfollowed := true, recurses := true, apart := false }
def FnExactLongestDialSaid : Prop := fnExactLongestDialRow.holds Try.pinned (OpenSpec.ofChange fnExactLongestDialSpec)

/-- ITS FALSE NEIGHBOUR: 'it returns false'. Refute it at one input. -/
def fnExactLongestDialWrong : ChangeSpec := { name := "fnExactLongestDial", fn := fun _ => fun
  | [d1, d2, d3] => { results := [.lit (.bool false)], args := [d1, d2, d3] }
  | _ => none }
def FnExactLongestDialWrongFalsely : Prop := fnExactLongestDialRow.holds Try.pinned (OpenSpec.ofChange fnExactLongestDialWrong)

/-- 'laws.FnExactShortestDial': WHATEVER THE INPUT: true; the input reads as it did. -/
def fnExactShortestDialSpec : ChangeSpec := { name := "fnExactShortestDial", fn := fun _ => fun
  | [d1, d2, d3] => { results := [.lit (.bool true)], args := [d1, d2, d3] }
  | _ => none }
def fnExactShortestDialRow : OpenClaim := { program := "ytbmbplmcdbgnnaa", sum := "7e64cb5a1b41cc3aa282199b6260a0d148b55356285505d0b3a3228c32f2b5a6", func := "loop.example/g01304/laws.FnExactShortestDial", spec := "fnExactShortestDial", unfollowed := true, recurses := true, apart := false }
def FnExactShortestDialSaid : Prop := fnExactShortestDialRow.holds Try.pinned (OpenSpec.ofChange fnExactShortestDialSpec)

/-- ITS FALSE NEIGHBOUR: 'it returns false'. Refute it at one input. -/
def fnExactShortestDialWrong : ChangeSpec := { name := "fnExactShortestDial", fn := fun _ => fun
  | [d1, d2, d3] => { results := [.lit (.bool false)], args := [d1, d2, d3] }
  | _ => none }
def FnExactShortestDialWrongFalsely : Prop := fnExactShortestDialRow.holds Try.pinned (OpenSpec.ofChange fnExactShortestDialWrong)

/- THE SECOND FORM. 'bulk': how many values and letters a reading holds, each counted each time it is reached (what is shared counts as often as it is met; a slice's spare places count too). A statement '..UptoSaid' is the law's where the arguments, and the package variables that the reading takes, are together of bulk at most 1048576: NARROWER than '..Said'. Prove '..Said' where nothing that the law and all that it calls make is longer than what came in: it says more and counts as full. Else prove '..UptoSaid'. A law counts once. -/
mutual
def uptoBulk {H : Type} : DataW H → Nat
  | .lit (.string bytes) => bytes.length + 1
  | .lit _ => 1
  | .nil => 1
  | .ptr d => uptoBulk d + 1
  | .slice elems spare => uptoBulkAll elems + uptoBulkAll spare + 1
  | .agg parts => uptoBulkAll parts + 1
  | .iface _ d => uptoBulk d + 1
  | .map entries => uptoBulkEntries entries + 1
  | .held _ => 1
def uptoBulkAll {H : Type} : List (DataW H) → Nat
  | [] => 0
  | d :: r => uptoBulk d + uptoBulkAll r
def uptoBulkEntries {H : Type} : List (Lit × DataW H) → Nat
  | [] => 0
  | x :: r => uptoBulkEntry x + uptoBulkEntries r
def uptoBulkEntry {H : Type} : Lit × DataW H → Nat
  | (.string bytes, d) => bytes.length + uptoBulk d + 1
  | (_, d) => uptoBulk d + 1
 end
def uptoSmall : (H : Type) → List (DataW H) → Bool := fun _ ds => decide (uptoBulkAll ds ≤ 1048576)
def OpenSpec.upto (s : _root_.Go.ChangeSpec) : _root_.Go.OpenSpec := { _root_.Go.OpenSpec.ofChange s with cond := some uptoSmall }

/-- 'laws.FnExactOpeningTurns', WHERE WHAT IT READS IS OF BULK AT MOST 1048576: true; the input reads as it did. -/
def fnExactOpeningTurnsUptoRow : OpenClaim := { program := "ytbmbplmcdbgnnaa", sum := "7e64cb5a1b41cc3aa282199b6260a0d148b55356285505d0b3a3228c32f2b5a6", func := "loop.example/g01304/laws.FnExactOpeningTurns", spec := "fnExactOpeningTurns", unfollowed := true, recurses := true, apart := false, narrowed := true }
def FnExactOpeningTurnsUptoSaid : Prop := fnExactOpeningTurnsUptoRow.holds Try.pinned (OpenSpec.upto fnExactOpeningTurnsSpec)

/-- 'laws.FnExactCountByLength', WHERE WHAT IT READS IS OF BULK AT MOST 1048576: true; the input reads as it did. -/
def fnExactCountByLengthUptoRow : OpenClaim := { program := "ytbmbplmcdbgnnaa", sum := "7e64cb5a1b41cc3aa282199b6260a0d148b55356285505d0b3a3228c32f2b5a6", func := "loop.example/g01304/laws.FnExactCountByLength", spec := "fnExactCountByLength", unfollowed := true, recurses := true, apart := false, narrowed := true }
def FnExactCountByLengthUptoSaid : Prop := fnExactCountByLengthUptoRow.holds Try.pinned (OpenSpec.upto fnExactCountByLengthSpec)

/-- 'laws.FnExactIsOpening', WHERE WHAT IT READS IS OF BULK AT MOST 1048576: true; the input reads as it did. -/
def fnExactIsOpeningUptoRow : OpenClaim := { program := "ytbmbplmcdbgnnaa", sum := "7e64cb5a1b41cc3aa282199b6260a0d148b55356285505d0b3a3228c32f2b5a6", func := "loop.example/g01304/laws.FnExactIsOpening", spec := "fnExactIsOpening", unfollowed := true, recurses := true, apart := false, narrowed := true }
def FnExactIsOpeningUptoSaid : Prop := fnExactIsOpeningUptoRow.holds Try.pinned (OpenSpec.upto fnExactIsOpeningSpec)

/-- 'laws.FnExactOpeningLength', WHERE WHAT IT READS IS OF BULK AT MOST 1048576: true; the input reads as it did. -/
def fnExactOpeningLengthUptoRow : OpenClaim := { program := "ytbmbplmcdbgnnaa", sum := "7e64cb5a1b41cc3aa282199b6260a0d148b55356285505d0b3a3228c32f2b5a6", func := "loop.example/g01304/laws.FnExactOpeningLength", spec := "fnExactOpeningLength", unfollowed := true, recurses := true, apart := false, narrowed := true }
def FnExactOpeningLengthUptoSaid : Prop := fnExactOpeningLengthUptoRow.holds Try.pinned (OpenSpec.upto fnExactOpeningLengthSpec)

/-- 'laws.FnExactCodeOfTurns', WHERE WHAT IT READS IS OF BULK AT MOST 1048576: true; the input reads as it did. -/
def fnExactCodeOfTurnsUptoRow : OpenClaim := { program := "ytbmbplmcdbgnnaa", sum := "7e64cb5a1b41cc3aa282199b6260a0d148b55356285505d0b3a3228c32f2b5a6", func := "loop.example/g01304/laws.FnExactCodeOfTurns", spec := "fnExactCodeOfTurns", unfollowed := true, recurses := true, apart := false, narrowed := true }
def FnExactCodeOfTurnsUptoSaid : Prop := fnExactCodeOfTurnsUptoRow.holds Try.pinned (OpenSpec.upto fnExactCodeOfTurnsSpec)

/-- 'laws.FnExactLongestDial', WHERE WHAT IT READS IS OF BULK AT MOST 1048576: true; the input reads as it did. -/
def fnExactLongestDialUptoRow : OpenClaim := { program := "ytbmbplmcdbgnnaa", sum := "7e64cb5a1b41cc3aa282199b6260a0d148b55356285505d0b3a3228c32f2b5a6", func := "loop.example/g01304/laws.FnExactLongestDial", spec := "fnExactLongestDial", unfollowed := true, recurses := true, apart := false, narrowed := true }
def FnExactLongestDialUptoSaid : Prop := fnExactLongestDialUptoRow.holds Try.pinned (OpenSpec.upto fnExactLongestDialSpec)

/-- 'laws.FnExactShortestDial', WHERE WHAT IT READS IS OF BULK AT MOST 1048576: true; the input reads as it did. -/
def fnExactShortestDialUptoRow : OpenClaim := { program := "ytbmbplmcdbgnnaa", sum := "7e64cb5a1b41cc3aa282199b6260a0d148b55356285505d0b3a3228c32f2b5a6", func := "loop.example/g01304/laws.FnExactShortestDial", spec := "fnExactShortestDial", unfollowed := true, recurses := true, apart := false, narrowed := true }
def FnExactShortestDialUptoSaid : Prop := fnExactShortestDialUptoRow.holds Try.pinned (OpenSpec.upto fnExactShortestDialSpec)

end Rows
end Go.Proofs.Ytbmbplmcdbgnnaa
