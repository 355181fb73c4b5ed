/-
  No cell of these rows narrows 'for every input' (looked for: loops, veiled, ifaces, maps, wideKeys, modest, calm, conditions, laid).
  DERIVED. THE GIVEN ROWS OF THIS SEAT. 9 by the template 'for every input the law returns true; each argument reads behind the call as it read before'; 0 by the template 'total and deterministic' (their statements: YtmliabppmobliaaTotals.lean).
  GIVEN WITH THE SEED: the statements are not yours to turn. If you find one false, say at which input.
  Laid BY PROGRAM, IN A SANDBOX (cutbox-rows.mjs): the forced cells as the released guide's own fill.sh prints them over the translation 25a1ea271e250afd… (all of the seat's roots in one cut). By AI agents, Wed Nov 11 2026. No macro, syntax, notation, axiom, sorry.
-/
import Derived.Test.YtmliabppmobliaaChecked
import GoSem.Claim
import GoSem.ClaimJoined
import GoSem.ClaimMapViews
import Derived.JoinedTies
import Derived.KernelRfl
namespace Go.Proofs.Ytmliabppmobliaa
/- THE CELL 'sum', in the pinned program and in every row, IS THE sha256 OF THE DUMP (.gsa) THAT YtmliabppmobliaaProg.lean LOADS. Nothing in Lean hashes anything: it is a label: what it is worth is what the hold of that sum in a sandbox is worth. -/
noncomputable def Try.pinned : Pinned := { name := "ytmliabppmobliaa", sum := "25a1ea271e250afd62a2ded433660d9c1a49341b023be9826065ec49d8666725", checked := Try.checked }
namespace Rows
def none {H : Type} : Left H := { results := [], args := [] }

/-- 'laws.FnExactCountClose': WHATEVER THE INPUT: true; the input reads as it did. -/
def fnExactCountCloseSpec : ChangeSpec := { name := "fnExactCountClose", fn := fun _ => fun
  | [d1, d2, d3] => { results := [.lit (.bool true)], args := [d1, d2, d3] }
  | _ => none }
def fnExactCountCloseRow : OpenClaim := { program := "ytmliabppmobliaa", sum := "25a1ea271e250afd62a2ded433660d9c1a49341b023be9826065ec49d8666725", func := "loop.example/g01304/laws.FnExactCountClose", spec := "fnExactCountClose", unfollowed := true, recurses := true, apart := false }
def FnExactCountCloseSaid : Prop := fnExactCountCloseRow.holds Try.pinned (OpenSpec.ofChange fnExactCountCloseSpec)

/-- ITS FALSE NEIGHBOUR: 'it returns false'. Refute it at one input. -/
def fnExactCountCloseWrong : ChangeSpec := { name := "fnExactCountClose", fn := fun _ => fun
  | [d1, d2, d3] => { results := [.lit (.bool false)], args := [d1, d2, d3] }
  | _ => none }
def FnExactCountCloseWrongFalsely : Prop := fnExactCountCloseRow.holds Try.pinned (OpenSpec.ofChange fnExactCountCloseWrong)

/-- 'laws.FnExactPassesOf': WHATEVER THE INPUT: true; the input reads as it did. -/
def fnExactPassesOfSpec : ChangeSpec := { name := "fnExactPassesOf", fn := fun _ => fun
  | [d1, d2, d3, d4] => { results := [.lit (.bool true)], args := [d1, d2, d3, d4] }
  | _ => none }
def fnExactPassesOfRow : OpenClaim := { program := "ytmliabppmobliaa", sum := "25a1ea271e250afd62a2ded433660d9c1a49341b023be9826065ec49d8666725", func := "loop.example/g01304/laws.FnExactPassesOf", spec := "fnExactPassesOf", unfollowed := true, recurses := true, apart := false }
def FnExactPassesOfSaid : Prop := fnExactPassesOfRow.holds Try.pinned (OpenSpec.ofChange fnExactPassesOfSpec)

/-- ITS FALSE NEIGHBOUR: 'it returns false'. Refute it at one input. -/
def fnExactPassesOfWrong : ChangeSpec := { name := "fnExactPassesOf", fn := fun _ => fun
  | [d1, d2, d3, d4] => { results := [.lit (.bool false)], args := [d1, d2, d3, d4] }
  | _ => none }
def FnExactPassesOfWrongFalsely : Prop := fnExactPassesOfRow.holds Try.pinned (OpenSpec.ofChange fnExactPassesOfWrong)

/-- 'laws.FnExactOtherTurns': WHATEVER THE INPUT: true; the input reads as it did. -/
def fnExactOtherTurnsSpec : ChangeSpec := { name := "fnExactOtherTurns", fn := fun _ => fun
  | [d] => { results := [.lit (.bool true)], args := [d] }
  | _ => none }
def fnExactOtherTurnsRow : OpenClaim := { program := "ytmliabppmobliaa", sum := "25a1ea271e250afd62a2ded433660d9c1a49341b023be9826065ec49d8666725", func := "loop.example/g01304/laws.FnExactOtherTurns", spec := "fnExactOtherTurns", unfollowed := true, recurses := true, apart := false }
def FnExactOtherTurnsSaid : Prop := fnExactOtherTurnsRow.holds Try.pinned (OpenSpec.ofChange fnExactOtherTurnsSpec)

/-- ITS FALSE NEIGHBOUR: 'it returns false'. Refute it at one input. -/
def fnExactOtherTurnsWrong : ChangeSpec := { name := "fnExactOtherTurns", fn := fun _ => fun
  | [d] => { results := [.lit (.bool false)], args := [d] }
  | _ => none }
def FnExactOtherTurnsWrongFalsely : Prop := fnExactOtherTurnsRow.holds Try.pinned (OpenSpec.ofChange fnExactOtherTurnsWrong)

/-- 'laws.FnExactCountTries': WHATEVER THE INPUT: true; the input reads as it did. -/
def fnExactCountTriesSpec : ChangeSpec := { name := "fnExactCountTries", fn := fun _ => fun
  | [d1, d2, d3] => { results := [.lit (.bool true)], args := [d1, d2, d3] }
  | _ => none }
def fnExactCountTriesRow : OpenClaim := { program := "ytmliabppmobliaa", sum := "25a1ea271e250afd62a2ded433660d9c1a49341b023be9826065ec49d8666725", func := "loop.example/g01304/laws.FnExactCountTries", spec := "fnExactCountTries", unfollowed := true, recurses := true, apart := false }
def FnExactCountTriesSaid : Prop := fnExactCountTriesRow.holds Try.pinned (OpenSpec.ofChange fnExactCountTriesSpec)

/-- ITS FALSE NEIGHBOUR: 'it returns false'. Refute it at one input. -/
def fnExactCountTriesWrong : ChangeSpec := { name := "fnExactCountTries", fn := fun _ => fun
  | [d1, d2, d3] => { results := [.lit (.bool false)], args := [d1, d2, d3] }
  | _ => none }
def FnExactCountTriesWrongFalsely : Prop := fnExactCountTriesRow.holds Try.pinned (OpenSpec.ofChange fnExactCountTriesWrong)

/-- 'laws.FnExactAreClose': WHATEVER THE INPUT: true; the input reads as it did. -/
def fnExactAreCloseSpec : ChangeSpec := { name := "fnExactAreClose", fn := fun _ => fun
  | [d1, d2, d3, d4] => { results := [.lit (.bool true)], args := [d1, d2, d3, d4] }
  | _ => none }
def fnExactAreCloseRow : OpenClaim := { program := "ytmliabppmobliaa", sum := "25a1ea271e250afd62a2ded433660d9c1a49341b023be9826065ec49d8666725", func := "loop.example/g01304/laws.FnExactAreClose", spec := "fnExactAreClose", unfollowed := true, recurses := true, apart := false }
def FnExactAreCloseSaid : Prop := fnExactAreCloseRow.holds Try.pinned (OpenSpec.ofChange fnExactAreCloseSpec)

/-- ITS FALSE NEIGHBOUR: 'it returns false'. Refute it at one input. -/
def fnExactAreCloseWrong : ChangeSpec := { name := "fnExactAreClose", fn := fun _ => fun
  | [d1, d2, d3, d4] => { results := [.lit (.bool false)], args := [d1, d2, d3, d4] }
  | _ => none }
def FnExactAreCloseWrongFalsely : Prop := fnExactAreCloseRow.holds Try.pinned (OpenSpec.ofChange fnExactAreCloseWrong)

/-- 'laws.FnExactBackSpin': WHATEVER THE INPUT: true; the input reads as it did. -/
def fnExactBackSpinSpec : ChangeSpec := { name := "fnExactBackSpin", fn := fun _ => fun
  | [d] => { results := [.lit (.bool true)], args := [d] }
  | _ => none }
def fnExactBackSpinRow : OpenClaim := { program := "ytmliabppmobliaa", sum := "25a1ea271e250afd62a2ded433660d9c1a49341b023be9826065ec49d8666725", func := "loop.example/g01304/laws.FnExactBackSpin", spec := "fnExactBackSpin", unfollowed := true, recurses := true, apart := false }
def FnExactBackSpinSaid : Prop := fnExactBackSpinRow.holds Try.pinned (OpenSpec.ofChange fnExactBackSpinSpec)

/-- ITS FALSE NEIGHBOUR: 'it returns false'. Refute it at one input. -/
def fnExactBackSpinWrong : ChangeSpec := { name := "fnExactBackSpin", fn := fun _ => fun
  | [d] => { results := [.lit (.bool false)], args := [d] }
  | _ => none }
def FnExactBackSpinWrongFalsely : Prop := fnExactBackSpinRow.holds Try.pinned (OpenSpec.ofChange fnExactBackSpinWrong)

/-- 'laws.FnExactTriesOf': WHATEVER THE INPUT: true; the input reads as it did. -/
def fnExactTriesOfSpec : ChangeSpec := { name := "fnExactTriesOf", fn := fun _ => fun
  | [d1, d2] => { results := [.lit (.bool true)], args := [d1, d2] }
  | _ => none }
def fnExactTriesOfRow : OpenClaim := { program := "ytmliabppmobliaa", sum := "25a1ea271e250afd62a2ded433660d9c1a49341b023be9826065ec49d8666725", func := "loop.example/g01304/laws.FnExactTriesOf", spec := "fnExactTriesOf", unfollowed := true, recurses := true, apart := false }
def FnExactTriesOfSaid : Prop := fnExactTriesOfRow.holds Try.pinned (OpenSpec.ofChange fnExactTriesOfSpec)

/-- ITS FALSE NEIGHBOUR: 'it returns false'. Refute it at one input. -/
def fnExactTriesOfWrong : ChangeSpec := { name := "fnExactTriesOf", fn := fun _ => fun
  | [d1, d2] => { results := [.lit (.bool false)], args := [d1, d2] }
  | _ => none }
def FnExactTriesOfWrongFalsely : Prop := fnExactTriesOfRow.holds Try.pinned (OpenSpec.ofChange fnExactTriesOfWrong)

/-- 'laws.FnExactStopsOf': WHATEVER THE INPUT: true; the input reads as it did. -/
def fnExactStopsOfSpec : ChangeSpec := { name := "fnExactStopsOf", fn := fun _ => fun
  | [d1, d2, d3] => { results := [.lit (.bool true)], args := [d1, d2, d3] }
  | _ => none }
def fnExactStopsOfRow : OpenClaim := { program := "ytmliabppmobliaa", sum := "25a1ea271e250afd62a2ded433660d9c1a49341b023be9826065ec49d8666725", func := "loop.example/g01304/laws.FnExactStopsOf", spec := "fnExactStopsOf", unfollowed := true, recurses := true, apart := false }
def FnExactStopsOfSaid : Prop := fnExactStopsOfRow.holds Try.pinned (OpenSpec.ofChange fnExactStopsOfSpec)

/-- ITS FALSE NEIGHBOUR: 'it returns false'. Refute it at one input. -/
def fnExactStopsOfWrong : ChangeSpec := { name := "fnExactStopsOf", fn := fun _ => fun
  | [d1, d2, d3] => { results := [.lit (.bool false)], args := [d1, d2, d3] }
  | _ => none }
def FnExactStopsOfWrongFalsely : Prop := fnExactStopsOfRow.holds Try.pinned (OpenSpec.ofChange fnExactStopsOfWrong)

/-- 'laws.FnExactMergeTurns': WHATEVER THE INPUT: true; the input reads as it did. -/
def fnExactMergeTurnsSpec : ChangeSpec := { name := "fnExactMergeTurns", fn := fun _ => fun
  | [d] => { results := [.lit (.bool true)], args := [d] }
  | _ => none }
def fnExactMergeTurnsRow : OpenClaim := { program := "ytmliabppmobliaa", sum := "25a1ea271e250afd62a2ded433660d9c1a49341b023be9826065ec49d8666725", func := "loop.example/g01304/laws.FnExactMergeTurns", spec := "fnExactMergeTurns", unfollowed := true, recurses := true, apart := false }
def FnExactMergeTurnsSaid : Prop := fnExactMergeTurnsRow.holds Try.pinned (OpenSpec.ofChange fnExactMergeTurnsSpec)

/-- ITS FALSE NEIGHBOUR: 'it returns false'. Refute it at one input. -/
def fnExactMergeTurnsWrong : ChangeSpec := { name := "fnExactMergeTurns", fn := fun _ => fun
  | [d] => { results := [.lit (.bool false)], args := [d] }
  | _ => none }
def FnExactMergeTurnsWrongFalsely : Prop := fnExactMergeTurnsRow.holds Try.pinned (OpenSpec.ofChange fnExactMergeTurnsWrong)

/- THE SECOND FORM. 'bulk': how many values and letters a reading holds, each counted each time it is reached (what is shared counts as often as it is met; a slice's spare places count too). A statement '..UptoSaid' is the law's where the arguments, and the package variables that the reading takes, are together of bulk at most 1048576: NARROWER than '..Said'. Prove '..Said' where nothing that the law and all that it calls make is longer than what came in: it says more and counts as full. Else prove '..UptoSaid'. A law counts once. -/
mutual
def uptoBulk {H : Type} : DataW H → Nat
  | .lit (.string bytes) => bytes.length + 1
  | .lit _ => 1
  | .nil => 1
  | .ptr d => uptoBulk d + 1
  | .slice elems spare => uptoBulkAll elems + uptoBulkAll spare + 1
  | .agg parts => uptoBulkAll parts + 1
  | .iface _ d => uptoBulk d + 1
  | .map entries => uptoBulkEntries entries + 1
  | .held _ => 1
def uptoBulkAll {H : Type} : List (DataW H) → Nat
  | [] => 0
  | d :: r => uptoBulk d + uptoBulkAll r
def uptoBulkEntries {H : Type} : List (Lit × DataW H) → Nat
  | [] => 0
  | x :: r => uptoBulkEntry x + uptoBulkEntries r
def uptoBulkEntry {H : Type} : Lit × DataW H → Nat
  | (.string bytes, d) => bytes.length + uptoBulk d + 1
  | (_, d) => uptoBulk d + 1
 end
def uptoSmall : (H : Type) → List (DataW H) → Bool := fun _ ds => decide (uptoBulkAll ds ≤ 1048576)
def OpenSpec.upto (s : _root_.Go.ChangeSpec) : _root_.Go.OpenSpec := { _root_.Go.OpenSpec.ofChange s with cond := some uptoSmall }

/-- 'laws.FnExactCountClose', WHERE WHAT IT READS IS OF BULK AT MOST 1048576: true; the input reads as it did. -/
def fnExactCountCloseUptoRow : OpenClaim := { program := "ytmliabppmobliaa", sum := "25a1ea271e250afd62a2ded433660d9c1a49341b023be9826065ec49d8666725", func := "loop.example/g01304/laws.FnExactCountClose", spec := "fnExactCountClose", unfollowed := true, recurses := true, apart := false, narrowed := true }
def FnExactCountCloseUptoSaid : Prop := fnExactCountCloseUptoRow.holds Try.pinned (OpenSpec.upto fnExactCountCloseSpec)

/-- 'laws.FnExactPassesOf', WHERE WHAT IT READS IS OF BULK AT MOST 1048576: true; the input reads as it did. -/
def fnExactPassesOfUptoRow : OpenClaim := { program := "ytmliabppmobliaa", sum := "25a1ea271e250afd62a2ded433660d9c1a49341b023be9826065ec49d8666725", func := "loop.example/g01304/laws.FnExactPassesOf", spec := "fnExactPassesOf", unfollowed := true, recurses := true, apart := false, narrowed := true }
def FnExactPassesOfUptoSaid : Prop := fnExactPassesOfUptoRow.holds Try.pinned (OpenSpec.upto fnExactPassesOfSpec)

/-- 'laws.FnExactOtherTurns', WHERE WHAT IT READS IS OF BULK AT MOST 1048576: true; the input reads as it did. -/
def fnExactOtherTurnsUptoRow : OpenClaim := { program := "ytmliabppmobliaa", sum := "25a1ea271e250afd62a2ded433660d9c1a49341b023be9826065ec49d8666725", func := "loop.example/g01304/laws.FnExactOtherTurns", spec := "fnExactOtherTurns", unfollowed := true, recurses := true, apart := false, narrowed := true }
def FnExactOtherTurnsUptoSaid : Prop := fnExactOtherTurnsUptoRow.holds Try.pinned (OpenSpec.upto fnExactOtherTurnsSpec)

/-- 'laws.FnExactCountTries', WHERE WHAT IT READS IS OF BULK AT MOST 1048576: true; the input reads as it did. -/
def fnExactCountTriesUptoRow : OpenClaim := { program := "ytmliabppmobliaa", sum := "25a1ea271e250afd62a2ded433660d9c1a49341b023be9826065ec49d8666725", func := "loop.example/g01304/laws.FnExactCountTries", spec := "fnExactCountTries", unfollowed := true, recurses := true, apart := false, narrowed := true }
def FnExactCountTriesUptoSaid : Prop := fnExactCountTriesUptoRow.holds Try.pinned (OpenSpec.upto fnExactCountTriesSpec)

/-- 'laws.FnExactAreClose', WHERE WHAT IT READS IS OF BULK AT MOST 1048576: true; the input reads as it did. -/
def fnExactAreCloseUptoRow : OpenClaim := { program := "ytmliabppmobliaa", sum := "25a1ea271e250afd62a2ded433660d9c1a49341b023be9826065ec49d8666725", func := "loop.example/g01304/laws.FnExactAreClose", spec := "fnExactAreClose", unfollowed := true, recurses := true, apart := false, narrowed := true }
def FnExactAreCloseUptoSaid : Prop := fnExactAreCloseUptoRow.holds Try.pinned (OpenSpec.upto fnExactAreCloseSpec)

/-- 'laws.FnExactBackSpin', WHERE WHAT IT READS IS OF BULK AT MOST 1048576: true; the input reads as it did. -/
def fnExactBackSpinUptoRow : OpenClaim := { program := "ytmliabppmobliaa", sum := "25a1ea271e250afd62a2ded433660d9c1a49341b023be9826065ec49d8666725", func := "loop.example/g01304/laws.FnExactBackSpin", spec := "fnExactBackSpin", unfollowed := true, recurses := true, apart := false, narrowed := true }
def FnExactBackSpinUptoSaid : Prop := fnExactBackSpinUptoRow.holds Try.pinned (OpenSpec.upto fnExactBackSpinSpec)

/-- 'laws.FnExactTriesOf', WHERE WHAT IT READS IS OF BULK AT MOST 1048576: true; the input reads as it did. -/
def fnExactTriesOfUptoRow : OpenClaim := { program := "ytmliabppmobliaa", sum := "25a1ea271e250afd62a2ded433660d9c1a49341b023be9826065ec49d8666725", func := "loop.example/g01304/laws.FnExactTriesOf", spec := "fnExactTriesOf", unfollowed := true, recurses := true, apart := false, narrowed := true }
def FnExactTriesOfUptoSaid : Prop := fnExactTriesOfUptoRow.holds Try.pinned (OpenSpec.upto fnExactTriesOfSpec)

/-- 'laws.FnExactStopsOf', WHERE WHAT IT READS IS OF BULK AT MOST 1048576: true; the input reads as it did. -/
def fnExactStopsOfUptoRow : OpenClaim := { program := "ytmliabppmobliaa", sum := "25a1ea271e250afd62a2ded433660d9c1a49341b023be9826065ec49d8666725", func := "loop.example/g01304/laws.FnExactStopsOf", spec := "fnExactStopsOf", unfollowed := true, recurses := true, apart := false, narrowed := true }
def FnExactStopsOfUptoSaid : Prop := fnExactStopsOfUptoRow.holds Try.pinned (OpenSpec.upto fnExactStopsOfSpec)

/-- 'laws.FnExactMergeTurns', WHERE WHAT IT READS IS OF BULK AT MOST 1048576: true; the input reads as it did. -/
def fnExactMergeTurnsUptoRow : OpenClaim := { program := "ytmliabppmobliaa", sum := "25a1ea271e250afd62a2ded433660d9c1a49341b023be9826065ec49d8666725", func := "loop.example/g01304/laws.FnExactMergeTurns", spec := "fnExactMergeTurns", unfollowed := true, recurses := true, apart := false, narrowed := true }
def FnExactMergeTurnsUptoSaid : Prop := fnExactMergeTurnsUptoRow.holds Try.pinned (OpenSpec.upto fnExactMergeTurnsSpec)

end Rows
end Go.Proofs.Ytmliabppmobliaa
