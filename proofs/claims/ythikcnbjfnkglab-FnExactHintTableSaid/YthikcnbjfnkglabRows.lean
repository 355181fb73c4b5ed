/-
  No cell of these rows narrows 'for every input' (looked for: loops, veiled, ifaces, maps, wideKeys, modest, calm, conditions, laid).
  DERIVED. THE GIVEN ROWS OF THIS SEAT. 5 by the template 'for every input the law returns true; each argument reads behind the call as it read before'; 0 by the template 'total and deterministic' (their statements: YthikcnbjfnkglabTotals.lean).
  GIVEN WITH THE SEED: the statements are not yours to turn. If you find one false, say at which input.
  Laid BY PROGRAM, IN A SANDBOX (cutbox-rows.mjs): the forced cells as the released guide's own fill.sh prints them over the translation 0892e156eb049f93… (all of the seat's roots in one cut). By AI agents, Wed Nov 11 2026. No macro, syntax, notation, axiom, sorry.
-/
import Derived.Test.YthikcnbjfnkglabChecked
import GoSem.Claim
import GoSem.ClaimJoined
import GoSem.ClaimMapViews
import Derived.JoinedTies
import Derived.KernelRfl
namespace Go.Proofs.Ythikcnbjfnkglab
/- THE CELL 'sum', in the pinned program and in every row, IS THE sha256 OF THE DUMP (.gsa) THAT YthikcnbjfnkglabProg.lean LOADS. Nothing in Lean hashes anything: it is a label: what it is worth is what the hold of that sum in a sandbox is worth. -/
noncomputable def Try.pinned : Pinned := { name := "ythikcnbjfnkglab", sum := "0892e156eb049f930a11a7df2e348a9d169d08c8ef4e703405afcd098022b1f9", checked := Try.checked }
namespace Rows
def none {H : Type} : Left H := { results := [], args := [] }

/-- 'laws.FnExactWorstOfGuess': WHATEVER THE INPUT: true; the input reads as it did. -/
def fnExactWorstOfGuessSpec : ChangeSpec := { name := "fnExactWorstOfGuess", fn := fun _ => fun
  | [d1, d2, d3] => { results := [.lit (.bool true)], args := [d1, d2, d3] }
  | _ => none }
def fnExactWorstOfGuessRow : OpenClaim := { program := "ythikcnbjfnkglab", sum := "0892e156eb049f930a11a7df2e348a9d169d08c8ef4e703405afcd098022b1f9", func := "loop.example/g01304/laws.FnExactWorstOfGuess", spec := "fnExactWorstOfGuess", unfollowed := true, recurses := true, apart := false }
def FnExactWorstOfGuessSaid : Prop := fnExactWorstOfGuessRow.holds Try.pinned (OpenSpec.ofChange fnExactWorstOfGuessSpec)

/-- ITS FALSE NEIGHBOUR: 'it returns false'. Refute it at one input. -/
def fnExactWorstOfGuessWrong : ChangeSpec := { name := "fnExactWorstOfGuess", fn := fun _ => fun
  | [d1, d2, d3] => { results := [.lit (.bool false)], args := [d1, d2, d3] }
  | _ => none }
def FnExactWorstOfGuessWrongFalsely : Prop := fnExactWorstOfGuessRow.holds Try.pinned (OpenSpec.ofChange fnExactWorstOfGuessWrong)

/-- 'laws.FnExactBestGuess': WHATEVER THE INPUT: true; the input reads as it did. -/
def fnExactBestGuessSpec : ChangeSpec := { name := "fnExactBestGuess", fn := fun _ => fun
  | [d1, d2] => { results := [.lit (.bool true)], args := [d1, d2] }
  | _ => none }
def fnExactBestGuessRow : OpenClaim := { program := "ythikcnbjfnkglab", sum := "0892e156eb049f930a11a7df2e348a9d169d08c8ef4e703405afcd098022b1f9", func := "loop.example/g01304/laws.FnExactBestGuess", spec := "fnExactBestGuess", unfollowed := true, recurses := true, apart := false }
def FnExactBestGuessSaid : Prop := fnExactBestGuessRow.holds Try.pinned (OpenSpec.ofChange fnExactBestGuessSpec)

/-- ITS FALSE NEIGHBOUR: 'it returns false'. Refute it at one input. -/
def fnExactBestGuessWrong : ChangeSpec := { name := "fnExactBestGuess", fn := fun _ => fun
  | [d1, d2] => { results := [.lit (.bool false)], args := [d1, d2] }
  | _ => none }
def FnExactBestGuessWrongFalsely : Prop := fnExactBestGuessRow.holds Try.pinned (OpenSpec.ofChange fnExactBestGuessWrong)

/-- 'laws.FnExactHintTable': WHATEVER THE INPUT: true; the input reads as it did. -/
def fnExactHintTableSpec : ChangeSpec := { name := "fnExactHintTable", fn := fun _ => fun
  | [d1, d2, d3] => { results := [.lit (.bool true)], args := [d1, d2, d3] }
  | _ => none }
def fnExactHintTableRow : OpenClaim := { program := "ythikcnbjfnkglab", sum := "0892e156eb049f930a11a7df2e348a9d169d08c8ef4e703405afcd098022b1f9", func := "loop.example/g01304/laws.FnExactHintTable", spec := "fnExactHintTable", unfollowed := true, recurses := true, apart := false }
def FnExactHintTableSaid : Prop := fnExactHintTableRow.holds Try.pinned (OpenSpec.ofChange fnExactHintTableSpec)

/-- ITS FALSE NEIGHBOUR: 'it returns false'. Refute it at one input. -/
def fnExactHintTableWrong : ChangeSpec := { name := "fnExactHintTable", fn := fun _ => fun
  | [d1, d2, d3] => { results := [.lit (.bool false)], args := [d1, d2, d3] }
  | _ => none }
def FnExactHintTableWrongFalsely : Prop := fnExactHintTableRow.holds Try.pinned (OpenSpec.ofChange fnExactHintTableWrong)

/-- 'laws.FnHintsPlayedOfAll': WHATEVER THE INPUT: true; the input reads as it did. -/
def fnHintsPlayedOfAllSpec : ChangeSpec := { name := "fnHintsPlayedOfAll", fn := fun _ => fun
  | [d1, d2, d3, d4, d5, d6] => { results := [.lit (.bool true)], args := [d1, d2, d3, d4, d5, d6] }
  | _ => none }
def fnHintsPlayedOfAllRow : OpenClaim := { program := "ythikcnbjfnkglab", sum := "0892e156eb049f930a11a7df2e348a9d169d08c8ef4e703405afcd098022b1f9", func := "loop.example/g01304/laws.FnHintsPlayedOfAll", spec := "fnHintsPlayedOfAll", unfollowed := true, recurses := true, apart := false }
def FnHintsPlayedOfAllSaid : Prop := fnHintsPlayedOfAllRow.holds Try.pinned (OpenSpec.ofChange fnHintsPlayedOfAllSpec)

/-- ITS FALSE NEIGHBOUR: 'it returns false'. Refute it at one input. -/
def fnHintsPlayedOfAllWrong : ChangeSpec := { name := "fnHintsPlayedOfAll", fn := fun _ => fun
  | [d1, d2, d3, d4, d5, d6] => { results := [.lit (.bool false)], args := [d1, d2, d3, d4, d5, d6] }
  | _ => none }
def FnHintsPlayedOfAllWrongFalsely : Prop := fnHintsPlayedOfAllRow.holds Try.pinned (OpenSpec.ofChange fnHintsPlayedOfAllWrong)

/-- 'laws.FnHintsFitOfAll': WHATEVER THE INPUT: true; the input reads as it did. -/
def fnHintsFitOfAllSpec : ChangeSpec := { name := "fnHintsFitOfAll", fn := fun _ => fun
  | [d1, d2, d3, d4, d5, d6] => { results := [.lit (.bool true)], args := [d1, d2, d3, d4, d5, d6] }
  | _ => none }
def fnHintsFitOfAllRow : OpenClaim := { program := "ythikcnbjfnkglab", sum := "0892e156eb049f930a11a7df2e348a9d169d08c8ef4e703405afcd098022b1f9", func := "loop.example/g01304/laws.FnHintsFitOfAll", spec := "fnHintsFitOfAll", unfollowed := true, recurses := true, apart := false }
def FnHintsFitOfAllSaid : Prop := fnHintsFitOfAllRow.holds Try.pinned (OpenSpec.ofChange fnHintsFitOfAllSpec)

/-- ITS FALSE NEIGHBOUR: 'it returns false'. Refute it at one input. -/
def fnHintsFitOfAllWrong : ChangeSpec := { name := "fnHintsFitOfAll", fn := fun _ => fun
  | [d1, d2, d3, d4, d5, d6] => { results := [.lit (.bool false)], args := [d1, d2, d3, d4, d5, d6] }
  | _ => none }
def FnHintsFitOfAllWrongFalsely : Prop := fnHintsFitOfAllRow.holds Try.pinned (OpenSpec.ofChange fnHintsFitOfAllWrong)

/- THE SECOND FORM. 'bulk': how many values and letters a reading holds, each counted each time it is reached (what is shared counts as often as it is met; a slice's spare places count too). A statement '..UptoSaid' is the law's where the arguments, and the package variables that the reading takes, are together of bulk at most 1048576: NARROWER than '..Said'. Prove '..Said' where nothing that the law and all that it calls make is longer than what came in: it says more and counts as full. Else prove '..UptoSaid'. A law counts once. -/
mutual
def uptoBulk {H : Type} : DataW H → Nat
  | .lit (.string bytes) => bytes.length + 1
  | .lit _ => 1
  | .nil => 1
  | .ptr d => uptoBulk d + 1
  | .slice elems spare => uptoBulkAll elems + uptoBulkAll spare + 1
  | .agg parts => uptoBulkAll parts + 1
  | .iface _ d => uptoBulk d + 1
  | .map entries => uptoBulkEntries entries + 1
  | .held _ => 1
def uptoBulkAll {H : Type} : List (DataW H) → Nat
  | [] => 0
  | d :: r => uptoBulk d + uptoBulkAll r
def uptoBulkEntries {H : Type} : List (Lit × DataW H) → Nat
  | [] => 0
  | x :: r => uptoBulkEntry x + uptoBulkEntries r
def uptoBulkEntry {H : Type} : Lit × DataW H → Nat
  | (.string bytes, d) => bytes.length + uptoBulk d + 1
  | (_, d) => uptoBulk d + 1
 end
def uptoSmall : (H : Type) → List (DataW H) → Bool := fun _ ds => decide (uptoBulkAll ds ≤ 1048576)
def OpenSpec.upto (s : _root_.Go.ChangeSpec) : _root_.Go.OpenSpec := { _root_.Go.OpenSpec.ofChange s with cond := some uptoSmall }

/-- 'laws.FnExactWorstOfGuess', WHERE WHAT IT READS IS OF BULK AT MOST 1048576: true; the input reads as it did. -/
def fnExactWorstOfGuessUptoRow : OpenClaim := { program := "ythikcnbjfnkglab", sum := "0892e156eb049f930a11a7df2e348a9d169d08c8ef4e703405afcd098022b1f9", func := "loop.example/g01304/laws.FnExactWorstOfGuess", spec := "fnExactWorstOfGuess", unfollowed := true, recurses := true, apart := false, narrowed := true }
def FnExactWorstOfGuessUptoSaid : Prop := fnExactWorstOfGuessUptoRow.holds Try.pinned (OpenSpec.upto fnExactWorstOfGuessSpec)

/-- 'laws.FnExactBestGuess', WHERE WHAT IT READS IS OF BULK AT MOST 1048576: true; the input reads as it did. -/
def fnExactBestGuessUptoRow : OpenClaim := { program := "ythikcnbjfnkglab", sum := "0892e156eb049f930a11a7df2e348a9d169d08c8ef4e703405afcd098022b1f9", func := "loop.example/g01304/laws.FnExactBestGuess", spec := "fnExactBestGuess", unfollowed := true, recurses := true, apart := false, narrowed := true }
def FnExactBestGuessUptoSaid : Prop := fnExactBestGuessUptoRow.holds Try.pinned (OpenSpec.upto fnExactBestGuessSpec)

/-- 'laws.FnExactHintTable', WHERE WHAT IT READS IS OF BULK AT MOST 1048576: true; the input reads as it did. -/
def fnExactHintTableUptoRow : OpenClaim := { program := "ythikcnbjfnkglab", sum := "0892e156eb049f930a11a7df2e348a9d169d08c8ef4e703405afcd098022b1f9", func := "loop.example/g01304/laws.FnExactHintTable", spec := "fnExactHintTable", unfollowed := true, recurses := true, apart := false, narrowed := true }
def FnExactHintTableUptoSaid : Prop := fnExactHintTableUptoRow.holds Try.pinned (OpenSpec.upto fnExactHintTableSpec)

/-- 'laws.FnHintsPlayedOfAll', WHERE WHAT IT READS IS OF BULK AT MOST 1048576: true; the input reads as it did. -/
def fnHintsPlayedOfAllUptoRow : OpenClaim := { program := "ythikcnbjfnkglab", sum := "0892e156eb049f930a11a7df2e348a9d169d08c8ef4e703405afcd098022b1f9", func := "loop.example/g01304/laws.FnHintsPlayedOfAll", spec := "fnHintsPlayedOfAll", unfollowed := true, recurses := true, apart := false, narrowed := true }
def FnHintsPlayedOfAllUptoSaid : Prop := fnHintsPlayedOfAllUptoRow.holds Try.pinned (OpenSpec.upto fnHintsPlayedOfAllSpec)

/-- 'laws.FnHintsFitOfAll', WHERE WHAT IT READS IS OF BULK AT MOST 1048576: true; the input reads as it did. -/
def fnHintsFitOfAllUptoRow : OpenClaim := { program := "ythikcnbjfnkglab", sum := "0892e156eb049f930a11a7df2e348a9d169d08c8ef4e703405afcd098022b1f9", func := "loop.example/g01304/laws.FnHintsFitOfAll", spec := "fnHintsFitOfAll", unfollowed := true, recurses := true, apart := false, narrowed := true }
def FnHintsFitOfAllUptoSaid : Prop := fnHintsFitOfAllUptoRow.holds Try.pinned (OpenSpec.upto fnHintsFitOfAllSpec)

end Rows
end Go.Proofs.Ythikcnbjfnkglab
