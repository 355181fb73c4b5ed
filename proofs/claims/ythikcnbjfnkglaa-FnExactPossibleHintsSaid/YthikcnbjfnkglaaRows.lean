/-
  No cell of these rows narrows 'for every input' (looked for: loops, veiled, ifaces, maps, wideKeys, modest, calm, conditions, laid).
  DERIVED. THE GIVEN ROWS OF THIS SEAT. 12 by the template 'for every input the law returns true; each argument reads behind the call as it read before'; 0 by the template 'total and deterministic' (their statements: YthikcnbjfnkglaaTotals.lean).
  GIVEN WITH THE SEED: the statements are not yours to turn. If you find one false, say at which input.
  Laid BY PROGRAM, IN A SANDBOX (cutbox-rows.mjs): the forced cells as the released guide's own fill.sh prints them over the translation ce4b7856d88304f7… (all of the seat's roots in one cut). By AI agents, Wed Nov 11 2026. No macro, syntax, notation, axiom, sorry.
-/
import Derived.Test.YthikcnbjfnkglaaChecked
import GoSem.Claim
import GoSem.ClaimJoined
import GoSem.ClaimMapViews
import Derived.JoinedTies
import Derived.KernelRfl
namespace Go.Proofs.Ythikcnbjfnkglaa
/- THE CELL 'sum', in the pinned program and in every row, IS THE sha256 OF THE DUMP (.gsa) THAT YthikcnbjfnkglaaProg.lean LOADS. Nothing in Lean hashes anything: it is a label: what it is worth is what the hold of that sum in a sandbox is worth. -/
noncomputable def Try.pinned : Pinned := { name := "ythikcnbjfnkglaa", sum := "ce4b7856d88304f760b5cc9a5bded353c14dd146e0a773097eca2a3c58d50f80", checked := Try.checked }
namespace Rows
def none {H : Type} : Left H := { results := [], args := [] }

/-- 'laws.FnExactHintOf': WHATEVER THE INPUT: true; the input reads as it did. -/
def fnExactHintOfSpec : ChangeSpec := { name := "fnExactHintOf", fn := fun _ => fun
  | [d1, d2, d3] => { results := [.lit (.bool true)], args := [d1, d2, d3] }
  | _ => none }
def fnExactHintOfRow : OpenClaim := { program := "ythikcnbjfnkglaa", sum := "ce4b7856d88304f760b5cc9a5bded353c14dd146e0a773097eca2a3c58d50f80", func := "loop.example/g01304/laws.FnExactHintOf", spec := "fnExactHintOf", apart := false }
def FnExactHintOfSaid : Prop := fnExactHintOfRow.holds Try.pinned (OpenSpec.ofChange fnExactHintOfSpec)

/-- ITS FALSE NEIGHBOUR: 'it returns false'. Refute it at one input. -/
def fnExactHintOfWrong : ChangeSpec := { name := "fnExactHintOf", fn := fun _ => fun
  | [d1, d2, d3] => { results := [.lit (.bool false)], args := [d1, d2, d3] }
  | _ => none }
def FnExactHintOfWrongFalsely : Prop := fnExactHintOfRow.holds Try.pinned (OpenSpec.ofChange fnExactHintOfWrong)

/-- 'laws.FnExactAreHints': WHATEVER THE INPUT: true; the input reads as it did. -/
def fnExactAreHintsSpec : ChangeSpec := { name := "fnExactAreHints", fn := fun _ => fun
  | [d1, d2] => { results := [.lit (.bool true)], args := [d1, d2] }
  | _ => none }
def fnExactAreHintsRow : OpenClaim := { program := "ythikcnbjfnkglaa", sum := "ce4b7856d88304f760b5cc9a5bded353c14dd146e0a773097eca2a3c58d50f80", func := "loop.example/g01304/laws.FnExactAreHints", spec := "fnExactAreHints", unfollowed := true, recurses := true, apart := false }
def FnExactAreHintsSaid : Prop := fnExactAreHintsRow.holds Try.pinned (OpenSpec.ofChange fnExactAreHintsSpec)

/-- ITS FALSE NEIGHBOUR: 'it returns false'. Refute it at one input. -/
def fnExactAreHintsWrong : ChangeSpec := { name := "fnExactAreHints", fn := fun _ => fun
  | [d1, d2] => { results := [.lit (.bool false)], args := [d1, d2] }
  | _ => none }
def FnExactAreHintsWrongFalsely : Prop := fnExactAreHintsRow.holds Try.pinned (OpenSpec.ofChange fnExactAreHintsWrong)

/-- 'laws.FnExactCountWithHint': WHATEVER THE INPUT: true; the input reads as it did. -/
def fnExactCountWithHintSpec : ChangeSpec := { name := "fnExactCountWithHint", fn := fun _ => fun
  | [d1, d2, d3] => { results := [.lit (.bool true)], args := [d1, d2, d3] }
  | _ => none }
def fnExactCountWithHintRow : OpenClaim := { program := "ythikcnbjfnkglaa", sum := "ce4b7856d88304f760b5cc9a5bded353c14dd146e0a773097eca2a3c58d50f80", func := "loop.example/g01304/laws.FnExactCountWithHint", spec := "fnExactCountWithHint", unfollowed := true, recurses := true, apart := false }
def FnExactCountWithHintSaid : Prop := fnExactCountWithHintRow.holds Try.pinned (OpenSpec.ofChange fnExactCountWithHintSpec)

/-- ITS FALSE NEIGHBOUR: 'it returns false'. Refute it at one input. -/
def fnExactCountWithHintWrong : ChangeSpec := { name := "fnExactCountWithHint", fn := fun _ => fun
  | [d1, d2, d3] => { results := [.lit (.bool false)], args := [d1, d2, d3] }
  | _ => none }
def FnExactCountWithHintWrongFalsely : Prop := fnExactCountWithHintRow.holds Try.pinned (OpenSpec.ofChange fnExactCountWithHintWrong)

/-- 'laws.FnExactFitsHints': WHATEVER THE INPUT: true; the input reads as it did. -/
def fnExactFitsHintsSpec : ChangeSpec := { name := "fnExactFitsHints", fn := fun _ => fun
  | [d1, d2, d3] => { results := [.lit (.bool true)], args := [d1, d2, d3] }
  | _ => none }
def fnExactFitsHintsRow : OpenClaim := { program := "ythikcnbjfnkglaa", sum := "ce4b7856d88304f760b5cc9a5bded353c14dd146e0a773097eca2a3c58d50f80", func := "loop.example/g01304/laws.FnExactFitsHints", spec := "fnExactFitsHints", unfollowed := true, recurses := true, apart := false }
def FnExactFitsHintsSaid : Prop := fnExactFitsHintsRow.holds Try.pinned (OpenSpec.ofChange fnExactFitsHintsSpec)

/-- ITS FALSE NEIGHBOUR: 'it returns false'. Refute it at one input. -/
def fnExactFitsHintsWrong : ChangeSpec := { name := "fnExactFitsHints", fn := fun _ => fun
  | [d1, d2, d3] => { results := [.lit (.bool false)], args := [d1, d2, d3] }
  | _ => none }
def FnExactFitsHintsWrongFalsely : Prop := fnExactFitsHintsRow.holds Try.pinned (OpenSpec.ofChange fnExactFitsHintsWrong)

/-- 'laws.FnExactMostGuesses': WHATEVER THE INPUT: true; the input reads as it did. -/
def fnExactMostGuessesSpec : ChangeSpec := { name := "fnExactMostGuesses", fn := fun _ => fun
  | [d] => { results := [.lit (.bool true)], args := [d] }
  | _ => none }
def fnExactMostGuessesRow : OpenClaim := { program := "ythikcnbjfnkglaa", sum := "ce4b7856d88304f760b5cc9a5bded353c14dd146e0a773097eca2a3c58d50f80", func := "loop.example/g01304/laws.FnExactMostGuesses", spec := "fnExactMostGuesses", unfollowed := true, recurses := true, apart := false }
def FnExactMostGuessesSaid : Prop := fnExactMostGuessesRow.holds Try.pinned (OpenSpec.ofChange fnExactMostGuessesSpec)

/-- ITS FALSE NEIGHBOUR: 'it returns false'. Refute it at one input. -/
def fnExactMostGuessesWrong : ChangeSpec := { name := "fnExactMostGuesses", fn := fun _ => fun
  | [d] => { results := [.lit (.bool false)], args := [d] }
  | _ => none }
def FnExactMostGuessesWrongFalsely : Prop := fnExactMostGuessesRow.holds Try.pinned (OpenSpec.ofChange fnExactMostGuessesWrong)

/-- 'laws.FnExactCountGuesses': WHATEVER THE INPUT: true; the input reads as it did. -/
def fnExactCountGuessesSpec : ChangeSpec := { name := "fnExactCountGuesses", fn := fun _ => fun
  | [d1, d2] => { results := [.lit (.bool true)], args := [d1, d2] }
  | _ => none }
def fnExactCountGuessesRow : OpenClaim := { program := "ythikcnbjfnkglaa", sum := "ce4b7856d88304f760b5cc9a5bded353c14dd146e0a773097eca2a3c58d50f80", func := "loop.example/g01304/laws.FnExactCountGuesses", spec := "fnExactCountGuesses", unfollowed := true, recurses := true, apart := false }
def FnExactCountGuessesSaid : Prop := fnExactCountGuessesRow.holds Try.pinned (OpenSpec.ofChange fnExactCountGuessesSpec)

/-- ITS FALSE NEIGHBOUR: 'it returns false'. Refute it at one input. -/
def fnExactCountGuessesWrong : ChangeSpec := { name := "fnExactCountGuesses", fn := fun _ => fun
  | [d1, d2] => { results := [.lit (.bool false)], args := [d1, d2] }
  | _ => none }
def FnExactCountGuessesWrongFalsely : Prop := fnExactCountGuessesRow.holds Try.pinned (OpenSpec.ofChange fnExactCountGuessesWrong)

/-- 'laws.FnExactHardestCodes': WHATEVER THE INPUT: true; the input reads as it did. -/
def fnExactHardestCodesSpec : ChangeSpec := { name := "fnExactHardestCodes", fn := fun _ => fun
  | [d] => { results := [.lit (.bool true)], args := [d] }
  | _ => none }
def fnExactHardestCodesRow : OpenClaim := { program := "ythikcnbjfnkglaa", sum := "ce4b7856d88304f760b5cc9a5bded353c14dd146e0a773097eca2a3c58d50f80", func := "loop.example/g01304/laws.FnExactHardestCodes", spec := "fnExactHardestCodes", unfollowed := true, recurses := true, apart := false }
def FnExactHardestCodesSaid : Prop := fnExactHardestCodesRow.holds Try.pinned (OpenSpec.ofChange fnExactHardestCodesSpec)

/-- ITS FALSE NEIGHBOUR: 'it returns false'. Refute it at one input. -/
def fnExactHardestCodesWrong : ChangeSpec := { name := "fnExactHardestCodes", fn := fun _ => fun
  | [d] => { results := [.lit (.bool false)], args := [d] }
  | _ => none }
def FnExactHardestCodesWrongFalsely : Prop := fnExactHardestCodesRow.holds Try.pinned (OpenSpec.ofChange fnExactHardestCodesWrong)

/-- 'laws.FnExactCountFitting': WHATEVER THE INPUT: true; the input reads as it did. -/
def fnExactCountFittingSpec : ChangeSpec := { name := "fnExactCountFitting", fn := fun _ => fun
  | [d1, d2] => { results := [.lit (.bool true)], args := [d1, d2] }
  | _ => none }
def fnExactCountFittingRow : OpenClaim := { program := "ythikcnbjfnkglaa", sum := "ce4b7856d88304f760b5cc9a5bded353c14dd146e0a773097eca2a3c58d50f80", func := "loop.example/g01304/laws.FnExactCountFitting", spec := "fnExactCountFitting", unfollowed := true, recurses := true, apart := false }
def FnExactCountFittingSaid : Prop := fnExactCountFittingRow.holds Try.pinned (OpenSpec.ofChange fnExactCountFittingSpec)

/-- ITS FALSE NEIGHBOUR: 'it returns false'. Refute it at one input. -/
def fnExactCountFittingWrong : ChangeSpec := { name := "fnExactCountFitting", fn := fun _ => fun
  | [d1, d2] => { results := [.lit (.bool false)], args := [d1, d2] }
  | _ => none }
def FnExactCountFittingWrongFalsely : Prop := fnExactCountFittingRow.holds Try.pinned (OpenSpec.ofChange fnExactCountFittingWrong)

/-- 'laws.FnExactPlayFirst': WHATEVER THE INPUT: true; the input reads as it did. -/
def fnExactPlayFirstSpec : ChangeSpec := { name := "fnExactPlayFirst", fn := fun _ => fun
  | [d1, d2] => { results := [.lit (.bool true)], args := [d1, d2] }
  | _ => none }
def fnExactPlayFirstRow : OpenClaim := { program := "ythikcnbjfnkglaa", sum := "ce4b7856d88304f760b5cc9a5bded353c14dd146e0a773097eca2a3c58d50f80", func := "loop.example/g01304/laws.FnExactPlayFirst", spec := "fnExactPlayFirst", unfollowed := true, recurses := true, apart := false }
def FnExactPlayFirstSaid : Prop := fnExactPlayFirstRow.holds Try.pinned (OpenSpec.ofChange fnExactPlayFirstSpec)

/-- ITS FALSE NEIGHBOUR: 'it returns false'. Refute it at one input. -/
def fnExactPlayFirstWrong : ChangeSpec := { name := "fnExactPlayFirst", fn := fun _ => fun
  | [d1, d2] => { results := [.lit (.bool false)], args := [d1, d2] }
  | _ => none }
def FnExactPlayFirstWrongFalsely : Prop := fnExactPlayFirstRow.holds Try.pinned (OpenSpec.ofChange fnExactPlayFirstWrong)

/-- 'laws.FnExactFittingCodes': WHATEVER THE INPUT: true; the input reads as it did. -/
def fnExactFittingCodesSpec : ChangeSpec := { name := "fnExactFittingCodes", fn := fun _ => fun
  | [d1, d2] => { results := [.lit (.bool true)], args := [d1, d2] }
  | _ => none }
def fnExactFittingCodesRow : OpenClaim := { program := "ythikcnbjfnkglaa", sum := "ce4b7856d88304f760b5cc9a5bded353c14dd146e0a773097eca2a3c58d50f80", func := "loop.example/g01304/laws.FnExactFittingCodes", spec := "fnExactFittingCodes", unfollowed := true, recurses := true, apart := false }
def FnExactFittingCodesSaid : Prop := fnExactFittingCodesRow.holds Try.pinned (OpenSpec.ofChange fnExactFittingCodesSpec)

/-- ITS FALSE NEIGHBOUR: 'it returns false'. Refute it at one input. -/
def fnExactFittingCodesWrong : ChangeSpec := { name := "fnExactFittingCodes", fn := fun _ => fun
  | [d1, d2] => { results := [.lit (.bool false)], args := [d1, d2] }
  | _ => none }
def FnExactFittingCodesWrongFalsely : Prop := fnExactFittingCodesRow.holds Try.pinned (OpenSpec.ofChange fnExactFittingCodesWrong)

/-- 'laws.FnExactNeedlessHints': WHATEVER THE INPUT: true; the input reads as it did. -/
def fnExactNeedlessHintsSpec : ChangeSpec := { name := "fnExactNeedlessHints", fn := fun _ => fun
  | [d1, d2] => { results := [.lit (.bool true)], args := [d1, d2] }
  | _ => none }
def fnExactNeedlessHintsRow : OpenClaim := { program := "ythikcnbjfnkglaa", sum := "ce4b7856d88304f760b5cc9a5bded353c14dd146e0a773097eca2a3c58d50f80", func := "loop.example/g01304/laws.FnExactNeedlessHints", spec := "fnExactNeedlessHints", unfollowed := true, recurses := true, apart := false }
def FnExactNeedlessHintsSaid : Prop := fnExactNeedlessHintsRow.holds Try.pinned (OpenSpec.ofChange fnExactNeedlessHintsSpec)

/-- ITS FALSE NEIGHBOUR: 'it returns false'. Refute it at one input. -/
def fnExactNeedlessHintsWrong : ChangeSpec := { name := "fnExactNeedlessHints", fn := fun _ => fun
  | [d1, d2] => { results := [.lit (.bool false)], args := [d1, d2] }
  | _ => none }
def FnExactNeedlessHintsWrongFalsely : Prop := fnExactNeedlessHintsRow.holds Try.pinned (OpenSpec.ofChange fnExactNeedlessHintsWrong)

/-- 'laws.FnExactPossibleHints': WHATEVER THE INPUT: true; the input reads as it did. -/
def fnExactPossibleHintsSpec : ChangeSpec := { name := "fnExactPossibleHints", fn := fun _ => fun
  | [d] => { results := [.lit (.bool true)], args := [d] }
  | _ => none }
def fnExactPossibleHintsRow : OpenClaim := { program := "ythikcnbjfnkglaa", sum := "ce4b7856d88304f760b5cc9a5bded353c14dd146e0a773097eca2a3c58d50f80", func := "loop.example/g01304/laws.FnExactPossibleHints", spec := "fnExactPossibleHints", unfollowed := true, recurses := true, apart := false }
def FnExactPossibleHintsSaid : Prop := fnExactPossibleHintsRow.holds Try.pinned (OpenSpec.ofChange fnExactPossibleHintsSpec)

/-- ITS FALSE NEIGHBOUR: 'it returns false'. Refute it at one input. -/
def fnExactPossibleHintsWrong : ChangeSpec := { name := "fnExactPossibleHints", fn := fun _ => fun
  | [d] => { results := [.lit (.bool false)], args := [d] }
  | _ => none }
def FnExactPossibleHintsWrongFalsely : Prop := fnExactPossibleHintsRow.holds Try.pinned (OpenSpec.ofChange fnExactPossibleHintsWrong)

/- THE SECOND FORM. 'bulk': how many values and letters a reading holds, each counted each time it is reached (what is shared counts as often as it is met; a slice's spare places count too). A statement '..UptoSaid' is the law's where the arguments, and the package variables that the reading takes, are together of bulk at most 1048576: NARROWER than '..Said'. Prove '..Said' where nothing that the law and all that it calls make is longer than what came in: it says more and counts as full. Else prove '..UptoSaid'. A law counts once. -/
mutual
def uptoBulk {H : Type} : DataW H → Nat
  | .lit (.string bytes) => bytes.length + 1
  | .lit _ => 1
  | .nil => 1
  | .ptr d => uptoBulk d + 1
  | .slice elems spare => uptoBulkAll elems + uptoBulkAll spare + 1
  | .agg parts => uptoBulkAll parts + 1
  | .iface _ d => uptoBulk d + 1
  | .map entries => uptoBulkEntries entries + 1
  | .held _ => 1
def uptoBulkAll {H : Type} : List (DataW H) → Nat
  | [] => 0
  | d :: r => uptoBulk d + uptoBulkAll r
def uptoBulkEntries {H : Type} : List (Lit × DataW H) → Nat
  | [] => 0
  | x :: r => uptoBulkEntry x + uptoBulkEntries r
def uptoBulkEntry {H : Type} : Lit × DataW H → Nat
  | (.string bytes, d) => bytes.length + uptoBulk d + 1
  | (_, d) => uptoBulk d + 1
 end
def uptoSmall : (H : Type) → List (DataW H) → Bool := fun _ ds => decide (uptoBulkAll ds ≤ 1048576)
def OpenSpec.upto (s : _root_.Go.ChangeSpec) : _root_.Go.OpenSpec := { _root_.Go.OpenSpec.ofChange s with cond := some uptoSmall }

/-- 'laws.FnExactHintOf', WHERE WHAT IT READS IS OF BULK AT MOST 1048576: true; the input reads as it did. -/
def fnExactHintOfUptoRow : OpenClaim := { program := "ythikcnbjfnkglaa", sum := "ce4b7856d88304f760b5cc9a5bded353c14dd146e0a773097eca2a3c58d50f80", func := "loop.example/g01304/laws.FnExactHintOf", spec := "fnExactHintOf", apart := false, narrowed := true }
def FnExactHintOfUptoSaid : Prop := fnExactHintOfUptoRow.holds Try.pinned (OpenSpec.upto fnExactHintOfSpec)

/-- 'laws.FnExactAreHints', WHERE WHAT IT READS IS OF BULK AT MOST 1048576: true; the input reads as it did. -/
def fnExactAreHintsUptoRow : OpenClaim := { program := "ythikcnbjfnkglaa", sum := "ce4b7856d88304f760b5cc9a5bded353c14dd146e0a773097eca2a3c58d50f80", func := "loop.example/g01304/laws.FnExactAreHints", spec := "fnExactAreHints", unfollowed := true, recurses := true, apart := false, narrowed := true }
def FnExactAreHintsUptoSaid : Prop := fnExactAreHintsUptoRow.holds Try.pinned (OpenSpec.upto fnExactAreHintsSpec)

/-- 'laws.FnExactCountWithHint', WHERE WHAT IT READS IS OF BULK AT MOST 1048576: true; the input reads as it did. -/
def fnExactCountWithHintUptoRow : OpenClaim := { program := "ythikcnbjfnkglaa", sum := "ce4b7856d88304f760b5cc9a5bded353c14dd146e0a773097eca2a3c58d50f80", func := "loop.example/g01304/laws.FnExactCountWithHint", spec := "fnExactCountWithHint", unfollowed := true, recurses := true, apart := false, narrowed := true }
def FnExactCountWithHintUptoSaid : Prop := fnExactCountWithHintUptoRow.holds Try.pinned (OpenSpec.upto fnExactCountWithHintSpec)

/-- 'laws.FnExactFitsHints', WHERE WHAT IT READS IS OF BULK AT MOST 1048576: true; the input reads as it did. -/
def fnExactFitsHintsUptoRow : OpenClaim := { program := "ythikcnbjfnkglaa", sum := "ce4b7856d88304f760b5cc9a5bded353c14dd146e0a773097eca2a3c58d50f80", func := "loop.example/g01304/laws.FnExactFitsHints", spec := "fnExactFitsHints", unfollowed := true, recurses := true, apart := false, narrowed := true }
def FnExactFitsHintsUptoSaid : Prop := fnExactFitsHintsUptoRow.holds Try.pinned (OpenSpec.upto fnExactFitsHintsSpec)

/-- 'laws.FnExactMostGuesses', WHERE WHAT IT READS IS OF BULK AT MOST 1048576: true; the input reads as it did. -/
def fnExactMostGuessesUptoRow : OpenClaim := { program := "ythikcnbjfnkglaa", sum := "ce4b7856d88304f760b5cc9a5bded353c14dd146e0a773097eca2a3c58d50f80", func := "loop.example/g01304/laws.FnExactMostGuesses", spec := "fnExactMostGuesses", unfollowed := true, recurses := true, apart := false, narrowed := true }
def FnExactMostGuessesUptoSaid : Prop := fnExactMostGuessesUptoRow.holds Try.pinned (OpenSpec.upto fnExactMostGuessesSpec)

/-- 'laws.FnExactCountGuesses', WHERE WHAT IT READS IS OF BULK AT MOST 1048576: true; the input reads as it did. -/
def fnExactCountGuessesUptoRow : OpenClaim := { program := "ythikcnbjfnkglaa", sum := "ce4b7856d88304f760b5cc9a5bded353c14dd146e0a773097eca2a3c58d50f80", func := "loop.example/g01304/laws.FnExactCountGuesses", spec := "fnExactCountGuesses", unfollowed := true, recurses := true, apart := false, narrowed := true }
def FnExactCountGuessesUptoSaid : Prop := fnExactCountGuessesUptoRow.holds Try.pinned (OpenSpec.upto fnExactCountGuessesSpec)

/-- 'laws.FnExactHardestCodes', WHERE WHAT IT READS IS OF BULK AT MOST 1048576: true; the input reads as it did. -/
def fnExactHardestCodesUptoRow : OpenClaim := { program := "ythikcnbjfnkglaa", sum := "ce4b7856d88304f760b5cc9a5bded353c14dd146e0a773097eca2a3c58d50f80", func := "loop.example/g01304/laws.FnExactHardestCodes", spec := "fnExactHardestCodes", unfollowed := true, recurses := true, apart := false, narrowed := true }
def FnExactHardestCodesUptoSaid : Prop := fnExactHardestCodesUptoRow.holds Try.pinned (OpenSpec.upto fnExactHardestCodesSpec)

/-- 'laws.FnExactCountFitting', WHERE WHAT IT READS IS OF BULK AT MOST 1048576: true; the input reads as it did. -/
def fnExactCountFittingUptoRow : OpenClaim := { program := "ythikcnbjfnkglaa", sum := "ce4b7856d88304f760b5cc9a5bded353c14dd146e0a773097eca2a3c58d50f80", func := "loop.example/g01304/laws.FnExactCountFitting", spec := "fnExactCountFitting", unfollowed := true, recurses := true, apart := false, narrowed := true }
def FnExactCountFittingUptoSaid : Prop := fnExactCountFittingUptoRow.holds Try.pinned (OpenSpec.upto fnExactCountFittingSpec)

/-- 'laws.FnExactPlayFirst', WHERE WHAT IT READS IS OF BULK AT MOST 1048576: true; the input reads as it did. -/
def fnExactPlayFirstUptoRow : OpenClaim := { program := "ythikcnbjfnkglaa", sum := "ce4b7856d88304f760b5cc9a5bded353c14dd146e0a773097eca2a3c58d50f80", func := "loop.example/g01304/laws.FnExactPlayFirst", spec := "fnExactPlayFirst", unfollowed := true, recurses := true, apart := false, narrowed := true }
def FnExactPlayFirstUptoSaid : Prop := fnExactPlayFirstUptoRow.holds Try.pinned (OpenSpec.upto fnExactPlayFirstSpec)

/-- 'laws.FnExactFittingCodes', WHERE WHAT IT READS IS OF BULK AT MOST 1048576: true; the input reads as it did. -/
def fnExactFittingCodesUptoRow : OpenClaim := { program := "ythikcnbjfnkglaa", sum := "ce4b7856d88304f760b5cc9a5bded353c14dd146e0a773097eca2a3c58d50f80", func := "loop.example/g01304/laws.FnExactFittingCodes", spec := "fnExactFittingCodes", unfollowed := true, recurses := true, apart := false, narrowed := true }
def FnExactFittingCodesUptoSaid : Prop := fnExactFittingCodesUptoRow.holds Try.pinned (OpenSpec.upto fnExactFittingCodesSpec)

/-- 'laws.FnExactNeedlessHints', WHERE WHAT IT READS IS OF BULK AT MOST 1048576: true; the input reads as it did. -/
def fnExactNeedlessHintsUptoRow : OpenClaim := { program := "ythikcnbjfnkglaa", sum := "ce4b7856d88304f760b5cc9a5bded353c14dd146e0a773097eca2a3c58d50f80", func := "loop.example/g01304/laws.FnExactNeedlessHints", spec := "fnExactNeedlessHints", unfollowed := true, recurses := true, apart := false, narrowed := true }
def FnExactNeedlessHintsUptoSaid : Prop := fnExactNeedlessHintsUptoRow.holds Try.pinned (OpenSpec.upto fnExactNeedlessHintsSpec)

/-- 'laws.FnExactPossibleHints', WHERE WHAT IT READS IS OF BULK AT MOST 1048576: true; the input reads as it did. -/
def fnExactPossibleHintsUptoRow : OpenClaim := { program := "ythikcnbjfnkglaa", sum := "ce4b7856d88304f760b5cc9a5bded353c14dd146e0a773097eca2a3c58d50f80", func := "loop.example/g01304/laws.FnExactPossibleHints", spec := "fnExactPossibleHints", unfollowed := true, recurses := true, apart := false, narrowed := true }
def FnExactPossibleHintsUptoSaid : Prop := fnExactPossibleHintsUptoRow.holds Try.pinned (OpenSpec.upto fnExactPossibleHintsSpec)

end Rows
end Go.Proofs.Ythikcnbjfnkglaa
