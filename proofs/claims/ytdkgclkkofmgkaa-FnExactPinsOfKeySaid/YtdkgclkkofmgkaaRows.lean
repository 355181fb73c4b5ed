/-
  No cell of these rows narrows 'for every input' (looked for: loops, veiled, ifaces, maps, wideKeys, modest, calm, conditions, laid).
  DERIVED. THE GIVEN ROWS OF THIS SEAT. 8 by the template 'for every input the law returns true; each argument reads behind the call as it read before'; 0 by the template 'total and deterministic' (their statements: YtdkgclkkofmgkaaTotals.lean).
  GIVEN WITH THE SEED: the statements are not yours to turn. If you find one false, say at which input.
  Laid BY PROGRAM, IN A SANDBOX (cutbox-rows.mjs): the forced cells as the released guide's own fill.sh prints them over the translation 487f4a04c1a27ee9… (all of the seat's roots in one cut). By AI agents, Wed Nov 11 2026. No macro, syntax, notation, axiom, sorry.
-/
import Derived.Test.YtdkgclkkofmgkaaChecked
import GoSem.Claim
import GoSem.ClaimJoined
import GoSem.ClaimMapViews
import Derived.JoinedTies
import Derived.KernelRfl
namespace Go.Proofs.Ytdkgclkkofmgkaa
/- THE CELL 'sum', in the pinned program and in every row, IS THE sha256 OF THE DUMP (.gsa) THAT YtdkgclkkofmgkaaProg.lean LOADS. Nothing in Lean hashes anything: it is a label: what it is worth is what the hold of that sum in a sandbox is worth. -/
noncomputable def Try.pinned : Pinned := { name := "ytdkgclkkofmgkaa", sum := "487f4a04c1a27ee99508c871d61ab91a848375ee397ee5dd02b2af3e47e76f6a", checked := Try.checked }
namespace Rows
def none {H : Type} : Left H := { results := [], args := [] }

/-- 'laws.FnExactPinsOfKey': WHATEVER THE INPUT: true; the input reads as it did. -/
def fnExactPinsOfKeySpec : ChangeSpec := { name := "fnExactPinsOfKey", fn := fun _ => fun
  | [d1, d2] => { results := [.lit (.bool true)], args := [d1, d2] }
  | _ => none }
def fnExactPinsOfKeyRow : OpenClaim := { program := "ytdkgclkkofmgkaa", sum := "487f4a04c1a27ee99508c871d61ab91a848375ee397ee5dd02b2af3e47e76f6a", func := "loop.example/g01304/laws.FnExactPinsOfKey", spec := "fnExactPinsOfKey", apart := false }
def FnExactPinsOfKeySaid : Prop := fnExactPinsOfKeyRow.holds Try.pinned (OpenSpec.ofChange fnExactPinsOfKeySpec)

/-- ITS FALSE NEIGHBOUR: 'it returns false'. Refute it at one input. -/
def fnExactPinsOfKeyWrong : ChangeSpec := { name := "fnExactPinsOfKey", fn := fun _ => fun
  | [d1, d2] => { results := [.lit (.bool false)], args := [d1, d2] }
  | _ => none }
def FnExactPinsOfKeyWrongFalsely : Prop := fnExactPinsOfKeyRow.holds Try.pinned (OpenSpec.ofChange fnExactPinsOfKeyWrong)

/-- 'laws.FnExactArePins': WHATEVER THE INPUT: true; the input reads as it did. -/
def fnExactArePinsSpec : ChangeSpec := { name := "fnExactArePins", fn := fun _ => fun
  | [d] => { results := [.lit (.bool true)], args := [d] }
  | _ => none }
def fnExactArePinsRow : OpenClaim := { program := "ytdkgclkkofmgkaa", sum := "487f4a04c1a27ee99508c871d61ab91a848375ee397ee5dd02b2af3e47e76f6a", func := "loop.example/g01304/laws.FnExactArePins", spec := "fnExactArePins", unfollowed := true, recurses := true, apart := false }
def FnExactArePinsSaid : Prop := fnExactArePinsRow.holds Try.pinned (OpenSpec.ofChange fnExactArePinsSpec)

/-- ITS FALSE NEIGHBOUR: 'it returns false'. Refute it at one input. -/
def fnExactArePinsWrong : ChangeSpec := { name := "fnExactArePins", fn := fun _ => fun
  | [d] => { results := [.lit (.bool false)], args := [d] }
  | _ => none }
def FnExactArePinsWrongFalsely : Prop := fnExactArePinsRow.holds Try.pinned (OpenSpec.ofChange fnExactArePinsWrong)

/-- 'laws.FnExactCountSmooth': WHATEVER THE INPUT: true; the input reads as it did. -/
def fnExactCountSmoothSpec : ChangeSpec := { name := "fnExactCountSmooth", fn := fun _ => fun
  | [d1, d2, d3] => { results := [.lit (.bool true)], args := [d1, d2, d3] }
  | _ => none }
def fnExactCountSmoothRow : OpenClaim := { program := "ytdkgclkkofmgkaa", sum := "487f4a04c1a27ee99508c871d61ab91a848375ee397ee5dd02b2af3e47e76f6a", func := "loop.example/g01304/laws.FnExactCountSmooth", spec := "fnExactCountSmooth", apart := false }
def FnExactCountSmoothSaid : Prop := fnExactCountSmoothRow.holds Try.pinned (OpenSpec.ofChange fnExactCountSmoothSpec)

/-- ITS FALSE NEIGHBOUR: 'it returns false'. Refute it at one input. -/
def fnExactCountSmoothWrong : ChangeSpec := { name := "fnExactCountSmooth", fn := fun _ => fun
  | [d1, d2, d3] => { results := [.lit (.bool false)], args := [d1, d2, d3] }
  | _ => none }
def FnExactCountSmoothWrongFalsely : Prop := fnExactCountSmoothRow.holds Try.pinned (OpenSpec.ofChange fnExactCountSmoothWrong)

/-- 'laws.FnExactCountKeys': WHATEVER THE INPUT: true; the input reads as it did. -/
def fnExactCountKeysSpec : ChangeSpec := { name := "fnExactCountKeys", fn := fun _ => fun
  | [d] => { results := [.lit (.bool true)], args := [d] }
  | _ => none }
def fnExactCountKeysRow : OpenClaim := { program := "ytdkgclkkofmgkaa", sum := "487f4a04c1a27ee99508c871d61ab91a848375ee397ee5dd02b2af3e47e76f6a", func := "loop.example/g01304/laws.FnExactCountKeys", spec := "fnExactCountKeys", unfollowed := true, recurses := true, apart := false }
def FnExactCountKeysSaid : Prop := fnExactCountKeysRow.holds Try.pinned (OpenSpec.ofChange fnExactCountKeysSpec)

/-- ITS FALSE NEIGHBOUR: 'it returns false'. Refute it at one input. -/
def fnExactCountKeysWrong : ChangeSpec := { name := "fnExactCountKeys", fn := fun _ => fun
  | [d] => { results := [.lit (.bool false)], args := [d] }
  | _ => none }
def FnExactCountKeysWrongFalsely : Prop := fnExactCountKeysRow.holds Try.pinned (OpenSpec.ofChange fnExactCountKeysWrong)

/-- 'laws.FnExactIsKey': WHATEVER THE INPUT: true; the input reads as it did. -/
def fnExactIsKeySpec : ChangeSpec := { name := "fnExactIsKey", fn := fun _ => fun
  | [d1, d2] => { results := [.lit (.bool true)], args := [d1, d2] }
  | _ => none }
def fnExactIsKeyRow : OpenClaim := { program := "ytdkgclkkofmgkaa", sum := "487f4a04c1a27ee99508c871d61ab91a848375ee397ee5dd02b2af3e47e76f6a", func := "loop.example/g01304/laws.FnExactIsKey", spec := "fnExactIsKey", unfollowed := true, recurses := true, apart := false }
def FnExactIsKeySaid : Prop := fnExactIsKeyRow.holds Try.pinned (OpenSpec.ofChange fnExactIsKeySpec)

/-- ITS FALSE NEIGHBOUR: 'it returns false'. Refute it at one input. -/
def fnExactIsKeyWrong : ChangeSpec := { name := "fnExactIsKey", fn := fun _ => fun
  | [d1, d2] => { results := [.lit (.bool false)], args := [d1, d2] }
  | _ => none }
def FnExactIsKeyWrongFalsely : Prop := fnExactIsKeyRow.holds Try.pinned (OpenSpec.ofChange fnExactIsKeyWrong)

/-- 'laws.FnExactRankOfSmooth': WHATEVER THE INPUT: true; the input reads as it did. -/
def fnExactRankOfSmoothSpec : ChangeSpec := { name := "fnExactRankOfSmooth", fn := fun _ => fun
  | [d1, d2, d3] => { results := [.lit (.bool true)], args := [d1, d2, d3] }
  | _ => none }
def fnExactRankOfSmoothRow : OpenClaim := { program := "ytdkgclkkofmgkaa", sum := "487f4a04c1a27ee99508c871d61ab91a848375ee397ee5dd02b2af3e47e76f6a", func := "loop.example/g01304/laws.FnExactRankOfSmooth", spec := "fnExactRankOfSmooth", apart := false }
def FnExactRankOfSmoothSaid : Prop := fnExactRankOfSmoothRow.holds Try.pinned (OpenSpec.ofChange fnExactRankOfSmoothSpec)

/-- ITS FALSE NEIGHBOUR: 'it returns false'. Refute it at one input. -/
def fnExactRankOfSmoothWrong : ChangeSpec := { name := "fnExactRankOfSmooth", fn := fun _ => fun
  | [d1, d2, d3] => { results := [.lit (.bool false)], args := [d1, d2, d3] }
  | _ => none }
def FnExactRankOfSmoothWrongFalsely : Prop := fnExactRankOfSmoothRow.holds Try.pinned (OpenSpec.ofChange fnExactRankOfSmoothWrong)

/-- 'laws.FnExactSmoothOfRank': WHATEVER THE INPUT: true; the input reads as it did. -/
def fnExactSmoothOfRankSpec : ChangeSpec := { name := "fnExactSmoothOfRank", fn := fun _ => fun
  | [d1, d2, d3, d4] => { results := [.lit (.bool true)], args := [d1, d2, d3, d4] }
  | _ => none }
def fnExactSmoothOfRankRow : OpenClaim := { program := "ytdkgclkkofmgkaa", sum := "487f4a04c1a27ee99508c871d61ab91a848375ee397ee5dd02b2af3e47e76f6a", func := "loop.example/g01304/laws.FnExactSmoothOfRank", spec := "fnExactSmoothOfRank", recurses := true, apart := false }
def FnExactSmoothOfRankSaid : Prop := fnExactSmoothOfRankRow.holds Try.pinned (OpenSpec.ofChange fnExactSmoothOfRankSpec)

/-- ITS FALSE NEIGHBOUR: 'it returns false'. Refute it at one input. -/
def fnExactSmoothOfRankWrong : ChangeSpec := { name := "fnExactSmoothOfRank", fn := fun _ => fun
  | [d1, d2, d3, d4] => { results := [.lit (.bool false)], args := [d1, d2, d3, d4] }
  | _ => none }
def FnExactSmoothOfRankWrongFalsely : Prop := fnExactSmoothOfRankRow.holds Try.pinned (OpenSpec.ofChange fnExactSmoothOfRankWrong)

/-- 'laws.FnExactDoesOpen': WHATEVER THE INPUT: true; the input reads as it did. -/
def fnExactDoesOpenSpec : ChangeSpec := { name := "fnExactDoesOpen", fn := fun _ => fun
  | [d1, d2] => { results := [.lit (.bool true)], args := [d1, d2] }
  | _ => none }
def fnExactDoesOpenRow : OpenClaim := { program := "ytdkgclkkofmgkaa", sum := "487f4a04c1a27ee99508c871d61ab91a848375ee397ee5dd02b2af3e47e76f6a", func := "loop.example/g01304/laws.FnExactDoesOpen", spec := "fnExactDoesOpen", unfollowed := true, recurses := true, apart := false }
def FnExactDoesOpenSaid : Prop := fnExactDoesOpenRow.holds Try.pinned (OpenSpec.ofChange fnExactDoesOpenSpec)

/-- ITS FALSE NEIGHBOUR: 'it returns false'. Refute it at one input. -/
def fnExactDoesOpenWrong : ChangeSpec := { name := "fnExactDoesOpen", fn := fun _ => fun
  | [d1, d2] => { results := [.lit (.bool false)], args := [d1, d2] }
  | _ => none }
def FnExactDoesOpenWrongFalsely : Prop := fnExactDoesOpenRow.holds Try.pinned (OpenSpec.ofChange fnExactDoesOpenWrong)

/- THE SECOND FORM. 'bulk': how many values and letters a reading holds, each counted each time it is reached (what is shared counts as often as it is met; a slice's spare places count too). A statement '..UptoSaid' is the law's where the arguments, and the package variables that the reading takes, are together of bulk at most 1048576: NARROWER than '..Said'. Prove '..Said' where nothing that the law and all that it calls make is longer than what came in: it says more and counts as full. Else prove '..UptoSaid'. A law counts once. -/
mutual
def uptoBulk {H : Type} : DataW H → Nat
  | .lit (.string bytes) => bytes.length + 1
  | .lit _ => 1
  | .nil => 1
  | .ptr d => uptoBulk d + 1
  | .slice elems spare => uptoBulkAll elems + uptoBulkAll spare + 1
  | .agg parts => uptoBulkAll parts + 1
  | .iface _ d => uptoBulk d + 1
  | .map entries => uptoBulkEntries entries + 1
  | .held _ => 1
def uptoBulkAll {H : Type} : List (DataW H) → Nat
  | [] => 0
  | d :: r => uptoBulk d + uptoBulkAll r
def uptoBulkEntries {H : Type} : List (Lit × DataW H) → Nat
  | [] => 0
  | x :: r => uptoBulkEntry x + uptoBulkEntries r
def uptoBulkEntry {H : Type} : Lit × DataW H → Nat
  | (.string bytes, d) => bytes.length + uptoBulk d + 1
  | (_, d) => uptoBulk d + 1
 end
def uptoSmall : (H : Type) → List (DataW H) → Bool := fun _ ds => decide (uptoBulkAll ds ≤ 1048576)
def OpenSpec.upto (s : _root_.Go.ChangeSpec) : _root_.Go.OpenSpec := { _root_.Go.OpenSpec.ofChange s with cond := some uptoSmall }

/-- 'laws.FnExactPinsOfKey', WHERE WHAT IT READS IS OF BULK AT MOST 1048576: true; the input reads as it did. -/
def fnExactPinsOfKeyUptoRow : OpenClaim := { program := "ytdkgclkkofmgkaa", sum := "487f4a04c1a27ee99508c871d61ab91a848375ee397ee5dd02b2af3e47e76f6a", func := "loop.example/g01304/laws.FnExactPinsOfKey", spec := "fnExactPinsOfKey", apart := false, narrowed := true }
def FnExactPinsOfKeyUptoSaid : Prop := fnExactPinsOfKeyUptoRow.holds Try.pinned (OpenSpec.upto fnExactPinsOfKeySpec)

/-- 'laws.FnExactArePins', WHERE WHAT IT READS IS OF BULK AT MOST 1048576: true; the input reads as it did. -/
def fnExactArePinsUptoRow : OpenClaim := { program := "ytdkgclkkofmgkaa", sum := "487f4a04c1a27ee99508c871d61ab91a848375ee397ee5dd02b2af3e47e76f6a", func := "loop.example/g01304/laws.FnExactArePins", spec := "fnExactArePins", unfollowed := true, recurses := true, apart := false, narrowed := true }
def FnExactArePinsUptoSaid : Prop := fnExactArePinsUptoRow.holds Try.pinned (OpenSpec.upto fnExactArePinsSpec)

/-- 'laws.FnExactCountSmooth', WHERE WHAT IT READS IS OF BULK AT MOST 1048576: true; the input reads as it did. -/
def fnExactCountSmoothUptoRow : OpenClaim := { program := "ytdkgclkkofmgkaa", sum := "487f4a04c1a27ee99508c871d61ab91a848375ee397ee5dd02b2af3e47e76f6a", func := "loop.example/g01304/laws.FnExactCountSmooth", spec := "fnExactCountSmooth", apart := false, narrowed := true }
def FnExactCountSmoothUptoSaid : Prop := fnExactCountSmoothUptoRow.holds Try.pinned (OpenSpec.upto fnExactCountSmoothSpec)

/-- 'laws.FnExactCountKeys', WHERE WHAT IT READS IS OF BULK AT MOST 1048576: true; the input reads as it did. -/
def fnExactCountKeysUptoRow : OpenClaim := { program := "ytdkgclkkofmgkaa", sum := "487f4a04c1a27ee99508c871d61ab91a848375ee397ee5dd02b2af3e47e76f6a", func := "loop.example/g01304/laws.FnExactCountKeys", spec := "fnExactCountKeys", unfollowed := true, recurses := true, apart := false, narrowed := true }
def FnExactCountKeysUptoSaid : Prop := fnExactCountKeysUptoRow.holds Try.pinned (OpenSpec.upto fnExactCountKeysSpec)

/-- 'laws.FnExactIsKey', WHERE WHAT IT READS IS OF BULK AT MOST 1048576: true; the input reads as it did. -/
def fnExactIsKeyUptoRow : OpenClaim := { program := "ytdkgclkkofmgkaa", sum := "487f4a04c1a27ee99508c871d61ab91a848375ee397ee5dd02b2af3e47e76f6a", func := "loop.example/g01304/laws.FnExactIsKey", spec := "fnExactIsKey", unfollowed := true, recurses := true, apart := false, narrowed := true }
def FnExactIsKeyUptoSaid : Prop := fnExactIsKeyUptoRow.holds Try.pinned (OpenSpec.upto fnExactIsKeySpec)

/-- 'laws.FnExactRankOfSmooth', WHERE WHAT IT READS IS OF BULK AT MOST 1048576: true; the input reads as it did. -/
def fnExactRankOfSmoothUptoRow : OpenClaim := { program := "ytdkgclkkofmgkaa", sum := "487f4a04c1a27ee99508c871d61ab91a848375ee397ee5dd02b2af3e47e76f6a", func := "loop.example/g01304/laws.FnExactRankOfSmooth", spec := "fnExactRankOfSmooth", apart := false, narrowed := true }
def FnExactRankOfSmoothUptoSaid : Prop := fnExactRankOfSmoothUptoRow.holds Try.pinned (OpenSpec.upto fnExactRankOfSmoothSpec)

/-- 'laws.FnExactSmoothOfRank', WHERE WHAT IT READS IS OF BULK AT MOST 1048576: true; the input reads as it did. -/
def fnExactSmoothOfRankUptoRow : OpenClaim := { program := "ytdkgclkkofmgkaa", sum := "487f4a04c1a27ee99508c871d61ab91a848375ee397ee5dd02b2af3e47e76f6a", func := "loop.example/g01304/laws.FnExactSmoothOfRank", spec := "fnExactSmoothOfRank", recurses := true, apart := false, narrowed := true }
def FnExactSmoothOfRankUptoSaid : Prop := fnExactSmoothOfRankUptoRow.holds Try.pinned (OpenSpec.upto fnExactSmoothOfRankSpec)

/-- 'laws.FnExactDoesOpen', WHERE WHAT IT READS IS OF BULK AT MOST 1048576: true; the input reads as it did. -/
def fnExactDoesOpenUptoRow : OpenClaim := { program := "ytdkgclkkofmgkaa", sum := "487f4a04c1a27ee99508c871d61ab91a848375ee397ee5dd02b2af3e47e76f6a", func := "loop.example/g01304/laws.FnExactDoesOpen", spec := "fnExactDoesOpen", unfollowed := true, recurses := true, apart := false, narrowed := true }
def FnExactDoesOpenUptoSaid : Prop := fnExactDoesOpenUptoRow.holds Try.pinned (OpenSpec.upto fnExactDoesOpenSpec)

end Rows
end Go.Proofs.Ytdkgclkkofmgkaa
