/-
  No cell of these rows narrows 'for every input' (looked for: loops, veiled, ifaces, maps, wideKeys, modest, calm, conditions, laid).
  DERIVED. THE GIVEN ROWS OF THIS SEAT. 2 by the template 'for every input the law returns true; each argument reads behind the call as it read before'; 0 by the template 'total and deterministic' (their statements: YtcpnmiempaofdaaTotals.lean).
  GIVEN WITH THE SEED: the statements are not yours to turn. If you find one false, say at which input.
  Laid BY PROGRAM, IN A SANDBOX (cutbox-rows.mjs): the forced cells as the released guide's own fill.sh prints them over the translation 30e0224fc612918f… (all of the seat's roots in one cut). By AI agents, Wed Nov 11 2026. No macro, syntax, notation, axiom, sorry.
-/
import Derived.Test.YtcpnmiempaofdaaChecked
import GoSem.Claim
import GoSem.ClaimJoined
import GoSem.ClaimMapViews
import Derived.JoinedTies
import Derived.KernelRfl
namespace Go.Proofs.Ytcpnmiempaofdaa
/- THE CELL 'sum', in the pinned program and in every row, IS THE sha256 OF THE DUMP (.gsa) THAT YtcpnmiempaofdaaProg.lean LOADS. Nothing in Lean hashes anything: it is a label: what it is worth is what the hold of that sum in a sandbox is worth. -/
noncomputable def Try.pinned : Pinned := { name := "ytcpnmiempaofdaa", sum := "30e0224fc612918fe32da0cbc914eb6b7c7c676a06649e384b25f1487e3c05b3", checked := Try.checked }
namespace Rows
def none {H : Type} : Left H := { results := [], args := [] }

/-- 'laws.FnHintsPlayedOfAll': WHATEVER THE INPUT: true; the input reads as it did. -/
def fnHintsPlayedOfAllSpec : ChangeSpec := { name := "fnHintsPlayedOfAll", fn := fun _ => fun
  | [d1, d2, d3, d4, d5, d6] => { results := [.lit (.bool true)], args := [d1, d2, d3, d4, d5, d6] }
  | _ => none }
def fnHintsPlayedOfAllRow : OpenClaim := { program := "ytcpnmiempaofdaa", sum := "30e0224fc612918fe32da0cbc914eb6b7c7c676a06649e384b25f1487e3c05b3", func := "loop.example/g01304/laws.FnHintsPlayedOfAll", spec := "fnHintsPlayedOfAll", unfollowed := true, recurses := true, apart := false }
def FnHintsPlayedOfAllSaid : Prop := fnHintsPlayedOfAllRow.holds Try.pinned (OpenSpec.ofChange fnHintsPlayedOfAllSpec)

/-- ITS FALSE NEIGHBOUR: 'it returns false'. Refute it at one input. -/
def fnHintsPlayedOfAllWrong : ChangeSpec := { name := "fnHintsPlayedOfAll", fn := fun _ => fun
  | [d1, d2, d3, d4, d5, d6] => { results := [.lit (.bool false)], args := [d1, d2, d3, d4, d5, d6] }
  | _ => none }
def FnHintsPlayedOfAllWrongFalsely : Prop := fnHintsPlayedOfAllRow.holds Try.pinned (OpenSpec.ofChange fnHintsPlayedOfAllWrong)

/-- 'laws.FnHintsFitOfAll': WHATEVER THE INPUT: true; the input reads as it did. -/
def fnHintsFitOfAllSpec : ChangeSpec := { name := "fnHintsFitOfAll", fn := fun _ => fun
  | [d1, d2, d3, d4, d5, d6] => { results := [.lit (.bool true)], args := [d1, d2, d3, d4, d5, d6] }
  | _ => none }
def fnHintsFitOfAllRow : OpenClaim := { program := "ytcpnmiempaofdaa", sum := "30e0224fc612918fe32da0cbc914eb6b7c7c676a06649e384b25f1487e3c05b3", func := "loop.example/g01304/laws.FnHintsFitOfAll", spec := "fnHintsFitOfAll", unfollowed := true, recurses := true, apart := false }
def FnHintsFitOfAllSaid : Prop := fnHintsFitOfAllRow.holds Try.pinned (OpenSpec.ofChange fnHintsFitOfAllSpec)

/-- ITS FALSE NEIGHBOUR: 'it returns false'. Refute it at one input. -/
def fnHintsFitOfAllWrong : ChangeSpec := { name := "fnHintsFitOfAll", fn := fun _ => fun
  | [d1, d2, d3, d4, d5, d6] => { results := [.lit (.bool false)], args := [d1, d2, d3, d4, d5, d6] }
  | _ => none }
def FnHintsFitOfAllWrongFalsely : Prop := fnHintsFitOfAllRow.holds Try.pinned (OpenSpec.ofChange fnHintsFitOfAllWrong)

/- THE SECOND FORM. 'bulk': how many values and letters a reading holds, each counted each time it is reached (what is shared counts as often as it is met; a slice's spare places count too). A statement '..UptoSaid' is the law's where the arguments, and the package variables that the reading takes, are together of bulk at most 1048576: NARROWER than '..Said'. Prove '..Said' where nothing that the law and all that it calls make is longer than what came in: it says more and counts as full. Else prove '..UptoSaid'. A law counts once. -/
mutual
def uptoBulk {H : Type} : DataW H → Nat
  | .lit (.string bytes) => bytes.length + 1
  | .lit _ => 1
  | .nil => 1
  | .ptr d => uptoBulk d + 1
  | .slice elems spare => uptoBulkAll elems + uptoBulkAll spare + 1
  | .agg parts => uptoBulkAll parts + 1
  | .iface _ d => uptoBulk d + 1
  | .map entries => uptoBulkEntries entries + 1
  | .held _ => 1
def uptoBulkAll {H : Type} : List (DataW H) → Nat
  | [] => 0
  | d :: r => uptoBulk d + uptoBulkAll r
def uptoBulkEntries {H : Type} : List (Lit × DataW H) → Nat
  | [] => 0
  | x :: r => uptoBulkEntry x + uptoBulkEntries r
def uptoBulkEntry {H : Type} : Lit × DataW H → Nat
  | (.string bytes, d) => bytes.length + uptoBulk d + 1
  | (_, d) => uptoBulk d + 1
 end
def uptoSmall : (H : Type) → List (DataW H) → Bool := fun _ ds => decide (uptoBulkAll ds ≤ 1048576)
def OpenSpec.upto (s : _root_.Go.ChangeSpec) : _root_.Go.OpenSpec := { _root_.Go.OpenSpec.ofChange s with cond := some uptoSmall }

/-- 'laws.FnHintsPlayedOfAll', WHERE WHAT IT READS IS OF BULK AT MOST 1048576: true; the input reads as it did. -/
def fnHintsPlayedOfAllUptoRow : OpenClaim := { program := "ytcpnmiempaofdaa", sum := "30e0224fc612918fe32da0cbc914eb6b7c7c676a06649e384b25f1487e3c05b3", func := "loop.example/g01304/laws.FnHintsPlayedOfAll", spec := "fnHintsPlayedOfAll", unfollowed := true, recurses := true, apart := false, narrowed := true }
def FnHintsPlayedOfAllUptoSaid : Prop := fnHintsPlayedOfAllUptoRow.holds Try.pinned (OpenSpec.upto fnHintsPlayedOfAllSpec)

/-- 'laws.FnHintsFitOfAll', WHERE WHAT IT READS IS OF BULK AT MOST 1048576: true; the input reads as it did. -/
def fnHintsFitOfAllUptoRow : OpenClaim := { program := "ytcpnmiempaofdaa", sum := "30e0224fc612918fe32da0cbc914eb6b7c7c676a06649e384b25f1487e3c05b3", func := "loop.example/g01304/laws.FnHintsFitOfAll", spec := "fnHintsFitOfAll", unfollowed := true, recurses := true, apart := false, narrowed := true }
def FnHintsFitOfAllUptoSaid : Prop := fnHintsFitOfAllUptoRow.holds Try.pinned (OpenSpec.upto fnHintsFitOfAllSpec)

end Rows
end Go.Proofs.Ytcpnmiempaofdaa
