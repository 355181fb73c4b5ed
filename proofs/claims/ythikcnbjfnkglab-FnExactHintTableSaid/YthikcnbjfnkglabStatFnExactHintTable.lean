-- Printed by hp.py, a program of this session: a machine's side of laws, out of the translation; Lean checks it.
import Derived.Test.YthikcnbjfnkglabTx10
namespace Go.Proofs.Ythikcnbjfnkglab.T
open Go.RowKit Go.Proofs.Ythikcnbjfnkglab.T Go.Proofs.YthikcnbjfnkglabW.PrintWords Go.Proofs.YthikcnbjfnkglabW.PrintLast Go.Proofs.YthikcnbjfnkglabW.PrintMore
/-- The pure statement of the law. -/
def laws_FnExactHintTable.Pure : Prop := ∀ (a0_0 : Int) (a0_1 : Int) (l1 : List (S74)) (a2 : ByteArray), (Lit.int .i64 a0_0).wf = true → (Lit.int .i64 a0_1).wf = true → (l1.length ≤ maxLen ∧ ∀ v_ ∈ l1, (v_.f0.size ≤ maxLen ∧ (Lit.int .i64 v_.f1).wf = true ∧ (Lit.int .i64 v_.f2).wf = true)) → a2.size ≤ maxLen → ∃ k, laws_FnExactHintTable.f k a0_0 a0_1 l1 a2 = some true
end Go.Proofs.Ythikcnbjfnkglab.T
