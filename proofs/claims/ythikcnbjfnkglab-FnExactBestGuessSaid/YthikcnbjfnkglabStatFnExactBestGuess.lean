-- Printed by hp.py, a program of this session: a machine's side of laws, out of the translation; Lean checks it.
import Derived.Test.YthikcnbjfnkglabQx9
namespace Go.Proofs.Ythikcnbjfnkglab.Q
open Go.RowKit Go.Proofs.Ythikcnbjfnkglab.Q Go.Proofs.YthikcnbjfnkglabW.PrintWords Go.Proofs.YthikcnbjfnkglabW.PrintLast Go.Proofs.YthikcnbjfnkglabW.PrintMore
/-- The pure statement of the law. -/
def laws_FnExactBestGuess.Pure : Prop := ∀ (a0_0 : Int) (a0_1 : Int) (l1 : List (S74)), (Lit.int .i64 a0_0).wf = true → (Lit.int .i64 a0_1).wf = true → (l1.length ≤ maxLen ∧ ∀ v_ ∈ l1, (v_.f0.size ≤ maxLen ∧ (Lit.int .i64 v_.f1).wf = true ∧ (Lit.int .i64 v_.f2).wf = true)) → ∃ k, laws_FnExactBestGuess.f k a0_0 a0_1 l1 = some true
end Go.Proofs.Ythikcnbjfnkglab.Q
