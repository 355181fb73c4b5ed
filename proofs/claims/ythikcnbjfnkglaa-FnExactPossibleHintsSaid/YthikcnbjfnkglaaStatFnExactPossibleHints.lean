-- Printed by hp.py, a program of this session: a machine's side of laws, out of the translation; Lean checks it.
import Derived.Test.YthikcnbjfnkglaaVx9
namespace Go.Proofs.Ythikcnbjfnkglaa.V
open Go.RowKit Go.Proofs.Ythikcnbjfnkglaa.V Go.Proofs.YthikcnbjfnkglaaW.PrintWords Go.Proofs.YthikcnbjfnkglaaW.PrintLast Go.Proofs.YthikcnbjfnkglaaW.PrintMore
/-- The pure statement of the law. -/
def laws_FnExactPossibleHints.Pure : Prop := ∀ (a0_0 : Int) (a0_1 : Int), (Lit.int .i64 a0_0).wf = true → (Lit.int .i64 a0_1).wf = true → ∃ k, laws_FnExactPossibleHints.f k a0_0 a0_1 = some true
end Go.Proofs.Ythikcnbjfnkglaa.V
