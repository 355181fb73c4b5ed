-- Printed by hp.py, a program of this session: a machine's side of laws, out of the translation; Lean checks it.
import Derived.Test.YthikcnbjfnkglaaSx10
namespace Go.Proofs.Ythikcnbjfnkglaa.S
open Go.RowKit Go.Proofs.Ythikcnbjfnkglaa.S Go.Proofs.YthikcnbjfnkglaaW.PrintWords Go.Proofs.YthikcnbjfnkglaaW.PrintLast Go.Proofs.YthikcnbjfnkglaaW.PrintMore
/-- The pure statement of the law. -/
def laws_FnExactHardestCodes.Pure : Prop := ∀ (a0_0 : Int) (a0_1 : Int), (Lit.int .i64 a0_0).wf = true → (Lit.int .i64 a0_1).wf = true → ∃ k, laws_FnExactHardestCodes.f k a0_0 a0_1 = some true
end Go.Proofs.Ythikcnbjfnkglaa.S
