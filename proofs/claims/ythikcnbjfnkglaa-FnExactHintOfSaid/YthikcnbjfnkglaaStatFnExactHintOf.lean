-- Printed by hp.py, a program of this session: a machine's side of laws, out of the translation; Lean checks it.
import Derived.Test.YthikcnbjfnkglaaQx3
namespace Go.Proofs.Ythikcnbjfnkglaa.Q
open Go.RowKit Go.Proofs.Ythikcnbjfnkglaa.Q Go.Proofs.YthikcnbjfnkglaaW.PrintWords Go.Proofs.YthikcnbjfnkglaaW.PrintLast Go.Proofs.YthikcnbjfnkglaaW.PrintMore
/-- The pure statement of the law. -/
def laws_FnExactHintOf.Pure : Prop := ∀ (a0_0 : Int) (a0_1 : Int) (a1 : ByteArray) (a2 : ByteArray), (Lit.int .i64 a0_0).wf = true → (Lit.int .i64 a0_1).wf = true → a1.size ≤ maxLen → a2.size ≤ maxLen → ∃ k, laws_FnExactHintOf.f k a0_0 a0_1 a1 a2 = some true
end Go.Proofs.Ythikcnbjfnkglaa.Q
