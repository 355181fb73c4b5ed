-- Printed by hp.py, a program of this session: a machine's side of laws, out of the translation; Lean checks it.
import Derived.Test.YthpmpkmdjpaemaaOx19
namespace Go.Proofs.Ythpmpkmdjpaemaa.O
open Go.RowKit Go.Proofs.Ythpmpkmdjpaemaa.O Go.Proofs.YthpmpkmdjpaemaaW.PrintWords Go.Proofs.YthpmpkmdjpaemaaW.PrintLast Go.Proofs.YthpmpkmdjpaemaaW.PrintMore
/-- The pure statement of the law. -/
def laws_FnOrdersWholeOfAll.Pure : Prop := ∀ (a0_0 : Int) (a0_1 : Int) (l1 : List ByteArray) (a2_0 : Int) (a2_1 : Int), (Lit.int .i64 a0_0).wf = true → (Lit.int .i64 a0_1).wf = true → (l1.length ≤ maxLen ∧ ∀ v_ ∈ l1, v_.size ≤ maxLen) → (Lit.int .i64 a2_0).wf = true → (Lit.int .i64 a2_1).wf = true → ∃ k, laws_FnOrdersWholeOfAll.f k a0_0 a0_1 l1 a2_0 a2_1 = some true
end Go.Proofs.Ythpmpkmdjpaemaa.O
