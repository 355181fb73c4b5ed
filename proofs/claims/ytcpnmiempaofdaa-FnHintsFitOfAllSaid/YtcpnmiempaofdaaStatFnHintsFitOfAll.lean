-- Printed by hp.py, a program of this session: a machine's side of laws, out of the translation; Lean checks it.
import Derived.Test.YtcpnmiempaofdaaFx14
namespace Go.Proofs.Ytcpnmiempaofdaa.F
open Go.RowKit Go.Proofs.Ytcpnmiempaofdaa.F Go.Proofs.YtcpnmiempaofdaaW.PrintWords Go.Proofs.YtcpnmiempaofdaaW.PrintLast Go.Proofs.YtcpnmiempaofdaaW.PrintMore
/-- The pure statement of the law. -/
def laws_FnHintsFitOfAll.Pure : Prop := ∀ (a0_0 : Int) (a0_1 : Int) (a1 : ByteArray) (a2 : ByteArray) (a3_0 : Int) (a3_1 : Int) (l4 : List (S31)) (a5 : ByteArray), (Lit.int .i64 a0_0).wf = true → (Lit.int .i64 a0_1).wf = true → a1.size ≤ maxLen → a2.size ≤ maxLen → (Lit.int .i64 a3_0).wf = true → (Lit.int .i64 a3_1).wf = true → (l4.length ≤ maxLen ∧ ∀ v_ ∈ l4, (v_.f0.size ≤ maxLen ∧ (Lit.int .i64 v_.f1).wf = true ∧ (Lit.int .i64 v_.f2).wf = true)) → a5.size ≤ maxLen → ∃ k, laws_FnHintsFitOfAll.f k a0_0 a0_1 a1 a2 a3_0 a3_1 l4 a5 = some true
end Go.Proofs.Ytcpnmiempaofdaa.F
