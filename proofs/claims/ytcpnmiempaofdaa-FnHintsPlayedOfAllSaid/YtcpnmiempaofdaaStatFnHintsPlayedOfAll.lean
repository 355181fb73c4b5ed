-- Printed by hp.py, a program of this session: a machine's side of laws, out of the translation; Lean checks it.
import Derived.Test.YtcpnmiempaofdaaAx12
namespace Go.Proofs.Ytcpnmiempaofdaa.A
open Go.RowKit Go.Proofs.Ytcpnmiempaofdaa.A Go.Proofs.YtcpnmiempaofdaaW.PrintWords Go.Proofs.YtcpnmiempaofdaaW.PrintLast Go.Proofs.YtcpnmiempaofdaaW.PrintMore
/-- The pure statement of the law. -/
def laws_FnHintsPlayedOfAll.Pure : Prop := ∀ (a0_0 : Int) (a0_1 : Int) (a1 : ByteArray) (a2_0 : Int) (a2_1 : Int) (a3_0 : Int) (a3_1 : Int) (a4 : Int) (a5 : Int), (Lit.int .i64 a0_0).wf = true → (Lit.int .i64 a0_1).wf = true → a1.size ≤ maxLen → (Lit.int .i64 a2_0).wf = true → (Lit.int .i64 a2_1).wf = true → (Lit.int .i64 a3_0).wf = true → (Lit.int .i64 a3_1).wf = true → (Lit.int .i64 a4).wf = true → (Lit.int .i64 a5).wf = true → ∃ k, laws_FnHintsPlayedOfAll.f k a0_0 a0_1 a1 a2_0 a2_1 a3_0 a3_1 a4 a5 = some true
end Go.Proofs.Ytcpnmiempaofdaa.A
