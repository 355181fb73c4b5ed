-- Printed by hp.py, a program of this session: a machine's side of laws, out of the translation; Lean checks it.
import Derived.Test.YtdkgclkkofmgkaaWx2
namespace Go.Proofs.Ytdkgclkkofmgkaa.W
open Go.RowKit Go.Proofs.Ytdkgclkkofmgkaa.W Go.Proofs.YtdkgclkkofmgkaaW.PrintWords Go.Proofs.YtdkgclkkofmgkaaW.PrintLast Go.Proofs.YtdkgclkkofmgkaaW.PrintMore
/-- The pure statement of the law. -/
def laws_FnExactPinsOfKey.Pure : Prop := ∀ (a0 : Int) (a1 : ByteArray), (Lit.int .i64 a0).wf = true → a1.size ≤ maxLen → ∃ k, laws_FnExactPinsOfKey.f k a0 a1 = some true
end Go.Proofs.Ytdkgclkkofmgkaa.W
