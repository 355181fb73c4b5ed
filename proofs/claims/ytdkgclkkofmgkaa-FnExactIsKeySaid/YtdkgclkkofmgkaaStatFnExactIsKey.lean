-- Printed by hp.py, a program of this session: a machine's side of laws, out of the translation; Lean checks it.
import Derived.Test.YtdkgclkkofmgkaaQx5
namespace Go.Proofs.Ytdkgclkkofmgkaa.Q
open Go.RowKit Go.Proofs.Ytdkgclkkofmgkaa.Q Go.Proofs.YtdkgclkkofmgkaaW.PrintWords Go.Proofs.YtdkgclkkofmgkaaW.PrintLast Go.Proofs.YtdkgclkkofmgkaaW.PrintMore
/-- The pure statement of the law. -/
def laws_FnExactIsKey.Pure : Prop := ∀ (a0_0 : Int) (l0_1 : List (List Int)) (a1 : ByteArray), (Lit.int .i64 a0_0).wf = true → (l0_1.length ≤ maxLen ∧ ∀ v_ ∈ l0_1, (v_.length ≤ maxLen ∧ ∀ v__ ∈ v_, (Lit.int .i64 v__).wf = true)) → a1.size ≤ maxLen → ∃ k, laws_FnExactIsKey.f k a0_0 l0_1 a1 = some true
end Go.Proofs.Ytdkgclkkofmgkaa.Q
