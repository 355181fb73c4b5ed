/- The program's CountTries returns what the reference's returns, for all arguments; no condition beyond the law's own. -/
import Derived.Test.YtmliabppmobliaaQx0
import Derived.Test.YtmliabppmobliaaQx5
import Derived.Test.YtmliabppmobliaaDialF
namespace Go.Proofs.Ytmliabppmobliaa.Pure
open Go.RowKit Go.Proofs.Ytmliabppmobliaa.Q Go.Proofs.YtmliabppmobliaaW.PrintWords Go.Proofs.YtmliabppmobliaaW.PrintLast Go.Proofs.YtmliabppmobliaaW.PrintMore
set_option linter.unusedVariables false
theorem FnExactCountTries : laws_FnExactCountTries.Pure := by
  intro m s n _ _ _
  apply Ev.rounds
  unfold laws_FnExactCountTries.f
  refine Ev.bind (specCountTries_ev m s n) (Ev.bind (implCountTries_ev m s n) ?_)
  exact Ev.pos rfl (Ev.neg (by simp) (Ev.now _))
end Go.Proofs.Ytmliabppmobliaa.Pure
