/- The program's PassesOf returns what the reference's returns, for all arguments; no condition beyond the law's own. -/
import Derived.Test.YtmliabppmobliaaQx0
import Derived.Test.YtmliabppmobliaaQx2
import Derived.Test.YtmliabppmobliaaDialD
namespace Go.Proofs.Ytmliabppmobliaa.Pure
open Go.RowKit Go.Proofs.Ytmliabppmobliaa.Q Go.Proofs.YtmliabppmobliaaW.PrintWords Go.Proofs.YtmliabppmobliaaW.PrintLast Go.Proofs.YtmliabppmobliaaW.PrintMore
set_option linter.unusedVariables false
theorem FnExactPassesOf : laws_FnExactPassesOf.Pure := by
  intro m s step number _ _ _ _
  apply Ev.rounds
  unfold laws_FnExactPassesOf.f
  refine Ev.bind (specPassesOf_ev m s step number) (Ev.bind (implPassesOf_ev m s step number) ?_)
  exact Ev.pos rfl (Ev.neg (by simp) (Ev.now _))
end Go.Proofs.Ytmliabppmobliaa.Pure
