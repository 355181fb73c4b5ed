/- The program's CountByLength returns what the reference's returns, for all arguments; no condition beyond the law's own. -/
import Derived.Test.YtbmbplmcdbgnnaaQx0
import Derived.Test.YtbmbplmcdbgnnaaQx7
import Derived.Test.YtbmbplmcdbgnnaaDialX
namespace Go.Proofs.Ytbmbplmcdbgnnaa.Pure
open Go.RowKit Go.Proofs.Ytbmbplmcdbgnnaa.Q Go.Proofs.YtbmbplmcdbgnnaaW.PrintWords Go.Proofs.YtbmbplmcdbgnnaaW.PrintLast Go.Proofs.YtbmbplmcdbgnnaaW.PrintMore
theorem FnExactCountByLength : laws_FnExactCountByLength.Pure := by
  intro m s k l _ _ _ _
  apply Ev.rounds
  unfold laws_FnExactCountByLength.f
  refine Ev.bind (specCount_ev m s k l) (Ev.bind (implCount_ev m s k l) ?_)
  exact Ev.pos rfl (Ev.neg (by simp) (Ev.now _))
end Go.Proofs.Ytbmbplmcdbgnnaa.Pure
