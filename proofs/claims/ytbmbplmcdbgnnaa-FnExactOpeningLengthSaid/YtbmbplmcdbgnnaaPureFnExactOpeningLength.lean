/- The program's OpeningLength returns what the reference's returns, for all arguments; no condition beyond the law's own. -/
import Derived.Test.YtbmbplmcdbgnnaaQx0
import Derived.Test.YtbmbplmcdbgnnaaQx4
import Derived.Test.YtbmbplmcdbgnnaaHarn
import Derived.Test.YtbmbplmcdbgnnaaDialG
namespace Go.Proofs.Ytbmbplmcdbgnnaa.Pure
open Go.RowKit Go.Proofs.Ytbmbplmcdbgnnaa.Q Go.Proofs.YtbmbplmcdbgnnaaW.PrintWords Go.Proofs.YtbmbplmcdbgnnaaW.PrintLast Go.Proofs.YtbmbplmcdbgnnaaW.PrintMore
set_option linter.unusedVariables false
theorem FnExactOpeningLength : laws_FnExactOpeningLength.Pure := by
  intro m s l _ _ hn _ _
  apply Ev.rounds
  unfold laws_FnExactOpeningLength.f
  by_cases h1 : (l.length : Int) > 1048576
  · exact Ev.pos h1 (Ev.now _)
  refine Ev.neg h1 ?_
  have la : l.length < 1000000000000 := by omega
  refine Ev.bind (toIntS_ev l (by omega)) (Ev.bind (specOpeningLength_ev m s l la) (Ev.bind (toIntS_ev l (by omega)) (Ev.bind (implOpeningLength_ev m s l la) ?_)))
  refine Ev.pos rfl ?_
  refine Ev.step (fun k => by rw [laws_FnExactOpeningLength.j0]) ?_
  refine Ev.neg (by simp) ?_
  refine Ev.bind (toIntS_ev l (by omega)) (Ev.bind (eqIntS_ev _ _ (by omega)) ?_)
  exact Ev.pos (by simp) (Ev.now _)
end Go.Proofs.Ytbmbplmcdbgnnaa.Pure
