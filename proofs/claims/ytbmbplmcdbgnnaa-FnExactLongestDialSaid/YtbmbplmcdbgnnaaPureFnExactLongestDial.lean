/- The program's LongestDial returns what the reference's returns, for all arguments; no condition beyond the law's own. -/
import Derived.Test.YtbmbplmcdbgnnaaQx0
import Derived.Test.YtbmbplmcdbgnnaaQx9
import Derived.Test.YtbmbplmcdbgnnaaDialY
import Derived.Test.YtbmbplmcdbgnnaaHarn
namespace Go.Proofs.Ytbmbplmcdbgnnaa.Pure
open Go.RowKit Go.Proofs.Ytbmbplmcdbgnnaa.Q Go.Proofs.YtbmbplmcdbgnnaaW.PrintWords Go.Proofs.YtbmbplmcdbgnnaaW.PrintLast Go.Proofs.YtbmbplmcdbgnnaaW.PrintMore
set_option linter.unusedVariables false
theorem FnExactLongestDial : laws_FnExactLongestDial.Pure := by
  intro m s k _ _ _
  apply Ev.rounds
  have hs := specLongest_ev m s k
  have hi := implLongest_ev m s k
  have hl : (extV m s k (-1)).1.length ≤ 3 := extV_length m s k _
  generalize extV m s k (-1) = v at hs hi hl
  obtain ⟨l, n, v⟩ := v
  simp only at hl
  have hv : l.length < 1099511627776 := by omega
  unfold laws_FnExactLongestDial.f
  refine Ev.bind hs (Ev.bind hi (Ev.bind (eqIntS_ev _ _ hv) ?_))
  refine Ev.pos (by simp) (Ev.pos rfl ?_)
  refine Ev.step (fun k => by rw [laws_FnExactLongestDial.j0]) ?_
  refine Ev.neg (by simp) ?_
  refine Ev.bind (markIntS_ev l hv) (Ev.bind (heldIntS_ev l.length hv) ?_)
  refine Ev.neg (by omega) (Ev.pos rfl ?_)
  refine Ev.bind hi (Ev.bind (eqIntS_ev _ _ hv) ?_)
  refine Ev.pos (by simp) (Ev.pos rfl ?_)
  refine Ev.step (fun k => by rw [laws_FnExactLongestDial.j1]) ?_
  refine Ev.neg (by simp) ?_
  refine Ev.bind (heldIntS_ev l.length hv) ?_
  exact Ev.neg (by omega) (Ev.pos rfl (Ev.now _))
end Go.Proofs.Ytbmbplmcdbgnnaa.Pure
