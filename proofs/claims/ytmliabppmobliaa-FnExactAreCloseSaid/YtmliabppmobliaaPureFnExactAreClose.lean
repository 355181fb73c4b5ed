/- The program's AreClose returns what the reference's returns, for all arguments; no condition beyond the law's own. -/
import Derived.Test.YtmliabppmobliaaQx0
import Derived.Test.YtmliabppmobliaaQx6
import Derived.Test.YtmliabppmobliaaHarn
import Derived.Test.YtmliabppmobliaaDialD
namespace Go.Proofs.Ytmliabppmobliaa.Pure
open Go.RowKit Go.Proofs.Ytmliabppmobliaa.Q Go.Proofs.YtmliabppmobliaaW.PrintWords Go.Proofs.YtmliabppmobliaaW.PrintLast Go.Proofs.YtmliabppmobliaaW.PrintMore
set_option linter.unusedVariables false
theorem FnExactAreClose : laws_FnExactAreClose.Pure := by
  intro m s a b _ _ ha _ _ hb _ _
  apply Ev.rounds
  unfold laws_FnExactAreClose.f
  by_cases h1 : (a.length : Int) > 1048576
  · exact Ev.pos h1 (Ev.now _)
  refine Ev.neg h1 ?_
  by_cases h2 : (b.length : Int) > 1048576
  · exact Ev.pos h2 (Ev.now _)
  refine Ev.neg h2 ?_
  have la : a.length < 1000000000000 := by omega
  have lb : b.length < 1000000000000 := by omega
  refine Ev.bind (toIntS_ev a (by omega)) (Ev.bind (toIntS_ev b (by omega)) (Ev.bind (specAreClose_ev m s a b la lb) (Ev.bind (toIntS_ev a (by omega)) (Ev.bind (toIntS_ev b (by omega)) (Ev.bind (implAreClose_ev m s a b la lb) ?_)))))
  refine Ev.neg (by simp) ?_
  refine Ev.step (fun k => by rw [laws_FnExactAreClose.j0]) ?_
  refine Ev.neg (by simp) ?_
  refine Ev.bind (toIntS_ev a (by omega)) (Ev.bind (eqIntS_ev _ _ (by omega)) ?_)
  refine Ev.pos (by simp) ?_
  refine Ev.bind (toIntS_ev b (by omega)) (Ev.bind (eqIntS_ev _ _ (by omega)) ?_)
  exact Ev.pos (by simp) (Ev.now _)
end Go.Proofs.Ytmliabppmobliaa.Pure
