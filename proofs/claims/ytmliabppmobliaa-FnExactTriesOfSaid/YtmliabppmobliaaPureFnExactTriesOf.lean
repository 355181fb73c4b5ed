/- The program's TriesOf returns what the reference's returns, for all arguments; no condition beyond the law's own. -/
import Derived.Test.YtmliabppmobliaaQx0
import Derived.Test.YtmliabppmobliaaQx9
import Derived.Test.YtmliabppmobliaaHarn
import Derived.Test.YtmliabppmobliaaDialF
namespace Go.Proofs.Ytmliabppmobliaa.Pure
open Go.RowKit Go.Proofs.Ytmliabppmobliaa.Q Go.Proofs.YtmliabppmobliaaW.PrintWords Go.Proofs.YtmliabppmobliaaW.PrintLast Go.Proofs.YtmliabppmobliaaW.PrintMore
set_option linter.unusedVariables false
theorem FnExactTriesOf : laws_FnExactTriesOf.Pure := by
  intro m s _ _
  apply Ev.rounds
  have hs := specTriesOf_ev m s
  have hi := implTriesOf_ev m s
  have hl := triesV_length m s
  generalize triesV m s = v at hs hi hl
  obtain ⟨l, b⟩ := v
  have hv : l.length < 1099511627776 := by simp only at hl; omega
  unfold laws_FnExactTriesOf.f
  refine Ev.bind hs (Ev.bind hi (Ev.bind (eqIntS_ev _ _ hv) ?_))
  refine Ev.pos (by simp) ?_
  refine Ev.step (fun k => by rw [laws_FnExactTriesOf.j0]) ?_
  refine Ev.neg (by simp) ?_
  refine Ev.bind (markIntS_ev l hv) (Ev.bind (heldIntS_ev l.length hv) ?_)
  refine Ev.neg (by omega) (Ev.pos rfl ?_)
  refine Ev.bind hi (Ev.bind (eqIntS_ev _ _ hv) ?_)
  refine Ev.pos (by simp) ?_
  refine Ev.step (fun k => by rw [laws_FnExactTriesOf.j1]) ?_
  refine Ev.neg (by simp) ?_
  refine Ev.bind (heldIntS_ev l.length hv) ?_
  exact Ev.neg (by omega) (Ev.pos rfl (Ev.now _))
end Go.Proofs.Ytmliabppmobliaa.Pure
