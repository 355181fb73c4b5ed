/- The program's ArePins returns what the reference's returns, for all arguments; no condition beyond the law's own. -/
import Derived.Test.YtdkgclkkofmgkaaStatFnExactArePins
import Derived.Test.YtdkgclkkofmgkaaQx0
import Derived.Test.YtdkgclkkofmgkaaQx2
import Derived.Test.YtdkgclkkofmgkaaQx3
import Derived.Test.YtdkgclkkofmgkaaKeyA
namespace Go.Proofs.Ytdkgclkkofmgkaa.Pure
open Go.RowKit Go.Proofs.Ytdkgclkkofmgkaa.Q Go.Proofs.YtdkgclkkofmgkaaW.PrintWords Go.Proofs.YtdkgclkkofmgkaaW.PrintLast Go.Proofs.YtdkgclkkofmgkaaW.PrintMore
set_option linter.unusedVariables false
theorem FnExactArePins : laws_FnExactArePins.Pure := by
  intro d l _ hl
  apply Ev.rounds
  obtain ⟨v, hv, hb⟩ := szPins_ev d l hl.1 (fun x h => (hl.2 x h).1)
  unfold laws_FnExactArePins.f
  refine Ev.bind hv ?_
  by_cases h : v < 0
  · exact Ev.pos h (Ev.now _)
  refine Ev.neg h ?_
  obtain ⟨hn, hx⟩ := hb.resolve_left h
  have hS : Ev (fun k => spec_ArePins.f k d l) (pinsOk d l) := by
    unfold spec_ArePins.f
    exact Ev.bind (keGood_ev d l hn hx) (Ev.now _)
  refine Ev.bind (toPins_ev d l hn hx) (Ev.bind hS (Ev.bind (toPins_ev d l hn hx) (Ev.bind (implArePins_ev d l hn hx) ?_)))
  refine Ev.neg (by simp) (Ev.bind (toPins_ev d l hn hx) (Ev.bind (eqPins_refl d l hn hx) (Ev.pos rfl (Ev.now _))))
end Go.Proofs.Ytdkgclkkofmgkaa.Pure
