/- The program's IsKey returns what the reference's returns, for all arguments; no condition beyond the law's own. -/
import Derived.Test.YtdkgclkkofmgkaaStatFnExactIsKey
import Derived.Test.YtdkgclkkofmgkaaQx0
import Derived.Test.YtdkgclkkofmgkaaQx4
import Derived.Test.YtdkgclkkofmgkaaQx5
import Derived.Test.YtdkgclkkofmgkaaKeyB
namespace Go.Proofs.Ytdkgclkkofmgkaa.Pure
open Go.RowKit Go.Proofs.Ytdkgclkkofmgkaa.Q Go.Proofs.YtdkgclkkofmgkaaW.PrintWords Go.Proofs.YtdkgclkkofmgkaaW.PrintLast Go.Proofs.YtdkgclkkofmgkaaW.PrintMore
set_option linter.unusedVariables false
def isKeyV (d : Int) (l : List (List Int)) (s : ByteArray) : Bool × Bool := if pinsOk d l = true then (keyOk d l s, true) else (false, false)
theorem FnExactIsKey : laws_FnExactIsKey.Pure := by
  intro d l s _ hl _
  apply Ev.rounds
  unfold laws_FnExactIsKey.f
  by_cases hs : (s.size : Int) > 1048576
  · exact Ev.pos hs (Ev.now _)
  refine Ev.neg hs ?_
  obtain ⟨v, hv, hb⟩ := szPins_ev d l hl.1 (fun x h => (hl.2 x h).1)
  refine Ev.bind hv ?_
  by_cases h : v < 0
  · exact Ev.pos h (Ev.now _)
  refine Ev.neg h ?_
  obtain ⟨hn, hx⟩ := hb.resolve_left h
  have hS : Ev (fun k => spec_IsKey.f k d l s) (isKeyV d l s) := by
    unfold spec_IsKey.f isKeyV
    refine Ev.bind (keGood_ev d l hn hx) ?_
    by_cases hp : pinsOk d l = true
    · exact Ev.pos hp (Ev.let_ (keIs_some d l s hp) (Ev.val (Ev.now _) (by rw [if_pos hp])))
    · exact Ev.neg hp (Ev.val (Ev.now _) (by rw [if_neg hp]))
  have hI : Ev (fun k => impl_IsKey.f k d l s) (isKeyV d l s) := by
    unfold impl_IsKey.f isKeyV
    refine Ev.bind (implArePins_ev d l hn hx) ?_
    by_cases hp : pinsOk d l = true
    · exact Ev.pos hp (Ev.bind (isKey_ev d l s hp) (Ev.val (Ev.now _) (by rw [if_pos hp])))
    · exact Ev.neg hp (Ev.val (Ev.now _) (by rw [if_neg hp]))
  refine Ev.bind (toPins_ev d l hn hx) (Ev.bind hS (Ev.bind (toPins_ev d l hn hx) (Ev.bind hI ?_)))
  refine Ev.neg (by simp) ?_
  refine Ev.step (fun k => by rw [laws_FnExactIsKey.j0]) ?_
  exact Ev.neg (by simp) (Ev.bind (toPins_ev d l hn hx) (Ev.bind (eqPins_refl d l hn hx) (Ev.pos rfl (Ev.now _))))
end Go.Proofs.Ytdkgclkkofmgkaa.Pure
