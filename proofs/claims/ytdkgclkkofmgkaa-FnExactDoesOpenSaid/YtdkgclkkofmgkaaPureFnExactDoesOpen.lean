/- The program's DoesOpen returns what the reference's returns, for all arguments; no condition beyond the law's own. -/
import Derived.Test.YtdkgclkkofmgkaaStatFnExactDoesOpen
import Derived.Test.YtdkgclkkofmgkaaQx0
import Derived.Test.YtdkgclkkofmgkaaQx5
import Derived.Test.YtdkgclkkofmgkaaQx6
import Derived.Test.YtdkgclkkofmgkaaQx7
import Derived.Test.YtdkgclkkofmgkaaKeyB
namespace Go.Proofs.Ytdkgclkkofmgkaa.Pure
open Go.RowKit Go.Proofs.Ytdkgclkkofmgkaa.Q Go.Proofs.YtdkgclkkofmgkaaW.PrintWords Go.Proofs.YtdkgclkkofmgkaaW.PrintLast Go.Proofs.YtdkgclkkofmgkaaW.PrintMore
set_option linter.unusedVariables false
def openV (d : Int) (l : List (List Int)) (s : ByteArray) : Bool × Bool := if pinsOk d l = true ∧ keyOk d l s = true then (opB s l l.length 0, true) else (false, false)
theorem FnExactDoesOpen : laws_FnExactDoesOpen.Pure := by
  intro d l s _ hl _
  apply Ev.rounds
  unfold laws_FnExactDoesOpen.f
  by_cases hs : (s.size : Int) > 1048576
  · exact Ev.pos hs (Ev.now _)
  refine Ev.neg hs ?_
  obtain ⟨v, hv, hb⟩ := szPins_ev d l hl.1 (fun x h => (hl.2 x h).1)
  refine Ev.bind hv ?_
  by_cases h : v < 0
  · exact Ev.pos h (Ev.now _)
  refine Ev.neg h ?_
  obtain ⟨hn, hx⟩ := hb.resolve_left h
  have hS : Ev (fun k => spec_DoesOpen.f k d l s) (openV d l s) := by
    unfold spec_DoesOpen.f openV
    refine Ev.bind (keGood_ev d l hn hx) ?_
    by_cases hp : pinsOk d l = true
    · refine Ev.pos hp (Ev.let_ (keIs_some d l s hp) ?_)
      by_cases hk : keyOk d l s = true
      · rw [if_pos ⟨hp, hk⟩]
        have hk2 := hk
        unfold keyOk at hk2
        rw [Bool.and_eq_true] at hk2
        refine Ev.pos hk (Ev.bind (a := opB s l l.length 0) ?_ (Ev.now _))
        unfold spec_keOpens.f
        exact opens_spec l s (of_decide_eq_true hk2.1) (pinsOk_1 hp).2.2 hx l.length 0 (by omega)
      · rw [if_neg (fun hc => hk hc.2)]
        exact Ev.neg hk (Ev.now _)
    · rw [if_neg (fun hc => hp hc.1)]
      exact Ev.neg hp (Ev.now _)
  have hI : Ev (fun k => impl_DoesOpen.f k d l s) (openV d l s) := by
    unfold impl_DoesOpen.f openV
    refine Ev.bind (implArePins_ev d l hn hx) ?_
    by_cases hp : pinsOk d l = true
    · refine Ev.pos hp (Ev.bind (isKey_ev d l s hp) ?_)
      refine Ev.step (fun k => by rw [impl_DoesOpen.j0]) ?_
      by_cases hk : keyOk d l s = true
      · rw [if_pos ⟨hp, hk⟩]
        have hk2 := hk
        unfold keyOk at hk2
        rw [Bool.and_eq_true] at hk2
        refine Ev.neg (by rw [hk]; decide) (Ev.bind (digits_ev s (by omega)) ?_)
        exact opens_impl d (pinsOk_1 hp).1.2 l s (of_decide_eq_true hk2.1) (pinsOk_1 hp).2.2 hx hk2.2 l.length 0 (by omega)
      · rw [if_neg (fun hc => hk hc.2)]
        exact Ev.pos (by rw [Bool.eq_false_iff.mpr hk]; rfl) (Ev.now _)
    · rw [if_neg (fun hc => hp hc.1)]
      refine Ev.neg hp ?_
      refine Ev.step (fun k => by rw [impl_DoesOpen.j0]) ?_
      exact Ev.pos rfl (Ev.now _)
  refine Ev.bind (toPins_ev d l hn hx) (Ev.bind hS (Ev.bind (toPins_ev d l hn hx) (Ev.bind hI ?_)))
  refine Ev.neg (by simp) ?_
  refine Ev.step (fun k => by rw [laws_FnExactDoesOpen.j0]) ?_
  exact Ev.neg (by simp) (Ev.bind (toPins_ev d l hn hx) (Ev.bind (eqPins_refl d l hn hx) (Ev.pos rfl (Ev.now _))))
end Go.Proofs.Ytdkgclkkofmgkaa.Pure
