import Derived.Test.YtcpnmiempaofdaaGreatGx13
import Derived.Test.YtcpnmiempaofdaaGreatHintC
import Derived.Test.YtcpnmiempaofdaaGreatHintD
namespace Go.Proofs.YtcpnmiempaofdaaGreat.Pure
open Go.RowKit Go.Proofs.YtcpnmiempaofdaaGreat.G Go.Proofs.YtcpnmiempaofdaaGreatW.PrintWords Go.Proofs.YtcpnmiempaofdaaGreatW.PrintLast Go.Proofs.YtcpnmiempaofdaaGreatW.PrintMore
set_option linter.unusedVariables false
def countFitV (a b : Int) (l : List S35) : Int × Bool := if smallB a b 1000 = true ∧ hintsB a b l = true then (((fitC a.toNat b.toNat l).length : Int), true) else (0, false)
theorem implCountFit_ev (a b : Int) (l : List S35) (hl : l.length < 1000000000) (hx : ∀ x ∈ l, x.f0.size < 9223372036854775808) : Ev (fun K => impl_CountFitting.f K a b l) (countFitV a b l) := by
 unfold impl_CountFitting.f
 refine Ev.bind (implAreHints_ev a b l hl hx) ?_
 by_cases h : smallB a b 1000 = true ∧ hintsB a b l = true
 ·have hk := small_lock h.1
  have ho := okH_of hk h.2
  obtain ⟨w, d, rfl, rfl, h3, h4, h5, h6⟩ := lock_nat hk
  rw [Int.toNat_natCast] at ho
  refine Ev.pos (by rw [h.1, h.2]; rfl) (Ev.bind (fitting_ev w d h3 h4 ⟨h5, h6⟩ l ho) (Ev.val (Ev.now _) ?_))
  unfold countFitV
  rw [if_pos h]
  simp only [Int.toNat_natCast]
 ·refine Ev.neg (by rw [Bool.and_eq_true]; exact h) (Ev.val (Ev.now _) ?_)
  unfold countFitV
  rw [if_neg h]
theorem specCountFit_ev (a b : Int) (l : List S35) (hx : ∀ x ∈ l, x.f0.size < 9223372036854775808) : Ev (fun K => spec_CountFitting.f K a b l) (countFitV a b l) := by
 unfold spec_CountFitting.f
 refine Ev.bind (hiAsked_ev a b l hx) ?_
 by_cases h : smallB a b 1000 = true ∧ hintsB a b l = true
 ·have hk := small_lock h.1
  have ho := okH_of hk h.2
  obtain ⟨w, d, rfl, rfl, h3, h4, h5, h6⟩ := lock_nat hk
  rw [Int.toNat_natCast] at ho
  refine Ev.pos (by rw [h.1, h.2]; rfl) (specFit_ev w d h3 h4 ⟨h5, h6⟩ l ho (fun _ u => some ((u.length : Int), true)) _ (Ev.val (Ev.now _) ?_))
  unfold countFitV
  rw [if_pos h]
  simp only [Int.toNat_natCast]
 ·refine Ev.neg (by rw [Bool.and_eq_true]; exact h) (Ev.val (Ev.now _) ?_)
  unfold countFitV
  rw [if_neg h]
end Go.Proofs.YtcpnmiempaofdaaGreat.Pure
