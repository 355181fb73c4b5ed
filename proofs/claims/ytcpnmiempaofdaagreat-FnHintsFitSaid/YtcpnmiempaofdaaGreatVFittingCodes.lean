import Derived.Test.YtcpnmiempaofdaaGreatGx13
import Derived.Test.YtcpnmiempaofdaaGreatHintC
import Derived.Test.YtcpnmiempaofdaaGreatHintD
namespace Go.Proofs.YtcpnmiempaofdaaGreat.Pure
open Go.RowKit Go.Proofs.YtcpnmiempaofdaaGreat.G Go.Proofs.YtcpnmiempaofdaaGreatW.PrintWords Go.Proofs.YtcpnmiempaofdaaGreatW.PrintLast Go.Proofs.YtcpnmiempaofdaaGreatW.PrintMore
set_option linter.unusedVariables false
def fitV (a b : Int) (l : List S35) : List ByteArray × Bool := if smallB a b 1000 = true ∧ hintsB a b l = true then (fitC a.toNat b.toNat l, true) else ([], false)
theorem implFit_ev (a b : Int) (l : List S35) (hl : l.length < 1000000000) (hx : ∀ x ∈ l, x.f0.size < 9223372036854775808) : Ev (fun K => impl_FittingCodes.f K a b l) (fitV a b l) := by
 unfold impl_FittingCodes.f
 refine Ev.bind (implAreHints_ev a b l hl hx) ?_
 by_cases h : smallB a b 1000 = true ∧ hintsB a b l = true
 ·have hk := small_lock h.1
  have ho := okH_of hk h.2
  obtain ⟨w, d, rfl, rfl, h3, h4, h5, h6⟩ := lock_nat hk
  rw [Int.toNat_natCast] at ho
  refine Ev.pos (by rw [h.1, h.2]; rfl) (Ev.bind (fitting_ev w d h3 h4 ⟨h5, h6⟩ l ho) (Ev.val (Ev.now _) ?_))
  unfold fitV
  rw [if_pos h]
  simp only [Int.toNat_natCast]
 ·refine Ev.neg (by rw [Bool.and_eq_true]; exact h) (Ev.val (Ev.now _) ?_)
  unfold fitV
  rw [if_neg h]
theorem specFit2_ev (a b : Int) (l : List S35) (hx : ∀ x ∈ l, x.f0.size < 9223372036854775808) : Ev (fun K => spec_FittingCodes.f K a b l) (fitV a b l) := by
 unfold spec_FittingCodes.f
 refine Ev.bind (hiAsked_ev a b l hx) ?_
 by_cases h : smallB a b 1000 = true ∧ hintsB a b l = true
 ·have hk := small_lock h.1
  have ho := okH_of hk h.2
  obtain ⟨w, d, rfl, rfl, h3, h4, h5, h6⟩ := lock_nat hk
  rw [Int.toNat_natCast] at ho
  refine Ev.pos (by rw [h.1, h.2]; rfl) (specFit_ev w d h3 h4 ⟨h5, h6⟩ l ho (fun _ u => some (u, true)) _ (Ev.val (Ev.now _) ?_))
  unfold fitV
  rw [if_pos h]
  simp only [Int.toNat_natCast]
 ·refine Ev.neg (by rw [Bool.and_eq_true]; exact h) (Ev.val (Ev.now _) ?_)
  unfold fitV
  rw [if_neg h]
theorem fitV_length (a b : Int) (l : List S35) : (fitV a b l).1.length ≤ 1000000 := by
 unfold fitV
 split
 ·rename_i h
  obtain ⟨w, d, rfl, rfl, h3, h4, h5, h6⟩ := lock_nat (small_lock h.1)
  have := fitC_length w d l
  have := pow_lock (w := w) h4 h5 h6
  simp only [Int.toNat_natCast]
  omega
 ·simp
end Go.Proofs.YtcpnmiempaofdaaGreat.Pure
