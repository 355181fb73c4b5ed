/- The program's SmoothOfRank returns what the reference's returns, for all arguments; no condition beyond the law's own. -/
import Derived.Test.YtdkgclkkofmgkaaQx0
import Derived.Test.YtdkgclkkofmgkaaQx1
import Derived.Test.YtdkgclkkofmgkaaQx5
import Derived.Test.YtdkgclkkofmgkaaQx6
import Derived.Test.YtdkgclkkofmgkaaKeyU
namespace Go.Proofs.Ytdkgclkkofmgkaa.Pure
open Go.RowKit Go.Proofs.Ytdkgclkkofmgkaa.Q Go.Proofs.YtdkgclkkofmgkaaW.PrintWords Go.Proofs.YtdkgclkkofmgkaaW.PrintLast Go.Proofs.YtdkgclkkofmgkaaW.PrintMore
set_option linter.unusedVariables false
theorem FnExactSmoothOfRank : laws_FnExactSmoothOfRank.Pure := by
  intro a n m rk _ _ _ hrk
  have hbd := wfi hrk
  apply Ev.rounds
  unfold laws_FnExactSmoothOfRank.f
  have key : ∃ v, Ev (fun K => impl_SmoothOfRank.f K a n m rk) v ∧ Ev (fun K => spec_SmoothOfRank.f K a n m rk) v := by
    unfold impl_SmoothOfRank.f spec_SmoothOfRank.f
    by_cases h : kindB a n m = true
    case neg => exact ⟨((⟨#[]⟩ : ByteArray), false), Ev.let_ (isKind_some _ _ _) (Ev.neg h (Ev.now _)), Ev.let_ (keSize_some _ _ _) (Ev.neg h (Ev.step (fun k => by rw [spec_SmoothOfRank.j0]) (Ev.pos rfl (Ev.now _))))⟩
    obtain ⟨D, q, rfl, rfl, h1, h2, h3⟩ := kind_nat h
    have hsm := smooth_ev m (-1) (by omega) D h1 h2 (q + 1) (by omega) (by omega) 0 (by omega)
    have htot : smoothV m (-1) D (q + 1) 0 = sumF (lastF m (-1)) (waysL m D q) D := by
      unfold smoothV
      rw [if_pos (by omega), show q + 1 - 1 - 0 = q by omega]
    rw [htot] at hsm
    have hbs := sum_small (lastF m (-1)) m D h2 q (by omega) D (Nat.le_refl _)
    generalize hT : sumF (lastF m (-1)) (waysL m D q) D = T at hsm hbs
    have hw : wrap64 (T - 1) = T - 1 := w64 (by omega) (by omega)
    have e0 : laOf [] = -1 := rfl
    by_cases h0 : 0 ≤ rk
    · have hsp := spec_sor m D h2 (q + 1) (by omega) (q + 1) [] rk (by simp) ⟨by simp, by simp⟩ h0 (by omega)
      have hspec : Ev (fun K => (spec_keSize.f (D : Int) ((q + 1 : Nat) : Int) m).bind fun t => if t = true then spec_SmoothOfRank.j0 K D ((q + 1 : Nat) : Int) m rk (decide (rk < 0)) else spec_SmoothOfRank.j0 K D ((q + 1 : Nat) : Int) m rk true) (ansV [] (sorG m D (q + 1) (laOf []) rk)) := by
        refine Ev.let_ (keSize_some _ _ _) (Ev.pos h (Ev.step (fun k => by rw [spec_SmoothOfRank.j0]) (Ev.neg (by simp; omega) ?_)))
        exact hsp
      by_cases ht : rk < T
      · obtain ⟨ds, g1, g2⟩ := impl_sor m D h1 h2 (q + 1) (by omega) (q + 1) [] rk (by simp) ⟨by simp, by simp⟩ (by rw [e0]; omega) h0 (by omega) (by
          intro j' hj
          obtain rfl : j' = q := by omega
          rw [e0, hT]
          exact ht)
        rw [g1] at hspec
        refine ⟨_, ?_, hspec⟩
        refine Ev.let_ (isKind_some _ _ _) (Ev.pos h (Ev.bind (open_ev D (q + 1) h2 (by omega)) (Ev.bind hsm ?_)))
        rw [hw]
        exact Ev.let_ (within_sm _ _ _) (Ev.pos (by simp; omega) g2)
      · have hno : sorG m D (q + 1) (laOf []) rk = none := by
          rw [sorG, pickF_none _ _ D (fun e he => (ways_small m D h2 q (by omega) e he).1) D 0 rk (by omega) (by rw [e0, hT]; simp only [sumF]; omega)]
          rfl
        rw [hno] at hspec
        refine ⟨_, ?_, hspec⟩
        refine Ev.let_ (isKind_some _ _ _) (Ev.pos h (Ev.bind (open_ev D (q + 1) h2 (by omega)) (Ev.bind hsm ?_)))
        rw [hw]
        exact Ev.let_ (within_sm _ _ _) (Ev.neg (by simp; omega) (Ev.now _))
    · refine ⟨((⟨#[]⟩ : ByteArray), false), ?_, Ev.let_ (keSize_some _ _ _) (Ev.pos h (Ev.step (fun k => by rw [spec_SmoothOfRank.j0]) (Ev.pos (by simp; omega) (Ev.now _))))⟩
      refine Ev.let_ (isKind_some _ _ _) (Ev.pos h (Ev.bind (open_ev D (q + 1) h2 (by omega)) (Ev.bind hsm ?_)))
      rw [hw]
      exact Ev.let_ (within_sm _ _ _) (Ev.neg (by simp; omega) (Ev.now _))
  obtain ⟨v, hi, hs⟩ := key
  exact Ev.bind hs (Ev.bind hi (Ev.pos rfl (Ev.neg (by simp) (Ev.now _))))
end Go.Proofs.Ytdkgclkkofmgkaa.Pure
