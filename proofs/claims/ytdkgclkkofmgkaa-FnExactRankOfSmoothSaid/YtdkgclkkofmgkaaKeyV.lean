/- Chapter 8: what is behind a depth is what the row before tells. -/
import Derived.Test.YtdkgclkkofmgkaaTx0
import Derived.Test.YtdkgclkkofmgkaaKeyT
namespace Go.Proofs.Ytdkgclkkofmgkaa.Pure
open Go.RowKit Go.Proofs.Ytdkgclkkofmgkaa.T Go.Proofs.YtdkgclkkofmgkaaW.PrintWords Go.Proofs.YtdkgclkkofmgkaaW.PrintLast Go.Proofs.YtdkgclkkofmgkaaW.PrintMore
set_option linter.unusedVariables false

theorem next_total (m : Int) (D j d : Nat) (hd : d < D) : rd (waysL m D (j + 1)) (d : Int) = sumF (lastF m (d : Int)) (waysL m D j) D := by
  rw [waysL, rd_row m D _ d hd]
  have : ∀ n, sumF (near m d) (waysL m D j) n = sumF (lastF m (d : Int)) (waysL m D j) n := by
    intro n
    induction n with
    | zero => rfl
    | succ n ih =>
      have e : lastF m (d : Int) (n : Int) = near m d n := by unfold lastF; rw [if_neg (by omega), near_comm]
      rw [sumF, sumF, ih, e]
  exact this D
theorem smoothV_ways (m : Int) (D j d : Nat) (hd : d < D) (n i : Nat) (h : i + (j + 1) = n) : smoothV m (d : Int) D n (i + 1) = rd (waysL m D j) (d : Int) := by
  unfold smoothV
  cases j with
  | zero => rw [if_neg (by omega), waysL, rd_rep D 1 d hd]
  | succ j => rw [if_pos (by omega), show n - 1 - (i + 1) = j by omega, next_total m D j d hd]
end Go.Proofs.Ytdkgclkkofmgkaa.Pure
