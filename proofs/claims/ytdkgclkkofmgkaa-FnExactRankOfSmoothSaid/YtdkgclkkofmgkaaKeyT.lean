/- Chapter 8: the bounds of kinds of keys. -/
import Derived.Test.YtdkgclkkofmgkaaTx0
import Derived.Test.YtdkgclkkofmgkaaTx1
import Derived.Test.YtdkgclkkofmgkaaTx2
import Derived.Test.YtdkgclkkofmgkaaKeyS
namespace Go.Proofs.Ytdkgclkkofmgkaa.Pure
open Go.RowKit Go.Proofs.Ytdkgclkkofmgkaa.T Go.Proofs.YtdkgclkkofmgkaaW.PrintWords Go.Proofs.YtdkgclkkofmgkaaW.PrintLast Go.Proofs.YtdkgclkkofmgkaaW.PrintMore
set_option linter.unusedVariables false
theorem l1In_sm (n lo hi : Int) : spec_l1In.f n lo hi = some (decide (lo ≤ n ∧ n ≤ hi)) := by
  unfold spec_l1In.f
  by_cases h : lo ≤ n <;> simp [h]
theorem within_sm (n lo hi : Int) : impl_within.f n lo hi = some (decide (lo ≤ n ∧ n ≤ hi)) := by
  unfold impl_within.f
  by_cases h : lo ≤ n <;> simp [h]
def kindB (a n m : Int) : Bool := decide ((1 ≤ a ∧ a ≤ 9) ∧ (1 ≤ n ∧ n ≤ 7) ∧ 0 ≤ m ∧ m ≤ 9)
theorem keSize_some (a n m : Int) : spec_keSize.f a n m = some (kindB a n m) := by
  unfold spec_keSize.f kindB
  simp only [l1In_sm, Option.bind_some]
  by_cases h1 : 1 ≤ a ∧ a ≤ 9
  · by_cases h2 : 1 ≤ n ∧ n ≤ 7 <;> simp [h1, h2]
  · simp [h1]
theorem kind_nat {a n m : Int} (h : kindB a n m = true) : ∃ D q : Nat, a = D ∧ n = ((q + 1 : Nat) : Int) ∧ 1 ≤ D ∧ D ≤ 9 ∧ q ≤ 6 := by
  obtain ⟨h1, h2, _⟩ := of_decide_eq_true h
  exact ⟨a.toNat, (n - 1).toNat, by omega, by omega, by omega, by omega, by omega⟩
end Go.Proofs.Ytdkgclkkofmgkaa.Pure
