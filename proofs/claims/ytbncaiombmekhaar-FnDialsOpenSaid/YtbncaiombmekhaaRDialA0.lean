/- What the small functions of chapter 7 come to: dials, steps, powers, remainders. -/
import Derived.Test.YtbncaiombmekhaaRBx0
import Derived.Test.YtbncaiombmekhaaRBx1
import Derived.Test.YtbncaiombmekhaaRBx2
import Derived.Test.YtbncaiombmekhaaRKit
namespace Go.Proofs.YtbncaiombmekhaaR.Pure
open Go.RowKit Go.Proofs.YtbncaiombmekhaaR.B Go.Proofs.YtbncaiombmekhaaRW.PrintWords Go.Proofs.YtbncaiombmekhaaRW.PrintLast Go.Proofs.YtbncaiombmekhaaRW.PrintMore
set_option linter.unusedVariables false

theorem l1In_some (a b c : Int) : spec_l1In.f a b c = some (decide (b ≤ a ∧ a ≤ c)) := by
  unfold spec_l1In.f
  by_cases h : a ≥ b
  · rw [if_pos h]; simp [show b ≤ a from h]
  · rw [if_neg h]; simp [show ¬ b ≤ a from h]
theorem within_some (a b c : Int) : impl_within.f a b c = some (decide (b ≤ a ∧ a ≤ c)) := by
  unfold impl_within.f
  by_cases h : b ≤ a
  · rw [if_pos h]; simp [h]
  · rw [if_neg h]; simp [h]
theorem diMarks_some (m : Int) : spec_diMarks.f m = some (decide (2 ≤ m ∧ m ≤ 100)) := by
  unfold spec_diMarks.f
  rw [l1In_some]
  rfl
theorem isDial_some (m : Int) (l : List Int) (h : l.length ≤ 1000000000000) : impl_isDial.f m l = some (decide (2 ≤ m ∧ m ≤ 100) && l.all (fun n => decide (0 ≤ n ∧ n ≤ m - 1))) := by
  unfold impl_isDial.f
  rw [if_pos (by omega)]
/-- Remainders: both as the mathematical one, for small moduli. -/
theorem tmod_fix (a m : Int) (hm : 2 ≤ m) (hm2 : m ≤ 1000000) : Int.tmod (wrap64 (Int.tmod a m + m)) m = a % m := by
  have h1 : Int.tmod a m < m := Int.tmod_lt_of_pos a (by omega)
  have h2 : -m < Int.tmod a m := by
    have h0 : 0 ≤ a % m := Int.emod_nonneg _ (by omega)
    have h3 : a % m < m := Int.emod_lt_of_pos _ (by omega)
    rw [Int.tmod_eq_emod]
    split
    · simp only [Int.natCast_zero]; omega
    · rename_i hc
      have : a % m ≠ 0 := fun e => hc (.inr (Int.dvd_of_emod_eq_zero e))
      rw [Int.natAbs_of_nonneg (by omega)]
      omega
  rw [w64 (by omega) (by omega), Int.tmod_eq_emod_of_nonneg (by omega), Int.add_emod_right, Int.tmod_eq_emod]
  split
  · simp
  · rename_i hc
    rw [Int.sub_emod]
    have : ((m.natAbs : Int)) % m = 0 := by
      rw [Int.natAbs_of_nonneg (by omega)]; exact Int.emod_self
    rw [this]
    simp
theorem around_some (a m : Int) (hm : 2 ≤ m) (hm2 : m ≤ 1000000) : impl_around.f a m = some (a % m) := by
  unfold impl_around.f
  rw [if_neg (by omega), tmod_fix a m hm hm2]
theorem l1Mod_some (a m : Int) (hm : 2 ≤ m) (hm2 : m ≤ 1000000) : spec_l1Mod.f a m = some (a % m) := by
  unfold spec_l1Mod.f
  rw [if_neg (by omega), tmod_fix a m hm hm2]
end Go.Proofs.YtbncaiombmekhaaR.Pure
