/- What the small functions of chapter 7 come to: dials, steps, powers, remainders. -/
import Derived.Test.YtmliabppmobliaaQx0
import Derived.Test.YtmliabppmobliaaQx1
import Derived.Test.YtmliabppmobliaaQx2
import Derived.Test.YtmliabppmobliaaKit
namespace Go.Proofs.Ytmliabppmobliaa.Pure
open Go.RowKit Go.Proofs.Ytmliabppmobliaa.Q Go.Proofs.YtmliabppmobliaaW.PrintWords Go.Proofs.YtmliabppmobliaaW.PrintLast Go.Proofs.YtmliabppmobliaaW.PrintMore
set_option linter.unusedVariables false

theorem l1In_some (a b c : Int) : spec_l1In.f a b c = some (decide (b ≤ a ∧ a ≤ c)) := by
  unfold spec_l1In.f
  by_cases h : a ≥ b
  · rw [if_pos h]; simp [show b ≤ a from h]
  · rw [if_neg h]; simp [show ¬ b ≤ a from h]
theorem within_some (a b c : Int) : impl_within.f a b c = some (decide (b ≤ a ∧ a ≤ c)) := by
  unfold impl_within.f
  by_cases h : b ≤ a
  · rw [if_pos h]; simp [h]
  · rw [if_neg h]; simp [h]
theorem diMarks_some (m : Int) : spec_diMarks.f m = some (decide (2 ≤ m ∧ m ≤ 100)) := by
  unfold spec_diMarks.f
  rw [l1In_some]
  rfl
theorem isDial_some (m : Int) (l : List Int) (h : l.length ≤ 1000000000000) : impl_isDial.f m l = some (decide (2 ≤ m ∧ m ≤ 100) && l.all (fun n => decide (0 ≤ n ∧ n ≤ m - 1))) := by
  unfold impl_isDial.f
  rw [if_pos (by omega)]
theorem isSlack_some (m s : Int) : impl_isSlack.f m s = some (decide ((2 ≤ m ∧ m ≤ 100) ∧ 0 ≤ s ∧ s ≤ 100)) := by
  unfold impl_isSlack.f
  rw [isDial_some _ _ (by simp), within_some]
  by_cases h : 2 ≤ m ∧ m ≤ 100 <;> simp [h]
theorem isFew_some (n : Int) : impl_isFew.f n = some (decide (1 ≤ n ∧ n ≤ 3)) := by
  unfold impl_isFew.f
  rw [within_some]
  rfl
theorem diSlack_some (m s n : Int) : spec_diSlack.f m s n = some (decide ((2 ≤ m ∧ m ≤ 100) ∧ (0 ≤ s ∧ s ≤ 100) ∧ 1 ≤ n ∧ n ≤ 3)) := by
  unfold spec_diSlack.f
  rw [diMarks_some, l1In_some, l1In_some]
  by_cases h : 2 ≤ m ∧ m ≤ 100 <;> by_cases h2 : 0 ≤ s ∧ s ≤ 100 <;> simp [h, h2]
theorem l1Least_some (a b : Int) : spec_l1Least.f a b = some (min a b) := by
  unfold spec_l1Least.f
  by_cases h : a < b
  · rw [if_pos h, Int.min_def, if_pos (by omega)]
  · rw [if_neg h, Int.min_def]
    by_cases h' : a ≤ b
    · rw [if_pos h']; congr 1; omega
    · rw [if_neg h']

theorem pow_le' {b : Nat} {i n : Nat} (hb : 1 ≤ b) (h : i ≤ n) : b ^ i ≤ b ^ n := Nat.pow_le_pow_right hb h

theorem power_l0 (b n : Nat) (hb : 1 ≤ b) (hn : n < 1000) (hp : b ^ n ≤ 4611686018427387904) : ∀ (d i : Nat), i + d = n →
    Ev (fun k => impl_power.l0 k (b : Int) ((b ^ i : Nat) : Int) (n : Int) (i : Int)) ((b ^ n : Nat) : Int) := by
  intro d
  induction d with
  | zero =>
    intro i hi
    refine Ev.step (fun k => by rw [impl_power.l0]) ?_
    refine Ev.neg (by omega) (Ev.val (Ev.now _) ?_)
    rw [show i = n by omega]
  | succ d ih =>
    intro i hi
    refine Ev.step (fun k => by rw [impl_power.l0]) ?_
    refine Ev.pos (by omega) ?_
    have h1 : b ^ (i + 1) ≤ b ^ n := pow_le' hb (by omega)
    have h2 : ((b ^ i : Nat) : Int) * (b : Int) = ((b ^ (i + 1) : Nat) : Int) := by rw [Nat.pow_succ]; simp
    rw [h2, w64 (by omega) (by omega), w64n (by omega)]
    exact ih (i + 1) (by omega)
theorem power_ev (b n : Nat) (hb : 1 ≤ b) (hn : n < 1000) (hp : b ^ n ≤ 4611686018427387904) : Ev (fun k => impl_power.f k (b : Int) (n : Int)) ((b ^ n : Nat) : Int) := by
  unfold impl_power.f
  have := power_l0 b n hb hn hp n 0 (by omega)
  simpa using this
theorem diPower_l0 (b n : Nat) (hb : 1 ≤ b) (hn : n < 1000) (hp : b ^ n ≤ 4611686018427387904) : ∀ (d i : Nat), i + d = n → 1 ≤ i →
    Ev (fun k => spec_diPower.l0 k (b : Int) ((d + 1 : Nat) : Int) ((b ^ i : Nat) : Int)) ((b ^ n : Nat) : Int) := by
  intro d
  induction d with
  | zero =>
    intro i hi _
    refine Ev.step (fun k => by rw [spec_diPower.l0]) ?_
    refine Ev.neg (by omega) (Ev.val (Ev.now _) ?_)
    rw [show i = n by omega]
  | succ d ih =>
    intro i hi h1
    refine Ev.step (fun k => by rw [spec_diPower.l0]) ?_
    refine Ev.pos (by omega) ?_
    have h1 : b ^ (i + 1) ≤ b ^ n := pow_le' hb (by omega)
    have h2 : ((b ^ i : Nat) : Int) * (b : Int) = ((b ^ (i + 1) : Nat) : Int) := by rw [Nat.pow_succ]; simp
    rw [h2, w64 (x := ((b ^ (i + 1) : Nat) : Int)) (by omega) (by omega), w64 (by omega) (by omega)]
    have e : ((d + 1 + 1 : Nat) : Int) - 1 = ((d + 1 : Nat) : Int) := by omega
    rw [e]
    exact ih (i + 1) (by omega) (by omega)
theorem diPower_ev (b n : Nat) (hb : 1 ≤ b) (hn1 : 1 ≤ n) (hn : n < 1000) (hp : b ^ n ≤ 4611686018427387904) : Ev (fun k => spec_diPower.f k (b : Int) (n : Int)) ((b ^ n : Nat) : Int) := by
  unfold spec_diPower.f
  have := diPower_l0 b n hb hn hp (n - 1) 1 (by omega) (by omega)
  rw [show n - 1 + 1 = n by omega] at this
  simpa using this

/-- Remainders: both as the mathematical one, for small moduli. -/
theorem tmod_fix (a m : Int) (hm : 2 ≤ m) (hm2 : m ≤ 1000000) : Int.tmod (wrap64 (Int.tmod a m + m)) m = a % m := by
  have h1 : Int.tmod a m < m := Int.tmod_lt_of_pos a (by omega)
  have h2 : -m < Int.tmod a m := by
    have h0 : 0 ≤ a % m := Int.emod_nonneg _ (by omega)
    have h3 : a % m < m := Int.emod_lt_of_pos _ (by omega)
    rw [Int.tmod_eq_emod]
    split
    · simp only [Int.natCast_zero]; omega
    · rename_i hc
      have : a % m ≠ 0 := fun e => hc (.inr (Int.dvd_of_emod_eq_zero e))
      rw [Int.natAbs_of_nonneg (by omega)]
      omega
  rw [w64 (by omega) (by omega), Int.tmod_eq_emod_of_nonneg (by omega), Int.add_emod_right, Int.tmod_eq_emod]
  split
  · simp
  · rename_i hc
    rw [Int.sub_emod]
    have : ((m.natAbs : Int)) % m = 0 := by
      rw [Int.natAbs_of_nonneg (by omega)]; exact Int.emod_self
    rw [this]
    simp
theorem around_some (a m : Int) (hm : 2 ≤ m) (hm2 : m ≤ 1000000) : impl_around.f a m = some (a % m) := by
  unfold impl_around.f
  rw [if_neg (by omega), tmod_fix a m hm hm2]
theorem l1Mod_some (a m : Int) (hm : 2 ≤ m) (hm2 : m ≤ 1000000) : spec_l1Mod.f a m = some (a % m) := by
  unfold spec_l1Mod.f
  rw [if_neg (by omega), tmod_fix a m hm hm2]
end Go.Proofs.Ytmliabppmobliaa.Pure
