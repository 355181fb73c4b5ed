/- The program's powers, and numbers of numbers. -/
import Derived.Test.YtbmbplmcdbgnnaaQx0
import Derived.Test.YtbmbplmcdbgnnaaQx6
import Derived.Test.YtbmbplmcdbgnnaaQx7
import Derived.Test.YtbmbplmcdbgnnaaDialA0
namespace Go.Proofs.Ytbmbplmcdbgnnaa.Pure
open Go.RowKit Go.Proofs.Ytbmbplmcdbgnnaa.Q Go.Proofs.YtbmbplmcdbgnnaaW.PrintWords Go.Proofs.YtbmbplmcdbgnnaaW.PrintLast Go.Proofs.YtbmbplmcdbgnnaaW.PrintMore
set_option linter.unusedVariables false

theorem isFew_some (n : Int) : impl_isFew.f n = some (decide (1 ≤ n ∧ n ≤ 3)) := by
  unfold impl_isFew.f
  rw [within_some]
  rfl
theorem pow_le' {b : Nat} {i n : Nat} (hb : 1 ≤ b) (h : i ≤ n) : b ^ i ≤ b ^ n := Nat.pow_le_pow_right hb h

theorem power_l0 (b n : Nat) (hb : 1 ≤ b) (hn : n < 1000) (hp : b ^ n ≤ 4611686018427387904) : ∀ (d i : Nat), i + d = n →
    Ev (fun k => impl_power.l0 k (b : Int) ((b ^ i : Nat) : Int) (n : Int) (i : Int)) ((b ^ n : Nat) : Int) := by
  intro d
  induction d with
  | zero =>
    intro i hi
    refine Ev.step (fun k => by rw [impl_power.l0]) ?_
    refine Ev.neg (by omega) (Ev.val (Ev.now _) ?_)
    rw [show i = n by omega]
  | succ d ih =>
    intro i hi
    refine Ev.step (fun k => by rw [impl_power.l0]) ?_
    refine Ev.pos (by omega) ?_
    have h1 : b ^ (i + 1) ≤ b ^ n := pow_le' hb (by omega)
    have h2 : ((b ^ i : Nat) : Int) * (b : Int) = ((b ^ (i + 1) : Nat) : Int) := by rw [Nat.pow_succ]; simp
    rw [h2, w64 (by omega) (by omega), w64n (by omega)]
    exact ih (i + 1) (by omega)
theorem power_ev (b n : Nat) (hb : 1 ≤ b) (hn : n < 1000) (hp : b ^ n ≤ 4611686018427387904) : Ev (fun k => impl_power.f k (b : Int) (n : Int)) ((b ^ n : Nat) : Int) := by
  unfold impl_power.f
  have := power_l0 b n hb hn hp n 0 (by omega)
  simpa using this
end Go.Proofs.Ytbmbplmcdbgnnaa.Pure
