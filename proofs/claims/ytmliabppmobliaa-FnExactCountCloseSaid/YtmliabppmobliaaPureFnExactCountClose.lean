/- The program's CountClose returns what the reference's returns, for all arguments; no condition beyond the law's own. -/
import Derived.Test.YtmliabppmobliaaQx0
import Derived.Test.YtmliabppmobliaaQx1
import Derived.Test.YtmliabppmobliaaDialA
namespace Go.Proofs.Ytmliabppmobliaa.Pure
open Go.RowKit Go.Proofs.Ytmliabppmobliaa.Q Go.Proofs.YtmliabppmobliaaW.PrintWords Go.Proofs.YtmliabppmobliaaW.PrintLast Go.Proofs.YtmliabppmobliaaW.PrintMore
set_option linter.unusedVariables false

theorem FnExactCountClose : laws_FnExactCountClose.Pure := by
  intro m s n hm hs hn
  apply Ev.rounds
  unfold laws_FnExactCountClose.f
  by_cases hA : (2 ≤ m ∧ m ≤ 100) ∧ 0 ≤ s ∧ s ≤ 100
  · by_cases hB : 1 ≤ n ∧ n ≤ 3
    · obtain ⟨⟨h1, h2⟩, h3, h4⟩ := hA
      obtain ⟨h5, h6⟩ := hB
      obtain ⟨b, hb⟩ : ∃ b : Nat, (b : Int) = min m (2 * s + 1) := ⟨(min m (2 * s + 1)).toNat, by omega⟩
      obtain ⟨e, rfl⟩ : ∃ e : Nat, n = (e : Int) := ⟨n.toNat, by omega⟩
      have hb1 : 1 ≤ b := by omega
      have hb2 : b ≤ 100 := by omega
      have hp : b ^ e ≤ 4611686018427387904 := by
        have : b ^ e ≤ 100 ^ 3 := Nat.le_trans (Nat.pow_le_pow_left hb2 e) (Nat.pow_le_pow_right (by omega) (by omega))
        omega
      have e1 : wrap64 (wrap64 (2 * s) + 1) = 2 * s + 1 := by rw [w64 (x := 2 * s) (by omega) (by omega), w64 (by omega) (by omega)]
      have e2 : mn m (2 * s + 1) = (b : Int) := by rw [hb]; unfold mn; split <;> omega
      refine Ev.bind (a := (((b ^ e : Nat) : Int), true)) ?_ (Ev.bind (a := (((b ^ e : Nat) : Int), true)) ?_ ?_)
      · unfold spec_CountClose.f
        refine Ev.let_ (diSlack_some m s e) ?_
        refine Ev.pos (by simp; omega) ?_
        rw [e1]
        refine Ev.let_ (l1Least_some _ _) ?_
        rw [← hb]
        exact Ev.bind (diPower_ev b e hb1 (by omega) (by omega) hp) (Ev.now _)
      · unfold impl_CountClose.f
        refine Ev.let_ (isSlack_some m s) ?_
        refine Ev.pos (by simp; omega) ?_
        refine Ev.let_ (isFew_some e) ?_
        refine Ev.pos (by simp; omega) ?_
        rw [e1, e2]
        exact Ev.bind (power_ev b e hb1 (by omega) hp) (Ev.now _)
      · exact Ev.pos rfl (Ev.neg (by simp) (Ev.now _))
    · refine Ev.bind (a := (0, false)) ?_ (Ev.bind (a := (0, false)) ?_ ?_)
      · unfold spec_CountClose.f
        refine Ev.let_ (diSlack_some m s n) ?_
        exact Ev.neg (by simp; omega) (Ev.now _)
      · unfold impl_CountClose.f
        refine Ev.let_ (isSlack_some m s) ?_
        refine Ev.pos (by simp; omega) ?_
        refine Ev.let_ (isFew_some n) ?_
        exact Ev.neg (by simp; omega) (Ev.now _)
      · exact Ev.pos rfl (Ev.neg (by simp) (Ev.now _))
  · refine Ev.bind (a := (0, false)) ?_ (Ev.bind (a := (0, false)) ?_ ?_)
    · unfold spec_CountClose.f
      refine Ev.let_ (diSlack_some m s n) ?_
      exact Ev.neg (by simp; omega) (Ev.now _)
    · unfold impl_CountClose.f
      refine Ev.let_ (isSlack_some m s) ?_
      exact Ev.neg (by simp; omega) (Ev.now _)
    · exact Ev.pos rfl (Ev.neg (by simp) (Ev.now _))
end Go.Proofs.Ytmliabppmobliaa.Pure
