/- The program's MostGuesses returns what the reference's returns, for all arguments; no condition beyond the law's own. -/
import Derived.Test.YthikcnbjfnkglaaSx0
import Derived.Test.YthikcnbjfnkglaaSx1
import Derived.Test.YthikcnbjfnkglaaSx11
import Derived.Test.YthikcnbjfnkglaaHintR
import Derived.Test.YthikcnbjfnkglaaStatFnExactMostGuesses
namespace Go.Proofs.Ythikcnbjfnkglaa.Pure
open Go.RowKit Go.Proofs.Ythikcnbjfnkglaa.S Go.Proofs.YthikcnbjfnkglaaW.PrintWords Go.Proofs.YthikcnbjfnkglaaW.PrintLast Go.Proofs.YthikcnbjfnkglaaW.PrintMore
set_option linter.unusedVariables false
theorem FnExactMostGuesses : laws_FnExactMostGuesses.Pure := by
  intro a b _ _
  apply Ev.rounds
  unfold laws_FnExactMostGuesses.f
  have hlk : laws_toLock.f a b = some (a, b) := rfl
  have key : ∃ v, Ev (fun K => impl_MostGuesses.f K a b) v ∧ Ev (fun K => spec_MostGuesses.f K a b) v := by
    unfold impl_MostGuesses.f spec_MostGuesses.f
    by_cases h : smallB a b 256 = true
    · have hi := isSmall_ev a b 256
      have hh := hiLock_ev a b 256
      rw [h] at hi hh
      obtain ⟨w, d, rfl, rfl, h3, h4, h5, h6⟩ := lock_nat (small_lock h)
      have h256 := small_256 h
      refine ⟨((mostL w d (d ^ w)).1, true), Ev.bind hi (Ev.pos rfl (Ev.bind (hardest_ev w d h3 h4 ⟨h5, h6⟩ h256) (Ev.now _))), Ev.bind hh (Ev.pos rfl (Ev.bind (hiMost_ev w d h3 h4 ⟨h5, h6⟩ h256) (Ev.now _)))⟩
    · exact ⟨(0, false), Ev.bind (isSmall_ev a b 256) (Ev.neg h (Ev.now _)), Ev.bind (hiLock_ev a b 256) (Ev.neg h (Ev.now _))⟩
  obtain ⟨v, hi, hs⟩ := key
  exact Ev.let_ hlk (Ev.bind hs (Ev.let_ hlk (Ev.bind hi (Ev.pos rfl (Ev.neg (by simp) (Ev.now _))))))
end Go.Proofs.Ythikcnbjfnkglaa.Pure
