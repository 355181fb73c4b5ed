/- The program's CountGuesses returns what the reference's returns, for all arguments; no condition beyond the law's own. -/
import Derived.Test.YthikcnbjfnkglaaSx0
import Derived.Test.YthikcnbjfnkglaaSx1
import Derived.Test.YthikcnbjfnkglaaSx8
import Derived.Test.YthikcnbjfnkglaaHintQ
import Derived.Test.YthikcnbjfnkglaaStatFnExactCountGuesses
namespace Go.Proofs.Ythikcnbjfnkglaa.Pure
open Go.RowKit Go.Proofs.Ythikcnbjfnkglaa.S Go.Proofs.YthikcnbjfnkglaaW.PrintWords Go.Proofs.YthikcnbjfnkglaaW.PrintLast Go.Proofs.YthikcnbjfnkglaaW.PrintMore
set_option linter.unusedVariables false
theorem playV_none (a b : Int) (c : ByteArray) (h : (playV a b c).2 = false) : (playV a b c).1 = [] := by
  unfold playV capV at *
  split at h
  · split at h
    · exact absurd h (by simp)
    · rename_i h1 h2
      rw [if_pos h1, if_neg h2]
  · rename_i h1
    rw [if_neg h1]
theorem FnExactCountGuesses : laws_FnExactCountGuesses.Pure := by
  intro a b c _ _ hc
  apply Ev.rounds
  unfold laws_FnExactCountGuesses.f
  by_cases h1 : (c.size : Int) > 1048576
  · exact Ev.pos h1 (Ev.now _)
  refine Ev.neg h1 ?_
  have hlk : laws_toLock.f a b = some (a, b) := rfl
  have hi : Ev (fun K => impl_CountGuesses.f K a b c) (((playV a b c).1.length : Int), (playV a b c).2) := by
    unfold impl_CountGuesses.f
    exact Ev.bind (implPlayFirst_ev a b c (by omega)) (Ev.now _)
  have hs : Ev (fun K => spec_CountGuesses.f K a b c) (((playV a b c).1.length : Int), (playV a b c).2) := by
    unfold spec_CountGuesses.f
    refine Ev.bind (specPlayFirst_ev a b c (by omega)) ?_
    by_cases h : (playV a b c).2 = true
    · exact Ev.pos h (Ev.val (Ev.now _) (by rw [h]))
    · refine Ev.neg h (Ev.val (Ev.now _) ?_)
      have h' := Bool.eq_false_iff.mpr h
      rw [playV_none a b c h', h']
      rfl
  exact Ev.let_ hlk (Ev.bind hs (Ev.let_ hlk (Ev.bind hi (Ev.pos rfl (Ev.neg (by simp) (Ev.now _))))))
end Go.Proofs.Ythikcnbjfnkglaa.Pure
