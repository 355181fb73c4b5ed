/- The program's PlayFirst returns what the reference's returns, for all arguments; no condition beyond the law's own. -/
import Derived.Test.YthikcnbjfnkglaaSx0
import Derived.Test.YthikcnbjfnkglaaSx1
import Derived.Test.YthikcnbjfnkglaaSx14
import Derived.Test.YthikcnbjfnkglaaHintP
import Derived.Test.YthikcnbjfnkglaaHintQ
import Derived.Test.YthikcnbjfnkglaaHintM
import Derived.Test.YthikcnbjfnkglaaStatFnExactPlayFirst
namespace Go.Proofs.Ythikcnbjfnkglaa.Pure
open Go.RowKit Go.Proofs.Ythikcnbjfnkglaa.S Go.Proofs.YthikcnbjfnkglaaW.PrintWords Go.Proofs.YthikcnbjfnkglaaW.PrintLast Go.Proofs.YthikcnbjfnkglaaW.PrintMore
set_option linter.unusedVariables false
theorem playV_length (a b : Int) (c : ByteArray) : (playV a b c).1.length ≤ 200 := by
  unfold playV
  split
  · unfold capV
    split
    · rename_i h
      simpa using h
    · simp
  · simp
theorem FnExactPlayFirst : laws_FnExactPlayFirst.Pure := by
  intro a b c _ _ hc
  apply Ev.rounds
  unfold laws_FnExactPlayFirst.f
  by_cases h1 : (c.size : Int) > 1048576
  · exact Ev.pos h1 (Ev.now _)
  refine Ev.neg h1 ?_
  have hlk : laws_toLock.f a b = some (a, b) := rfl
  have hi := implPlayFirst_ev a b c (by omega)
  have hsp := specPlayFirst_ev a b c (by omega)
  have hlen := playV_length a b c
  generalize playV a b c = v at hi hsp hlen
  obtain ⟨l', v⟩ := v
  simp only at hlen
  have heq := eqHintS_ev l' (by omega)
  refine Ev.let_ hlk (Ev.bind hsp (Ev.let_ hlk (Ev.bind hi (Ev.bind heq (Ev.pos rfl ?_)))))
  refine Ev.step (fun k => by rw [laws_FnExactPlayFirst.j0]) ?_
  refine Ev.neg (by simp) (Ev.bind (markHints_ev l' (by omega)) (Ev.bind (heldHints_ev l'.length (by omega)) (Ev.neg (by omega) (Ev.pos rfl (Ev.let_ hlk (Ev.bind hi (Ev.bind heq (Ev.pos rfl ?_))))))))
  refine Ev.step (fun k => by rw [laws_FnExactPlayFirst.j1]) ?_
  exact Ev.neg (by simp) (Ev.bind (heldHints_ev l'.length (by omega)) (Ev.neg (by omega) (Ev.pos rfl (Ev.now _))))
end Go.Proofs.Ythikcnbjfnkglaa.Pure
