/- The program's HardestCodes returns what the reference's returns, for all arguments; no condition beyond the law's own. -/
import Derived.Test.YthikcnbjfnkglaaSx0
import Derived.Test.YthikcnbjfnkglaaSx1
import Derived.Test.YthikcnbjfnkglaaSx10
import Derived.Test.YthikcnbjfnkglaaSx9
import Derived.Test.YthikcnbjfnkglaaHintR
import Derived.Test.YthikcnbjfnkglaaHintS
import Derived.Test.YthikcnbjfnkglaaStatFnExactHardestCodes
namespace Go.Proofs.Ythikcnbjfnkglaa.Pure
open Go.RowKit Go.Proofs.Ythikcnbjfnkglaa.S Go.Proofs.YthikcnbjfnkglaaW.PrintWords Go.Proofs.YthikcnbjfnkglaaW.PrintLast Go.Proofs.YthikcnbjfnkglaaW.PrintMore
set_option linter.unusedVariables false
theorem FnExactHardestCodes : laws_FnExactHardestCodes.Pure := by
  intro a b _ _
  apply Ev.rounds
  unfold laws_FnExactHardestCodes.f
  have hlk : laws_toLock.f a b = some (a, b) := rfl
  have key : ∃ v, v.1.length ≤ 256 ∧ Ev (fun K => impl_HardestCodes.f K a b) v ∧ Ev (fun K => spec_HardestCodes.f K a b) v := by
    unfold impl_HardestCodes.f spec_HardestCodes.f
    by_cases h : smallB a b 256 = true
    · have hi := isSmall_ev a b 256
      have hh := hiLock_ev a b 256
      rw [h] at hi hh
      obtain ⟨w, d, rfl, rfl, h3, h4, h5, h6⟩ := lock_nat (small_lock h)
      have h256 := small_256 h
      have hl := mostL_length w d (d ^ w)
      refine ⟨((mostL w d (d ^ w)).2, true), by simp only []; omega, Ev.bind hi (Ev.pos rfl (Ev.bind (hardest_ev w d h3 h4 ⟨h5, h6⟩ h256) (Ev.now _))), Ev.bind hh (Ev.pos rfl (Ev.bind (hiMost_ev w d h3 h4 ⟨h5, h6⟩ h256) (Ev.now _)))⟩
    · exact ⟨([], false), by simp, Ev.bind (isSmall_ev a b 256) (Ev.neg h (Ev.now _)), Ev.bind (hiLock_ev a b 256) (Ev.neg h (Ev.now _))⟩
  obtain ⟨⟨l', v⟩, hlen, hi, hsp⟩ := key
  simp only at hlen
  have heq := eqStringS_ev l' (by omega)
  refine Ev.let_ hlk (Ev.bind hsp (Ev.let_ hlk (Ev.bind hi (Ev.bind heq (Ev.pos rfl ?_)))))
  refine Ev.step (fun k => by rw [laws_FnExactHardestCodes.j0]) ?_
  refine Ev.neg (by simp) (Ev.bind (markStringS_ev l' (by omega)) (Ev.bind (heldStringS_ev l'.length (by omega)) (Ev.neg (by omega) (Ev.pos rfl (Ev.let_ hlk (Ev.bind hi (Ev.bind heq (Ev.pos rfl ?_))))))))
  refine Ev.step (fun k => by rw [laws_FnExactHardestCodes.j1]) ?_
  exact Ev.neg (by simp) (Ev.bind (heldStringS_ev l'.length (by omega)) (Ev.neg (by omega) (Ev.pos rfl (Ev.now _))))
end Go.Proofs.Ythikcnbjfnkglaa.Pure
