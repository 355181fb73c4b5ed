/- The program's OtherTurns returns what the reference's returns, for all arguments; no condition beyond the law's own. -/
import Derived.Test.YtmliabppmobliaaQx0
import Derived.Test.YtmliabppmobliaaQx3
import Derived.Test.YtmliabppmobliaaQx4
import Derived.Test.YtmliabppmobliaaHarn
import Derived.Test.YtmliabppmobliaaDialC
namespace Go.Proofs.Ytmliabppmobliaa.Pure
open Go.RowKit Go.Proofs.Ytmliabppmobliaa.Q Go.Proofs.YtmliabppmobliaaW.PrintWords Go.Proofs.YtmliabppmobliaaW.PrintLast Go.Proofs.YtmliabppmobliaaW.PrintMore
set_option linter.unusedVariables false

theorem OtherTurns_law (xs l : List Int) (v : Bool) (hn : xs.length < 1099511627776) (hv : l.length < 1099511627776)
    (hs : Ev (fun k => spec_OtherTurns.f k xs) (l, v)) (hi : Ev (fun k => impl_OtherTurns.f k xs) (l, v)) : Ev (fun k => laws_FnExactOtherTurns.f k xs) true := by
  unfold laws_FnExactOtherTurns.f
  by_cases hb : (xs.length : Int) > 1048576
  · exact Ev.pos hb (Ev.now _)
  refine Ev.neg hb ?_
  refine Ev.bind (toIntS_ev xs hn) (Ev.bind hs (Ev.bind (toIntS_ev xs hn) (Ev.bind hi (Ev.bind (eqIntS_ev _ _ hv) ?_))))
  refine Ev.pos (by simp) ?_
  refine Ev.step (fun k => by rw [laws_FnExactOtherTurns.j0]) ?_
  refine Ev.neg (by simp) ?_
  refine Ev.bind (toIntS_ev xs hn) (Ev.bind (eqIntS_ev _ _ hn) ?_)
  refine Ev.pos (by simp) ?_
  refine Ev.bind (markIntS_ev xs hn) ?_
  refine Ev.neg (by simp only []; omega) ?_
  refine Ev.bind (eqIntS_ev _ _ hv) ?_
  refine Ev.pos (by simp) ?_
  refine Ev.step (fun k => by rw [laws_FnExactOtherTurns.j1]) ?_
  refine Ev.neg (by simp) ?_
  refine Ev.bind (markIntS_ev l hv) (Ev.bind (heldIntS_ev l.length hv) ?_)
  refine Ev.neg (by omega) (Ev.pos rfl ?_)
  refine Ev.bind (toIntS_ev xs hn) (Ev.bind hi (Ev.bind (eqIntS_ev _ _ hv) ?_))
  refine Ev.pos (by simp) ?_
  refine Ev.step (fun k => by rw [laws_FnExactOtherTurns.j2]) ?_
  refine Ev.neg (by simp) ?_
  refine Ev.bind (heldIntS_ev l.length hv) ?_
  exact Ev.neg (by omega) (Ev.pos rfl (Ev.now _))

theorem FnExactOtherTurns : laws_FnExactOtherTurns.Pure := by
  intro xs hn _ _
  apply Ev.rounds
  by_cases hx : xs.length < 1099511627776
  · exact OtherTurns_law xs _ _ hx (Nat.lt_of_le_of_lt (otherV_length xs) hx) (specOther_ev xs hx) (implOther_ev xs)
  · unfold laws_FnExactOtherTurns.f
    exact Ev.pos (by omega) (Ev.now _)
end Go.Proofs.Ytmliabppmobliaa.Pure
