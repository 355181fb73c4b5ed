/- The program's StopsOf returns what the reference's returns, for all arguments; no condition beyond the law's own. -/
import Derived.Test.YtmliabppmobliaaQx0
import Derived.Test.YtmliabppmobliaaQx8
import Derived.Test.YtmliabppmobliaaQx9
import Derived.Test.YtmliabppmobliaaHarn
import Derived.Test.YtmliabppmobliaaDialB
namespace Go.Proofs.Ytmliabppmobliaa.Pure
open Go.RowKit Go.Proofs.Ytmliabppmobliaa.Q Go.Proofs.YtmliabppmobliaaW.PrintWords Go.Proofs.YtmliabppmobliaaW.PrintLast Go.Proofs.YtmliabppmobliaaW.PrintMore
set_option linter.unusedVariables false

theorem StopsOf_law (m s : Int) (xs l : List Int) (v : Bool) (hn : xs.length < 1099511627776) (hv : l.length < 1099511627776)
    (hs : Ev (fun k => spec_StopsOf.f k m s xs) (l, v)) (hi : Ev (fun k => impl_StopsOf.f k m s xs) (l, v)) : Ev (fun k => laws_FnExactStopsOf.f k m s xs) true := by
  unfold laws_FnExactStopsOf.f
  by_cases hb : (xs.length : Int) > 1048576
  · exact Ev.pos hb (Ev.now _)
  refine Ev.neg hb ?_
  refine Ev.bind (toIntS_ev xs hn) (Ev.bind hs (Ev.bind (toIntS_ev xs hn) (Ev.bind hi (Ev.bind (eqIntS_ev _ _ hv) ?_))))
  refine Ev.pos (by simp) ?_
  refine Ev.step (fun k => by rw [laws_FnExactStopsOf.j0]) ?_
  refine Ev.neg (by simp) ?_
  refine Ev.bind (toIntS_ev xs hn) (Ev.bind (eqIntS_ev _ _ hn) ?_)
  refine Ev.pos (by simp) ?_
  refine Ev.bind (markIntS_ev xs hn) ?_
  refine Ev.neg (by simp only []; omega) ?_
  refine Ev.bind (eqIntS_ev _ _ hv) ?_
  refine Ev.pos (by simp) ?_
  refine Ev.step (fun k => by rw [laws_FnExactStopsOf.j1]) ?_
  refine Ev.neg (by simp) ?_
  refine Ev.bind (markIntS_ev l hv) (Ev.bind (heldIntS_ev l.length hv) ?_)
  refine Ev.neg (by omega) (Ev.pos rfl ?_)
  refine Ev.bind (toIntS_ev xs hn) (Ev.bind hi (Ev.bind (eqIntS_ev _ _ hv) ?_))
  refine Ev.pos (by simp) ?_
  refine Ev.step (fun k => by rw [laws_FnExactStopsOf.j2]) ?_
  refine Ev.neg (by simp) ?_
  refine Ev.bind (heldIntS_ev l.length hv) ?_
  exact Ev.neg (by omega) (Ev.pos rfl (Ev.now _))

theorem FnExactStopsOf : laws_FnExactStopsOf.Pure := by
  intro m s xs _ _ hn _ _
  have hx : xs.length < 1099511627776 ∨ ¬ xs.length < 1099511627776 := by omega
  apply Ev.rounds
  rcases hx with hx | hx
  · exact StopsOf_law m s xs _ _ hx (Nat.lt_of_le_of_lt (stopsV_length m s xs) hx) (specStopsOf_ev m s xs hx) (implStopsOf_ev m s xs)
  · unfold laws_FnExactStopsOf.f
    exact Ev.pos (by omega) (Ev.now _)
end Go.Proofs.Ytmliabppmobliaa.Pure
