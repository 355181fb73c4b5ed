/- The program's OpeningTurns returns what the reference's returns, for all arguments; no condition beyond the law's own. -/
import Derived.Test.YtbmbplmcdbgnnaaQx0
import Derived.Test.YtbmbplmcdbgnnaaQx1
import Derived.Test.YtbmbplmcdbgnnaaQx2
import Derived.Test.YtbmbplmcdbgnnaaQx3
import Derived.Test.YtbmbplmcdbgnnaaHarn
import Derived.Test.YtbmbplmcdbgnnaaDialG
namespace Go.Proofs.Ytbmbplmcdbgnnaa.Pure
open Go.RowKit Go.Proofs.Ytbmbplmcdbgnnaa.Q Go.Proofs.YtbmbplmcdbgnnaaW.PrintWords Go.Proofs.YtbmbplmcdbgnnaaW.PrintLast Go.Proofs.YtbmbplmcdbgnnaaW.PrintMore
set_option linter.unusedVariables false

theorem OpeningTurns_law (m s : Int) (xs l : List Int) (v : Bool) (hn : xs.length < 1099511627776) (hv : l.length < 1099511627776)
    (hs : Ev (fun k => spec_OpeningTurns.f k m s xs) (l, v)) (hi : Ev (fun k => impl_OpeningTurns.f k m s xs) (l, v)) : Ev (fun k => laws_FnExactOpeningTurns.f k m s xs) true := by
  unfold laws_FnExactOpeningTurns.f
  by_cases hb : (xs.length : Int) > 1048576
  · exact Ev.pos hb (Ev.now _)
  refine Ev.neg hb ?_
  refine Ev.bind (toIntS_ev xs hn) (Ev.bind hs (Ev.bind (toIntS_ev xs hn) (Ev.bind hi (Ev.bind (eqIntS_ev _ _ hv) ?_))))
  refine Ev.pos (by simp) ?_
  refine Ev.step (fun k => by rw [laws_FnExactOpeningTurns.j0]) ?_
  refine Ev.neg (by simp) ?_
  refine Ev.bind (toIntS_ev xs hn) (Ev.bind (eqIntS_ev _ _ hn) ?_)
  refine Ev.pos (by simp) ?_
  refine Ev.bind (markIntS_ev xs hn) ?_
  refine Ev.neg (by simp only []; omega) ?_
  refine Ev.bind (eqIntS_ev _ _ hv) ?_
  refine Ev.pos (by simp) ?_
  refine Ev.step (fun k => by rw [laws_FnExactOpeningTurns.j1]) ?_
  refine Ev.neg (by simp) ?_
  refine Ev.bind (markIntS_ev l hv) (Ev.bind (heldIntS_ev l.length hv) ?_)
  refine Ev.neg (by omega) (Ev.pos rfl ?_)
  refine Ev.bind (toIntS_ev xs hn) (Ev.bind hi (Ev.bind (eqIntS_ev _ _ hv) ?_))
  refine Ev.pos (by simp) ?_
  refine Ev.step (fun k => by rw [laws_FnExactOpeningTurns.j2]) ?_
  refine Ev.neg (by simp) ?_
  refine Ev.bind (heldIntS_ev l.length hv) ?_
  exact Ev.neg (by omega) (Ev.pos rfl (Ev.now _))

theorem FnExactOpeningTurns : laws_FnExactOpeningTurns.Pure := by
  intro m s l _ _ hn _ _
  apply Ev.rounds
  by_cases hx : l.length < 10000000
  · have hs := specOpeningTurns_ev m s l (by omega)
    have hi := implOpeningTurns_ev m s l (by omega)
    have hl := openingV_length m s l
    generalize openingV m s l = v at hs hi hl
    obtain ⟨l', b⟩ := v
    exact OpeningTurns_law m s l l' b (by omega) (by simp only at hl; omega) hs hi
  · unfold laws_FnExactOpeningTurns.f
    exact Ev.pos (by omega) (Ev.now _)
end Go.Proofs.Ytbmbplmcdbgnnaa.Pure
