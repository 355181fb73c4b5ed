/- The program's CodeOfTurns returns what the reference's returns, for all arguments; no condition beyond the law's own. -/
import Derived.Test.YtbmbplmcdbgnnaaQx0
import Derived.Test.YtbmbplmcdbgnnaaQx4
import Derived.Test.YtbmbplmcdbgnnaaQx5
import Derived.Test.YtbmbplmcdbgnnaaQx6
import Derived.Test.YtbmbplmcdbgnnaaHarn
import Derived.Test.YtbmbplmcdbgnnaaDialG
namespace Go.Proofs.Ytbmbplmcdbgnnaa.Pure
open Go.RowKit Go.Proofs.Ytbmbplmcdbgnnaa.Q Go.Proofs.YtbmbplmcdbgnnaaW.PrintWords Go.Proofs.YtbmbplmcdbgnnaaW.PrintLast Go.Proofs.YtbmbplmcdbgnnaaW.PrintMore
set_option linter.unusedVariables false

theorem CodeOfTurns_law (m s : Int) (xs l : List Int) (v : Bool) (hn : xs.length < 1099511627776) (hv : l.length < 1099511627776)
    (hs : Ev (fun k => spec_CodeOfTurns.f k m s xs) (l, v)) (hi : Ev (fun k => impl_CodeOfTurns.f k m s xs) (l, v)) : Ev (fun k => laws_FnExactCodeOfTurns.f k m s xs) true := by
  unfold laws_FnExactCodeOfTurns.f
  by_cases hb : (xs.length : Int) > 1048576
  · exact Ev.pos hb (Ev.now _)
  refine Ev.neg hb ?_
  refine Ev.bind (toIntS_ev xs hn) (Ev.bind hs (Ev.bind (toIntS_ev xs hn) (Ev.bind hi (Ev.bind (eqIntS_ev _ _ hv) ?_))))
  refine Ev.pos (by simp) ?_
  refine Ev.step (fun k => by rw [laws_FnExactCodeOfTurns.j0]) ?_
  refine Ev.neg (by simp) ?_
  refine Ev.bind (toIntS_ev xs hn) (Ev.bind (eqIntS_ev _ _ hn) ?_)
  refine Ev.pos (by simp) ?_
  refine Ev.bind (markIntS_ev xs hn) ?_
  refine Ev.neg (by simp only []; omega) ?_
  refine Ev.bind (eqIntS_ev _ _ hv) ?_
  refine Ev.pos (by simp) ?_
  refine Ev.step (fun k => by rw [laws_FnExactCodeOfTurns.j1]) ?_
  refine Ev.neg (by simp) ?_
  refine Ev.bind (markIntS_ev l hv) (Ev.bind (heldIntS_ev l.length hv) ?_)
  refine Ev.neg (by omega) (Ev.pos rfl ?_)
  refine Ev.bind (toIntS_ev xs hn) (Ev.bind hi (Ev.bind (eqIntS_ev _ _ hv) ?_))
  refine Ev.pos (by simp) ?_
  refine Ev.step (fun k => by rw [laws_FnExactCodeOfTurns.j2]) ?_
  refine Ev.neg (by simp) ?_
  refine Ev.bind (heldIntS_ev l.length hv) ?_
  exact Ev.neg (by omega) (Ev.pos rfl (Ev.now _))

theorem FnExactCodeOfTurns : laws_FnExactCodeOfTurns.Pure := by
  intro m s l _ _ hn _ _
  apply Ev.rounds
  by_cases hx : l.length < 10000000
  · have hs := specCodeOfTurns_ev m s l (by omega)
    have hi := implCodeOfTurns_ev m s l
    have hl := codeOfV_length m s l
    generalize codeOfV m s l = v at hs hi hl
    obtain ⟨l', b⟩ := v
    exact CodeOfTurns_law m s l l' b (by omega) (by simp only at hl; omega) hs hi
  · unfold laws_FnExactCodeOfTurns.f
    exact Ev.pos (by omega) (Ev.now _)
end Go.Proofs.Ytbmbplmcdbgnnaa.Pure
