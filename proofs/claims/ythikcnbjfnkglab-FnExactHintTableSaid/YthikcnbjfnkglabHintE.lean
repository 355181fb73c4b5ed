/- What the laws' own helpers on hints come to: comparisons. -/
import Derived.Test.YthikcnbjfnkglabTx0
import Derived.Test.YthikcnbjfnkglabTx1
import Derived.Test.YthikcnbjfnkglabHintA
namespace Go.Proofs.Ythikcnbjfnkglab.Pure
open Go.RowKit Go.Proofs.Ythikcnbjfnkglab.T Go.Proofs.YthikcnbjfnkglabW.PrintWords Go.Proofs.YthikcnbjfnkglabW.PrintLast Go.Proofs.YthikcnbjfnkglabW.PrintMore
set_option linter.unusedVariables false

theorem eqHint_some (x y : S47) (h : x = y) : laws_eqHint.f x.f0 x.f1 x.f2 y.f0 y.f1 y.f2 = some true := by
  subst h
  unfold laws_eqHint.f
  rw [if_pos rfl, if_pos rfl, if_pos rfl]
theorem eqHintS_l0 (xs : List S47) (hn : xs.length < 10000000) : ∀ (d i : Nat), i + d = xs.length → Ev (fun k => laws_eqHintS.l0 k xs xs (i : Int)) true := by
  intro d
  induction d with
  | zero =>
    intro i hi
    refine Ev.step (fun k => by rw [laws_eqHintS.l0]) ?_
    exact Ev.neg (by omega) (Ev.now _)
  | succ d ih =>
    intro i hi
    refine Ev.step (fun k => by rw [laws_eqHintS.l0]) ?_
    refine Ev.pos (by omega) (Ev.pos (by omega) (Ev.pos (by omega) ?_))
    refine Ev.let_ (eqHint_some _ _ rfl) (Ev.pos rfl ?_)
    rw [w64n (by omega)]
    exact ih (i + 1) (by omega)
theorem eqHintS_ev (xs : List S47) (hn : xs.length < 10000000) : Ev (fun k => laws_eqHintS.f k xs xs) true := by
  unfold laws_eqHintS.f
  exact Ev.pos rfl (eqHintS_l0 xs hn xs.length 0 (by omega))
end Go.Proofs.Ythikcnbjfnkglab.Pure
