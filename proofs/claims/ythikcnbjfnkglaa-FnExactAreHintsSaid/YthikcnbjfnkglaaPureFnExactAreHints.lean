/- The program's AreHints returns what the reference's returns, for all arguments; no condition beyond the law's own. -/
import Derived.Test.YthikcnbjfnkglaaQx0
import Derived.Test.YthikcnbjfnkglaaQx1
import Derived.Test.YthikcnbjfnkglaaQx3
import Derived.Test.YthikcnbjfnkglaaQx4
import Derived.Test.YthikcnbjfnkglaaHintC
import Derived.Test.YthikcnbjfnkglaaHintH
import Derived.Test.YthikcnbjfnkglaaStatFnExactAreHints
namespace Go.Proofs.Ythikcnbjfnkglaa.Pure
open Go.RowKit Go.Proofs.Ythikcnbjfnkglaa.Q Go.Proofs.YthikcnbjfnkglaaW.PrintWords Go.Proofs.YthikcnbjfnkglaaW.PrintLast Go.Proofs.YthikcnbjfnkglaaW.PrintMore
set_option linter.unusedVariables false
def areHintsV (a b : Int) (l : List S75) : Bool × Bool := if smallB a b 1000 = true then (hintsB a b l, true) else (false, false)
theorem implAreHintsX_ev (a b : Int) (l : List S75) (hl : l.length < 1000000000) (hx : ∀ x ∈ l, x.f0.size < 1099511627776) : Ev (fun K => impl_AreHints.f K a b l) (areHintsV a b l) := by
  unfold impl_AreHints.f areHintsV
  have h0 := isHinted_ev a b [] (by simp) (by simp)
  rw [List.all_nil, Bool.and_true] at h0
  refine Ev.bind h0 ?_
  by_cases h : smallB a b 1000 = true
  · refine Ev.pos h (Ev.bind (implAreHints_ev a b l hl hx) (Ev.val (Ev.now _) ?_))
    rw [if_pos h, h, Bool.true_and]
  · exact Ev.neg h (Ev.val (Ev.now _) (by rw [if_neg h]))
theorem specAreHints_ev (a b : Int) (l : List S75) (hx : ∀ x ∈ l, x.f0.size < 1099511627776) : Ev (fun K => spec_AreHints.f K a b l) (areHintsV a b l) := by
  unfold spec_AreHints.f areHintsV
  refine Ev.bind (hiLock_ev a b 1000) ?_
  by_cases h : smallB a b 1000 = true
  · exact Ev.pos h (Ev.bind (hiGood_ev a b (small_lock h) l hx) (Ev.val (Ev.now _) (by rw [if_pos h])))
  · exact Ev.neg h (Ev.val (Ev.now _) (by rw [if_neg h]))
theorem FnExactAreHints : laws_FnExactAreHints.Pure := by
  intro a b l _ _ hl
  apply Ev.rounds
  obtain ⟨r, hr, hc⟩ := szHintS_ev l hl.1 (fun x hx => (hl.2 x hx).1)
  unfold laws_FnExactAreHints.f
  refine Ev.bind hr ?_
  by_cases h0 : r < 0
  · exact Ev.pos h0 (Ev.now _)
  refine Ev.neg h0 ?_
  obtain ⟨hn, hs⟩ := hc.resolve_left h0
  have hm : ∀ x ∈ l.map toH, x.f0.size < 1099511627776 := by
    intro x hx
    obtain ⟨y, hy, rfl⟩ := List.mem_map.mp hx
    have := hs y hy
    show y.f0.size < _
    omega
  have ht := toHintS_ev l (by omega)
  refine Ev.let_ (show laws_toLock.f a b = some (a, b) from rfl) (Ev.bind ht (Ev.bind (specAreHints_ev a b _ hm) (Ev.bind ht (Ev.let_ (show laws_toLock.f a b = some (a, b) from rfl) (Ev.bind (implAreHintsX_ev a b _ (by simp; omega) hm) ?_)))))
  refine Ev.neg (by simp) ?_
  refine Ev.step (fun k => by rw [laws_FnExactAreHints.j0]) ?_
  refine Ev.neg (by simp) (Ev.bind ht (Ev.bind (eqHintS_ev _ (by simp; omega)) ?_))
  exact Ev.pos rfl (Ev.now _)
end Go.Proofs.Ythikcnbjfnkglaa.Pure
