/- The program's CountFitting returns what the reference's returns, for all arguments; no condition beyond the law's own. -/
import Derived.Test.YthikcnbjfnkglaaRx0
import Derived.Test.YthikcnbjfnkglaaRx1
import Derived.Test.YthikcnbjfnkglaaRx7
import Derived.Test.YthikcnbjfnkglaaHintD
import Derived.Test.YthikcnbjfnkglaaHintH
import Derived.Test.YthikcnbjfnkglaaStatFnExactCountFitting
namespace Go.Proofs.Ythikcnbjfnkglaa.Pure
open Go.RowKit Go.Proofs.Ythikcnbjfnkglaa.R Go.Proofs.YthikcnbjfnkglaaW.PrintWords Go.Proofs.YthikcnbjfnkglaaW.PrintLast Go.Proofs.YthikcnbjfnkglaaW.PrintMore
set_option linter.unusedVariables false
def countFitV (a b : Int) (l : List S75) : Int × Bool := if smallB a b 1000 = true ∧ hintsB a b l = true then (((fitC a.toNat b.toNat l).length : Int), true) else (0, false)
theorem implCountFit_ev (a b : Int) (l : List S75) (hl : l.length < 1000000000) (hx : ∀ x ∈ l, x.f0.size < 1099511627776) : Ev (fun K => impl_CountFitting.f K a b l) (countFitV a b l) := by
  unfold impl_CountFitting.f
  refine Ev.bind (implAreHints_ev a b l hl hx) ?_
  by_cases h : smallB a b 1000 = true ∧ hintsB a b l = true
  · have hk := small_lock h.1
    have ho := okH_of hk h.2
    obtain ⟨w, d, rfl, rfl, h3, h4, h5, h6⟩ := lock_nat hk
    rw [Int.toNat_natCast] at ho
    refine Ev.pos (by rw [h.1, h.2]; rfl) (Ev.bind (fitting_ev w d h3 h4 ⟨h5, h6⟩ l ho) (Ev.val (Ev.now _) ?_))
    unfold countFitV
    rw [if_pos h]
    simp only [Int.toNat_natCast]
  · refine Ev.neg (by rw [Bool.and_eq_true]; exact h) (Ev.val (Ev.now _) ?_)
    unfold countFitV
    rw [if_neg h]
theorem specCountFit_ev (a b : Int) (l : List S75) (hx : ∀ x ∈ l, x.f0.size < 1099511627776) : Ev (fun K => spec_CountFitting.f K a b l) (countFitV a b l) := by
  unfold spec_CountFitting.f
  refine Ev.bind (hiAsked_ev a b l hx) ?_
  by_cases h : smallB a b 1000 = true ∧ hintsB a b l = true
  · have hk := small_lock h.1
    have ho := okH_of hk h.2
    obtain ⟨w, d, rfl, rfl, h3, h4, h5, h6⟩ := lock_nat hk
    rw [Int.toNat_natCast] at ho
    refine Ev.pos (by rw [h.1, h.2]; rfl) (specFit_ev w d h3 h4 ⟨h5, h6⟩ l ho (fun _ u => some ((u.length : Int), true)) _ (Ev.val (Ev.now _) ?_))
    unfold countFitV
    rw [if_pos h]
    simp only [Int.toNat_natCast]
  · refine Ev.neg (by rw [Bool.and_eq_true]; exact h) (Ev.val (Ev.now _) ?_)
    unfold countFitV
    rw [if_neg h]
theorem FnExactCountFitting : laws_FnExactCountFitting.Pure := by
  intro a b l _ _ hl
  apply Ev.rounds
  unfold laws_FnExactCountFitting.f
  obtain ⟨r, hr, hc⟩ := szHintS_ev l hl.1 (fun x hx => (hl.2 x hx).1)
  refine Ev.bind hr ?_
  by_cases h0 : r < 0
  · exact Ev.pos h0 (Ev.now _)
  refine Ev.neg h0 ?_
  obtain ⟨hn, hs⟩ := hc.resolve_left h0
  have hm : ∀ x ∈ l.map toH, x.f0.size < 1099511627776 := by
    intro x hx
    obtain ⟨y, hy, rfl⟩ := List.mem_map.mp hx
    have := hs y hy
    show y.f0.size < _
    omega
  have ht := toHintS_ev l (by omega)
  refine Ev.let_ (show laws_toLock.f a b = some (a, b) from rfl) (Ev.bind ht (Ev.bind (specCountFit_ev a b _ hm) (Ev.bind ht (Ev.let_ (show laws_toLock.f a b = some (a, b) from rfl) (Ev.bind (implCountFit_ev a b _ (by simp; omega) hm) ?_)))))
  refine Ev.pos rfl ?_
  refine Ev.step (fun k => by rw [laws_FnExactCountFitting.j0]) ?_
  refine Ev.neg (by simp) (Ev.bind ht (Ev.bind (eqHintS_ev _ (by simp; omega)) ?_))
  exact Ev.pos rfl (Ev.now _)
end Go.Proofs.Ythikcnbjfnkglaa.Pure
