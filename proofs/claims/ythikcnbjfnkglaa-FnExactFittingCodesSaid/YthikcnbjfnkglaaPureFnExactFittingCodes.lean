/- The program's FittingCodes returns what the reference's returns, for all arguments; no condition beyond the law's own. -/
import Derived.Test.YthikcnbjfnkglaaRx0
import Derived.Test.YthikcnbjfnkglaaRx1
import Derived.Test.YthikcnbjfnkglaaRx8
import Derived.Test.YthikcnbjfnkglaaRx9
import Derived.Test.YthikcnbjfnkglaaHintD
import Derived.Test.YthikcnbjfnkglaaHintS
import Derived.Test.YthikcnbjfnkglaaStatFnExactFittingCodes
namespace Go.Proofs.Ythikcnbjfnkglaa.Pure
open Go.RowKit Go.Proofs.Ythikcnbjfnkglaa.R Go.Proofs.YthikcnbjfnkglaaW.PrintWords Go.Proofs.YthikcnbjfnkglaaW.PrintLast Go.Proofs.YthikcnbjfnkglaaW.PrintMore
set_option linter.unusedVariables false
def fitV (a b : Int) (l : List S75) : List ByteArray × Bool := if smallB a b 1000 = true ∧ hintsB a b l = true then (fitC a.toNat b.toNat l, true) else ([], false)
theorem implFit_ev (a b : Int) (l : List S75) (hl : l.length < 1000000000) (hx : ∀ x ∈ l, x.f0.size < 1099511627776) : Ev (fun K => impl_FittingCodes.f K a b l) (fitV a b l) := by
  unfold impl_FittingCodes.f
  refine Ev.bind (implAreHints_ev a b l hl hx) ?_
  by_cases h : smallB a b 1000 = true ∧ hintsB a b l = true
  · have hk := small_lock h.1
    have ho := okH_of hk h.2
    obtain ⟨w, d, rfl, rfl, h3, h4, h5, h6⟩ := lock_nat hk
    rw [Int.toNat_natCast] at ho
    refine Ev.pos (by rw [h.1, h.2]; rfl) (Ev.bind (fitting_ev w d h3 h4 ⟨h5, h6⟩ l ho) (Ev.val (Ev.now _) ?_))
    unfold fitV
    rw [if_pos h]
    simp only [Int.toNat_natCast]
  · refine Ev.neg (by rw [Bool.and_eq_true]; exact h) (Ev.val (Ev.now _) ?_)
    unfold fitV
    rw [if_neg h]
theorem specFit2_ev (a b : Int) (l : List S75) (hx : ∀ x ∈ l, x.f0.size < 1099511627776) : Ev (fun K => spec_FittingCodes.f K a b l) (fitV a b l) := by
  unfold spec_FittingCodes.f
  refine Ev.bind (hiAsked_ev a b l hx) ?_
  by_cases h : smallB a b 1000 = true ∧ hintsB a b l = true
  · have hk := small_lock h.1
    have ho := okH_of hk h.2
    obtain ⟨w, d, rfl, rfl, h3, h4, h5, h6⟩ := lock_nat hk
    rw [Int.toNat_natCast] at ho
    refine Ev.pos (by rw [h.1, h.2]; rfl) (specFit_ev w d h3 h4 ⟨h5, h6⟩ l ho (fun _ u => some (u, true)) _ (Ev.val (Ev.now _) ?_))
    unfold fitV
    rw [if_pos h]
    simp only [Int.toNat_natCast]
  · refine Ev.neg (by rw [Bool.and_eq_true]; exact h) (Ev.val (Ev.now _) ?_)
    unfold fitV
    rw [if_neg h]
theorem fitV_length (a b : Int) (l : List S75) : (fitV a b l).1.length ≤ 1000000 := by
  unfold fitV
  split
  · rename_i h
    obtain ⟨w, d, rfl, rfl, h3, h4, h5, h6⟩ := lock_nat (small_lock h.1)
    have := fitC_length w d l
    have := pow_lock (w := w) h4 h5 h6
    simp only [Int.toNat_natCast]
    omega
  · simp
theorem FnExactFittingCodes : laws_FnExactFittingCodes.Pure := by
  intro a b l _ _ hl
  apply Ev.rounds
  unfold laws_FnExactFittingCodes.f
  obtain ⟨r, hr, hc⟩ := szHintS_ev l hl.1 (fun x hx => (hl.2 x hx).1)
  refine Ev.bind hr ?_
  by_cases h0 : r < 0
  · exact Ev.pos h0 (Ev.now _)
  refine Ev.neg h0 ?_
  obtain ⟨hn, hs⟩ := hc.resolve_left h0
  have hm : ∀ x ∈ l.map toH, x.f0.size < 1099511627776 := by
    intro x hx
    obtain ⟨y, hy, rfl⟩ := List.mem_map.mp hx
    have := hs y hy
    show y.f0.size < _
    omega
  have ht := toHintS_ev l (by omega)
  have hlk : laws_toLock.f a b = some (a, b) := rfl
  have hi := implFit_ev a b (l.map toH) (by simp; omega) hm
  have hsp := specFit2_ev a b (l.map toH) hm
  have hlen := fitV_length a b (l.map toH)
  generalize fitV a b (l.map toH) = v at hi hsp hlen
  obtain ⟨l', v⟩ := v
  simp only at hlen
  obtain ⟨ys, hmk⟩ := markHintS_ev (l.map toH) (by simp; omega)
  have heq := eqStringS_ev l' (by omega)
  refine Ev.let_ hlk (Ev.bind ht (Ev.bind hsp (Ev.bind ht (Ev.let_ hlk (Ev.bind hi (Ev.bind heq (Ev.pos rfl ?_)))))))
  refine Ev.step (fun k => by rw [laws_FnExactFittingCodes.j0]) ?_
  refine Ev.neg (by simp) (Ev.bind ht (Ev.bind (eqHintS_ev _ (by simp; omega)) (Ev.pos rfl (Ev.bind hmk (Ev.neg (by simp only []; omega) (Ev.bind heq (Ev.pos rfl ?_)))))))
  refine Ev.step (fun k => by rw [laws_FnExactFittingCodes.j1]) ?_
  refine Ev.neg (by simp) (Ev.bind (markStringS_ev l' (by omega)) (Ev.bind (heldStringS_ev l'.length (by omega)) (Ev.neg (by omega) (Ev.pos rfl (Ev.let_ hlk (Ev.bind ht (Ev.bind hi (Ev.bind heq (Ev.pos rfl ?_)))))))))
  refine Ev.step (fun k => by rw [laws_FnExactFittingCodes.j2]) ?_
  exact Ev.neg (by simp) (Ev.bind (heldStringS_ev l'.length (by omega)) (Ev.neg (by omega) (Ev.pos rfl (Ev.now _))))
end Go.Proofs.Ythikcnbjfnkglaa.Pure
