/- The program's FitsHints returns what the reference's returns, for all arguments; no condition beyond the law's own. -/
import Derived.Test.YthikcnbjfnkglaaQx0
import Derived.Test.YthikcnbjfnkglaaQx1
import Derived.Test.YthikcnbjfnkglaaQx7
import Derived.Test.YthikcnbjfnkglaaQx8
import Derived.Test.YthikcnbjfnkglaaHintC
import Derived.Test.YthikcnbjfnkglaaHintH
import Derived.Test.YthikcnbjfnkglaaStatFnExactFitsHints
namespace Go.Proofs.Ythikcnbjfnkglaa.Pure
open Go.RowKit Go.Proofs.Ythikcnbjfnkglaa.Q Go.Proofs.YthikcnbjfnkglaaW.PrintWords Go.Proofs.YthikcnbjfnkglaaW.PrintLast Go.Proofs.YthikcnbjfnkglaaW.PrintMore
set_option linter.unusedVariables false
def fitsHintsV (a b : Int) (l : List S75) (c : ByteArray) : Bool × Bool := if (smallB a b 1000 = true ∧ hintsB a b l = true) ∧ codeB a b c = true then (fitsB l c, true) else (false, false)
theorem implFitsHints_ev (a b : Int) (l : List S75) (c : ByteArray) (hl : l.length < 1000000000) (hx : ∀ x ∈ l, x.f0.size < 1099511627776) (hc : c.size < 1099511627776) : Ev (fun K => impl_FitsHints.f K a b l c) (fitsHintsV a b l c) := by
  unfold impl_FitsHints.f
  refine Ev.bind (implAreHints_ev a b l hl hx) ?_
  by_cases h : smallB a b 1000 = true ∧ hintsB a b l = true
  · refine Ev.pos (by rw [h.1, h.2]; rfl) (Ev.bind (has_ev a b [c] (by simp) (by simpa using hc)) ?_)
    have hk := small_lock h.1
    have ho := okH_of hk h.2
    by_cases h2 : codeB a b c = true
    · refine Ev.pos (by simp [hk, h2]) (Ev.bind (implFits_ev a.toNat l ho c (digs_code hk h2) (by have := (codeB_iff.mp h2).1; omega)) (Ev.val (Ev.now _) ?_))
      unfold fitsHintsV
      rw [if_pos ⟨h, h2⟩]
    · refine Ev.neg (by simp [hk, h2]) (Ev.val (Ev.now _) ?_)
      unfold fitsHintsV
      rw [if_neg (fun hc => h2 hc.2)]
  · refine Ev.neg (by rw [Bool.and_eq_true]; exact h) (Ev.val (Ev.now _) ?_)
    unfold fitsHintsV
    rw [if_neg (fun hc => h hc.1)]
theorem specFitsHints_ev (a b : Int) (l : List S75) (c : ByteArray) (hx : ∀ x ∈ l, x.f0.size < 1099511627776) (hc : c.size < 1099511627776) : Ev (fun K => spec_FitsHints.f K a b l c) (fitsHintsV a b l c) := by
  unfold spec_FitsHints.f
  refine Ev.bind (hiAsked_ev a b l hx) ?_
  by_cases h : smallB a b 1000 = true ∧ hintsB a b l = true
  · have hk := small_lock h.1
    have ho := okH_of hk h.2
    refine Ev.pos (by rw [h.1, h.2]; rfl) (Ev.bind (whCode_ev a b (lockB_iff.mp hk).2 c hc) ?_)
    by_cases h2 : codeB a b c = true
    · refine Ev.pos h2 (Ev.bind (hiFits_ev a.toNat l ho c (by have := (codeB_iff.mp h2).1; omega)) (Ev.val (Ev.now _) ?_))
      unfold fitsHintsV
      rw [if_pos ⟨h, h2⟩]
    · refine Ev.neg h2 (Ev.val (Ev.now _) ?_)
      unfold fitsHintsV
      rw [if_neg (fun hc => h2 hc.2)]
  · refine Ev.neg (by rw [Bool.and_eq_true]; exact h) (Ev.val (Ev.now _) ?_)
    unfold fitsHintsV
    rw [if_neg (fun hc => h hc.1)]
theorem FnExactFitsHints : laws_FnExactFitsHints.Pure := by
  intro a b l c _ _ hl hcm
  apply Ev.rounds
  unfold laws_FnExactFitsHints.f
  by_cases hc1 : (c.size : Int) > 1048576
  · exact Ev.pos hc1 (Ev.now _)
  refine Ev.neg hc1 ?_
  obtain ⟨r, hr, hc⟩ := szHintS_ev l hl.1 (fun x hx => (hl.2 x hx).1)
  refine Ev.bind hr ?_
  by_cases h0 : r < 0
  · exact Ev.pos h0 (Ev.now _)
  refine Ev.neg h0 ?_
  obtain ⟨hn, hs⟩ := hc.resolve_left h0
  have hm : ∀ x ∈ l.map toH, x.f0.size < 1099511627776 := by
    intro x hx
    obtain ⟨y, hy, rfl⟩ := List.mem_map.mp hx
    have := hs y hy
    show y.f0.size < _
    omega
  have ht := toHintS_ev l (by omega)
  refine Ev.let_ (show laws_toLock.f a b = some (a, b) from rfl) (Ev.bind ht (Ev.bind (specFitsHints_ev a b _ c hm (by omega)) (Ev.bind ht (Ev.let_ (show laws_toLock.f a b = some (a, b) from rfl) (Ev.bind (implFitsHints_ev a b _ c (by simp; omega) hm (by omega)) ?_)))))
  refine Ev.neg (by simp) ?_
  refine Ev.step (fun k => by rw [laws_FnExactFitsHints.j0]) ?_
  refine Ev.neg (by simp) (Ev.bind ht (Ev.bind (eqHintS_ev _ (by simp; omega)) ?_))
  exact Ev.pos rfl (Ev.now _)
end Go.Proofs.Ythikcnbjfnkglaa.Pure
