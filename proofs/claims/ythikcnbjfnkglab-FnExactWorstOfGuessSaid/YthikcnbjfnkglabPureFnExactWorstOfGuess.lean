/- The program's WorstOfGuess returns what the reference's returns, for all arguments; no condition beyond the law's own. -/
import Derived.Test.YthikcnbjfnkglabQx0
import Derived.Test.YthikcnbjfnkglabQx10
import Derived.Test.YthikcnbjfnkglabQx2
import Derived.Test.YthikcnbjfnkglabQx3
import Derived.Test.YthikcnbjfnkglabHintC
import Derived.Test.YthikcnbjfnkglabHintH
import Derived.Test.YthikcnbjfnkglabHintE
import Derived.Test.YthikcnbjfnkglabHintW
import Derived.Test.YthikcnbjfnkglabStatFnExactWorstOfGuess
namespace Go.Proofs.Ythikcnbjfnkglab.Pure
open Go.RowKit Go.Proofs.Ythikcnbjfnkglab.Q Go.Proofs.YthikcnbjfnkglabW.PrintWords Go.Proofs.YthikcnbjfnkglabW.PrintLast Go.Proofs.YthikcnbjfnkglabW.PrintMore
set_option linter.unusedVariables false
def worstGV (a b : Int) (l : List S47) (c : ByteArray) : Int × Bool := if (smallB a b 1000 = true ∧ hintsB a b l = true) ∧ codeB a b c = true then (worstV a.toNat c (fitC a.toNat b.toNat l), true) else (0, false)
theorem implWorstG_ev (a b : Int) (l : List S47) (c : ByteArray) (hl : l.length < 1000000000) (hx : ∀ x ∈ l, x.f0.size < 1099511627776) (hc : c.size < 1099511627776) : Ev (fun K => impl_WorstOfGuess.f K a b l c) (worstGV a b l c) := by
  have no : ∀ x : Bool, x = true → Ev (fun K => impl_WorstOfGuess.j0 K l c x a b) (0, false) := by
    intro x hx
    refine Ev.step (fun k => by rw [impl_WorstOfGuess.j0]) ?_
    exact Ev.pos hx (Ev.now _)
  unfold impl_WorstOfGuess.f
  refine Ev.bind (implAreHints_ev a b l hl hx) ?_
  by_cases h : smallB a b 1000 = true ∧ hintsB a b l = true
  · refine Ev.pos (by rw [h.1, h.2]; rfl) (Ev.bind (has_ev a b [c] (by simp) (by simpa using hc)) ?_)
    have hk := small_lock h.1
    have ho := okH_of hk h.2
    by_cases h2 : codeB a b c = true
    · have hg : digsB c ∧ (c.size : Int) = a := ⟨digs_code hk h2, (codeB_iff.mp h2).1⟩
      obtain ⟨w, d, rfl, rfl, h3, h4, h5, h6⟩ := lock_nat hk
      rw [Int.toNat_natCast] at ho
      have hlen := small_len h.1
      have hf := fitC_len w d l
      refine Ev.step (fun k => by rw [impl_WorstOfGuess.j0]) ?_
      refine Ev.neg (by simp [hk, h2]) (Ev.bind (fitting_ev w d h3 h4 ⟨h5, h6⟩ l ho) (Ev.bind (implWorst_ev w c ⟨hg.1, by omega⟩ _ (by omega) (fitC_good w d h3 h4 ⟨h5, h6⟩ l)) (Ev.val (Ev.now _) ?_)))
      unfold worstGV
      rw [if_pos ⟨h, h2⟩]
      simp only [Int.toNat_natCast]
    · refine Ev.val (no _ (by simp [h2])) ?_
      unfold worstGV
      rw [if_neg (fun hc => h2 hc.2)]
  · refine Ev.neg (by rw [Bool.and_eq_true]; exact h) (Ev.val (no _ rfl) ?_)
    unfold worstGV
    rw [if_neg (fun hc => h hc.1)]
theorem specWorstG_ev (a b : Int) (l : List S47) (c : ByteArray) (hx : ∀ x ∈ l, x.f0.size < 1099511627776) (hc : c.size < 1099511627776) : Ev (fun K => spec_WorstOfGuess.f K a b l c) (worstGV a b l c) := by
  have no : ∀ x : Bool, x = true → Ev (fun K => spec_WorstOfGuess.j0 K l c x a b) (0, false) := by
    intro x hx
    refine Ev.step (fun k => by rw [spec_WorstOfGuess.j0]) ?_
    exact Ev.pos hx (Ev.now _)
  unfold spec_WorstOfGuess.f
  refine Ev.bind (hiAsked_ev a b l hx) ?_
  by_cases h : smallB a b 1000 = true ∧ hintsB a b l = true
  · have hk := small_lock h.1
    have ho := okH_of hk h.2
    refine Ev.pos (by rw [h.1, h.2]; rfl) (Ev.bind (whCode_ev a b (lockB_iff.mp hk).2 c hc) ?_)
    by_cases h2 : codeB a b c = true
    · have hg : digsB c ∧ (c.size : Int) = a := ⟨digs_code hk h2, (codeB_iff.mp h2).1⟩
      obtain ⟨w, d, rfl, rfl, h3, h4, h5, h6⟩ := lock_nat hk
      rw [Int.toNat_natCast] at ho
      have hlen := small_len h.1
      have hf := fitC_len w d l
      refine Ev.step (fun k => by rw [spec_WorstOfGuess.j0]) ?_
      refine Ev.neg (by simp [h2]) (specFit_ev w d h3 h4 ⟨h5, h6⟩ l ho (fun K u => (spec_hiWorst.f K (w : Int) c u).bind fun t => some (t, true)) _ (Ev.bind (hiWorst_ev w h3 h4 c ⟨hg.1, by omega⟩ _ (by omega) (fitC_good w d h3 h4 ⟨h5, h6⟩ l)) (Ev.val (Ev.now _) ?_)))
      unfold worstGV
      rw [if_pos ⟨h, h2⟩]
      simp only [Int.toNat_natCast]
    · refine Ev.val (no _ (by simp [h2])) ?_
      unfold worstGV
      rw [if_neg (fun hc => h2 hc.2)]
  · refine Ev.neg (by rw [Bool.and_eq_true]; exact h) (Ev.val (no _ rfl) ?_)
    unfold worstGV
    rw [if_neg (fun hc => h hc.1)]
theorem FnExactWorstOfGuess : laws_FnExactWorstOfGuess.Pure := by
  intro a b l c _ _ hl hcm
  apply Ev.rounds
  unfold laws_FnExactWorstOfGuess.f
  by_cases hc1 : (c.size : Int) > 1048576
  · exact Ev.pos hc1 (Ev.now _)
  refine Ev.neg hc1 ?_
  obtain ⟨r, hr, hc⟩ := szHintS_ev l hl.1 (fun x hx => (hl.2 x hx).1)
  refine Ev.bind hr ?_
  by_cases h0 : r < 0
  · exact Ev.pos h0 (Ev.now _)
  refine Ev.neg h0 ?_
  obtain ⟨hn, hs⟩ := hc.resolve_left h0
  have hm : ∀ x ∈ l.map toH, x.f0.size < 1099511627776 := by
    intro x hx
    obtain ⟨y, hy, rfl⟩ := List.mem_map.mp hx
    have := hs y hy
    show y.f0.size < _
    omega
  have ht := toHintS_ev l (by omega)
  have hlk : laws_toLock.f a b = some (a, b) := rfl
  have hi := implWorstG_ev a b (l.map toH) c (by simp; omega) hm (by omega)
  have hsp := specWorstG_ev a b (l.map toH) c hm (by omega)
  refine Ev.let_ hlk (Ev.bind ht (Ev.bind hsp (Ev.bind ht (Ev.let_ hlk (Ev.bind hi (Ev.pos rfl ?_))))))
  refine Ev.step (fun k => by rw [laws_FnExactWorstOfGuess.j0]) ?_
  exact Ev.neg (by simp) (Ev.bind ht (Ev.bind (eqHintS_ev _ (by simp; omega)) (Ev.pos rfl (Ev.now _))))
end Go.Proofs.Ythikcnbjfnkglab.Pure
