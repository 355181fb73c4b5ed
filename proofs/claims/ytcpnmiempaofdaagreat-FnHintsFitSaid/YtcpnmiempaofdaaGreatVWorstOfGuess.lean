import Derived.Test.YtcpnmiempaofdaaGreatHintC
import Derived.Test.YtcpnmiempaofdaaGreatHintX
namespace Go.Proofs.YtcpnmiempaofdaaGreat.Pure
open Go.RowKit Go.Proofs.YtcpnmiempaofdaaGreat.G Go.Proofs.YtcpnmiempaofdaaGreatW.PrintWords Go.Proofs.YtcpnmiempaofdaaGreatW.PrintLast Go.Proofs.YtcpnmiempaofdaaGreatW.PrintMore
set_option linter.unusedVariables false
def worstGV (a b : Int) (l : List S35) (c : ByteArray) : Int × Bool := if (smallB a b 1000 = true ∧ hintsB a b l = true) ∧ codeB a b c = true then (worstV a.toNat c (fitC a.toNat b.toNat l), true) else (0, false)
theorem implWorstG_ev (a b : Int) (l : List S35) (c : ByteArray) (hl : l.length < 1000000000) (hx : ∀ x ∈ l, x.f0.size < 9223372036854775808) (hc : c.size < 9223372036854775808) : Ev (fun K => impl_WorstOfGuess.f K a b l c) (worstGV a b l c) := by
 have no : ∀ x : Bool, x = true → Ev (fun K => impl_WorstOfGuess.j0 K l c x a b) (0, false) := by
  intro x hx
  refine Ev.step (fun k => by rw [impl_WorstOfGuess.j0]) ?_
  exact Ev.pos hx (Ev.now _)
 unfold impl_WorstOfGuess.f
 refine Ev.bind (implAreHints_ev a b l hl hx) ?_
 by_cases h : smallB a b 1000 = true ∧ hintsB a b l = true
 ·refine Ev.pos (by rw [h.1, h.2]; rfl) (Ev.bind (has_ev a b [c] (by simp) (by simpa using hc)) ?_)
  have hk := small_lock h.1
  have ho := okH_of hk h.2
  by_cases h2 : codeB a b c = true
  ·have hg : digsB c ∧ (c.size : Int) = a := ⟨digs_code hk h2, (codeB_iff.mp h2).1⟩
   obtain ⟨w, d, rfl, rfl, h3, h4, h5, h6⟩ := lock_nat hk
   rw [Int.toNat_natCast] at ho
   have hlen := small_len h.1
   have hf := fitC_len w d l
   refine Ev.step (fun k => by rw [impl_WorstOfGuess.j0]) ?_
   refine Ev.neg (by simp [hk, h2]) (Ev.bind (fitting_ev w d h3 h4 ⟨h5, h6⟩ l ho) (Ev.bind (implWorst_ev w c ⟨hg.1, by omega⟩ _ (by omega) (fitC_good w d h3 h4 ⟨h5, h6⟩ l)) (Ev.val (Ev.now _) ?_)))
   unfold worstGV
   rw [if_pos ⟨h, h2⟩]
   simp only [Int.toNat_natCast]
  ·refine Ev.val (no _ (by simp [h2])) ?_
   unfold worstGV
   rw [if_neg (fun hc => h2 hc.2)]
 ·refine Ev.neg (by rw [Bool.and_eq_true]; exact h) (Ev.val (no _ rfl) ?_)
  unfold worstGV
  rw [if_neg (fun hc => h hc.1)]
theorem specWorstG_ev (a b : Int) (l : List S35) (c : ByteArray) (hx : ∀ x ∈ l, x.f0.size < 9223372036854775808) (hc : c.size < 9223372036854775808) : Ev (fun K => spec_WorstOfGuess.f K a b l c) (worstGV a b l c) := by
 have no : ∀ x : Bool, x = true → Ev (fun K => spec_WorstOfGuess.j0 K l c x a b) (0, false) := by
  intro x hx
  refine Ev.step (fun k => by rw [spec_WorstOfGuess.j0]) ?_
  exact Ev.pos hx (Ev.now _)
 unfold spec_WorstOfGuess.f
 refine Ev.bind (hiAsked_ev a b l hx) ?_
 by_cases h : smallB a b 1000 = true ∧ hintsB a b l = true
 ·have hk := small_lock h.1
  have ho := okH_of hk h.2
  refine Ev.pos (by rw [h.1, h.2]; rfl) (Ev.bind (whCode_ev a b (lockB_iff.mp hk).2 c hc) ?_)
  by_cases h2 : codeB a b c = true
  ·have hg : digsB c ∧ (c.size : Int) = a := ⟨digs_code hk h2, (codeB_iff.mp h2).1⟩
   obtain ⟨w, d, rfl, rfl, h3, h4, h5, h6⟩ := lock_nat hk
   rw [Int.toNat_natCast] at ho
   have hlen := small_len h.1
   have hf := fitC_len w d l
   refine Ev.step (fun k => by rw [spec_WorstOfGuess.j0]) ?_
   refine Ev.neg (by simp [h2]) (specFit_ev w d h3 h4 ⟨h5, h6⟩ l ho (fun K u => (spec_hiWorst.f K (w : Int) c u).bind fun t => some (t, true)) _ (Ev.bind (hiWorst_ev w h3 h4 c ⟨hg.1, by omega⟩ _ (by omega) (fitC_good w d h3 h4 ⟨h5, h6⟩ l)) (Ev.val (Ev.now _) ?_)))
   unfold worstGV
   rw [if_pos ⟨h, h2⟩]
   simp only [Int.toNat_natCast]
  ·refine Ev.val (no _ (by simp [h2])) ?_
   unfold worstGV
   rw [if_neg (fun hc => h2 hc.2)]
 ·refine Ev.neg (by rw [Bool.and_eq_true]; exact h) (Ev.val (no _ rfl) ?_)
  unfold worstGV
  rw [if_neg (fun hc => h hc.1)]
end Go.Proofs.YtcpnmiempaofdaaGreat.Pure
