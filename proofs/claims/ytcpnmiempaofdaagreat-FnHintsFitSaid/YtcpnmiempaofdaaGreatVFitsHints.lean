import Derived.Test.YtcpnmiempaofdaaGreatGx14
import Derived.Test.YtcpnmiempaofdaaGreatHintC
namespace Go.Proofs.YtcpnmiempaofdaaGreat.Pure
open Go.RowKit Go.Proofs.YtcpnmiempaofdaaGreat.G Go.Proofs.YtcpnmiempaofdaaGreatW.PrintWords Go.Proofs.YtcpnmiempaofdaaGreatW.PrintLast Go.Proofs.YtcpnmiempaofdaaGreatW.PrintMore
set_option linter.unusedVariables false
def fitsHintsV (a b : Int) (l : List S35) (c : ByteArray) : Bool × Bool := if (smallB a b 1000 = true ∧ hintsB a b l = true) ∧ codeB a b c = true then (fitsB l c, true) else (false, false)
theorem implFitsHints_ev (a b : Int) (l : List S35) (c : ByteArray) (hl : l.length < 1000000000) (hx : ∀ x ∈ l, x.f0.size < 9223372036854775808) (hc : c.size < 9223372036854775808) : Ev (fun K => impl_FitsHints.f K a b l c) (fitsHintsV a b l c) := by
 unfold impl_FitsHints.f
 refine Ev.bind (implAreHints_ev a b l hl hx) ?_
 by_cases h : smallB a b 1000 = true ∧ hintsB a b l = true
 ·refine Ev.pos (by rw [h.1, h.2]; rfl) (Ev.bind (has_ev a b [c] (by simp) (by simpa using hc)) ?_)
  have hk := small_lock h.1
  have ho := okH_of hk h.2
  by_cases h2 : codeB a b c = true
  ·refine Ev.pos (by simp [hk, h2]) (Ev.bind (implFits_ev a.toNat l ho c (digs_code hk h2) (by have := (codeB_iff.mp h2).1; omega)) (Ev.val (Ev.now _) ?_))
   unfold fitsHintsV
   rw [if_pos ⟨h, h2⟩]
  ·refine Ev.neg (by simp [hk, h2]) (Ev.val (Ev.now _) ?_)
   unfold fitsHintsV
   rw [if_neg (fun hc => h2 hc.2)]
 ·refine Ev.neg (by rw [Bool.and_eq_true]; exact h) (Ev.val (Ev.now _) ?_)
  unfold fitsHintsV
  rw [if_neg (fun hc => h hc.1)]
theorem specFitsHints_ev (a b : Int) (l : List S35) (c : ByteArray) (hx : ∀ x ∈ l, x.f0.size < 9223372036854775808) (hc : c.size < 9223372036854775808) : Ev (fun K => spec_FitsHints.f K a b l c) (fitsHintsV a b l c) := by
 unfold spec_FitsHints.f
 refine Ev.bind (hiAsked_ev a b l hx) ?_
 by_cases h : smallB a b 1000 = true ∧ hintsB a b l = true
 ·have hk := small_lock h.1
  have ho := okH_of hk h.2
  refine Ev.pos (by rw [h.1, h.2]; rfl) (Ev.bind (whCode_ev a b (lockB_iff.mp hk).2 c hc) ?_)
  by_cases h2 : codeB a b c = true
  ·refine Ev.pos h2 (Ev.bind (hiFits_ev a.toNat l ho c (by have := (codeB_iff.mp h2).1; omega)) (Ev.val (Ev.now _) ?_))
   unfold fitsHintsV
   rw [if_pos ⟨h, h2⟩]
  ·refine Ev.neg h2 (Ev.val (Ev.now _) ?_)
   unfold fitsHintsV
   rw [if_neg (fun hc => h2 hc.2)]
 ·refine Ev.neg (by rw [Bool.and_eq_true]; exact h) (Ev.val (Ev.now _) ?_)
  unfold fitsHintsV
  rw [if_neg (fun hc => h hc.1)]
end Go.Proofs.YtcpnmiempaofdaaGreat.Pure
