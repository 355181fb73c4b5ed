/- What HintOf of both sides comes to. -/
import Derived.Test.YtcpnmiempaofdaaGreatCx0
import Derived.Test.YtcpnmiempaofdaaGreatCx7
import Derived.Test.YtcpnmiempaofdaaGreatHintB
namespace Go.Proofs.YtcpnmiempaofdaaGreat.Pure
open Go.RowKit Go.Proofs.YtcpnmiempaofdaaGreat.C Go.Proofs.YtcpnmiempaofdaaGreatW.PrintWords Go.Proofs.YtcpnmiempaofdaaGreatW.PrintLast Go.Proofs.YtcpnmiempaofdaaGreatW.PrintMore
set_option linter.unusedVariables false
def hintOfV (a b : Int) (g c : ByteArray) : Int × Int × Bool := if smallB a b 1000 = true ∧ codeB a b g = true ∧ codeB a b c = true then ((hintV g c).1, (hintV g c).2, true) else (0, 0, false)
theorem code_size {a b : Int} {g c : ByteArray} (h1 : codeB a b g = true) (h2 : codeB a b c = true) : g.size = c.size := by
  have := (codeB_iff.mp h1).1
  have := (codeB_iff.mp h2).1
  omega
theorem implHintOf_ev (a b : Int) (g c : ByteArray) (hg : g.size < 281474976710656) (hc : c.size < 281474976710656) : Ev (fun K => impl_HintOf.f K a b g c) (hintOfV a b g c) := by
  unfold impl_HintOf.f hintOfV
  refine Ev.bind (isHinted_ev a b [g, c] (by simp) (by intro s hs; simp at hs; rcases hs with rfl | rfl <;> assumption)) ?_
  by_cases h : smallB a b 1000 = true ∧ codeB a b g = true ∧ codeB a b c = true
  · rw [if_pos h]
    refine Ev.pos (by simp [h.1, h.2.1, h.2.2]) ?_
    have hl := small_lock h.1
    exact Ev.bind (implHint_ev g c (digs_code hl h.2.1) (digs_code hl h.2.2) (code_size h.2.1 h.2.2)) (Ev.now _)
  · rw [if_neg h]
    refine Ev.neg ?_ (Ev.now _)
    intro hc
    simp at hc
    exact h ⟨hc.1, hc.2.1, hc.2.2⟩
end Go.Proofs.YtcpnmiempaofdaaGreat.Pure
