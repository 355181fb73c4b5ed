import Derived.Test.YtcpnmiempaofdaaGreatHintB
namespace Go.Proofs.YtcpnmiempaofdaaGreat.Pure
open Go.RowKit Go.Proofs.YtcpnmiempaofdaaGreat.G Go.Proofs.YtcpnmiempaofdaaGreatW.PrintWords Go.Proofs.YtcpnmiempaofdaaGreatW.PrintLast Go.Proofs.YtcpnmiempaofdaaGreatW.PrintMore
set_option linter.unusedVariables false
def hintOfV (a b : Int) (g c : ByteArray) : Int × Int × Bool := if smallB a b 1000 = true ∧ codeB a b g = true ∧ codeB a b c = true then ((hintV g c).1, (hintV g c).2, true) else (0, 0, false)
theorem code_size {a b : Int} {g c : ByteArray} (h1 : codeB a b g = true) (h2 : codeB a b c = true) : g.size = c.size := by
 have := (codeB_iff.mp h1).1
 have := (codeB_iff.mp h2).1
 omega
theorem implHintOf_ev (a b : Int) (g c : ByteArray) (hg : g.size < 9223372036854775808) (hc : c.size < 9223372036854775808) : Ev (fun K => impl_HintOf.f K a b g c) (hintOfV a b g c) := by
 unfold impl_HintOf.f hintOfV
 refine Ev.bind (isHinted_ev a b [g, c] (by simp) (by intro s hs; simp at hs; rcases hs with rfl | rfl <;> assumption)) ?_
 by_cases h : smallB a b 1000 = true ∧ codeB a b g = true ∧ codeB a b c = true
 ·rw [if_pos h]
  refine Ev.pos (by simp [h.1, h.2.1, h.2.2]) ?_
  have hl := small_lock h.1
  exact Ev.bind (implHint_ev g c (digs_code hl h.2.1) (digs_code hl h.2.2) (code_size h.2.1 h.2.2)) (Ev.now _)
 ·rw [if_neg h]
  refine Ev.neg ?_ (Ev.now _)
  intro hc
  simp at hc
  exact h ⟨hc.1, hc.2.1, hc.2.2⟩
theorem specHintOf_ev (a b : Int) (g c : ByteArray) (hg : g.size < 9223372036854775808) (hc : c.size < 9223372036854775808) : Ev (fun K => spec_HintOf.f K a b g c) (hintOfV a b g c) := by
 unfold spec_HintOf.f hintOfV
 refine Ev.bind (hiLock_ev a b 1000) ?_
 by_cases h1 : smallB a b 1000 = true
 ·have hl := small_lock h1
  have hb := (lockB_iff.mp hl).2
  refine Ev.pos h1 (Ev.bind (whCode_ev a b hb g hg) ?_)
  by_cases h2 : codeB a b g = true
  ·refine Ev.pos h2 (Ev.bind (whCode_ev a b hb c hc) ?_)
   by_cases h3 : codeB a b c = true
   ·exact Ev.pos h3 (Ev.let_ (specHint_some g c (digs_code hl h2) (code_size h2 h3)) (Ev.val (Ev.now _) (by rw [if_pos ⟨h1, h2, h3⟩])))
   ·exact Ev.neg h3 (Ev.val (Ev.now _) (by rw [if_neg (fun hc => h3 hc.2.2)]))
  ·exact Ev.neg h2 (Ev.val (Ev.now _) (by rw [if_neg (fun hc => h2 hc.2.1)]))
 ·exact Ev.neg h1 (Ev.val (Ev.now _) (by rw [if_neg (fun hc => h1 hc.1)]))
end Go.Proofs.YtcpnmiempaofdaaGreat.Pure
