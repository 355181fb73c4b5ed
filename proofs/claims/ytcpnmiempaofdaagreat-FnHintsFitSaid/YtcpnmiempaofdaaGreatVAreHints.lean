import Derived.Test.YtcpnmiempaofdaaGreatGx16
import Derived.Test.YtcpnmiempaofdaaGreatHintC
namespace Go.Proofs.YtcpnmiempaofdaaGreat.Pure
open Go.RowKit Go.Proofs.YtcpnmiempaofdaaGreat.G Go.Proofs.YtcpnmiempaofdaaGreatW.PrintWords Go.Proofs.YtcpnmiempaofdaaGreatW.PrintLast Go.Proofs.YtcpnmiempaofdaaGreatW.PrintMore
set_option linter.unusedVariables false
def areHintsV (a b : Int) (l : List S35) : Bool × Bool := if smallB a b 1000 = true then (hintsB a b l, true) else (false, false)
theorem implAreHintsX_ev (a b : Int) (l : List S35) (hl : l.length < 1000000000) (hx : ∀ x ∈ l, x.f0.size < 9223372036854775808) : Ev (fun K => impl_AreHints.f K a b l) (areHintsV a b l) := by
 unfold impl_AreHints.f areHintsV
 have h0 := isHinted_ev a b [] (by simp) (by simp)
 rw [List.all_nil, Bool.and_true] at h0
 refine Ev.bind h0 ?_
 by_cases h : smallB a b 1000 = true
 ·refine Ev.pos h (Ev.bind (implAreHints_ev a b l hl hx) (Ev.val (Ev.now _) ?_))
  rw [if_pos h, h, Bool.true_and]
 ·exact Ev.neg h (Ev.val (Ev.now _) (by rw [if_neg h]))
theorem specAreHints_ev (a b : Int) (l : List S35) (hx : ∀ x ∈ l, x.f0.size < 9223372036854775808) : Ev (fun K => spec_AreHints.f K a b l) (areHintsV a b l) := by
 unfold spec_AreHints.f areHintsV
 refine Ev.bind (hiLock_ev a b 1000) ?_
 by_cases h : smallB a b 1000 = true
 ·exact Ev.pos h (Ev.bind (hiGood_ev a b (small_lock h) l hx) (Ev.val (Ev.now _) (by rw [if_pos h])))
 ·exact Ev.neg h (Ev.val (Ev.now _) (by rw [if_neg h]))
end Go.Proofs.YtcpnmiempaofdaaGreat.Pure
