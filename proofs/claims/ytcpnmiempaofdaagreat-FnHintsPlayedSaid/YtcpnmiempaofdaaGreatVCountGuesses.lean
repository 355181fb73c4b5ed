/- What CountGuesses of both sides comes to. -/
import Derived.Test.YtcpnmiempaofdaaGreatCx0
import Derived.Test.YtcpnmiempaofdaaGreatHintQ
namespace Go.Proofs.YtcpnmiempaofdaaGreat.Pure
open Go.RowKit Go.Proofs.YtcpnmiempaofdaaGreat.C Go.Proofs.YtcpnmiempaofdaaGreatW.PrintWords Go.Proofs.YtcpnmiempaofdaaGreatW.PrintLast Go.Proofs.YtcpnmiempaofdaaGreatW.PrintMore
set_option linter.unusedVariables false
theorem playV_none (a b : Int) (c : ByteArray) (h : (playV a b c).2 = false) : (playV a b c).1 = [] := by
  unfold playV capV at *
  split at h
  · split at h
    · exact absurd h (by simp)
    · rename_i h1 h2
      rw [if_pos h1, if_neg h2]
  · rename_i h1
    rw [if_neg h1]
end Go.Proofs.YtcpnmiempaofdaaGreat.Pure
