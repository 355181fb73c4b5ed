/- What CountGuesses of both sides comes to. -/
import Derived.Test.YtcpnmiempaofdaaAx0
import Derived.Test.YtcpnmiempaofdaaHintQ
namespace Go.Proofs.Ytcpnmiempaofdaa.Pure
open Go.RowKit Go.Proofs.Ytcpnmiempaofdaa.A Go.Proofs.YtcpnmiempaofdaaW.PrintWords Go.Proofs.YtcpnmiempaofdaaW.PrintLast Go.Proofs.YtcpnmiempaofdaaW.PrintMore
set_option linter.unusedVariables false
theorem playV_none (a b : Int) (c : ByteArray) (h : (playV a b c).2 = false) : (playV a b c).1 = [] := by
  unfold playV capV at *
  split at h
  · split at h
    · exact absurd h (by simp)
    · rename_i h1 h2
      rw [if_pos h1, if_neg h2]
  · rename_i h1
    rw [if_neg h1]
end Go.Proofs.Ytcpnmiempaofdaa.Pure
