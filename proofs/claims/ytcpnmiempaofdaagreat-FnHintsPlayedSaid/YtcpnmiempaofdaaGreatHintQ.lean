/- Chapter 6: PlayFirst and CountGuesses of both sides. -/
import Derived.Test.YtcpnmiempaofdaaGreatCx0
import Derived.Test.YtcpnmiempaofdaaGreatCx5
import Derived.Test.YtcpnmiempaofdaaGreatCx7
import Derived.Test.YtcpnmiempaofdaaGreatHintP
namespace Go.Proofs.YtcpnmiempaofdaaGreat.Pure
open Go.RowKit Go.Proofs.YtcpnmiempaofdaaGreat.C Go.Proofs.YtcpnmiempaofdaaGreatW.PrintWords Go.Proofs.YtcpnmiempaofdaaGreatW.PrintLast Go.Proofs.YtcpnmiempaofdaaGreatW.PrintMore
set_option linter.unusedVariables false
def playV (a b : Int) (c : ByteArray) : List S35 × Bool := if smallB a b 1000 = true ∧ codeB a b c = true then capV [] (playT a.toNat b.toNat c) else ([], false)
theorem implPlayFirst_ev (a b : Int) (c : ByteArray) (hc : c.size < 281474976710656) : Ev (fun K => impl_PlayFirst.f K a b c) (playV a b c) := by
  unfold impl_PlayFirst.f
  refine Ev.bind (isHinted_ev a b [c] (by simp) (by intro s hs; rw [List.mem_singleton] at hs; subst hs; exact hc)) ?_
  by_cases h : smallB a b 1000 = true ∧ codeB a b c = true
  · refine Ev.pos (by simp [h.1, h.2]) ?_
    obtain ⟨w, d, rfl, rfl, h3, h4, h5, h6⟩ := lock_nat (small_lock h.1)
    have hm := code_all w d h3 h4 ⟨h5, h6⟩ h.2
    refine Ev.bind (implPlay_ev w d h3 h4 ⟨h5, h6⟩ hm) (Ev.val (Ev.now _) ?_)
    unfold playV
    rw [if_pos h]
    rfl
  · refine Ev.neg (fun hc => ?_) (Ev.val (Ev.now _) ?_)
    · simp at hc
      exact h hc
    · unfold playV
      rw [if_neg h]
theorem specPlayFirst_ev (a b : Int) (c : ByteArray) (hc : c.size < 281474976710656) : Ev (fun K => spec_PlayFirst.f K a b c) (playV a b c) := by
  unfold spec_PlayFirst.f
  refine Ev.bind (hiLock_ev a b 1000) ?_
  by_cases h1 : smallB a b 1000 = true
  · have hl := small_lock h1
    have hb := (lockB_iff.mp hl).2
    refine Ev.pos h1 (Ev.bind (whCode_ev a b hb c hc) ?_)
    refine Ev.step (fun k => by rw [spec_PlayFirst.j0]) ?_
    by_cases h2 : codeB a b c = true
    · refine Ev.neg (by simp [h2]) ?_
      obtain ⟨w, d, rfl, rfl, h3, h4, h5, h6⟩ := lock_nat hl
      have hm := code_all w d h3 h4 ⟨h5, h6⟩ h2
      refine Ev.bind (specPlay_ev w d h3 h4 ⟨h5, h6⟩ hm) ?_
      have e : playV w d c = capV [] (playT w d c) := by unfold playV; rw [if_pos ⟨h1, h2⟩]; rfl
      rw [e]
      unfold capV
      simp only [List.length_nil, Nat.zero_add, List.nil_append]
      by_cases hk : (playT w d c).length ≤ 200
      · rw [if_pos hk]
        exact Ev.neg (by omega) (Ev.now _)
      · rw [if_neg hk]
        exact Ev.pos (by omega) (Ev.now _)
    · refine Ev.pos (by simp [h2]) (Ev.val (Ev.now _) ?_)
      unfold playV
      rw [if_neg (fun hc => h2 hc.2)]
  · refine Ev.neg h1 (Ev.step (fun k => by rw [spec_PlayFirst.j0]) (Ev.pos rfl (Ev.val (Ev.now _) ?_)))
    unfold playV
    rw [if_neg (fun hc => h1 hc.1)]
end Go.Proofs.YtcpnmiempaofdaaGreat.Pure
