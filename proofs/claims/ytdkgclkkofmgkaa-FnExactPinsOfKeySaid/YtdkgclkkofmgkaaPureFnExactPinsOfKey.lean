/- The program's PinsOfKey returns what the reference's returns, for all arguments; no condition beyond the law's own. -/
import Derived.Test.YtdkgclkkofmgkaaStatFnExactPinsOfKey
import Derived.Test.YtdkgclkkofmgkaaWx0
import Derived.Test.YtdkgclkkofmgkaaWx1
import Derived.Test.YtdkgclkkofmgkaaWx2
import Derived.Test.YtdkgclkkofmgkaaKeyP
namespace Go.Proofs.Ytdkgclkkofmgkaa.Pure
open Go.RowKit Go.Proofs.Ytdkgclkkofmgkaa.W Go.Proofs.YtdkgclkkofmgkaaW.PrintWords Go.Proofs.YtdkgclkkofmgkaaW.PrintLast Go.Proofs.YtdkgclkkofmgkaaW.PrintMore
set_option linter.unusedVariables false
theorem pinsV_rows (d : Int) (s : ByteArray) : (pinsV d s).2.1.length ≤ 7 ∧ ∀ x ∈ (pinsV d s).2.1, ∃ y, x = [y] := by
  unfold pinsV
  split
  · rename_i h
    rw [Bool.and_eq_true] at h
    have h1 := of_decide_eq_true h.1
    refine ⟨by simp [pinRows]; omega, fun x hx => ?_⟩
    unfold pinRows at hx
    obtain ⟨j, _, rfl⟩ := List.mem_map.mp hx
    exact ⟨_, rfl⟩
  · exact ⟨by simp, fun x hx => absurd hx (by simp)⟩
theorem FnExactPinsOfKey : laws_FnExactPinsOfKey.Pure := by
  intro d s hd hs0
  apply Ev.rounds
  unfold laws_FnExactPinsOfKey.f
  by_cases hs : (s.size : Int) > 1048576
  · exact Ev.pos hs (Ev.now _)
  refine Ev.neg hs ?_
  obtain ⟨hl, hr⟩ := pinsV_rows d s
  refine Ev.let_ (specPins_some d s) (Ev.bind (implPins_ev d (wfi hd) s (by omega)) ?_)
  refine Ev.pos ⟨rfl, by omega⟩ ?_
  refine Ev.bind (eqPins_refl _ _ (by omega) (fun x hx => by obtain ⟨y, rfl⟩ := hr x hx; simp)) (Ev.pos rfl ?_)
  refine Ev.bind (markSS_ev _ 1 hr (by omega) (by omega)) ?_
  have hh : Ev (fun k => laws_heldPins.f k (pinsV d s).1 (marksR 1 (pinsV d s).2.1.length) 1) (1 + ((pinsV d s).2.1.length : Int)) := by
    unfold laws_heldPins.f
    exact Ev.bind (heldSS_ev _ (by omega)) (Ev.neg (by omega) (Ev.now _))
  exact Ev.bind hh (Ev.pos ⟨by omega, rfl⟩ (Ev.now _))
end Go.Proofs.Ytdkgclkkofmgkaa.Pure
