/- What CountWithHint of both sides comes to. -/
import Derived.Test.YtcpnmiempaofdaaGreatCx0
import Derived.Test.YtcpnmiempaofdaaGreatCx11
import Derived.Test.YtcpnmiempaofdaaGreatHintC
import Derived.Test.YtcpnmiempaofdaaGreatHintD
namespace Go.Proofs.YtcpnmiempaofdaaGreat.Pure
open Go.RowKit Go.Proofs.YtcpnmiempaofdaaGreat.C Go.Proofs.YtcpnmiempaofdaaGreatW.PrintWords Go.Proofs.YtcpnmiempaofdaaGreatW.PrintLast Go.Proofs.YtcpnmiempaofdaaGreatW.PrintMore
set_option linter.unusedVariables false
def withHintV (a b p o : Int) : Int × Bool := if smallB a b 1000 = true ∧ toldB a p o = true then (((fitC a.toNat b.toNat [⟨codeT a.toNat b.toNat 0, p, o⟩]).length : Int), true) else (0, false)
theorem okH_one (w d : Nat) (hw1 : 1 ≤ w) (hw : w ≤ 6) (hd : 2 ≤ d ∧ d ≤ 10) (p o : Int) : okH w [⟨codeT w d 0, p, o⟩] := by
  refine ⟨by simp, fun x hx => ?_⟩
  rw [List.mem_singleton] at hx
  subst hx
  exact ⟨codeT_digs w d 0 hw hd hw1, codeT_size w d 0⟩
theorem implWith_ev (a b p o : Int) : Ev (fun K => impl_CountWithHint.f K a b p o) (withHintV a b p o) := by
  have no : ∀ x : Bool, x = true → Ev (fun K => impl_CountWithHint.j0 K p o x a b) (0, false) := by
    intro x hx
    refine Ev.step (fun k => by rw [impl_CountWithHint.j0]) ?_
    exact Ev.pos hx (Ev.now _)
  unfold impl_CountWithHint.f
  have h0 := isHinted_ev a b [] (by simp) (by simp)
  rw [List.all_nil, Bool.and_true] at h0
  refine Ev.bind h0 ?_
  by_cases h : smallB a b 1000 = true
  · have hk := small_lock h
    have hl := lockB_iff.mp hk
    refine Ev.pos h (Ev.let_ (isTold_some a b p o (by omega)) ?_)
    by_cases h2 : toldB a p o = true
    · obtain ⟨w, d, rfl, rfl, h3, h4, h5, h6⟩ := lock_nat hk
      refine Ev.step (fun k => by rw [impl_CountWithHint.j0]) ?_
      refine Ev.neg (by rw [h2]; decide) (Ev.bind (implCode_ev w d 0 h3 h4 ⟨h5, h6⟩ (by omega)) (Ev.bind (fitting_ev w d h3 h4 ⟨h5, h6⟩ _ (okH_one w d h3 h4 ⟨h5, h6⟩ p o)) (Ev.val (Ev.now _) ?_)))
      unfold withHintV
      rw [if_pos ⟨h, h2⟩]
      simp only [Int.toNat_natCast]
    · refine Ev.val (no _ (by rw [Bool.eq_false_iff.mpr h2]; rfl)) ?_
      unfold withHintV
      rw [if_neg (fun hc => h2 hc.2)]
  · refine Ev.neg h (Ev.val (no _ rfl) ?_)
    unfold withHintV
    rw [if_neg (fun hc => h hc.1)]
theorem specWith_ev (a b p o : Int) : Ev (fun K => spec_CountWithHint.f K a b p o) (withHintV a b p o) := by
  have no : ∀ x : Bool, x = true → Ev (fun K => spec_CountWithHint.j0 K p o x a b) (0, false) := by
    intro x hx
    refine Ev.step (fun k => by rw [spec_CountWithHint.j0]) ?_
    exact Ev.pos hx (Ev.now _)
  unfold spec_CountWithHint.f
  refine Ev.bind (hiLock_ev a b 1000) ?_
  by_cases h : smallB a b 1000 = true
  · have hk := small_lock h
    have hl := lockB_iff.mp hk
    refine Ev.pos h (Ev.let_ (hiTold_some a b p o (by omega)) ?_)
    by_cases h2 : toldB a p o = true
    · obtain ⟨w, d, rfl, rfl, h3, h4, h5, h6⟩ := lock_nat hk
      refine Ev.step (fun k => by rw [spec_CountWithHint.j0]) ?_
      refine Ev.neg (by rw [h2]; decide) (Ev.bind (whOf_ev w d 0 h3 h4 ⟨h5, h6⟩ (by omega)) ?_)
      refine specFit_ev w d h3 h4 ⟨h5, h6⟩ _ (okH_one w d h3 h4 ⟨h5, h6⟩ p o) (fun _ u => some ((u.length : Int), true)) _ (Ev.val (Ev.now _) ?_)
      unfold withHintV
      rw [if_pos ⟨h, h2⟩]
      simp only [Int.toNat_natCast]
    · refine Ev.val (no _ (by rw [Bool.eq_false_iff.mpr h2]; rfl)) ?_
      unfold withHintV
      rw [if_neg (fun hc => h2 hc.2)]
  · refine Ev.neg h (Ev.val (no _ rfl) ?_)
    unfold withHintV
    rw [if_neg (fun hc => h hc.1)]
end Go.Proofs.YtcpnmiempaofdaaGreat.Pure
