/- The program's CountSmooth returns what the reference's returns, for all arguments; no condition beyond the law's own. -/
import Derived.Test.YtdkgclkkofmgkaaQx0
import Derived.Test.YtdkgclkkofmgkaaQx4
import Derived.Test.YtdkgclkkofmgkaaKeyT
namespace Go.Proofs.Ytdkgclkkofmgkaa.Pure
open Go.RowKit Go.Proofs.Ytdkgclkkofmgkaa.Q Go.Proofs.YtdkgclkkofmgkaaW.PrintWords Go.Proofs.YtdkgclkkofmgkaaW.PrintLast Go.Proofs.YtdkgclkkofmgkaaW.PrintMore
set_option linter.unusedVariables false
theorem sumF_congr {f g : Int → Bool} (ws : List Int) (h : ∀ x, f x = g x) : ∀ n, sumF f ws n = sumF g ws n
  | 0 => rfl
  | n + 1 => by rw [sumF, sumF, sumF_congr ws h n, h]
theorem specCount_l0 (m : Int) (D : Nat) (hD : D ≤ 9) (p : Nat) (hp : p ≤ 6) : ∀ (j d : Nat), d + j = D → Ev (fun K => spec_CountSmooth.l0 K (sumF (fun _ => true) (waysL m D p) d) (waysL m D p) D d) (sumF (fun _ => true) (waysL m D p) D, true) := by
  have hl := waysL_length m D p
  intro j
  induction j with
  | zero =>
    intro d hd
    obtain rfl : d = D := by omega
    exact Ev.step (fun k => by rw [spec_CountSmooth.l0]) (Ev.neg (by omega) (Ev.now _))
  | succ j ih =>
    intro d hd
    have hi := ih (d + 1) (by omega)
    have hb := ways_small m D hD p (by omega) d (by omega)
    have hs := sum_small (fun _ => true) m D hD p (by omega) d (by omega)
    refine Ev.step (fun k => by rw [spec_CountSmooth.l0]) (Ev.pos (by omega) (Ev.pos (by omega) (Ev.pos (by omega) ?_)))
    rw [w64n (by omega), w64 (by omega) (by omega)]
    rw [sumF, if_pos rfl] at hi
    exact hi
theorem FnExactCountSmooth : laws_FnExactCountSmooth.Pure := by
  intro a n m _ _ _
  apply Ev.rounds
  unfold laws_FnExactCountSmooth.f
  have key : ∃ v, Ev (fun K => impl_CountSmooth.f K a n m) v ∧ Ev (fun K => spec_CountSmooth.f K a n m) v := by
    unfold impl_CountSmooth.f spec_CountSmooth.f
    by_cases h : kindB a n m = true
    · obtain ⟨D, q, rfl, rfl, h1, h2, h3⟩ := kind_nat h
      refine ⟨(smoothV m (-1) D (q + 1) 0, true), Ev.let_ (isKind_some _ _ _) (Ev.pos h (Ev.bind (open_ev D (q + 1) h2 (by omega)) (Ev.bind (smooth_ev m (-1) (by omega) D h1 h2 (q + 1) (by omega) (by omega) 0 (by omega)) (Ev.now _)))), ?_⟩
      refine Ev.let_ (keSize_some _ _ _) (Ev.pos h (Ev.bind (by have := keSmooth_ev m D h2 q h3; simpa using this) ?_))
      rw [waysL_length]
      refine Ev.val (specCount_l0 m D h2 q h3 D 0 (by omega)) ?_
      unfold smoothV
      rw [if_pos (by omega), show q + 1 - 1 - 0 = q by omega]
      rw [sumF_congr (f := fun _ => true) (g := lastF m (-1)) _ (fun x => by unfold lastF; rw [if_pos (by omega)])]
    · exact ⟨(0, false), Ev.let_ (isKind_some _ _ _) (Ev.neg h (Ev.now _)), Ev.let_ (keSize_some _ _ _) (Ev.neg h (Ev.now _))⟩
  obtain ⟨v, hi, hs⟩ := key
  exact Ev.bind hs (Ev.bind hi (Ev.pos rfl (Ev.neg (by simp) (Ev.now _))))
end Go.Proofs.Ytdkgclkkofmgkaa.Pure
