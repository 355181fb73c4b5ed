/- The program's RankOfSmooth returns what the reference's returns, for all arguments; no condition beyond the law's own. -/
import Derived.Test.YtdkgclkkofmgkaaTx0
import Derived.Test.YtdkgclkkofmgkaaTx1
import Derived.Test.YtdkgclkkofmgkaaTx2
import Derived.Test.YtdkgclkkofmgkaaTx4
import Derived.Test.YtdkgclkkofmgkaaTx5
import Derived.Test.YtdkgclkkofmgkaaKeyR
namespace Go.Proofs.Ytdkgclkkofmgkaa.Pure
open Go.RowKit Go.Proofs.Ytdkgclkkofmgkaa.T Go.Proofs.YtdkgclkkofmgkaaW.PrintWords Go.Proofs.YtdkgclkkofmgkaaW.PrintLast Go.Proofs.YtdkgclkkofmgkaaW.PrintMore
set_option linter.unusedVariables false
theorem FnExactRankOfSmooth : laws_FnExactRankOfSmooth.Pure := by
  intro a m s _ _ hsz
  apply Ev.rounds
  unfold laws_FnExactRankOfSmooth.f
  by_cases h0 : (s.size : Int) > 1048576
  · exact Ev.pos h0 (Ev.now _)
  refine Ev.neg h0 ?_
  have key : ∃ v, Ev (fun K => impl_RankOfSmooth.f K a m s) v ∧ Ev (fun K => spec_RankOfSmooth.f K a m s) v := by
    unfold impl_RankOfSmooth.f spec_RankOfSmooth.f impl_isDepthText.f
    by_cases hk : (1 ≤ a ∧ a ≤ 9) ∧ 1 ≤ s.size ∧ s.size ≤ 7
    case neg =>
      have hn : kindB a (s.size : Int) m = false := decide_eq_false (by omega)
      refine ⟨(0, false), Ev.bind (isDepth_no a s (by omega) hk s.size 0 (by omega)) (Ev.neg (by decide) (Ev.step (fun k => by rw [impl_RankOfSmooth.j0]) (Ev.pos rfl (Ev.now _)))), Ev.let_ (keSize_some _ _ _) ?_⟩
      rw [hn]
      exact Ev.neg (by decide) (Ev.now _)
    have hdep := isDepth_l0 a hk.1 s hk.2 s.size 0 (by omega)
    rw [List.drop_zero] at hdep
    have hkey : spec_keKey.f a s = some (keyB a s.data.toList) := by unfold spec_keKey.f; rw [if_pos hk.1]
    have hmost : impl_isMost.f m = some (decide (0 ≤ m ∧ m ≤ 9)) := by unfold impl_isMost.f; rw [within_sm]; rfl
    by_cases hm : 0 ≤ m ∧ m ≤ 9
    case neg =>
      have hn : kindB a (s.size : Int) m = false := decide_eq_false (by omega)
      refine ⟨(0, false), Ev.bind hdep ?_, Ev.let_ (keSize_some _ _ _) (by rw [hn]; exact Ev.neg (by decide) (Ev.now _))⟩
      by_cases hb : keyB a s.data.toList = true
      · exact Ev.pos hb (Ev.let_ hmost (Ev.step (fun k => by rw [impl_RankOfSmooth.j0]) (Ev.pos (by simp; omega) (Ev.now _))))
      · exact Ev.neg hb (Ev.step (fun k => by rw [impl_RankOfSmooth.j0]) (Ev.pos rfl (Ev.now _)))
    have hn : kindB a (s.size : Int) m = true := decide_eq_true (by omega)
    by_cases hb : keyB a s.data.toList = true
    case neg =>
      refine ⟨(0, false), Ev.bind hdep (Ev.neg hb (Ev.step (fun k => by rw [impl_RankOfSmooth.j0]) (Ev.pos rfl (Ev.now _)))), Ev.let_ (keSize_some _ _ _) (by rw [hn]; exact Ev.pos rfl (Ev.let_ hkey (Ev.neg hb (Ev.now _))))⟩
    obtain ⟨D, rfl⟩ : ∃ D : Nat, a = D := ⟨a.toNat, by omega⟩
    have hD1 : 1 ≤ D := by omega
    have hD : D ≤ 9 := by omega
    have hok : okD D s := ⟨hk.2.2, fun i hi => by have := keyB_all hb i hi; unfold dg; omega⟩
    have hs := isSmooth_ev D hD m s hok hk.2.1
    have hr := rkOut_ev D hD m s hok s.size 0 0 (by omega) (by omega) (by omega)
    have hi := implRank_l0 D hD1 hD m s hok s.size 0 0 (by omega) (by omega) (by omega)
    refine ⟨if smG s m s.size 0 = true then (rkT s m D s.size 0 0, true) else (0, false), ?_, ?_⟩
    · refine Ev.bind hdep (Ev.pos hb (Ev.let_ hmost (Ev.step (fun k => by rw [impl_RankOfSmooth.j0]) (Ev.neg (by simp; omega) (Ev.bind (open_ev D s.size hD hk.2.2) (Ev.bind (digits_ev D hD s hok) ?_))))))
      rw [dgs_length]
      exact hi
    · refine Ev.let_ (keSize_some _ _ _) ?_
      rw [hn]
      refine Ev.pos rfl (Ev.let_ hkey (Ev.pos hb (Ev.bind hs ?_)))
      by_cases hg : smG s m s.size 0 = true
      · rw [if_pos hg]
        refine Ev.pos hg (Ev.pos (by omega) (Ev.congr (f := fun K => (rkOut K D m s s.size 0 0).bind fun n => some (n, true)) (fun K => by rw [Option.map_eq_bind]; rfl) (Ev.bind hr (Ev.now _))))
      · rw [if_neg hg]
        exact Ev.neg hg (Ev.now _)
  obtain ⟨v, hi, hs⟩ := key
  exact Ev.bind hs (Ev.bind hi (Ev.pos rfl (Ev.neg (by simp) (Ev.now _))))
end Go.Proofs.Ytdkgclkkofmgkaa.Pure
