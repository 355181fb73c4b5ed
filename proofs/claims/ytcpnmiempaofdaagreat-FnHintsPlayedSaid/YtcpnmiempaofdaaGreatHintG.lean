/- Chapter 6: the longest plays and the hints that are possible: what the law on plays asks of them. -/
import Derived.Test.YtcpnmiempaofdaaGreatCx0
import Derived.Test.YtcpnmiempaofdaaGreatHintR
import Derived.Test.YtcpnmiempaofdaaGreatHintJ
import Derived.Test.YtcpnmiempaofdaaGreatVPossibleHints
import Derived.Test.YtcpnmiempaofdaaGreatHintY
namespace Go.Proofs.YtcpnmiempaofdaaGreat.Pure
open Go.RowKit Go.Proofs.YtcpnmiempaofdaaGreat.C Go.Proofs.YtcpnmiempaofdaaGreatW.PrintWords Go.Proofs.YtcpnmiempaofdaaGreatW.PrintLast Go.Proofs.YtcpnmiempaofdaaGreatW.PrintMore
set_option linter.unusedVariables false

structure MostOk (w d n : Nat) (s : Int × List ByteArray) : Prop where
  le : ∀ i, i < n → ((playT w d (codeT w d i)).length : Int) ≤ s.1
  is : ∀ c ∈ s.2, ∃ i, i < n ∧ c = codeT w d i ∧ ((playT w d (codeT w d i)).length : Int) = s.1
  sub : s.2.Sublist ((List.range n).map (codeT w d))
  pos : 0 < n → 0 < s.2.length ∧ 1 ≤ s.1
theorem mostL_ok (w d : Nat) (hw1 : 1 ≤ w) (hw : w ≤ 6) (hd : 2 ≤ d ∧ d ≤ 10) : ∀ n, n ≤ d ^ w → MostOk w d n (mostL w d n)
  | 0, _ => ⟨fun i hi => by omega, fun c hc => by simp [mostL] at hc, by simp [mostL], fun h => by omega⟩
  | n + 1, h => by
    obtain ⟨h1, h2, h3, h4⟩ := mostL_ok w d hw1 hw hd n (by omega)
    have hm : codeT w d n ∈ allC w d := List.mem_map.mpr ⟨n, List.mem_range.mpr (by omega), rfl⟩
    have hp := (playP_length w (codeT w d n) (d ^ w) (allC w d) (all_good w d hw1 hw hd hm) (by rw [allC_length]; exact Nat.le_refl _)).2
    have hp' : 1 ≤ ((playT w d (codeT w d n)).length : Int) := by unfold playT; omega
    have h0 : n = 0 ∨ 0 < n := by omega
    have hmost : 0 ≤ (mostL w d n).1 := by
      rcases h0 with rfl | h0
      · simp [mostL]
      · have := (h4 h0).2; omega
    have hz : n = 0 → (mostL w d n).1 = 0 := by rintro rfl; rfl
    rw [mostL]
    generalize hk : ((playT w d (codeT w d n)).length : Int) = k at hp'
    generalize mostL w d n = s at *
    unfold stepM
    have er : (List.range (n + 1)).map (codeT w d) = (List.range n).map (codeT w d) ++ [codeT w d n] := by rw [List.range_succ, List.map_append]; rfl
    by_cases c1 : k > s.1
    · rw [if_pos c1]
      refine ⟨fun i hi => ?_, fun c hc => ?_, ?_, fun _ => ⟨by simp, hp'⟩⟩
      · by_cases e : i = n
        · subst e; simp only []; omega
        · have := h1 i (by omega); simp only []; omega
      · rw [List.mem_singleton] at hc
        exact ⟨n, by omega, hc, hk⟩
      · rw [er]; exact List.sublist_append_right _ _
    · rw [if_neg c1]
      by_cases c2 : k = s.1
      · rw [if_pos c2]
        refine ⟨fun i hi => ?_, fun c hc => ?_, ?_, fun _ => ⟨by simp, by simp only []; omega⟩⟩
        · by_cases e : i = n
          · subst e; simp only []; omega
          · have := h1 i (by omega); simp only []; omega
        · rcases List.mem_append.mp hc with hc | hc
          · obtain ⟨i, hi, e, hl⟩ := h2 c hc
            exact ⟨i, by omega, e, hl⟩
          · rw [List.mem_singleton] at hc
            exact ⟨n, by omega, hc, by rw [hk]; exact c2⟩
        · rw [er]; exact h3.append (List.Sublist.refl _)
      · rw [if_neg c2]
        have hn : 0 < n := by
          rcases h0 with rfl | h0
          · have := hz rfl; omega
          · exact h0
        refine ⟨fun i hi => ?_, fun c hc => ?_, ?_, fun _ => h4 hn⟩
        · by_cases e : i = n
          · subst e; omega
          · exact h1 i (by omega)
        · obtain ⟨i, hi, e, hl⟩ := h2 c hc
          exact ⟨i, by omega, e, hl⟩
        · rw [er]; exact h3.trans (List.sublist_append_left _ _)
theorem most_sorted {w d : Nat} (hd : 2 ≤ d ∧ d ≤ 10) {s : Int × List ByteArray} (h : MostOk w d (d ^ w) s) : s.2.Pairwise befT := (allC_sorted w d hd).sublist h.sub
/-! hints that are possible -/
theorem poss_row (w d : Nat) (hw1 : 1 ≤ w) (hw : w ≤ 6) (hd : 2 ≤ d ∧ d ≤ 10) : ∀ x ∈ possL w (sumF w (allC w d) (allC w d)) ((w + 1) * (w + 1)), ∃ p o : Int, x = [p, o] ∧ 0 ≤ p ∧ 0 ≤ o ∧ p + o ≤ (w : Int) ∧ ¬ (p = (w : Int) - 1 ∧ o = 1) := by
  intro x hx
  unfold possL at hx
  obtain ⟨q, hq, rfl⟩ := List.mem_map.mp hx
  have hp := of_decide_eq_true (List.mem_filter.mp hq).2
  obtain ⟨g, hg, s, hs, he⟩ := (sumF_pos w (allC w d) q (allC w d)).mp hp
  have hgk := allC_ok w d hw1 hw hd g hg
  have hsk := allC_ok w d hw1 hw hd s hs
  have h1 := (ixW_iff w hw g s hgk q).mp he
  have hb := hint_bd g s hgk.1
  rw [hgk.2] at hb
  refine ⟨_, _, rfl, by omega, by omega, by omega, fun hc => ?_⟩
  exact hint_but1 g s hsk.1 (by rw [hgk.2, hsk.2]) (by rw [hgk.2]; omega) (by omega)
end Go.Proofs.YtcpnmiempaofdaaGreat.Pure
