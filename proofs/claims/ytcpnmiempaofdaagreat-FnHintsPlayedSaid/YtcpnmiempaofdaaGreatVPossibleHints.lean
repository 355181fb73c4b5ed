/- What PossibleHints of both sides comes to. -/
import Derived.Test.YtcpnmiempaofdaaGreatCx0
import Derived.Test.YtcpnmiempaofdaaGreatCx10
import Derived.Test.YtcpnmiempaofdaaGreatCx9
import Derived.Test.YtcpnmiempaofdaaGreatVPoss0
namespace Go.Proofs.YtcpnmiempaofdaaGreat.Pure
open Go.RowKit Go.Proofs.YtcpnmiempaofdaaGreat.C Go.Proofs.YtcpnmiempaofdaaGreatW.PrintWords Go.Proofs.YtcpnmiempaofdaaGreatW.PrintLast Go.Proofs.YtcpnmiempaofdaaGreatW.PrintMore
set_option linter.unusedVariables false
theorem allC_ok (w d : Nat) (hw1 : 1 ≤ w) (hw : w ≤ 6) (hd : 2 ≤ d ∧ d ≤ 10) : okC w (allC w d) := by
  intro c hc
  obtain ⟨n, _, rfl⟩ := allC_mem hc
  exact ⟨codeT_digs w d n hw hd hw1, codeT_size w d n⟩
theorem fitC_none (w d : Nat) : fitC w d [] = allC w d := List.filter_eq_self.mpr (fun _ _ => rfl)
def possV (a b : Int) : List (List Int) × Bool := if smallB a b 256 = true then (possL a.toNat (sumF a.toNat (allC a.toNat b.toNat) (allC a.toNat b.toNat)) ((a.toNat + 1) * (a.toNat + 1)), true) else ([], false)
theorem smallN {w d : Nat} (h : smallB (w : Int) (d : Int) 256 = true) : d ^ w ≤ 256 := by
  unfold smallB at h
  rw [Bool.and_eq_true] at h
  have := of_decide_eq_true h.2
  simp only [Int.toNat_natCast] at this
  omega
theorem specPoss_ev (a b : Int) : Ev (fun K => spec_PossibleHints.f K a b) (possV a b) := by
  unfold spec_PossibleHints.f possV
  refine Ev.bind (hiLock_ev a b 256) ?_
  by_cases h : smallB a b 256 = true
  · rw [if_pos h]
    obtain ⟨w, d, rfl, rfl, h3, h4, h5, h6⟩ := lock_nat (small_lock h)
    have hs := smallN h
    have hM : (w + 1) * (w + 1) ≤ 49 := Nat.mul_le_mul (show w + 1 ≤ 7 by omega) (show w + 1 ≤ 7 by omega)
    have e : wrap64 ((wrap64 ((w : Int) + 1)) * (wrap64 ((w : Int) + 1))) = (((w + 1) * (w + 1) : Nat) : Int) := by
      rw [w64 (x := (w : Int) + 1) (by omega) (by omega)]
      have : ((w : Int) + 1) * ((w : Int) + 1) = (((w + 1) * (w + 1) : Nat) : Int) := by simp
      rw [this, w64 (by omega) (by omega)]
    rw [e]
    refine Ev.pos h (Ev.pos (by omega) (Ev.pos (by omega) (Ev.bind (hiAll_ev w d h3 h4 ⟨h5, h6⟩) ?_)))
    simp only [Int.toNat_natCast]
    have h0 : List.replicate ((w + 1) * (w + 1)) 0 = (List.range ((w + 1) * (w + 1))).map (sumF w (allC w d) ((allC w d).take 0)) := by
      apply List.ext_getElem
      · simp
      · intro i h1 h2; simp [sumF]
    rw [h0]
    exact poss_l0 w d h3 h4 (allC w d) (by rw [allC_length]; omega) (allC_ok w d h3 h4 ⟨h5, h6⟩) (allC w d).length 0 (by omega)
  · rw [if_neg h]
    exact Ev.neg h (Ev.now _)
theorem poss_pos (w d : Nat) (hw1 : 1 ≤ w) (hw : w ≤ 6) (hd : 2 ≤ d ∧ d ≤ 10) : 0 < (possL w (sumF w (allC w d) (allC w d)) ((w + 1) * (w + 1))).length := by
  have hp : 0 < d ^ w := Nat.pow_pos (by omega)
  have hm : codeT w d 0 ∈ allC w d := by unfold allC; exact List.mem_map.mpr ⟨0, List.mem_range.mpr hp, rfl⟩
  have hg := allC_ok w d hw1 hw hd _ hm
  have hb := hint_bd (codeT w d 0) (codeT w d 0) hg.1
  rw [hg.2] at hb
  have hix := ix_small (w + 1) hb.1 hb.2.1 (by omega) (by omega)
  have hlt : ixW w (codeT w d 0) (codeT w d 0) < (w + 1) * (w + 1) := by
    unfold ixW
    have : ((w + 1 : Nat) : Int) = (w : Int) + 1 := rfl
    rw [this] at hix
    omega
  have hpos := (sumF_pos w (allC w d) (ixW w (codeT w d 0) (codeT w d 0)) (allC w d)).mpr ⟨_, hm, _, hm, rfl⟩
  unfold possL
  rw [List.length_map]
  exact List.length_pos_of_mem (List.mem_filter.mpr ⟨List.mem_range.mpr hlt, decide_eq_true hpos⟩)
theorem implPoss_ev (a b : Int) : Ev (fun K => impl_PossibleHints.f K a b) (possV a b) := by
  unfold impl_PossibleHints.f possV
  refine Ev.bind (isSmall_ev a b 256) ?_
  by_cases h : smallB a b 256 = true
  · rw [if_pos h]
    obtain ⟨w, d, rfl, rfl, h3, h4, h5, h6⟩ := lock_nat (small_lock h)
    have hs := smallN h
    simp only [Int.toNat_natCast]
    refine Ev.pos h (Ev.bind (fitting_ev w d h3 h4 ⟨h5, h6⟩ [] ⟨by simp, fun x hx => absurd hx (by simp)⟩) ?_)
    rw [fitC_none]
    refine Ev.pos (by rw [allC_length]; omega) ?_
    refine Ev.bind (ph_ev w h4 (allC w d) (allC_ok w d h3 h4 ⟨h5, h6⟩) (allC w d) _ (allC_ok w d h3 h4 ⟨h5, h6⟩)) ?_
    rw [rows_same w h4 (allC w d) (allC_ok w d h3 h4 ⟨h5, h6⟩)]
    exact Ev.pos (poss_pos w d h3 h4 ⟨h5, h6⟩) (Ev.now _)
  · rw [if_neg h]
    exact Ev.neg h (Ev.now _)
theorem possV_rows (a b : Int) : (possV a b).1.length ≤ 49 ∧ ∀ x ∈ (possV a b).1, ∃ y z, x = [y, z] := by
  unfold possV
  split
  · rename_i h
    obtain ⟨w, d, rfl, rfl, h3, h4, h5, h6⟩ := lock_nat (small_lock h)
    have hM : (w + 1) * (w + 1) ≤ 49 := Nat.mul_le_mul (show w + 1 ≤ 7 by omega) (show w + 1 ≤ 7 by omega)
    simp only [Int.toNat_natCast]
    refine ⟨?_, fun x hx => ?_⟩
    · unfold possL
      rw [List.length_map]
      have := List.length_filter_le (fun q => decide (sumF w (allC w d) (allC w d) q > 0)) (List.range ((w + 1) * (w + 1)))
      rw [List.length_range] at this
      omega
    · unfold possL at hx
      obtain ⟨q, _, rfl⟩ := List.mem_map.mp hx
      exact ⟨_, _, rfl⟩
  · exact ⟨by simp, fun x hx => absurd hx (by simp)⟩
end Go.Proofs.YtcpnmiempaofdaaGreat.Pure
