/- Chapter 6: the longest plays: both sides keep the same codes. -/
import Derived.Test.YtcpnmiempaofdaaGreatCx0
import Derived.Test.YtcpnmiempaofdaaGreatCx4
import Derived.Test.YtcpnmiempaofdaaGreatCx8
import Derived.Test.YtcpnmiempaofdaaGreatHintP
namespace Go.Proofs.YtcpnmiempaofdaaGreat.Pure
open Go.RowKit Go.Proofs.YtcpnmiempaofdaaGreat.C Go.Proofs.YtcpnmiempaofdaaGreatW.PrintWords Go.Proofs.YtcpnmiempaofdaaGreatW.PrintLast Go.Proofs.YtcpnmiempaofdaaGreatW.PrintMore
set_option linter.unusedVariables false

/-! a play of a lock of 256 codes at most has 200 guesses at most -/
/-- How many zeros among the first n. -/
def zerN (l : List Int) : Nat → Nat
  | 0 => 0
  | k + 1 => zerN l k + if rd l (k : Int) = 0 then 1 else 0
theorem zerN_le (l : List Int) : ∀ n, zerN l n ≤ n
  | 0 => Nat.le_refl _
  | n + 1 => by
    have := zerN_le l n
    unfold zerN
    split <;> omega
theorem dcode_zero (d : Nat) : ∀ w, dcode d w 0 = List.replicate w 0
  | 0 => rfl
  | w + 1 => by
    rw [dcode, Nat.zero_div, dcode_zero d w, Nat.zero_mod, List.replicate_succ']
    rfl
theorem plc_zero (w d n : Nat) (hw : w ≤ 6) (hd : 2 ≤ d ∧ d ≤ 10) : ∀ k, k ≤ w → plcN (codeT w d 0) (codeT w d n) k = (zerN (dcode d w n) k : Int)
  | 0, _ => rfl
  | k + 1, hk => by
    have hl0 : k < (dcode d w 0).length := by rw [dcode_len]; omega
    have hl : k < (dcode d w n).length := by rw [dcode_len]; omega
    rw [plcN, zerN, plc_zero w d n hw hd k (by omega)]
    unfold codeT
    rw [bt_txt _ (fun x hx => (dcode_digL d hd w 0 hw).2 x hx) k hl0, bt_txt _ (fun x hx => (dcode_digL d hd w n hw).2 x hx) k hl, rd_nat hl]
    have h0 : (dcode d w 0)[k] = 0 := by simp only [dcode_zero, List.getElem_replicate]
    rw [h0]
    by_cases h : (dcode d w n)[k] = 0
    · rw [if_pos (by omega), if_pos h]; omega
    · rw [if_neg (by omega), if_neg h]; omega
def cntZ (w d z : Nat) : Nat := ((List.range (d ^ w)).filter (fun n => decide (zerN (dcode d w n) w = z))).length
theorem cntZ_bd (w d : Nat) (hw1 : 1 ≤ w) (hw : w ≤ 6) (hd : 2 ≤ d ∧ d ≤ 10) (h : d ^ w ≤ 256) (z : Nat) : cntZ w d z ≤ 199 := by
  by_cases hz : z ≤ w
  case neg =>
    have : cntZ w d z = 0 := by
      unfold cntZ
      rw [List.length_eq_zero_iff, List.filter_eq_nil_iff]
      intro n _ hc
      have h1 := of_decide_eq_true hc
      have := zerN_le (dcode d w n) w
      omega
    omega
  by_cases h199 : d ^ w ≤ 199
  · have : cntZ w d z ≤ d ^ w := by
      unfold cntZ
      have := List.length_filter_le (fun n => decide (zerN (dcode d w n) w = z)) (List.range (d ^ w))
      rwa [List.length_range] at this
    omega
  have key : ∀ w' ≤ 6, ∀ d' ≤ 10, ∀ z' ≤ 6, (2 ≤ d' ∧ 199 < d' ^ w' ∧ d' ^ w' ≤ 256 ∧ z' ≤ w') → cntZ w' d' z' ≤ 199 := by decide +kernel
  exact key w hw d hd.2 z (by omega) ⟨hd.1, by omega, h, hz⟩
theorem filter_fits (w d : Nat) (hw : w ≤ 6) (hd : 2 ≤ d ∧ d ≤ 10) (c : ByteArray) (hc : c ∈ allC w d) : ∃ z, ((allC w d).filter (fitsB [hOf (codeT w d 0) c])).length ≤ cntZ w d z := by
  obtain ⟨m, _, rfl⟩ := allC_mem hc
  refine ⟨zerN (dcode d w m) w, ?_⟩
  unfold allC cntZ
  rw [List.filter_map, List.length_map]
  rw [← List.countP_eq_length_filter, ← List.countP_eq_length_filter]
  apply List.countP_mono_left
  intro n _ hn
  have h1 : fitsB [hOf (codeT w d 0) (codeT w d m)] (codeT w d n) = true := hn
  rw [fits_hOf] at h1
  have h2 := (of_decide_eq_true h1).1
  unfold hintV at h2
  simp only [codeT_size] at h2
  rw [plc_zero w d n hw hd w (Nat.le_refl _), plc_zero w d m hw hd w (Nat.le_refl _)] at h2
  exact decide_eq_true (by omega)
theorem playT_length (w d : Nat) (hw1 : 1 ≤ w) (hw : w ≤ 6) (hd : 2 ≤ d ∧ d ≤ 10) (h : d ^ w ≤ 256) (c : ByteArray) (hc : c ∈ allC w d) : (playT w d c).length ≤ 200 := by
  have hg := all_good w d hw1 hw hd hc
  have hp : 0 < d ^ w := Nat.pow_pos (by omega)
  unfold playT
  obtain ⟨m, hm⟩ : ∃ m, d ^ w = m + 1 := ⟨d ^ w - 1, by omega⟩
  have hl : (allC w d).length = m + 1 := by rw [allC_length]; exact hm
  rw [hm, playP]
  have h0 : rdOf ByteArray.empty (allC w d) 0 = codeT w d 0 := by
    unfold rdOf allC
    rw [hm]
    simp [List.getD]
  by_cases he : (rdOf ByteArray.empty (allC w d) 0).toList = c.toList
  · rw [if_pos he]; simp
  · rw [if_neg he]
    have hn := good_next hg he
    have h1 := (playP_length w c m _ hn.1 (by omega)).1
    rw [h0] at h1 hn ⊢
    obtain ⟨z, hz⟩ := filter_fits w d hw hd c hc
    have := cntZ_bd w d hw1 hw hd h z
    simp only [List.length_cons]
    omega

/-! the codes that need the most -/
def stepM (s : Int × List ByteArray) (c : ByteArray) (k : Int) : Int × List ByteArray := if k > s.1 then (k, [c]) else if k = s.1 then (s.1, s.2 ++ [c]) else s
def mostL (w d : Nat) : Nat → Int × List ByteArray
  | 0 => (0, [])
  | i + 1 => stepM (mostL w d i) (codeT w d i) ((playT w d (codeT w d i)).length : Int)
theorem mostL_length (w d : Nat) : ∀ i, (mostL w d i).2.length ≤ i
  | 0 => Nat.le_refl _
  | i + 1 => by
    have := mostL_length w d i
    unfold mostL stepM
    split
    · simp
    · split
      · simp; omega
      · omega
theorem hiMost_ev (w d : Nat) (hw1 : 1 ≤ w) (hw : w ≤ 6) (hd : 2 ≤ d ∧ d ≤ 10) (h : d ^ w ≤ 256) : Ev (fun K => spec_hiMost.f K w d) (mostL w d (d ^ w)) := by
  unfold spec_hiMost.f
  refine Ev.bind (hiAll_ev w d hw1 hw hd) ?_
  rw [allC_length]
  have key : ∀ (j i : Nat), i + j = d ^ w → Ev (fun K => spec_hiMost.l0 K (mostL w d i).1 (mostL w d i).2 (allC w d) ((d ^ w : Nat) : Int) i w d) (mostL w d (d ^ w)) := by
    intro j
    induction j with
    | zero =>
      intro i hi
      refine Ev.step (fun k => by rw [spec_hiMost.l0]) ?_
      exact Ev.neg (by omega) (Ev.val (Ev.now _) (by rw [show i = d ^ w by omega]))
    | succ j ih =>
      intro i hi
      have hl := mostL_length w d i
      have hr : rdOf ByteArray.empty (allC w d) (i : Int) = codeT w d i := by
        unfold rdOf allC
        simp [List.getD, show i < d ^ w by omega]
      have hm : codeT w d i ∈ allC w d := List.mem_map.mpr ⟨i, List.mem_range.mpr (by omega), rfl⟩
      have hn := ih (i + 1) (by omega)
      have hp := specPlay_ev w d hw1 hw hd hm
      refine Ev.step (fun k => by rw [spec_hiMost.l0]) ?_
      refine Ev.pos (by omega) (Ev.pos (by omega) (Ev.pos (by rw [allC_length]; omega) ?_))
      rw [hr, w64n (by omega)]
      refine Ev.bind hp ?_
      rw [mostL] at hn
      generalize playT w d (codeT w d i) = t at hn
      generalize mostL w d i = s at hn hl
      unfold stepM at hn
      by_cases h1 : (t.length : Int) > s.1
      · rw [if_pos h1] at hn
        exact Ev.pos h1 (Ev.pos rfl (Ev.pos (by simp) hn))
      · rw [if_neg h1] at hn
        by_cases h2 : (t.length : Int) = s.1
        · rw [if_pos h2] at hn
          exact Ev.neg h1 (Ev.pos h2 (Ev.pos (by omega) hn))
        · rw [if_neg h2] at hn
          exact Ev.neg h1 (Ev.neg h2 hn)
  exact key (d ^ w) 0 (by omega)
theorem hardest_ev (w d : Nat) (hw1 : 1 ≤ w) (hw : w ≤ 6) (hd : 2 ≤ d ∧ d ≤ 10) (h : d ^ w ≤ 256) : Ev (fun K => impl_Lock_hardest.f K w d) ((mostL w d (d ^ w)).2, (mostL w d (d ^ w)).1) := by
  unfold impl_Lock_hardest.f
  refine Ev.bind (count_ev w d hw hd.1 hd.2) ?_
  have key : ∀ (j i : Nat), i + j = d ^ w → Ev (fun K => impl_Lock_hardest.l0 K (mostL w d i).2 (mostL w d i).1 ((d ^ w : Nat) : Int) i w d) ((mostL w d (d ^ w)).2, (mostL w d (d ^ w)).1) := by
    intro j
    induction j with
    | zero =>
      intro i hi
      refine Ev.step (fun k => by rw [impl_Lock_hardest.l0]) ?_
      exact Ev.neg (by omega) (Ev.val (Ev.now _) (by rw [show i = d ^ w by omega]))
    | succ j ih =>
      intro i hi
      have hl := mostL_length w d i
      have hm : codeT w d i ∈ allC w d := List.mem_map.mpr ⟨i, List.mem_range.mpr (by omega), rfl⟩
      have hn := ih (i + 1) (by omega)
      have hp := implPlay_ev w d hw1 hw hd hm
      have hcap : capV [] (playT w d (codeT w d i)) = (playT w d (codeT w d i), true) := by
        unfold capV
        rw [if_pos (by have := playT_length w d hw1 hw hd h _ hm; simpa using this)]
        rfl
      rw [hcap] at hp
      refine Ev.step (fun k => by rw [impl_Lock_hardest.l0]) ?_
      refine Ev.pos (by omega) (Ev.bind (implCode_ev w d i hw1 hw hd (by omega)) (Ev.bind hp ?_))
      rw [w64n (by omega)]
      rw [mostL] at hn
      generalize playT w d (codeT w d i) = t at hn
      generalize mostL w d i = s at hn hl
      unfold stepM at hn
      by_cases h1 : (t.length : Int) > s.1
      · rw [if_pos h1] at hn
        exact Ev.pos h1 (Ev.pos rfl (Ev.pos (by simp) hn))
      · rw [if_neg h1] at hn
        by_cases h2 : (t.length : Int) = s.1
        · rw [if_pos h2] at hn
          exact Ev.neg h1 (Ev.pos h2 (Ev.pos (by omega) hn))
        · rw [if_neg h2] at hn
          exact Ev.neg h1 (Ev.neg h2 hn)
  exact key (d ^ w) 0 (by omega)
theorem small_256 {w d : Nat} (h : smallB w d 256 = true) : d ^ w ≤ 256 := by
  unfold smallB at h
  rw [Bool.and_eq_true] at h
  have := of_decide_eq_true h.2
  simp only [Int.toNat_natCast] at this
  omega
end Go.Proofs.YtcpnmiempaofdaaGreat.Pure
