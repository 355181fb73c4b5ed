/- Chapter 6: the hints that are possible: what the reference's loops come to. -/
import Derived.Test.YtcpnmiempaofdaaGreatCx0
import Derived.Test.YtcpnmiempaofdaaGreatCx10
import Derived.Test.YtcpnmiempaofdaaGreatHintO
namespace Go.Proofs.YtcpnmiempaofdaaGreat.Pure
open Go.RowKit Go.Proofs.YtcpnmiempaofdaaGreat.C Go.Proofs.YtcpnmiempaofdaaGreatW.PrintWords Go.Proofs.YtcpnmiempaofdaaGreatW.PrintLast Go.Proofs.YtcpnmiempaofdaaGreatW.PrintMore
set_option linter.unusedVariables false

/-! all hints that there are -/
def sumF (w : Nat) (codes : List ByteArray) : List ByteArray → Nat → Int
  | [], _ => 0
  | g :: l, q => partsF w g codes q + sumF w codes l q
theorem sumF_snoc (w : Nat) (codes : List ByteArray) (g : ByteArray) (q : Nat) : ∀ l, sumF w codes (l ++ [g]) q = sumF w codes l q + partsF w g codes q
  | [] => by simp [sumF]
  | x :: l => by rw [List.cons_append, sumF, sumF_snoc w codes g q l, sumF]; omega
theorem sumF_bd (w : Nat) (codes : List ByteArray) (q : Nat) : ∀ l, 0 ≤ sumF w codes l q ∧ sumF w codes l q ≤ (l.length : Int) * (codes.length : Int)
  | [] => by simp [sumF]
  | x :: l => by
    have ih := sumF_bd w codes q l
    have h1 : partsF w x codes q ≤ (codes.length : Int) := by unfold partsF; exact Int.ofNat_le.mpr (List.length_filter_le _ _)
    have h2 : 0 ≤ partsF w x codes q := by unfold partsF; omega
    have e : ((x :: l).length : Int) * (codes.length : Int) = (l.length : Int) * (codes.length : Int) + (codes.length : Int) := by rw [List.length_cons, Int.natCast_add, Int.add_mul]; simp
    rw [sumF, e]
    omega
theorem sumF_pos (w : Nat) (codes : List ByteArray) (q : Nat) : ∀ l, sumF w codes l q > 0 ↔ ∃ g ∈ l, ∃ s ∈ codes, ixW w g s = q
  | [] => by simp [sumF]
  | x :: l => by
    have ih := sumF_pos w codes q l
    have h0 := (sumF_bd w codes q l).1
    have h1 : partsF w x codes q > 0 ↔ ∃ s ∈ codes, ixW w x s = q := by
      unfold partsF
      constructor
      · intro h
        obtain ⟨s, hs⟩ := List.exists_mem_of_length_pos (show 0 < (codes.filter (fun s => decide (ixW w x s = q))).length by omega)
        rw [List.mem_filter] at hs
        exact ⟨s, hs.1, of_decide_eq_true hs.2⟩
      · rintro ⟨s, hs, he⟩
        have hm : s ∈ codes.filter (fun s => decide (ixW w x s = q)) := List.mem_filter.mpr ⟨hs, by simpa using he⟩
        have := List.length_pos_of_mem hm
        omega
    have h2 : 0 ≤ partsF w x codes q := by unfold partsF; omega
    rw [sumF]
    constructor
    · intro h
      by_cases hx : partsF w x codes q > 0
      · obtain ⟨s, hs, he⟩ := h1.mp hx
        exact ⟨x, by simp, s, hs, he⟩
      · obtain ⟨g, hg, s, hs, he⟩ := ih.mp (by omega)
        exact ⟨g, by simp [hg], s, hs, he⟩
    · rintro ⟨g, hg, s, hs, he⟩
      rcases List.mem_cons.mp hg with rfl | hg
      · have := h1.mpr ⟨s, hs, he⟩
        omega
      · have := ih.mpr ⟨g, hg, s, hs, he⟩
        omega
theorem poss_l1 (w : Nat) (hw : w ≤ 6) (codes xs : List ByteArray) (n i : Int) (M : Nat) (hM : M ≤ 49) (F G : Nat → Int) (hF : ∀ q, 0 ≤ F q ∧ F q ≤ 1000000000000) (hG : ∀ q, 0 ≤ G q ∧ G q ≤ 1000000000000) (b : Int) (r : List (List Int) × Bool)
    (h : Ev (fun K => spec_PossibleHints.l0 K ((List.range M).map (fun q => F q + G q)) codes xs n (wrap64 (i + 1)) (w : Int) b) r) : ∀ (d j : Nat), j + d = M →
    Ev (fun K => spec_PossibleHints.l1 K ((List.range M).map (fun q => if q < j then F q + G q else F q)) codes xs n i ((List.range M).map G) (((List.range M).map G).length : Int) j (w : Int) b) r := by
  intro d
  induction d with
  | zero =>
    intro j hj
    refine Ev.step (fun k => by rw [spec_PossibleHints.l1]) ?_
    refine Ev.neg (by simp; omega) ?_
    have e : (List.range M).map (fun q => if q < j then F q + G q else F q) = (List.range M).map (fun q => F q + G q) := by
      apply List.map_congr_left
      intro q hq
      rw [List.mem_range] at hq
      rw [if_pos (by omega)]
    rw [e]
    exact h
  | succ d ih =>
    intro j hj
    have h1 : j < M := by omega
    have hf := hF j
    have hg := hG j
    refine Ev.step (fun k => by rw [spec_PossibleHints.l1]) ?_
    refine Ev.pos (by simp; omega) (Ev.pos (by omega) (Ev.pos (by simp; omega) (Ev.pos (by simp; omega) ?_)))
    rw [range_map_get _ _ _ h1, range_map_get _ _ _ h1, if_neg (Nat.lt_irrefl j), w64 (by omega) (by omega), w64n (by omega), Int.toNat_natCast]
    have hset := range_map_set M (fun q => if q < j then F q + G q else F q) (fun q => if q < j + 1 then F q + G q else F q) j h1 (fun q _ hq => by
      by_cases c : q < j
      · simp only [if_pos c, if_pos (show q < j + 1 by omega)]
      · simp only [if_neg c, if_neg (show ¬ q < j + 1 by omega)])
    simp only [if_pos (show j < j + 1 by omega)] at hset
    rw [hset]
    exact ih (j + 1) (by omega)
def possL (w : Nat) (F : Nat → Int) (M : Nat) : List (List Int) := ((List.range M).filter (fun q => decide (F q > 0))).map (fun q => [((q / (w + 1) : Nat) : Int), ((q % (w + 1) : Nat) : Int)])
theorem poss_l2 (w : Nat) (hw : w ≤ 6) (M : Nat) (hM : M ≤ 49) (F : Nat → Int) (b : Int) : ∀ (d j : Nat), j + d = M →
    Ev (fun K => spec_PossibleHints.l2 K (possL w F j) ((List.range M).map F) (((List.range M).map F).length : Int) j (w : Int) b) (possL w F M, true) := by
  intro d
  induction d with
  | zero =>
    intro j hj
    refine Ev.step (fun k => by rw [spec_PossibleHints.l2]) ?_
    refine Ev.neg (by simp; omega) (Ev.val (Ev.now _) ?_)
    rw [show j = M by omega]
  | succ d ih =>
    intro j hj
    have h1 : j < M := by omega
    have hpl : (possL w F j).length ≤ j := by
      unfold possL
      have := List.length_filter_le (fun q => decide (F q > 0)) (List.range j)
      simpa using this
    refine Ev.step (fun k => by rw [spec_PossibleHints.l2]) ?_
    refine Ev.pos (by simp; omega) (Ev.pos (by omega) (Ev.pos (by simp; omega) ?_))
    rw [range_map_get _ _ _ h1, w64 (x := (w : Int) + 1) (by omega) (by omega), w64n (i := j) (by omega)]
    by_cases h : F j > 0
    · have e1 : Int.tdiv (j : Int) ((w : Int) + 1) = ((j / (w + 1) : Nat) : Int) := by rw [Int.tdiv_eq_ediv_of_nonneg (by omega)]; exact (Int.natCast_ediv j (w + 1)).symm
      have e2 : Int.tmod (j : Int) ((w : Int) + 1) = ((j % (w + 1) : Nat) : Int) := by rw [Int.tmod_eq_emod_of_nonneg (by omega)]; exact (Int.natCast_emod j (w + 1)).symm
      have hd : j / (w + 1) ≤ j := Nat.div_le_self _ _
      refine Ev.pos h (Ev.neg (by omega) (Ev.pos (by omega) ?_))
      rw [e1, e2, w64 (x := ((j / (w + 1) : Nat) : Int)) (Int.le_trans (by decide) (Int.natCast_nonneg _)) (Int.le_trans (Int.ofNat_le.mpr hd) (by omega))]
      have := ih (j + 1) (by omega)
      rw [show possL w F (j + 1) = possL w F j ++ [[((j / (w + 1) : Nat) : Int), ((j % (w + 1) : Nat) : Int)]] by
        unfold possL
        rw [List.range_succ, List.filter_append, List.map_append, List.filter_cons, if_pos (decide_eq_true h)]
        rfl] at this
      exact this
    · refine Ev.neg h ?_
      have := ih (j + 1) (by omega)
      rw [show possL w F (j + 1) = possL w F j by
        unfold possL
        rw [List.range_succ, List.filter_append, List.map_append, List.filter_cons, if_neg (fun hc => h (of_decide_eq_true hc))]
        simp] at this
      exact this
theorem poss_l0 (w d : Nat) (hw1 : 1 ≤ w) (hw : w ≤ 6) (codes : List ByteArray) (hn : codes.length ≤ 1000000) (hc : ∀ c ∈ codes, digsB c ∧ c.size = w) : ∀ (e i : Nat), i + e = codes.length →
    Ev (fun K => spec_PossibleHints.l0 K ((List.range ((w + 1) * (w + 1))).map (sumF w codes (codes.take i))) codes codes (codes.length : Int) i (w : Int) (d : Int)) (possL w (sumF w codes codes) ((w + 1) * (w + 1)), true) := by
  have hM : (w + 1) * (w + 1) ≤ 49 := Nat.mul_le_mul (show w + 1 ≤ 7 by omega) (show w + 1 ≤ 7 by omega)
  intro e
  induction e with
  | zero =>
    intro i hi
    refine Ev.step (fun k => by rw [spec_PossibleHints.l0]) ?_
    refine Ev.neg (by omega) ?_
    rw [List.take_of_length_le (by omega)]
    have := poss_l2 w hw ((w + 1) * (w + 1)) hM (sumF w codes codes) (d : Int) ((w + 1) * (w + 1)) 0 (by omega)
    exact this
  | succ e ih =>
    intro i hi
    have h1 : i < codes.length := by omega
    have hr : rdOf ByteArray.empty codes (i : Int) = codes[i] := by unfold rdOf; simp [h1]
    refine Ev.step (fun k => by rw [spec_PossibleHints.l0]) ?_
    refine Ev.pos (by omega) (Ev.pos (by omega) (Ev.pos (by omega) ?_))
    rw [hr]
    refine Ev.bind (hiParts_ev w hw1 hw codes[i] (hc _ (List.getElem_mem h1)) codes (by omega) hc) ?_
    have hmul : ∀ a : Nat, a ≤ 1000000 → (a : Int) * (codes.length : Int) ≤ 1000000000000 := by
      intro a ha
      have : a * codes.length ≤ 1000000 * 1000000 := Nat.mul_le_mul ha hn
      have := Int.ofNat_le.mpr this
      simpa using this
    have := poss_l1 w hw codes codes (codes.length : Int) (i : Int) ((w + 1) * (w + 1)) hM (sumF w codes (codes.take i)) (partsF w codes[i] codes) (fun q => by
        have := sumF_bd w codes q (codes.take i)
        have h2 := hmul (codes.take i).length (by rw [List.length_take]; omega)
        omega) (fun q => by
        unfold partsF
        have := List.length_filter_le (fun s => decide (ixW w codes[i] s = q)) codes
        omega) (d : Int) _ (by
        rw [w64n (by omega)]
        have := ih (i + 1) (by omega)
        rw [List.take_succ_eq_append_getElem h1, show sumF w codes (codes.take i ++ [codes[i]]) = (fun q => sumF w codes (codes.take i) q + partsF w codes[i] codes q) from funext (fun q => sumF_snoc w codes codes[i] q _)] at this
        exact this) ((w + 1) * (w + 1)) 0 (by omega)
    simp only [Nat.not_lt_zero, if_false] at this
    exact this
end Go.Proofs.YtcpnmiempaofdaaGreat.Pure
