/- Chapter 6: how far hints go, and for how many codes a guess has each hint. -/
import Derived.Test.YthikcnbjfnkglaaVx0
import Derived.Test.YthikcnbjfnkglaaVx2
import Derived.Test.YthikcnbjfnkglaaVx7
import Derived.Test.YthikcnbjfnkglaaHintD
namespace Go.Proofs.Ythikcnbjfnkglaa.Pure
open Go.RowKit Go.Proofs.Ythikcnbjfnkglaa.V Go.Proofs.YthikcnbjfnkglaaW.PrintWords Go.Proofs.YthikcnbjfnkglaaW.PrintLast Go.Proofs.YthikcnbjfnkglaaW.PrintMore
set_option linter.unusedVariables false

/-! bounds of hints -/
theorem com_next (g c : ByteArray) (n : Nat) : ∀ j : Nat, comN g c n j + (if bt g (n : Int) = bt c (n : Int) ∧ 48 ≤ bt g (n : Int) ∧ bt g (n : Int) < 48 + (j : Int) then 1 else 0) ≤ comN g c (n + 1) j
  | 0 => by
    rw [if_neg (by omega)]
    simp [comN]
  | j + 1 => by
    have ih := com_next g c n j
    rw [comN, comN]
    have e1 : cntN g (48 + (j : Int)) (n + 1) = cntN g (48 + (j : Int)) n + if bt g (n : Int) = 48 + (j : Int) then 1 else 0 := rfl
    have e2 : cntN c (48 + (j : Int)) (n + 1) = cntN c (48 + (j : Int)) n + if bt c (n : Int) = 48 + (j : Int) then 1 else 0 := rfl
    rw [e1, e2]
    generalize cntN g (48 + (j : Int)) n = a at *
    generalize cntN c (48 + (j : Int)) n = b at *
    generalize comN g c n j = u at *
    generalize comN g c (n + 1) j = v at *
    generalize bt g (n : Int) = x at *
    generalize bt c (n : Int) = y at *
    by_cases h1 : x = y ∧ 48 ≤ x ∧ x < 48 + (j : Int)
    · rw [if_pos h1] at ih
      rw [if_pos (show x = y ∧ 48 ≤ x ∧ x < 48 + ((j + 1 : Nat) : Int) by omega), if_neg (show ¬ x = 48 + (j : Int) by omega), if_neg (show ¬ y = 48 + (j : Int) by omega)]
      simp only [Int.add_zero]
      omega
    · rw [if_neg h1] at ih
      by_cases h2 : x = 48 + (j : Int)
      · by_cases h3 : y = 48 + (j : Int)
        · rw [if_pos h2, if_pos h3, if_pos (show x = y ∧ 48 ≤ x ∧ x < 48 + ((j + 1 : Nat) : Int) by omega)]
          split <;> split <;> omega
        · rw [if_pos h2, if_neg h3, if_neg (show ¬ (x = y ∧ 48 ≤ x ∧ x < 48 + ((j + 1 : Nat) : Int)) by omega)]
          split <;> split <;> omega
      · rw [if_neg h2, if_neg (show ¬ (x = y ∧ 48 ≤ x ∧ x < 48 + ((j + 1 : Nat) : Int)) by omega)]
        by_cases h3 : y = 48 + (j : Int)
        · rw [if_pos h3]
          split <;> split <;> omega
        · rw [if_neg h3]
          split <;> split <;> omega
theorem com_zero (g c : ByteArray) : ∀ j : Nat, comN g c 0 j = 0
  | 0 => rfl
  | j + 1 => by
    rw [comN, com_zero g c j]
    simp [cntN]
theorem plc_com (g c : ByteArray) : ∀ n : Nat, (∀ i : Nat, i < n → 48 ≤ bt g (i : Int) ∧ bt g (i : Int) ≤ 57) → plcN g c n ≤ comN g c n 10
  | 0, _ => by rw [com_zero]; simp [plcN]
  | n + 1, h => by
    have ih := plc_com g c n (fun i hi => h i (by omega))
    have h1 := com_next g c n 10
    have h2 := h n (by omega)
    rw [plcN]
    by_cases e : bt g (n : Int) = bt c (n : Int)
    · rw [if_pos e]
      rw [if_pos ⟨e, h2.1, by omega⟩] at h1
      omega
    · rw [if_neg e]
      rw [if_neg (fun hc => e hc.1)] at h1
      omega
def sumC (c : ByteArray) (n : Nat) : Nat → Int
  | 0 => 0
  | j + 1 => sumC c n j + cntN c (48 + (j : Int)) n
theorem sumC_succ (c : ByteArray) (n : Nat) : ∀ j : Nat, sumC c (n + 1) j = sumC c n j + if 48 ≤ bt c (n : Int) ∧ bt c (n : Int) < 48 + (j : Int) then 1 else 0
  | 0 => by rw [if_neg (by omega)]; rfl
  | j + 1 => by
    rw [sumC, sumC, sumC_succ c n j]
    have e2 : cntN c (48 + (j : Int)) (n + 1) = cntN c (48 + (j : Int)) n + if bt c (n : Int) = 48 + (j : Int) then 1 else 0 := rfl
    rw [e2]
    split <;> split <;> split <;> omega
theorem sumC_zero (c : ByteArray) : ∀ j : Nat, sumC c 0 j = 0
  | 0 => rfl
  | j + 1 => by rw [sumC, sumC_zero c j]; rfl
theorem sumC_le (c : ByteArray) (j : Nat) : ∀ n : Nat, sumC c n j ≤ (n : Int)
  | 0 => by rw [sumC_zero]; simp
  | n + 1 => by
    have := sumC_le c j n
    rw [sumC_succ]
    split <;> omega
theorem com_le (g c : ByteArray) (n : Nat) : ∀ j : Nat, comN g c n j ≤ sumC c n j
  | 0 => by simp [comN, sumC]
  | j + 1 => by
    have := com_le g c n j
    rw [comN, sumC]
    split <;> omega
theorem hint_bd (g c : ByteArray) (hg : digsB g) : 0 ≤ (hintV g c).1 ∧ 0 ≤ (hintV g c).2 ∧ (hintV g c).1 + (hintV g c).2 ≤ (g.size : Int) := by
  have h1 := plc_com g c g.size hg.2
  have h2 := com_le g c g.size 10
  have h3 := sumC_le c 10 g.size
  have h4 := plcN_bd g c g.size
  unfold hintV
  simp only
  omega

/-! counts of hints -/
/-- Where a hint stands in a list of all. -/
def ixW (w : Nat) (g s : ByteArray) : Nat := ((hintV g s).1 * ((w : Int) + 1) + (hintV g s).2).toNat
theorem ix_small (N : Nat) {p o : Int} (hp : 0 ≤ p) (ho : 0 ≤ o) (hN : p + o < (N : Int)) (hb : N ≤ 7) : 0 ≤ p * (N : Int) + o ∧ p * (N : Int) + o < ((N * N : Nat) : Int) := by
  obtain ⟨a, rfl⟩ := Int.eq_ofNat_of_zero_le hp
  obtain ⟨b, rfl⟩ := Int.eq_ofNat_of_zero_le ho
  have h1 : a + b < N := by omega
  have h2 : a * N + b < N * N := by
    have : (a + 1) * N ≤ N * N := Nat.mul_le_mul_right N (by omega)
    rw [Nat.add_mul, Nat.one_mul] at this
    omega
  constructor
  · have : (0 : Int) ≤ ((a * N + b : Nat) : Int) := Int.natCast_nonneg _
    simpa using this
  · have := Int.ofNat_lt.mpr h2
    simpa using this
def partsF (w : Nat) (g : ByteArray) (codes : List ByteArray) (q : Nat) : Int := ((codes.filter (fun s => decide (ixW w g s = q))).length : Int)
def partsL (w : Nat) (g : ByteArray) (codes : List ByteArray) : List Int := (List.range ((w + 1) * (w + 1))).map (partsF w g codes)
theorem range_map_get (M : Nat) (F : Nat → Int) (q : Nat) (h : q < M) : rd ((List.range M).map F) (q : Int) = F q := by
  rw [rd_nat (by simpa using h)]
  simp
theorem range_map_set (M : Nat) (F G : Nat → Int) (q : Nat) (h : q < M) (hq : ∀ j, j < M → j ≠ q → G j = F j) : ((List.range M).map F).set q (G q) = (List.range M).map G := by
  apply List.ext_getElem
  · simp
  · intro i h1 h2
    rw [List.getElem_set]
    by_cases e : q = i
    · subst e; simp
    · rw [if_neg e]
      simp only [List.getElem_map, List.getElem_range]
      exact (hq i (by simpa using h2) (Ne.symm e)).symm
theorem parts_snoc (w : Nat) (g : ByteArray) (l : List ByteArray) (s : ByteArray) (q : Nat) : partsF w g (l ++ [s]) q = partsF w g l q + if ixW w g s = q then 1 else 0 := by
  unfold partsF
  rw [List.filter_append, List.length_append]
  by_cases h : ixW w g s = q
  · simp [h]
  · simp [h]
theorem hiParts_l0 (w : Nat) (hw1 : 1 ≤ w) (hw : w ≤ 6) (g : ByteArray) (hg : digsB g ∧ g.size = w) (codes : List ByteArray) (hn : codes.length ≤ 10000000) (hc : ∀ c ∈ codes, digsB c ∧ c.size = w) : ∀ (d i : Nat), i + d = codes.length →
    Ev (fun K => spec_hiParts.l0 K (w : Int) g (partsL w g (codes.take i)) codes (codes.length : Int) i) (partsL w g codes) := by
  intro d
  induction d with
  | zero =>
    intro i hi
    refine Ev.step (fun k => by rw [spec_hiParts.l0]) ?_
    refine Ev.neg (by omega) (Ev.val (Ev.now _) ?_)
    rw [List.take_of_length_le (by omega)]
  | succ d ih =>
    intro i hi
    have h1 : i < codes.length := by omega
    have hr : rdOf ByteArray.empty codes (i : Int) = codes[i] := by unfold rdOf; simp [h1]
    have hs := hc _ (List.getElem_mem h1)
    have hb := hint_bd g codes[i] hg.1
    rw [hg.2] at hb
    have hix := ix_small (w + 1) hb.1 hb.2.1 (by omega) (by omega)
    have he : ((ixW w g codes[i] : Nat) : Int) = (hintV g codes[i]).1 * ((w : Int) + 1) + (hintV g codes[i]).2 := by
      unfold ixW
      have : ((w + 1 : Nat) : Int) = (w : Int) + 1 := rfl
      rw [this] at hix
      omega
    have hlt : ixW w g codes[i] < (w + 1) * (w + 1) := by
      have h2 := hix.2
      have : ((w + 1 : Nat) : Int) = (w : Int) + 1 := rfl
      rw [this, ← he] at h2
      exact Int.ofNat_lt.mp h2
    have hM : (w + 1) * (w + 1) ≤ 49 := Nat.mul_le_mul (show w + 1 ≤ 7 by omega) (show w + 1 ≤ 7 by omega)
    have hmul : 0 ≤ (hintV g codes[i]).1 * ((w : Int) + 1) ∧ (hintV g codes[i]).1 * ((w : Int) + 1) ≤ 49 := by
      have : 0 ≤ (hintV g codes[i]).1 * ((w : Int) + 1) := Int.mul_nonneg hb.1 (by omega)
      omega
    refine Ev.step (fun k => by rw [spec_hiParts.l0]) ?_
    refine Ev.pos (by omega) (Ev.pos (by omega) (Ev.pos (by omega) ?_))
    rw [hr]
    refine Ev.let_ (specHint_some g codes[i] hg.1 (by rw [hg.2, hs.2])) ?_
    rw [w64 (x := (w : Int) + 1) (by omega) (by omega), w64 (x := (hintV g codes[i]).1 * ((w : Int) + 1)) (by omega) (by omega), w64 (x := (hintV g codes[i]).1 * ((w : Int) + 1) + (hintV g codes[i]).2) (by omega) (by omega), ← he]
    refine Ev.pos (by omega) (Ev.pos (by rw [show (partsL w g (codes.take i)).length = (w + 1) * (w + 1) by simp [partsL]]; exact Int.ofNat_lt.mpr hlt) ?_)
    have hp : 0 ≤ partsF w g (codes.take i) (ixW w g codes[i]) ∧ partsF w g (codes.take i) (ixW w g codes[i]) ≤ 10000000 := by
      unfold partsF
      have := List.length_filter_le (fun s => decide (ixW w g s = ixW w g codes[i])) (codes.take i)
      rw [List.length_take] at this
      omega
    unfold partsL
    rw [range_map_get _ _ _ hlt, w64 (by omega) (by omega), w64n (by omega), Int.toNat_natCast]
    have hset := range_map_set ((w + 1) * (w + 1)) (partsF w g (codes.take i)) (partsF w g (codes.take (i + 1))) (ixW w g codes[i]) hlt (fun j _ hj => by
      rw [List.take_succ_eq_append_getElem h1, parts_snoc, if_neg (Ne.symm hj)]; omega)
    have hval : partsF w g (codes.take (i + 1)) (ixW w g codes[i]) = partsF w g (codes.take i) (ixW w g codes[i]) + 1 := by
      rw [List.take_succ_eq_append_getElem h1, parts_snoc, if_pos rfl]
    rw [hval] at hset
    rw [hset]
    exact ih (i + 1) (by omega)
theorem hiParts_ev (w : Nat) (hw1 : 1 ≤ w) (hw : w ≤ 6) (g : ByteArray) (hg : digsB g ∧ g.size = w) (codes : List ByteArray) (hn : codes.length ≤ 10000000) (hc : ∀ c ∈ codes, digsB c ∧ c.size = w) : Ev (fun K => spec_hiParts.f K (w : Int) g codes) (partsL w g codes) := by
  have hM : (w + 1) * (w + 1) ≤ 49 := Nat.mul_le_mul (show w + 1 ≤ 7 by omega) (show w + 1 ≤ 7 by omega)
  have e : wrap64 ((wrap64 ((w : Int) + 1)) * (wrap64 ((w : Int) + 1))) = (((w + 1) * (w + 1) : Nat) : Int) := by
    rw [w64 (x := (w : Int) + 1) (by omega) (by omega)]
    have : ((w : Int) + 1) * ((w : Int) + 1) = (((w + 1) * (w + 1) : Nat) : Int) := by simp
    rw [this, w64 (by omega) (by omega)]
  unfold spec_hiParts.f
  rw [e]
  refine Ev.pos (by omega) (Ev.pos (by omega) ?_)
  rw [Int.toNat_natCast]
  have h0 : List.replicate ((w + 1) * (w + 1)) 0 = partsL w g (codes.take 0) := by
    unfold partsL
    apply List.ext_getElem
    · simp
    · intro i h1 h2; simp [partsF]
  rw [h0]
  exact hiParts_l0 w hw1 hw g hg codes hn hc codes.length 0 (by omega)

/-! all hints that there are -/
def sumF (w : Nat) (codes : List ByteArray) : List ByteArray → Nat → Int
  | [], _ => 0
  | g :: l, q => partsF w g codes q + sumF w codes l q
theorem sumF_snoc (w : Nat) (codes : List ByteArray) (g : ByteArray) (q : Nat) : ∀ l, sumF w codes (l ++ [g]) q = sumF w codes l q + partsF w g codes q
  | [] => by simp [sumF]
  | x :: l => by rw [List.cons_append, sumF, sumF_snoc w codes g q l, sumF]; omega
theorem sumF_bd (w : Nat) (codes : List ByteArray) (q : Nat) : ∀ l, 0 ≤ sumF w codes l q ∧ sumF w codes l q ≤ (l.length : Int) * (codes.length : Int)
  | [] => by simp [sumF]
  | x :: l => by
    have ih := sumF_bd w codes q l
    have h1 : partsF w x codes q ≤ (codes.length : Int) := by unfold partsF; exact Int.ofNat_le.mpr (List.length_filter_le _ _)
    have h2 : 0 ≤ partsF w x codes q := by unfold partsF; omega
    have e : ((x :: l).length : Int) * (codes.length : Int) = (l.length : Int) * (codes.length : Int) + (codes.length : Int) := by rw [List.length_cons, Int.natCast_add, Int.add_mul]; simp
    rw [sumF, e]
    omega
theorem sumF_pos (w : Nat) (codes : List ByteArray) (q : Nat) : ∀ l, sumF w codes l q > 0 ↔ ∃ g ∈ l, ∃ s ∈ codes, ixW w g s = q
  | [] => by simp [sumF]
  | x :: l => by
    have ih := sumF_pos w codes q l
    have h0 := (sumF_bd w codes q l).1
    have h1 : partsF w x codes q > 0 ↔ ∃ s ∈ codes, ixW w x s = q := by
      unfold partsF
      constructor
      · intro h
        obtain ⟨s, hs⟩ := List.exists_mem_of_length_pos (show 0 < (codes.filter (fun s => decide (ixW w x s = q))).length by omega)
        rw [List.mem_filter] at hs
        exact ⟨s, hs.1, of_decide_eq_true hs.2⟩
      · rintro ⟨s, hs, he⟩
        have hm : s ∈ codes.filter (fun s => decide (ixW w x s = q)) := List.mem_filter.mpr ⟨hs, by simpa using he⟩
        have := List.length_pos_of_mem hm
        omega
    have h2 : 0 ≤ partsF w x codes q := by unfold partsF; omega
    rw [sumF]
    constructor
    · intro h
      by_cases hx : partsF w x codes q > 0
      · obtain ⟨s, hs, he⟩ := h1.mp hx
        exact ⟨x, by simp, s, hs, he⟩
      · obtain ⟨g, hg, s, hs, he⟩ := ih.mp (by omega)
        exact ⟨g, by simp [hg], s, hs, he⟩
    · rintro ⟨g, hg, s, hs, he⟩
      rcases List.mem_cons.mp hg with rfl | hg
      · have := h1.mpr ⟨s, hs, he⟩
        omega
      · have := ih.mpr ⟨g, hg, s, hs, he⟩
        omega
theorem poss_l1 (w : Nat) (hw : w ≤ 6) (codes xs : List ByteArray) (n i : Int) (M : Nat) (hM : M ≤ 49) (F G : Nat → Int) (hF : ∀ q, 0 ≤ F q ∧ F q ≤ 1000000000000) (hG : ∀ q, 0 ≤ G q ∧ G q ≤ 1000000000000) (b : Int) (r : List (List Int) × Bool)
    (h : Ev (fun K => spec_PossibleHints.l0 K ((List.range M).map (fun q => F q + G q)) codes xs n (wrap64 (i + 1)) (w : Int) b) r) : ∀ (d j : Nat), j + d = M →
    Ev (fun K => spec_PossibleHints.l1 K ((List.range M).map (fun q => if q < j then F q + G q else F q)) codes xs n i ((List.range M).map G) (((List.range M).map G).length : Int) j (w : Int) b) r := by
  intro d
  induction d with
  | zero =>
    intro j hj
    refine Ev.step (fun k => by rw [spec_PossibleHints.l1]) ?_
    refine Ev.neg (by simp; omega) ?_
    have e : (List.range M).map (fun q => if q < j then F q + G q else F q) = (List.range M).map (fun q => F q + G q) := by
      apply List.map_congr_left
      intro q hq
      rw [List.mem_range] at hq
      rw [if_pos (by omega)]
    rw [e]
    exact h
  | succ d ih =>
    intro j hj
    have h1 : j < M := by omega
    have hf := hF j
    have hg := hG j
    refine Ev.step (fun k => by rw [spec_PossibleHints.l1]) ?_
    refine Ev.pos (by simp; omega) (Ev.pos (by omega) (Ev.pos (by simp; omega) (Ev.pos (by simp; omega) ?_)))
    rw [range_map_get _ _ _ h1, range_map_get _ _ _ h1, if_neg (Nat.lt_irrefl j), w64 (by omega) (by omega), w64n (by omega), Int.toNat_natCast]
    have hset := range_map_set M (fun q => if q < j then F q + G q else F q) (fun q => if q < j + 1 then F q + G q else F q) j h1 (fun q _ hq => by
      by_cases c : q < j
      · simp only [if_pos c, if_pos (show q < j + 1 by omega)]
      · simp only [if_neg c, if_neg (show ¬ q < j + 1 by omega)])
    simp only [if_pos (show j < j + 1 by omega)] at hset
    rw [hset]
    exact ih (j + 1) (by omega)
def possL (w : Nat) (F : Nat → Int) (M : Nat) : List (List Int) := ((List.range M).filter (fun q => decide (F q > 0))).map (fun q => [((q / (w + 1) : Nat) : Int), ((q % (w + 1) : Nat) : Int)])
theorem poss_l2 (w : Nat) (hw : w ≤ 6) (M : Nat) (hM : M ≤ 49) (F : Nat → Int) (b : Int) : ∀ (d j : Nat), j + d = M →
    Ev (fun K => spec_PossibleHints.l2 K (possL w F j) ((List.range M).map F) (((List.range M).map F).length : Int) j (w : Int) b) (possL w F M, true) := by
  intro d
  induction d with
  | zero =>
    intro j hj
    refine Ev.step (fun k => by rw [spec_PossibleHints.l2]) ?_
    refine Ev.neg (by simp; omega) (Ev.val (Ev.now _) ?_)
    rw [show j = M by omega]
  | succ d ih =>
    intro j hj
    have h1 : j < M := by omega
    have hpl : (possL w F j).length ≤ j := by
      unfold possL
      have := List.length_filter_le (fun q => decide (F q > 0)) (List.range j)
      simpa using this
    refine Ev.step (fun k => by rw [spec_PossibleHints.l2]) ?_
    refine Ev.pos (by simp; omega) (Ev.pos (by omega) (Ev.pos (by simp; omega) ?_))
    rw [range_map_get _ _ _ h1, w64 (x := (w : Int) + 1) (by omega) (by omega), w64n (i := j) (by omega)]
    by_cases h : F j > 0
    · have e1 : Int.tdiv (j : Int) ((w : Int) + 1) = ((j / (w + 1) : Nat) : Int) := by rw [Int.tdiv_eq_ediv_of_nonneg (by omega)]; exact (Int.natCast_ediv j (w + 1)).symm
      have e2 : Int.tmod (j : Int) ((w : Int) + 1) = ((j % (w + 1) : Nat) : Int) := by rw [Int.tmod_eq_emod_of_nonneg (by omega)]; exact (Int.natCast_emod j (w + 1)).symm
      have hd : j / (w + 1) ≤ j := Nat.div_le_self _ _
      refine Ev.pos h (Ev.neg (by omega) (Ev.pos (by omega) ?_))
      rw [e1, e2, w64 (x := ((j / (w + 1) : Nat) : Int)) (Int.le_trans (by decide) (Int.natCast_nonneg _)) (Int.le_trans (Int.ofNat_le.mpr hd) (by omega))]
      have := ih (j + 1) (by omega)
      rw [show possL w F (j + 1) = possL w F j ++ [[((j / (w + 1) : Nat) : Int), ((j % (w + 1) : Nat) : Int)]] by
        unfold possL
        rw [List.range_succ, List.filter_append, List.map_append, List.filter_cons, if_pos (decide_eq_true h)]
        rfl] at this
      exact this
    · refine Ev.neg h ?_
      have := ih (j + 1) (by omega)
      rw [show possL w F (j + 1) = possL w F j by
        unfold possL
        rw [List.range_succ, List.filter_append, List.map_append, List.filter_cons, if_neg (fun hc => h (of_decide_eq_true hc))]
        simp] at this
      exact this
theorem poss_l0 (w d : Nat) (hw1 : 1 ≤ w) (hw : w ≤ 6) (codes : List ByteArray) (hn : codes.length ≤ 1000000) (hc : ∀ c ∈ codes, digsB c ∧ c.size = w) : ∀ (e i : Nat), i + e = codes.length →
    Ev (fun K => spec_PossibleHints.l0 K ((List.range ((w + 1) * (w + 1))).map (sumF w codes (codes.take i))) codes codes (codes.length : Int) i (w : Int) (d : Int)) (possL w (sumF w codes codes) ((w + 1) * (w + 1)), true) := by
  have hM : (w + 1) * (w + 1) ≤ 49 := Nat.mul_le_mul (show w + 1 ≤ 7 by omega) (show w + 1 ≤ 7 by omega)
  intro e
  induction e with
  | zero =>
    intro i hi
    refine Ev.step (fun k => by rw [spec_PossibleHints.l0]) ?_
    refine Ev.neg (by omega) ?_
    rw [List.take_of_length_le (by omega)]
    have := poss_l2 w hw ((w + 1) * (w + 1)) hM (sumF w codes codes) (d : Int) ((w + 1) * (w + 1)) 0 (by omega)
    exact this
  | succ e ih =>
    intro i hi
    have h1 : i < codes.length := by omega
    have hr : rdOf ByteArray.empty codes (i : Int) = codes[i] := by unfold rdOf; simp [h1]
    refine Ev.step (fun k => by rw [spec_PossibleHints.l0]) ?_
    refine Ev.pos (by omega) (Ev.pos (by omega) (Ev.pos (by omega) ?_))
    rw [hr]
    refine Ev.bind (hiParts_ev w hw1 hw codes[i] (hc _ (List.getElem_mem h1)) codes (by omega) hc) ?_
    have hmul : ∀ a : Nat, a ≤ 1000000 → (a : Int) * (codes.length : Int) ≤ 1000000000000 := by
      intro a ha
      have : a * codes.length ≤ 1000000 * 1000000 := Nat.mul_le_mul ha hn
      have := Int.ofNat_le.mpr this
      simpa using this
    have := poss_l1 w hw codes codes (codes.length : Int) (i : Int) ((w + 1) * (w + 1)) hM (sumF w codes (codes.take i)) (partsF w codes[i] codes) (fun q => by
        have := sumF_bd w codes q (codes.take i)
        have h2 := hmul (codes.take i).length (by rw [List.length_take]; omega)
        omega) (fun q => by
        unfold partsF
        have := List.length_filter_le (fun s => decide (ixW w codes[i] s = q)) codes
        omega) (d : Int) _ (by
        rw [w64n (by omega)]
        have := ih (i + 1) (by omega)
        rw [List.take_succ_eq_append_getElem h1, show sumF w codes (codes.take i ++ [codes[i]]) = (fun q => sumF w codes (codes.take i) q + partsF w codes[i] codes q) from funext (fun q => sumF_snoc w codes codes[i] q _)] at this
        exact this) ((w + 1) * (w + 1)) 0 (by omega)
    simp only [Nat.not_lt_zero, if_false] at this
    exact this
end Go.Proofs.Ythikcnbjfnkglaa.Pure
