/- Chapter 6: the table of a guess's hints: what the law comes to. -/
import Derived.Test.YthikcnbjfnkglabTx0
import Derived.Test.YthikcnbjfnkglabTx10
import Derived.Test.YthikcnbjfnkglabTx4
import Derived.Test.YthikcnbjfnkglabTx5
import Derived.Test.YthikcnbjfnkglabTx9
import Derived.Test.YthikcnbjfnkglabHintC
import Derived.Test.YthikcnbjfnkglabHintH
import Derived.Test.YthikcnbjfnkglabHintE
import Derived.Test.YthikcnbjfnkglabHintT
import Derived.Test.YthikcnbjfnkglabHintW
import Derived.Test.YthikcnbjfnkglabStatFnExactHintTable
namespace Go.Proofs.Ythikcnbjfnkglab.Pure
open Go.RowKit Go.Proofs.Ythikcnbjfnkglab.T Go.Proofs.YthikcnbjfnkglabW.PrintWords Go.Proofs.YthikcnbjfnkglabW.PrintLast Go.Proofs.YthikcnbjfnkglabW.PrintMore
set_option linter.unusedVariables false
theorem rdL_nat {xs : List (List Int)} {i : Nat} (h : i < xs.length) : rd_L5 xs (i : Int) = xs[i] := by
  unfold rd_L5
  simp [h]
theorem eqIntS_refl_l0 (xs : List Int) (hn : xs.length < 1099511627776) : ∀ (d i : Nat), i + d = xs.length →
    Ev (fun k => laws_eqIntS.l0 k xs xs (i : Int)) true := by
  intro d
  induction d with
  | zero =>
    intro i hi
    refine Ev.step (fun k => by rw [laws_eqIntS.l0]) ?_
    exact Ev.neg (by omega) (Ev.now _)
  | succ d ih =>
    intro i hi
    have h1 : i < xs.length := by omega
    refine Ev.step (fun k => by rw [laws_eqIntS.l0]) ?_
    refine Ev.pos (by omega) (Ev.pos (by omega) (Ev.pos (by omega) (Ev.pos rfl ?_)))
    rw [w64n (by omega)]
    exact ih (i + 1) (by omega)
theorem eqIntS_refl (xs : List Int) (hn : xs.length < 1099511627776) : Ev (fun k => laws_eqIntS.f k xs xs) true := by
  unfold laws_eqIntS.f
  exact Ev.pos rfl (eqIntS_refl_l0 xs hn xs.length 0 (by omega))
theorem eqIntSS_refl_l0 (xs : List (List Int)) (hn : xs.length < 1099511627776) (hx : ∀ x ∈ xs, x.length < 1099511627776) : ∀ (d i : Nat), i + d = xs.length →
    Ev (fun k => laws_eqIntSS.l0 k xs xs (i : Int)) true := by
  intro d
  induction d with
  | zero =>
    intro i hi
    refine Ev.step (fun k => by rw [laws_eqIntSS.l0]) ?_
    exact Ev.neg (by omega) (Ev.now _)
  | succ d ih =>
    intro i hi
    have h1 : i < xs.length := by omega
    refine Ev.step (fun k => by rw [laws_eqIntSS.l0]) ?_
    refine Ev.pos (by omega) (Ev.pos (by omega) (Ev.pos (by omega) ?_))
    rw [w64n (by omega), rdL_nat h1]
    refine Ev.bind (eqIntS_refl _ (hx _ (List.getElem_mem h1))) (Ev.pos rfl ?_)
    exact ih (i + 1) (by omega)
theorem eqIntSS_refl (xs : List (List Int)) (hn : xs.length < 1099511627776) (hx : ∀ x ∈ xs, x.length < 1099511627776) : Ev (fun k => laws_eqIntSS.f k xs xs) true := by
  unfold laws_eqIntSS.f
  exact Ev.pos rfl (eqIntSS_refl_l0 xs hn hx xs.length 0 (by omega))
/-! marks in rows of three numbers -/
theorem held3_ev (m : Int) (hm : 0 ≤ m ∧ m ≤ 10000) : Ev (fun k => laws_heldIntS.f k [m, m + 1, m + 2] m) (m + 3) := by
  unfold laws_heldIntS.f
  refine Ev.step (fun k => by rw [laws_heldIntS.l0]) ?_
  refine Ev.pos (by simp) (Ev.pos (by omega) (Ev.pos rfl ?_))
  rw [w64 (x := m + 1) (by omega) (by omega), show wrap64 (0 + 1) = 1 from (w64 (by omega) (by omega)).trans rfl]
  refine Ev.step (fun k => by rw [laws_heldIntS.l0]) ?_
  refine Ev.pos (by simp) (Ev.pos (by omega) (Ev.pos rfl ?_))
  rw [w64 (x := m + 1 + 1) (by omega) (by omega), show wrap64 (1 + 1) = 2 from (w64 (by omega) (by omega)).trans rfl]
  refine Ev.step (fun k => by rw [laws_heldIntS.l0]) ?_
  refine Ev.pos (by simp) (Ev.pos (by omega) (Ev.pos (by show m + 2 = m + 1 + 1; omega) ?_))
  rw [w64 (x := m + 1 + 1 + 1) (by omega) (by omega), show wrap64 (2 + 1) = 3 from (w64 (by omega) (by omega)).trans rfl]
  refine Ev.step (fun k => by rw [laws_heldIntS.l0]) ?_
  exact Ev.neg (by simp) (Ev.val (Ev.now _) (by omega))
theorem marks3_get (n i : Nat) (h : i < (marks3 n).length) : (marks3 n)[i] = [1 + 3 * (i : Int), 1 + 3 * (i : Int) + 1, 1 + 3 * (i : Int) + 2] := by simp [marks3]
theorem held33_l0 (n : Nat) (hn : n ≤ 1000) : ∀ (d i : Nat), i + d = n → Ev (fun k => laws_heldIntSS.l0 k (marks3 n) (1 + 3 * (i : Int)) (i : Int)) (1 + 3 * (n : Int)) := by
  intro d
  induction d with
  | zero =>
    intro i hi
    refine Ev.step (fun k => by rw [laws_heldIntSS.l0]) ?_
    refine Ev.neg (by rw [marks3_len]; omega) (Ev.val (Ev.now _) (by omega))
  | succ d ih =>
    intro i hi
    have h1 : i < (marks3 n).length := by rw [marks3_len]; omega
    refine Ev.step (fun k => by rw [laws_heldIntSS.l0]) ?_
    refine Ev.pos (by rw [marks3_len]; omega) (Ev.pos (by omega) ?_)
    rw [rdL_nat h1, marks3_get n i h1, w64n (by omega)]
    refine Ev.bind (held3_ev _ (by omega)) (Ev.neg (by omega) ?_)
    have := ih (i + 1) (by omega)
    rw [show 1 + 3 * ((i + 1 : Nat) : Int) = 1 + 3 * (i : Int) + 3 by omega] at this
    exact this
theorem held33_ev (n : Nat) (hn : n ≤ 1000) : Ev (fun k => laws_heldIntSS.f k (marks3 n) 1) (1 + 3 * (n : Int)) := by
  unfold laws_heldIntSS.f
  have := held33_l0 n hn n 0 (by omega)
  simpa using this
/-! the table of both sides -/
def rowW (w : Nat) (F : Nat → Int) (q : Nat) : List Int := [((q / (w + 1) : Nat) : Int), ((q % (w + 1) : Nat) : Int), F q]
def tabL (w : Nat) (F : Nat → Int) (n : Nat) : List (List Int) := ((List.range n).filter (fun q => decide (0 < F q))).map (rowW w F)
theorem tabL_succ (w : Nat) (F : Nat → Int) (n : Nat) : tabL w F (n + 1) = tabL w F n ++ if 0 < F n then [rowW w F n] else [] := by
  unfold tabL
  rw [List.range_succ, List.filter_append, List.map_append]
  by_cases h : 0 < F n
  · simp [h]
  · simp [h]
theorem tabL_len (w : Nat) (F : Nat → Int) (n : Nat) : (tabL w F n).length ≤ n := by
  unfold tabL
  rw [List.length_map]
  have := List.length_filter_le (fun q => decide (0 < F q)) (List.range n)
  rwa [List.length_range] at this
theorem specTab_l0 (w : Nat) (d : Int) (hw : w ≤ 6) (M : Nat) (hM : M ≤ 49) (F : Nat → Int) : ∀ (e i : Nat), i + e = M →
    Ev (fun K => spec_HintTable.l0 K (tabL w F i) ((List.range M).map F) (((List.range M).map F).length : Int) (i : Int) (w : Int) d) (tabL w F M, true) := by
  intro e
  induction e with
  | zero =>
    intro i hi
    refine Ev.step (fun k => by rw [spec_HintTable.l0]) ?_
    exact Ev.neg (by simp; omega) (Ev.val (Ev.now _) (by rw [show i = M by omega]))
  | succ e ih =>
    intro i hi
    have h1 : i < M := by omega
    have hn := ih (i + 1) (by omega)
    have hl := tabL_len w F i
    rw [tabL_succ] at hn
    refine Ev.step (fun k => by rw [spec_HintTable.l0]) ?_
    refine Ev.pos (by simp; omega) (Ev.pos (by omega) (Ev.pos (by simp; omega) ?_))
    have hr : rd ((List.range M).map F) (i : Int) = F i := by
      rw [rd_nat (by simpa using h1)]
      simp
    rw [hr, w64 (x := (w : Int) + 1) (by omega) (by omega), w64n (by omega)]
    by_cases hp : 0 < F i
    · rw [if_pos hp] at hn
      refine Ev.pos hp (Ev.neg (by omega) (Ev.pos (by omega) ?_))
      have h3 : Int.tdiv (i : Int) ((w : Int) + 1) = ((i / (w + 1) : Nat) : Int) := by
        rw [show (w : Int) + 1 = ((w + 1 : Nat) : Int) from rfl, Int.tdiv_eq_ediv_of_nonneg (Int.natCast_nonneg _)]
        exact (Int.natCast_ediv i (w + 1)).symm
      have h4 : Int.tmod (i : Int) ((w : Int) + 1) = ((i % (w + 1) : Nat) : Int) := by
        rw [show (w : Int) + 1 = ((w + 1 : Nat) : Int) from rfl, Int.tmod_eq_emod_of_nonneg (Int.natCast_nonneg _)]
        exact (Int.natCast_emod i (w + 1)).symm
      have h5 : i / (w + 1) ≤ i := Nat.div_le_self _ _
      rw [h3, h4, w64 (x := ((i / (w + 1) : Nat) : Int)) (Int.le_trans (by decide) (Int.natCast_nonneg _)) (Int.le_trans (Int.ofNat_le.mpr h5) (by omega))]
      exact hn
    · rw [if_neg hp, List.append_nil] at hn
      exact Ev.neg hp hn
def tableV (a b : Int) (l : List S47) (c : ByteArray) : List (List Int) × Bool := if (smallB a b 1000 = true ∧ hintsB a b l = true) ∧ codeB a b c = true then (tabV a.toNat c (fitC a.toNat b.toNat l), true) else ([], false)
theorem tabV_eq (w : Nat) (g : ByteArray) (codes : List ByteArray) : tabV w g codes = tabL w (partsF w g codes) ((w + 1) * (w + 1)) := rfl
theorem implTab_ev (a b : Int) (l : List S47) (c : ByteArray) (hl : l.length < 1000000000) (hx : ∀ x ∈ l, x.f0.size < 1099511627776) (hc : c.size < 1099511627776) : Ev (fun K => impl_HintTable.f K a b l c) (tableV a b l c) := by
  unfold impl_HintTable.f
  refine Ev.bind (implAreHints_ev a b l hl hx) ?_
  by_cases h : smallB a b 1000 = true ∧ hintsB a b l = true
  · refine Ev.pos (by rw [h.1, h.2]; rfl) (Ev.bind (has_ev a b [c] (by simp) (by simpa using hc)) ?_)
    have hk := small_lock h.1
    have ho := okH_of hk h.2
    by_cases h2 : codeB a b c = true
    · have hg : digsB c ∧ (c.size : Int) = a := ⟨digs_code hk h2, (codeB_iff.mp h2).1⟩
      obtain ⟨w, d, rfl, rfl, h3, h4, h5, h6⟩ := lock_nat hk
      rw [Int.toNat_natCast] at ho
      have hlen := small_len h.1
      have hf := fitC_len w d l
      refine Ev.pos (by simp [hk, h2]) (Ev.bind (fitting_ev w d h3 h4 ⟨h5, h6⟩ l ho) (Ev.bind (implTable_ev w c ⟨hg.1, by omega⟩ _ (by omega) (fitC_good w d h3 h4 ⟨h5, h6⟩ l)) (Ev.val (Ev.now _) ?_)))
      unfold tableV
      rw [if_pos ⟨h, h2⟩]
      simp only [Int.toNat_natCast]
    · refine Ev.neg (by simp [h2]) (Ev.val (Ev.now _) ?_)
      unfold tableV
      rw [if_neg (fun hc => h2 hc.2)]
  · refine Ev.neg (by rw [Bool.and_eq_true]; exact h) (Ev.val (Ev.now _) ?_)
    unfold tableV
    rw [if_neg (fun hc => h hc.1)]
theorem specTab_ev (a b : Int) (l : List S47) (c : ByteArray) (hx : ∀ x ∈ l, x.f0.size < 1099511627776) (hc : c.size < 1099511627776) : Ev (fun K => spec_HintTable.f K a b l c) (tableV a b l c) := by
  have no : ∀ x : Bool, x = true → Ev (fun K => spec_HintTable.j0 K l c x a b) ([], false) := by
    intro x hx
    refine Ev.step (fun k => by rw [spec_HintTable.j0]) ?_
    exact Ev.pos hx (Ev.now _)
  unfold spec_HintTable.f
  refine Ev.bind (hiAsked_ev a b l hx) ?_
  by_cases h : smallB a b 1000 = true ∧ hintsB a b l = true
  · have hk := small_lock h.1
    have ho := okH_of hk h.2
    refine Ev.pos (by rw [h.1, h.2]; rfl) (Ev.bind (whCode_ev a b (lockB_iff.mp hk).2 c hc) ?_)
    by_cases h2 : codeB a b c = true
    · have hg : digsB c ∧ (c.size : Int) = a := ⟨digs_code hk h2, (codeB_iff.mp h2).1⟩
      obtain ⟨w, d, rfl, rfl, h3, h4, h5, h6⟩ := lock_nat hk
      rw [Int.toNat_natCast] at ho
      have hlen := small_len h.1
      have hf := fitC_len w d l
      have hM : (w + 1) * (w + 1) ≤ 49 := Nat.mul_le_mul (show w + 1 ≤ 7 by omega) (show w + 1 ≤ 7 by omega)
      refine Ev.step (fun k => by rw [spec_HintTable.j0]) ?_
      refine Ev.neg (by simp [h2]) (specFit_ev w d h3 h4 ⟨h5, h6⟩ l ho (fun K u => (spec_hiParts.f K (w : Int) c u).bind fun t => spec_HintTable.l0 K [] t (t.length : Int) 0 w d) _ (Ev.bind (hiParts_ev w h3 h4 c ⟨hg.1, by omega⟩ _ (by omega) (fitC_good w d h3 h4 ⟨h5, h6⟩ l)) (Ev.val (specTab_l0 w d h4 ((w + 1) * (w + 1)) hM (partsF w c (fitC w d l)) ((w + 1) * (w + 1)) 0 (by omega)) ?_)))
      unfold tableV
      rw [if_pos ⟨h, h2⟩]
      simp only [Int.toNat_natCast]
      rfl
    · refine Ev.val (no _ (by simp [h2])) ?_
      unfold tableV
      rw [if_neg (fun hc => h2 hc.2)]
  · refine Ev.neg (by rw [Bool.and_eq_true]; exact h) (Ev.val (no _ rfl) ?_)
    unfold tableV
    rw [if_neg (fun hc => h hc.1)]
theorem tableV_rows (a b : Int) (l : List S47) (c : ByteArray) : (tableV a b l c).1.length ≤ 49 ∧ ∀ x ∈ (tableV a b l c).1, x.length = 3 := by
  unfold tableV
  split
  · rename_i h
    obtain ⟨w, d, rfl, rfl, h3, h4, h5, h6⟩ := lock_nat (small_lock h.1.1)
    have hM : (w + 1) * (w + 1) ≤ 49 := Nat.mul_le_mul (show w + 1 ≤ 7 by omega) (show w + 1 ≤ 7 by omega)
    simp only [Int.toNat_natCast]
    refine ⟨?_, fun x hx => ?_⟩
    · rw [tabV_eq]
      have := tabL_len w (partsF w c (fitC w d l)) ((w + 1) * (w + 1))
      omega
    · unfold tabV at hx
      obtain ⟨q, _, rfl⟩ := List.mem_map.mp hx
      rfl
  · exact ⟨by simp, fun x hx => absurd hx (by simp)⟩
theorem FnExactHintTable : laws_FnExactHintTable.Pure := by
  intro a b l c _ _ hl hcm
  apply Ev.rounds
  unfold laws_FnExactHintTable.f
  by_cases hc1 : (c.size : Int) > 1048576
  · exact Ev.pos hc1 (Ev.now _)
  refine Ev.neg hc1 ?_
  obtain ⟨r, hr, hc⟩ := szHintS_ev l hl.1 (fun x hx => (hl.2 x hx).1)
  refine Ev.bind hr ?_
  by_cases h0 : r < 0
  · exact Ev.pos h0 (Ev.now _)
  refine Ev.neg h0 ?_
  obtain ⟨hn, hs⟩ := hc.resolve_left h0
  have hm : ∀ x ∈ l.map toH, x.f0.size < 1099511627776 := by
    intro x hx
    obtain ⟨y, hy, rfl⟩ := List.mem_map.mp hx
    have := hs y hy
    show y.f0.size < _
    omega
  have ht := toHintS_ev l (by omega)
  have hi := implTab_ev a b (l.map toH) c (by simp; omega) hm (by omega)
  have hsp := specTab_ev a b (l.map toH) c hm (by omega)
  obtain ⟨hlen, hrow⟩ := tableV_rows a b (l.map toH) c
  generalize tableV a b (l.map toH) c = v at hi hsp hlen hrow
  obtain ⟨rows, b1⟩ := v
  simp only at hlen hrow
  obtain ⟨ys, hmk⟩ := markHintS_ev (l.map toH) (by simp; omega)
  refine Ev.bind ht (Ev.bind hsp (Ev.bind hi (Ev.pos ⟨rfl, by show rows.length ≤ 1000; omega⟩ ?_)))
  refine Ev.bind (eqIntSS_refl rows (by omega) (fun x hx => by rw [hrow x hx]; omega)) (Ev.pos rfl ?_)
  refine Ev.bind (eqHintS_ev _ (by simp; omega)) (Ev.pos rfl (Ev.bind hmk (Ev.pos (by simp only []; omega) ?_)))
  exact Ev.bind (held33_ev rows.length (by omega)) (Ev.pos rfl (Ev.now _))
end Go.Proofs.Ythikcnbjfnkglab.Pure
