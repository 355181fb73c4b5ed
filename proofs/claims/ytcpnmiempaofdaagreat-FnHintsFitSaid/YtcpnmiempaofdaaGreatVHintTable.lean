import Derived.Test.YtcpnmiempaofdaaGreatGx12
import Derived.Test.YtcpnmiempaofdaaGreatHintC
import Derived.Test.YtcpnmiempaofdaaGreatHintW
namespace Go.Proofs.YtcpnmiempaofdaaGreat.Pure
open Go.RowKit Go.Proofs.YtcpnmiempaofdaaGreat.G Go.Proofs.YtcpnmiempaofdaaGreatW.PrintWords Go.Proofs.YtcpnmiempaofdaaGreatW.PrintLast Go.Proofs.YtcpnmiempaofdaaGreatW.PrintMore
set_option linter.unusedVariables false
def rowW (w : Nat) (F : Nat → Int) (q : Nat) : List Int := [((q / (w + 1) : Nat) : Int), ((q % (w + 1) : Nat) : Int), F q]
def tabL (w : Nat) (F : Nat → Int) (n : Nat) : List (List Int) := ((List.range n).filter (fun q => decide (0 < F q))).map (rowW w F)
theorem tabL_succ (w : Nat) (F : Nat → Int) (n : Nat) : tabL w F (n + 1) = tabL w F n ++ if 0 < F n then [rowW w F n] else [] := by
 unfold tabL
 rw [List.range_succ, List.filter_append, List.map_append]
 by_cases h : 0 < F n
 ·simp [h]
 ·simp [h]
theorem tabL_len (w : Nat) (F : Nat → Int) (n : Nat) : (tabL w F n).length ≤ n := by
 unfold tabL
 rw [List.length_map]
 have := List.length_filter_le (fun q => decide (0 < F q)) (List.range n)
 rwa [List.length_range] at this
theorem specTab_l0 (w : Nat) (d : Int) (hw : w ≤ 6) (M : Nat) (hM : M ≤ 49) (F : Nat → Int) : ∀ (e i : Nat), i + e = M →
  Ev (fun K => spec_HintTable.l0 K (tabL w F i) ((List.range M).map F) (((List.range M).map F).length : Int) (i : Int) (w : Int) d) (tabL w F M, true) := by
 intro e
 induction e with
 | zero =>
  intro i hi
  refine Ev.step (fun k => by rw [spec_HintTable.l0]) ?_
  exact Ev.neg (by simp; omega) (Ev.val (Ev.now _) (by rw [show i = M by omega]))
 | succ e ih =>
  intro i hi
  have h1 : i < M := by omega
  have hn := ih (i + 1) (by omega)
  have hl := tabL_len w F i
  rw [tabL_succ] at hn
  refine Ev.step (fun k => by rw [spec_HintTable.l0]) ?_
  refine Ev.pos (by simp; omega) (Ev.pos (by omega) (Ev.pos (by simp; omega) ?_))
  have hr : rd ((List.range M).map F) (i : Int) = F i := by
   rw [rd_nat (by simpa using h1)]
   simp
  rw [hr, w64 (x := (w : Int) + 1) (by omega) (by omega), w64n (by omega)]
  by_cases hp : 0 < F i
  ·rw [if_pos hp] at hn
   refine Ev.pos hp (Ev.neg (by omega) (Ev.pos (by omega) ?_))
   have h3 : Int.tdiv (i : Int) ((w : Int) + 1) = ((i / (w + 1) : Nat) : Int) := by
    rw [show (w : Int) + 1 = ((w + 1 : Nat) : Int) from rfl, Int.tdiv_eq_ediv_of_nonneg (Int.natCast_nonneg _)]
    exact (Int.natCast_ediv i (w + 1)).symm
   have h4 : Int.tmod (i : Int) ((w : Int) + 1) = ((i % (w + 1) : Nat) : Int) := by
    rw [show (w : Int) + 1 = ((w + 1 : Nat) : Int) from rfl, Int.tmod_eq_emod_of_nonneg (Int.natCast_nonneg _)]
    exact (Int.natCast_emod i (w + 1)).symm
   have h5 : i / (w + 1) ≤ i := Nat.div_le_self _ _
   rw [h3, h4, w64 (x := ((i / (w + 1) : Nat) : Int)) (Int.le_trans (by decide) (Int.natCast_nonneg _)) (Int.le_trans (Int.ofNat_le.mpr h5) (by omega))]
   exact hn
  ·rw [if_neg hp, List.append_nil] at hn
   exact Ev.neg hp hn
def tableV (a b : Int) (l : List S35) (c : ByteArray) : List (List Int) × Bool := if (smallB a b 1000 = true ∧ hintsB a b l = true) ∧ codeB a b c = true then (tabV a.toNat c (fitC a.toNat b.toNat l), true) else ([], false)
theorem tabV_eq (w : Nat) (g : ByteArray) (codes : List ByteArray) : tabV w g codes = tabL w (partsF w g codes) ((w + 1) * (w + 1)) := rfl
theorem implTab_ev (a b : Int) (l : List S35) (c : ByteArray) (hl : l.length < 1000000000) (hx : ∀ x ∈ l, x.f0.size < 9223372036854775808) (hc : c.size < 9223372036854775808) : Ev (fun K => impl_HintTable.f K a b l c) (tableV a b l c) := by
 unfold impl_HintTable.f
 refine Ev.bind (implAreHints_ev a b l hl hx) ?_
 by_cases h : smallB a b 1000 = true ∧ hintsB a b l = true
 ·refine Ev.pos (by rw [h.1, h.2]; rfl) (Ev.bind (has_ev a b [c] (by simp) (by simpa using hc)) ?_)
  have hk := small_lock h.1
  have ho := okH_of hk h.2
  by_cases h2 : codeB a b c = true
  ·have hg : digsB c ∧ (c.size : Int) = a := ⟨digs_code hk h2, (codeB_iff.mp h2).1⟩
   obtain ⟨w, d, rfl, rfl, h3, h4, h5, h6⟩ := lock_nat hk
   rw [Int.toNat_natCast] at ho
   have hlen := small_len h.1
   have hf := fitC_len w d l
   refine Ev.pos (by simp [hk, h2]) (Ev.bind (fitting_ev w d h3 h4 ⟨h5, h6⟩ l ho) (Ev.bind (implTable_ev w c ⟨hg.1, by omega⟩ _ (by omega) (fitC_good w d h3 h4 ⟨h5, h6⟩ l)) (Ev.val (Ev.now _) ?_)))
   unfold tableV
   rw [if_pos ⟨h, h2⟩]
   simp only [Int.toNat_natCast]
  ·refine Ev.neg (by simp [h2]) (Ev.val (Ev.now _) ?_)
   unfold tableV
   rw [if_neg (fun hc => h2 hc.2)]
 ·refine Ev.neg (by rw [Bool.and_eq_true]; exact h) (Ev.val (Ev.now _) ?_)
  unfold tableV
  rw [if_neg (fun hc => h hc.1)]
theorem specTab_ev (a b : Int) (l : List S35) (c : ByteArray) (hx : ∀ x ∈ l, x.f0.size < 9223372036854775808) (hc : c.size < 9223372036854775808) : Ev (fun K => spec_HintTable.f K a b l c) (tableV a b l c) := by
 have no : ∀ x : Bool, x = true → Ev (fun K => spec_HintTable.j0 K l c x a b) ([], false) := by
  intro x hx
  refine Ev.step (fun k => by rw [spec_HintTable.j0]) ?_
  exact Ev.pos hx (Ev.now _)
 unfold spec_HintTable.f
 refine Ev.bind (hiAsked_ev a b l hx) ?_
 by_cases h : smallB a b 1000 = true ∧ hintsB a b l = true
 ·have hk := small_lock h.1
  have ho := okH_of hk h.2
  refine Ev.pos (by rw [h.1, h.2]; rfl) (Ev.bind (whCode_ev a b (lockB_iff.mp hk).2 c hc) ?_)
  by_cases h2 : codeB a b c = true
  ·have hg : digsB c ∧ (c.size : Int) = a := ⟨digs_code hk h2, (codeB_iff.mp h2).1⟩
   obtain ⟨w, d, rfl, rfl, h3, h4, h5, h6⟩ := lock_nat hk
   rw [Int.toNat_natCast] at ho
   have hlen := small_len h.1
   have hf := fitC_len w d l
   have hM : (w + 1) * (w + 1) ≤ 49 := Nat.mul_le_mul (show w + 1 ≤ 7 by omega) (show w + 1 ≤ 7 by omega)
   refine Ev.step (fun k => by rw [spec_HintTable.j0]) ?_
   refine Ev.neg (by simp [h2]) (specFit_ev w d h3 h4 ⟨h5, h6⟩ l ho (fun K u => (spec_hiParts.f K (w : Int) c u).bind fun t => spec_HintTable.l0 K [] t (t.length : Int) 0 w d) _ (Ev.bind (hiParts_ev w h3 h4 c ⟨hg.1, by omega⟩ _ (by omega) (fitC_good w d h3 h4 ⟨h5, h6⟩ l)) (Ev.val (specTab_l0 w d h4 ((w + 1) * (w + 1)) hM (partsF w c (fitC w d l)) ((w + 1) * (w + 1)) 0 (by omega)) ?_)))
   unfold tableV
   rw [if_pos ⟨h, h2⟩]
   simp only [Int.toNat_natCast]
   rfl
  ·refine Ev.val (no _ (by simp [h2])) ?_
   unfold tableV
   rw [if_neg (fun hc => h2 hc.2)]
 ·refine Ev.neg (by rw [Bool.and_eq_true]; exact h) (Ev.val (no _ rfl) ?_)
  unfold tableV
  rw [if_neg (fun hc => h hc.1)]
theorem tableV_rows (a b : Int) (l : List S35) (c : ByteArray) : (tableV a b l c).1.length ≤ 49 ∧ ∀ x ∈ (tableV a b l c).1, x.length = 3 := by
 unfold tableV
 split
 ·rename_i h
  obtain ⟨w, d, rfl, rfl, h3, h4, h5, h6⟩ := lock_nat (small_lock h.1.1)
  have hM : (w + 1) * (w + 1) ≤ 49 := Nat.mul_le_mul (show w + 1 ≤ 7 by omega) (show w + 1 ≤ 7 by omega)
  simp only [Int.toNat_natCast]
  refine ⟨?_, fun x hx => ?_⟩
  ·rw [tabV_eq]
   have := tabL_len w (partsF w c (fitC w d l)) ((w + 1) * (w + 1))
   omega
  ·unfold tabV at hx
   obtain ⟨q, _, rfl⟩ := List.mem_map.mp hx
   rfl
 ·exact ⟨by simp, fun x hx => absurd hx (by simp)⟩
end Go.Proofs.YtcpnmiempaofdaaGreat.Pure
