import Derived.Test.YtcpnmiempaofdaaGreatVHintTable
import Derived.Test.YtcpnmiempaofdaaGreatVBestGuess
import Derived.Test.YtcpnmiempaofdaaGreatHintIx
import Derived.Test.YtcpnmiempaofdaaGreatHintY
namespace Go.Proofs.YtcpnmiempaofdaaGreat.Pure
open Go.RowKit Go.Proofs.YtcpnmiempaofdaaGreat.G Go.Proofs.YtcpnmiempaofdaaGreatW.PrintWords Go.Proofs.YtcpnmiempaofdaaGreatW.PrintLast Go.Proofs.YtcpnmiempaofdaaGreatW.PrintMore
set_option linter.unusedVariables false
def sumL : List Int → Int
 | [] => 0
 | x :: xs => x + sumL xs
theorem sumL_app : ∀ a b : List Int, sumL (a ++ b) = sumL a + sumL b
 | [], b => by simp [sumL]
 | x :: a, b => by rw [List.cons_append, sumL, sumL_app a b, sumL]; omega
theorem sumL_filter (F : Nat → Int) (h0 : ∀ q, 0 ≤ F q) : ∀ l : List Nat, sumL ((l.filter (fun q => decide (0 < F q))).map F) = sumL (l.map F)
 | [] => rfl
 | x :: l => by
  have h := h0 x
  by_cases hx : 0 < F x
  ·rw [List.filter_cons_of_pos (by simpa using hx), List.map_cons, List.map_cons, sumL, sumL, sumL_filter F h0 l]
  ·rw [List.filter_cons_of_neg (by simpa using hx), List.map_cons, sumL, sumL_filter F h0 l]
   omega
theorem sumL_one (M k : Nat) (hk : k < M) : sumL ((List.range M).map (fun q => if k = q then (1 : Int) else 0)) = 1 := by
 have : ∀ n : Nat, sumL ((List.range n).map (fun q => if k = q then (1 : Int) else 0)) = if k < n then 1 else 0 := by
  intro n
  induction n with
  | zero => rfl
  | succ n ih =>
   rw [List.range_succ, List.map_append, sumL_app, ih]
   simp only [List.map_cons, List.map_nil, sumL]
   split <;> split <;> split <;> omega
 rw [this M, if_pos hk]
theorem sumL_add (F G : Nat → Int) : ∀ l : List Nat, sumL (l.map (fun q => F q + G q)) = sumL (l.map F) + sumL (l.map G)
 | [] => rfl
 | x :: l => by simp only [List.map_cons, sumL, sumL_add F G l]; omega
theorem sumL_zero : ∀ l : List Nat, sumL (l.map (fun _ => (0 : Int))) = 0
 | [] => rfl
 | x :: l => by simp only [List.map_cons, sumL, sumL_zero l]; omega
theorem parts_cons (w : Nat) (g s : ByteArray) (l : List ByteArray) (q : Nat) : partsF w g (s :: l) q = (if ixW w g s = q then 1 else 0) + partsF w g l q := by
 unfold partsF
 by_cases h : ixW w g s = q
 ·rw [List.filter_cons_of_pos (by simpa using h), if_pos h, List.length_cons]; omega
 ·rw [List.filter_cons_of_neg (by simpa using h), if_neg h]; omega
theorem ixW_lt (w : Nat) (hw : w ≤ 6) (g s : ByteArray) (hg : digsB g ∧ g.size = w) : ixW w g s < (w + 1) * (w + 1) := by
 have hb := hint_bd g s hg.1
 rw [hg.2] at hb
 have hix := ix_small (w + 1) hb.1 hb.2.1 (by omega) (by omega)
 unfold ixW
 have : ((w + 1 : Nat) : Int) = (w : Int) + 1 := rfl
 rw [this] at hix
 omega
theorem parts_sum (w : Nat) (hw : w ≤ 6) (g : ByteArray) (hg : digsB g ∧ g.size = w) : ∀ codes : List ByteArray, sumL ((List.range ((w + 1) * (w + 1))).map (partsF w g codes)) = (codes.length : Int)
 | [] => sumL_zero _
 | s :: l => by
  have e : partsF w g (s :: l) = fun q => (if ixW w g s = q then (1 : Int) else 0) + partsF w g l q := by funext q; exact parts_cons w g s l q
  rw [e, sumL_add, sumL_one _ _ (ixW_lt w hw g s hg), parts_sum w hw g hg l, List.length_cons]
  omega
theorem parts_nonneg (w : Nat) (g : ByteArray) (codes : List ByteArray) (q : Nat) : 0 ≤ partsF w g codes q := by unfold partsF; omega
def tabQ (w : Nat) (g : ByteArray) (codes : List ByteArray) : List Nat := (List.range ((w + 1) * (w + 1))).filter (fun q => decide (0 < partsF w g codes q))
theorem tabV_Q (w : Nat) (g : ByteArray) (codes : List ByteArray) : tabV w g codes = (tabQ w g codes).map (rowW w (partsF w g codes)) := rfl
theorem tabQ_rise (w : Nat) (g : ByteArray) (codes : List ByteArray) : (tabQ w g codes).Pairwise (· < ·) := by
 unfold tabQ
 exact List.Pairwise.filter _ List.pairwise_lt_range
theorem tabQ_mem {w : Nat} {g : ByteArray} {codes : List ByteArray} {q : Nat} (h : q ∈ tabQ w g codes) : q < (w + 1) * (w + 1) ∧ 0 < partsF w g codes q := by
 unfold tabQ at h
 rw [List.mem_filter, List.mem_range] at h
 exact ⟨h.1, of_decide_eq_true h.2⟩
theorem tabQ_sum (w : Nat) (hw : w ≤ 6) (g : ByteArray) (hg : digsB g ∧ g.size = w) (codes : List ByteArray) : sumL ((tabQ w g codes).map (partsF w g codes)) = (codes.length : Int) := by
 unfold tabQ
 rw [sumL_filter _ (parts_nonneg w g codes), parts_sum w hw g hg codes]
theorem tabQ_most (w : Nat) (g : ByteArray) (codes : List ByteArray) : ((tabQ w g codes).map (partsF w g codes)).foldl max 0 = worstV w g codes := by
 unfold tabQ
 rw [foldl_max_filter _ (parts_nonneg w g codes) _ _ (by omega)]
 rfl
theorem row_order (w q q' : Nat) (h : q < q') : ((q / (w + 1) : Nat) : Int) < ((q' / (w + 1) : Nat) : Int) ∨ ((q / (w + 1) : Nat) : Int) = ((q' / (w + 1) : Nat) : Int) ∧ ((q % (w + 1) : Nat) : Int) < ((q' % (w + 1) : Nat) : Int) := by
 have h1 : q / (w + 1) ≤ q' / (w + 1) := Nat.div_le_div_right (by omega)
 have ha := Nat.div_add_mod q (w + 1)
 have hb := Nat.div_add_mod q' (w + 1)
 by_cases e : q / (w + 1) = q' / (w + 1)
 ·right
  rw [e] at ha
  exact ⟨by rw [e], by omega⟩
 ·left
  omega
theorem fitsB_snoc (l : List S35) (h : S35) (c : ByteArray) : fitsB (l ++ [h]) c = (fitsB l c && fitB c h) := by
 simp [fitsB]
theorem fitC_snoc (w d : Nat) (hw : w ≤ 6) (l : List S35) (g : ByteArray) (hg : digsB g ∧ g.size = w) (q : Nat) :
  ((fitC w d (l ++ [⟨g, ((q / (w + 1) : Nat) : Int), ((q % (w + 1) : Nat) : Int)⟩])).length : Int) = partsF w g (fitC w d l) q := by
 unfold partsF fitC
 rw [List.filter_filter]
 congr 2
 apply List.filter_congr
 intro s _
 rw [fitsB_snoc, Bool.and_comm]
 congr 1
 unfold fitB
 exact decide_eq_decide.mpr (ixW_iff w hw g s hg q).symm
theorem told_of (w d : Nat) (hw : w ≤ 6) (codes : List ByteArray) (g : ByteArray) (hg : digsB g ∧ g.size = w) (q : Nat) (h : 0 < partsF w g codes q) :
  toldB (w : Int) ((q / (w + 1) : Nat) : Int) ((q % (w + 1) : Nat) : Int) = true := by
 unfold partsF at h
 obtain ⟨s, hs⟩ := List.exists_mem_of_length_pos (show 0 < (codes.filter (fun s => decide (ixW w g s = q))).length by omega)
 have h1 := (ixW_iff w hw g s hg q).mp (of_decide_eq_true (List.mem_filter.mp hs).2)
 have hb := hint_bd g s hg.1
 rw [hg.2] at hb
 unfold toldB
 exact decide_eq_true (by omega)
theorem filter_len_le {α : Type} (p r : α → Bool) (h : ∀ x, p x = true → r x = true) : ∀ l : List α, (l.filter p).length ≤ (l.filter r).length := by
 intro l
 rw [← List.countP_eq_length_filter, ← List.countP_eq_length_filter]
 exact List.countP_mono_left (fun x _ => h x)
theorem fitC_erase_le (w d : Nat) (l : List S35) (k : Nat) : (fitC w d l).length ≤ (fitC w d (l.eraseIdx k)).length := by
 unfold fitC
 refine filter_len_le _ _ (fun x hx => ?_) _
 unfold fitsB at hx ⊢
 rw [List.all_eq_true] at hx ⊢
 exact fun y hy => hx y (List.mem_of_mem_eraseIdx hy)
theorem hintsB_erase {a b : Int} {l : List S35} (h : hintsB a b l = true) (k : Nat) : hintsB a b (l.eraseIdx k) = true := by
 unfold hintsB at h ⊢
 rw [Bool.and_eq_true, decide_eq_true_iff, List.all_eq_true] at h ⊢
 exact ⟨Nat.le_trans (List.length_eraseIdx_le l k) h.1, fun x hx => h.2 x (List.mem_of_mem_eraseIdx hx)⟩
theorem hintsB_snoc {a b : Int} {l : List S35} (h : hintsB a b l = true) (hl : l.length < 10) {g : ByteArray} {p o : Int} (hg : codeB a b g = true) (ht : toldB a p o = true) : hintsB a b (l ++ [⟨g, p, o⟩]) = true := by
 unfold hintsB at h ⊢
 rw [Bool.and_eq_true, decide_eq_true_iff, List.all_eq_true] at h ⊢
 refine ⟨by simp; omega, fun x hx => ?_⟩
 rcases List.mem_append.mp hx with hx | hx
 ·exact h.2 x hx
 ·rw [List.mem_singleton] at hx
  subst hx
  unfold hintB
  rw [hg, ht]
  rfl
theorem bestL_le (w d : Nat) (codes : List ByteArray) : ∀ n i, i < n → (bestL w d codes n).2 ≤ worstV w (codeT w d i) codes
 | 0, i, h => by omega
 | n + 1, i, h => by
  rw [bestL]
  by_cases e : i = n
  ·subst e
   split <;> (first | omega | (simp only []; omega))
  ·have := bestL_le w d codes n i (by omega)
   split <;> (first | omega | (simp only []; omega))
theorem bestL_is (w d : Nat) (codes : List ByteArray) (h : codes.length ≤ d ^ w) : ∀ n, ∃ i, i ≤ n ∧ (bestL w d codes (n + 1)).1 = codeT w d i ∧ (bestL w d codes (n + 1)).2 = worstV w (codeT w d i) codes
 | 0 => ⟨0, by omega, by rw [bestL_one w d codes h], by rw [bestL_one w d codes h]⟩
 | n + 1 => by
  rw [bestL]
  split
  ·exact ⟨n + 1, by omega, rfl, rfl⟩
  ·obtain ⟨i, hi, h1, h2⟩ := bestL_is w d codes h n
   exact ⟨i, by omega, h1, h2⟩
end Go.Proofs.YtcpnmiempaofdaaGreat.Pure
