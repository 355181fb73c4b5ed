import Derived.Test.YtcpnmiempaofdaaGreatGx14
import Derived.Test.YtcpnmiempaofdaaGreatHintC
import Derived.Test.YtcpnmiempaofdaaGreatHintX
namespace Go.Proofs.YtcpnmiempaofdaaGreat.Pure
open Go.RowKit Go.Proofs.YtcpnmiempaofdaaGreat.G Go.Proofs.YtcpnmiempaofdaaGreatW.PrintWords Go.Proofs.YtcpnmiempaofdaaGreatW.PrintLast Go.Proofs.YtcpnmiempaofdaaGreatW.PrintMore
set_option linter.unusedVariables false
def bestL (w d : Nat) (codes : List ByteArray) : Nat → ByteArray × Int
 | 0 => (⟨#[]⟩, ((d ^ w : Nat) : Int) + 1)
 | i + 1 => if worstV w (codeT w d i) codes < (bestL w d codes i).2 then (codeT w d i, worstV w (codeT w d i) codes) else bestL w d codes i
theorem fold_le (m : Int) : ∀ (l : List Int) (s : Int), s ≤ m → (∀ x ∈ l, x ≤ m) → l.foldl max s ≤ m
 | [], s, h, _ => h
 | x :: l, s, h, hl => fold_le m l _ (by have := hl x (by simp); omega) (fun y hy => hl y (by simp [hy]))
theorem worstV_le (w : Nat) (g : ByteArray) (codes : List ByteArray) : worstV w g codes ≤ (codes.length : Int) := by
 unfold worstV
 refine fold_le _ _ _ (by omega) (fun x hx => ?_)
 obtain ⟨q, _, rfl⟩ := List.mem_map.mp hx
 unfold partsF
 have := List.length_filter_le (fun s => decide (ixW w g s = q)) codes
 omega
theorem bestL_one (w d : Nat) (codes : List ByteArray) (h : codes.length ≤ d ^ w) : bestL w d codes 1 = (codeT w d 0, worstV w (codeT w d 0) codes) := by
 have := worstV_le w (codeT w d 0) codes
 rw [bestL, if_pos (by show _ < ((d ^ w : Nat) : Int) + 1; omega)]
theorem bestL_code (w d : Nat) (codes : List ByteArray) (h : codes.length ≤ d ^ w) : ∀ i, ∃ n, (bestL w d codes (i + 1)).1 = codeT w d n
 | 0 => ⟨0, by rw [bestL_one w d codes h]⟩
 | i + 1 => by
  rw [bestL]
  split
  ·exact ⟨i + 1, rfl⟩
  ·exact bestL_code w d codes h i
theorem toList_ne (s : ByteArray) (h : 0 < s.size) : ¬ s.toList = ([] : List UInt8) := by
 intro e
 have h1 : s.toList = s.data.toList := ByteArray.toList_eq s
 have h2 : s.data.toList.length = s.size := by simp
 rw [← h1, e] at h2
 simp at h2
 omega
def bestV (a b : Int) (l : List S35) : ByteArray × Int × Bool := if (smallB a b 256 = true ∧ hintsB a b l = true) ∧ (fitC a.toNat b.toNat l).length ≠ 0 then
  ((bestL a.toNat b.toNat (fitC a.toNat b.toNat l) (b.toNat ^ a.toNat)).1, (bestL a.toNat b.toNat (fitC a.toNat b.toNat l) (b.toNat ^ a.toNat)).2, true) else (⟨#[]⟩, 0, false)
theorem small_up {a b : Int} (h : smallB a b 256 = true) : smallB a b 1000 = true := by
 unfold smallB at *
 rw [Bool.and_eq_true] at *
 exact ⟨h.1, decide_eq_true (by have := of_decide_eq_true h.2; omega)⟩
theorem implBest_ev (a b : Int) (l : List S35) (hl : l.length < 1000000000) (hx : ∀ x ∈ l, x.f0.size < 9223372036854775808) : Ev (fun K => impl_BestGuess.f K a b l) (bestV a b l) := by
 have no : ∀ x : Bool, x = true → Ev (fun K => impl_BestGuess.j0 K l x a b) (⟨#[]⟩, 0, false) := by
  intro x hx
  refine Ev.step (fun k => by rw [impl_BestGuess.j0]) ?_
  exact Ev.pos hx (Ev.now _)
 unfold impl_BestGuess.f
 refine Ev.bind (isSmall_ev a b 256) ?_
 by_cases h : smallB a b 256 = true
 ·have hk := small_lock h
  refine Ev.pos h (Ev.bind (implAreHints_ev a b l hl hx) ?_)
  rw [small_up h, Bool.true_and]
  by_cases h2 : hintsB a b l = true
  ·have ho := okH_of hk h2
   obtain ⟨w, d, rfl, rfl, h3, h4, h5, h6⟩ := lock_nat hk
   rw [Int.toNat_natCast] at ho
   have hlen := small_len h
   have hf := fitC_len w d l
   have hgood := fitC_good w d h3 h4 ⟨h5, h6⟩ l
   refine Ev.step (fun k => by rw [impl_BestGuess.j0]) ?_
   refine Ev.neg (by simp [h2]) (Ev.bind (fitting_ev w d h3 h4 ⟨h5, h6⟩ l ho) ?_)
   by_cases h0 : (fitC w d l).length = 0
   ·refine Ev.pos (by omega) (Ev.val (Ev.now _) ?_)
    unfold bestV
    simp only [Int.toNat_natCast]
    rw [if_neg (fun hc => hc.2 h0)]
   ·have e : bestV w d l = ((bestL w d (fitC w d l) (d ^ w)).1, (bestL w d (fitC w d l) (d ^ w)).2, true) := by
     unfold bestV
     simp only [Int.toNat_natCast]
     rw [if_pos ⟨⟨h, h2⟩, h0⟩]
    rw [e]
    clear e
    refine Ev.neg (by omega) (Ev.bind (count_ev w d h4 h5 h6) (Ev.bind (count_ev w d h4 h5 h6) ?_))
    generalize fitC w d l = codes at hf hgood
    rw [w64 (by omega) (by omega)]
    have key : ∀ (j i : Nat), i + j = d ^ w → Ev (fun K => impl_BestGuess.l0 K codes (bestL w d codes i).1 (bestL w d codes i).2 ((d ^ w : Nat) : Int) i w d) ((bestL w d codes (d ^ w)).1, (bestL w d codes (d ^ w)).2, true) := by
     intro j
     induction j with
     | zero =>
      intro i hi
      refine Ev.step (fun k => by rw [impl_BestGuess.l0]) ?_
      exact Ev.neg (by omega) (Ev.val (Ev.now _) (by rw [show i = d ^ w by omega]))
     | succ j ih =>
      intro i hi
      have hn := ih (i + 1) (by omega)
      rw [bestL] at hn
      refine Ev.step (fun k => by rw [impl_BestGuess.l0]) ?_
      refine Ev.pos (by omega) (Ev.bind (implCode_ev w d i h3 h4 ⟨h5, h6⟩ (by omega)) (Ev.bind (implWorst_ev w (codeT w d i) ⟨codeT_digs w d i h4 ⟨h5, h6⟩ h3, codeT_size w d i⟩ codes (by omega) hgood) ?_))
      rw [w64n (by omega)]
      by_cases hc : worstV w (codeT w d i) codes < (bestL w d codes i).2
      ·rw [if_pos hc] at hn
       exact Ev.pos hc hn
      ·rw [if_neg hc] at hn
       exact Ev.neg hc hn
    exact key (d ^ w) 0 (by omega)
  ·refine Ev.val (no _ (by simp [h2])) ?_
   unfold bestV
   rw [if_neg (fun hc => h2 hc.1.2)]
 ·refine Ev.neg h (Ev.val (no _ rfl) ?_)
  unfold bestV
  rw [if_neg (fun hc => h hc.1.1)]
theorem specBest_ev (a b : Int) (l : List S35) (hx : ∀ x ∈ l, x.f0.size < 9223372036854775808) : Ev (fun K => spec_BestGuess.f K a b l) (bestV a b l) := by
 have no : ∀ x : Bool, x = true → Ev (fun K => spec_BestGuess.j0 K l x a b) (⟨#[]⟩, 0, false) := by
  intro x hx
  refine Ev.step (fun k => by rw [spec_BestGuess.j0]) ?_
  exact Ev.pos hx (Ev.now _)
 unfold spec_BestGuess.f
 refine Ev.bind (hiLock_ev a b 256) ?_
 by_cases h : smallB a b 256 = true
 ·have hk := small_lock h
  refine Ev.pos h (Ev.bind (hiGood_ev a b hk l hx) ?_)
  by_cases h2 : hintsB a b l = true
  ·have ho := okH_of hk h2
   obtain ⟨w, d, rfl, rfl, h3, h4, h5, h6⟩ := lock_nat hk
   rw [Int.toNat_natCast] at ho
   have hlen := small_len h
   have hf := fitC_len w d l
   have hgood := fitC_good w d h3 h4 ⟨h5, h6⟩ l
   refine Ev.step (fun k => by rw [spec_BestGuess.j0]) ?_
   refine Ev.neg (by simp [h2]) (specFit_ev w d h3 h4 ⟨h5, h6⟩ l ho (fun K u => if (u.length : Int) = 0 then some (⟨#[]⟩, 0, false) else (spec_hiAll.f K w d).bind fun t => spec_BestGuess.l0 K u ⟨#[]⟩ 0 t (t.length : Int) 0 w d) _ ?_)
   by_cases h0 : (fitC w d l).length = 0
   ·refine Ev.pos (by omega) (Ev.val (Ev.now _) ?_)
    unfold bestV
    simp only [Int.toNat_natCast]
    rw [if_neg (fun hc => hc.2 h0)]
   ·have e : bestV w d l = ((bestL w d (fitC w d l) (d ^ w)).1, (bestL w d (fitC w d l) (d ^ w)).2, true) := by
     unfold bestV
     simp only [Int.toNat_natCast]
     rw [if_pos ⟨⟨h, h2⟩, h0⟩]
    rw [e]
    clear e
    refine Ev.neg (by omega) (Ev.bind (hiAll_ev w d h3 h4 ⟨h5, h6⟩) ?_)
    generalize fitC w d l = codes at hf hgood
    rw [allC_length]
    have hr : ∀ i : Nat, i < d ^ w → rdOf ByteArray.empty (allC w d) (i : Int) = codeT w d i := by
     intro i hi
     unfold rdOf allC
     simp [List.getD, hi]
    have hp : 0 < d ^ w := Nat.pow_pos (by omega)
    have hw' : ∀ i : Nat, Ev (fun K => spec_hiWorst.f K (w : Int) (codeT w d i) codes) (worstV w (codeT w d i) codes) := fun i => hiWorst_ev w h3 h4 (codeT w d i) ⟨codeT_digs w d i h4 ⟨h5, h6⟩ h3, codeT_size w d i⟩ codes (by omega) hgood
    have key : ∀ (j i : Nat), (i + 1) + j = d ^ w → Ev (fun K => spec_BestGuess.l0 K codes (bestL w d codes (i + 1)).1 (bestL w d codes (i + 1)).2 (allC w d) ((d ^ w : Nat) : Int) ((i + 1 : Nat) : Int) w d) ((bestL w d codes (d ^ w)).1, (bestL w d codes (d ^ w)).2, true) := by
     intro j
     induction j with
     | zero =>
      intro i hi
      refine Ev.step (fun k => by rw [spec_BestGuess.l0]) ?_
      exact Ev.neg (by omega) (Ev.val (Ev.now _) (by rw [show i + 1 = d ^ w by omega]))
     | succ j ih =>
      intro i hi
      have hn := ih (i + 1) (by omega)
      rw [bestL] at hn
      obtain ⟨n, hcd⟩ := bestL_code w d codes hf i
      refine Ev.step (fun k => by rw [spec_BestGuess.l0]) ?_
      refine Ev.pos (by omega) (Ev.pos (by omega) (Ev.pos (by rw [allC_length]; omega) ?_))
      rw [hr (i + 1) (by omega), w64n (i := i + 1) (by omega)]
      refine Ev.bind (hw' (i + 1)) (Ev.neg (by rw [hcd]; exact toList_ne _ (by rw [codeT_size]; omega)) ?_)
      by_cases hc : worstV w (codeT w d (i + 1)) codes < (bestL w d codes (i + 1)).2
      ·rw [if_pos hc] at hn
       exact Ev.pos hc hn
      ·rw [if_neg hc] at hn
       exact Ev.neg hc hn
    refine Ev.step (fun k => by rw [spec_BestGuess.l0]) ?_
    refine Ev.pos (by omega) (Ev.pos (by omega) (Ev.pos (by rw [allC_length]; omega) ?_))
    have h00 := hr 0 hp
    rw [show ((0 : Nat) : Int) = 0 from rfl] at h00
    rw [h00, show wrap64 (0 + 1) = ((0 + 1 : Nat) : Int) from (w64 (by omega) (by omega)).trans rfl]
    refine Ev.bind (hw' 0) (Ev.pos (ByteArray.toList_eq _) ?_)
    have := key (d ^ w - 1) 0 (by omega)
    rw [bestL_one w d codes hf] at this
    exact this
  ·refine Ev.val (no _ (by simp [h2])) ?_
   unfold bestV
   rw [if_neg (fun hc => h2 hc.1.2)]
 ·refine Ev.neg h (Ev.val (no _ rfl) ?_)
  unfold bestV
  rw [if_neg (fun hc => h hc.1.1)]
end Go.Proofs.YtcpnmiempaofdaaGreat.Pure
