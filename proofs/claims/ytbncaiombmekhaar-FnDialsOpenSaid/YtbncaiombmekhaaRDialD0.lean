/- Chapter 7: how often numbers pass, in plain words; dial codes. -/
import Derived.Test.YtbncaiombmekhaaRBx0
import Derived.Test.YtbncaiombmekhaaRBx1
import Derived.Test.YtbncaiombmekhaaRBx2
import Derived.Test.YtbncaiombmekhaaRBx3
import Derived.Test.YtbncaiombmekhaaRDialB
namespace Go.Proofs.YtbncaiombmekhaaR.Pure
open Go.RowKit Go.Proofs.YtbncaiombmekhaaR.B Go.Proofs.YtbncaiombmekhaaRW.PrintWords Go.Proofs.YtbncaiombmekhaaRW.PrintLast Go.Proofs.YtbncaiombmekhaaRW.PrintMore
set_option linter.unusedVariables false

/-- How often a number is read in so many marks. -/
def passN (m by_ number : Int) : Nat → Int → Int
  | 0, _ => 0
  | n + 1, s => (if (s + by_) % m = number then 1 else 0) + passN m by_ number n ((s + by_) % m)
/-- Behind how many marks it is read first. -/
def firstP (m s number by_ : Int) : Int := if ((number - s) * by_) % m > 0 then ((number - s) * by_) % m else m
theorem passN_bound (m by_ number : Int) : ∀ (n : Nat) (s : Int), 0 ≤ passN m by_ number n s ∧ passN m by_ number n s ≤ (n : Int)
  | 0, s => by simp [passN]
  | n + 1, s => by
    have := passN_bound m by_ number n ((s + by_) % m)
    unfold passN
    split <;> omega
theorem emod_next (m x : Int) (hm : 2 ≤ m) : (x - 1) % m = if x % m = 0 then m - 1 else x % m - 1 := by
  have h1 : 0 ≤ x % m := Int.emod_nonneg _ (by omega)
  have h2 : x % m < m := Int.emod_lt_of_pos _ (by omega)
  have h3 : (x - 1) % m = (x % m - 1) % m := by
    have e : x - 1 = (x % m - 1) + m * (x / m) := by
      have := Int.emod_add_mul_ediv x m
      omega
    rw [e, Int.add_mul_emod_self_left]
  rw [h3]
  split
  · rename_i h
    rw [h]
    have : ((0 : Int) - 1) % m = (0 - 1 + m) % m := by rw [Int.add_emod_right]
    rw [this, Int.emod_eq_of_lt (by omega) (by omega)]
    omega
  · exact Int.emod_eq_of_lt (by omega) (by omega)
theorem back_mod (m s number by_ : Int) (hm : 2 ≤ m) (hby : by_ = 1 ∨ by_ = -1) : ((number - (s + by_) % m) * by_) % m = ((number - s) * by_ - 1) % m := by
  rcases hby with rfl | rfl
  · rw [Int.mul_one, Int.mul_one, Int.sub_emod, Int.emod_emod_of_dvd _ (Int.dvd_refl m), ← Int.sub_emod]
    congr 1
    omega
  · have e : (number - (s + -1) % m) * -1 = (s + -1) % m - number := by omega
    rw [e, Int.sub_emod, Int.emod_emod_of_dvd _ (Int.dvd_refl m), ← Int.sub_emod]
    congr 1
    omega
theorem hit_iff (m s number by_ : Int) (hm : 2 ≤ m) (hby : by_ = 1 ∨ by_ = -1) (hn : 0 ≤ number ∧ number < m) : (s + by_) % m = number ↔ ((number - s) * by_) % m = 1 := by
  have h1 : 0 ≤ ((number - s) * by_) % m := Int.emod_nonneg _ (by omega)
  have h2 : ((number - s) * by_) % m < m := Int.emod_lt_of_pos _ (by omega)
  have h3 := emod_next m ((number - s) * by_) hm
  rw [← back_mod m s number by_ hm hby] at h3
  have e1 : 0 ≤ (s + by_) % m := Int.emod_nonneg _ (by omega)
  have e2 : (s + by_) % m < m := Int.emod_lt_of_pos _ (by omega)
  generalize (s + by_) % m = t at h3 e1 e2 ⊢
  generalize ((number - s) * by_) % m = r at h1 h2 h3 ⊢
  constructor
  · rintro rfl
    have : (t - t) * by_ = 0 := by rw [Int.sub_self, Int.zero_mul]
    rw [this] at h3
    simp only [Int.zero_emod] at h3
    split at h3 <;> omega
  · rintro rfl
    rw [if_neg (by omega)] at h3
    have h4 : (number - t) * by_ % m = 0 := by omega
    have h5 : (number - t) % m = 0 := by
      rcases hby with rfl | rfl
      · simpa using h4
      · have e : (number - t) * -1 = -(number - t) := by omega
        rw [e, Int.neg_emod] at h4
        by_cases hd : m ∣ (number - t)
        · exact Int.emod_eq_zero_of_dvd hd
        · rw [if_neg hd] at h4
          have : (number - t) % m < m := Int.emod_lt_of_pos _ (by omega)
          rw [Int.natAbs_of_nonneg (by omega)] at h4
          omega
    obtain ⟨q, hq⟩ := Int.dvd_of_emod_eq_zero h5
    have : q = 0 := by
      rcases Int.lt_trichotomy q 0 with h | h | h
      · have : m * q ≤ m * (-1) := Int.mul_le_mul_of_nonneg_left (by omega) (by omega)
        omega
      · exact h
      · have : m * 1 ≤ m * q := Int.mul_le_mul_of_nonneg_left (by omega) (by omega)
        omega
    rw [this] at hq
    omega
theorem passN_eq (m by_ number : Int) (hm : 2 ≤ m) (hby : by_ = 1 ∨ by_ = -1) (hn : 0 ≤ number ∧ number < m) : ∀ (n : Nat) (s : Int),
    passN m by_ number n s = if (n : Int) < firstP m s number by_ then 0 else ((n : Int) - firstP m s number by_) / m + 1 := by
  intro n
  induction n with
  | zero =>
    intro s
    have h1 : 0 ≤ ((number - s) * by_) % m := Int.emod_nonneg _ (by omega)
    unfold passN
    rw [if_pos]
    unfold firstP
    split <;> omega
  | succ n ih =>
    intro s
    unfold passN
    rw [ih]
    have h1 : 0 ≤ ((number - s) * by_) % m := Int.emod_nonneg _ (by omega)
    have h2 : ((number - s) * by_) % m < m := Int.emod_lt_of_pos _ (by omega)
    have h3 := emod_next m ((number - s) * by_) hm
    have h4 := hit_iff m s number by_ hm hby hn
    have h5 := back_mod m s number by_ hm hby
    rw [h3] at h5
    have f1 : firstP m s number by_ = if ((number - s) * by_) % m > 0 then ((number - s) * by_) % m else m := rfl
    have f2 : firstP m ((s + by_) % m) number by_ = if ((number - (s + by_) % m) * by_) % m > 0 then ((number - (s + by_) % m) * by_) % m else m := rfl
    rw [h5] at f2
    clear h3 h5
    generalize firstP m ((s + by_) % m) number by_ = g at f2 ⊢
    generalize firstP m s number by_ = f at f1 ⊢
    generalize ((number - s) * by_) % m = r at h1 h2 h4 f1 f2
    by_cases hr : r = 1
    · rw [if_pos (h4.mpr hr)]
      subst hr
      have hg : g = m := by rw [f2]; simp
      have hf : f = 1 := by rw [f1]; simp
      subst hg hf
      rw [if_neg (show ¬ ((n + 1 : Nat) : Int) < 1 by omega)]
      by_cases hlt : (n : Int) < g
      · rw [if_pos hlt]
        have : (((n + 1 : Nat) : Int) - 1) / g = 0 := Int.ediv_eq_zero_of_lt (by omega) (by omega)
        omega
      · rw [if_neg hlt]
        have e : ((n + 1 : Nat) : Int) - 1 = ((n : Int) - g) + g := by omega
        have := Int.add_ediv_of_dvd_right (a := (n : Int) - g) (Int.dvd_refl g)
        rw [Int.ediv_self (by omega)] at this
        rw [e, this]
        omega
    · rw [if_neg (fun h => hr (h4.mp h))]
      have hg : g = f - 1 := by
        rw [f1, f2]
        by_cases h0 : r = 0
        · rw [h0]; simp; omega
        · rw [if_neg h0, if_pos (by omega), if_pos (by omega)]
      subst hg
      by_cases hlt : (n : Int) < f - 1
      · rw [if_pos hlt, if_pos (by omega)]
        rfl
      · rw [if_neg hlt, if_neg (by omega)]
        have e : (n : Int) - (f - 1) = ((n + 1 : Nat) : Int) - f := by omega
        rw [e]
        omega
theorem firstP_bound (m s number by_ : Int) (hm : 2 ≤ m) : 1 ≤ firstP m s number by_ ∧ firstP m s number by_ ≤ m := by
  have h1 : 0 ≤ ((number - s) * by_) % m := Int.emod_nonneg _ (by omega)
  have h2 : ((number - s) * by_) % m < m := Int.emod_lt_of_pos _ (by omega)
  unfold firstP
  split <;> omega

theorem l1Most_some (a b : Int) : spec_l1Most.f a b = some (max a b) := by
  unfold spec_l1Most.f
  by_cases h : a > b
  · rw [if_pos h, Int.max_def, if_neg (by omega)]
  · rw [if_neg h, Int.max_def, if_pos (by omega)]
theorem l1Abs_some (a : Int) (h : -1000000000000 ≤ a ∧ a ≤ 1000000000000) : spec_l1Abs.f a = some (max a (-a)) := by
  unfold spec_l1Abs.f
  rw [w64 (by omega) (by omega), l1Most_some]
  rfl
theorem size_some (a : Int) (h : -1000000000000 ≤ a ∧ a ≤ 1000000000000) : impl_size.f a = some (max a (-a)) := by
  unfold impl_size.f
  rw [w64 (by omega) (by omega)]
  congr 1
  unfold mx
  split <;> omega
theorem first_some (m s number by_ : Int) (hm : 2 ≤ m ∧ m ≤ 100) (hs : 0 ≤ s ∧ s < m) (hn : 0 ≤ number ∧ number < m) (hby : by_ = 1 ∨ by_ = -1) : impl_first.f m s number by_ = some (firstP m s number by_) := by
  unfold impl_first.f firstP
  have e : wrap64 (wrap64 (number - s) * by_) = (number - s) * by_ := by
    rw [w64 (x := number - s) (by omega) (by omega)]
    rcases hby with rfl | rfl
    · rw [w64 (by omega) (by omega)]
    · rw [w64 (by omega) (by omega)]
  rw [e, around_some _ m hm.1 (by omega)]
  simp only [Option.bind_some]
  split <;> rfl
def codeOk (m : Int) (l : List Int) : Bool := decide (1 ≤ l.length ∧ l.length ≤ 12) && l.all (fun n => decide (0 ≤ n ∧ n ≤ m - 1))
theorem codeOk_iff {m : Int} {l : List Int} : codeOk m l = true ↔ (1 ≤ l.length ∧ l.length ≤ 12) ∧ ∀ x ∈ l, 0 ≤ x ∧ x ≤ m - 1 := by
  unfold codeOk
  rw [Bool.and_eq_true, decide_eq_true_iff, List.all_eq_true]
  simp only [decide_eq_true_iff]
theorem l1All_l0 (lo hi : Int) (xs : List Int) (hn : xs.length < 1099511627776) : ∀ (d i : Nat), i + d = xs.length →
    Ev (fun k => spec_l1All.l0 k lo hi xs (xs.length : Int) (i : Int)) ((xs.drop i).all (fun n => decide (lo ≤ n ∧ n ≤ hi))) := by
  intro d
  induction d with
  | zero =>
    intro i hj
    refine Ev.step (fun k => by rw [spec_l1All.l0]) ?_
    refine Ev.neg (by omega) (Ev.val (Ev.now _) ?_)
    rw [List.drop_eq_nil_of_le (by omega)]
    rfl
  | succ d ih =>
    intro i hj
    have h1 : i < xs.length := by omega
    refine Ev.step (fun k => by rw [spec_l1All.l0]) ?_
    refine Ev.pos (by omega) (Ev.pos (by omega) (Ev.pos (by omega) ?_))
    rw [rd_nat h1, w64n (by omega)]
    refine Ev.let_ (l1In_some _ _ _) ?_
    rw [List.drop_eq_getElem_cons h1, List.all_cons]
    by_cases he : decide (lo ≤ xs[i] ∧ xs[i] ≤ hi) = true
    · refine Ev.pos he (Ev.val (ih (i + 1) (by omega)) ?_)
      rw [he, Bool.true_and]
    · refine Ev.neg he (Ev.val (Ev.now _) ?_)
      rw [Bool.eq_false_iff.mpr he, Bool.false_and]
theorem l1All_ev (lo hi : Int) (xs : List Int) (hn : xs.length < 1099511627776) : Ev (fun k => spec_l1All.f k xs lo hi) (xs.all (fun n => decide (lo ≤ n ∧ n ≤ hi))) := by
  unfold spec_l1All.f
  have := l1All_l0 lo hi xs hn xs.length 0 (by omega)
  simpa using this
theorem diCode_ev (m : Int) (hm : 2 ≤ m ∧ m ≤ 100) (xs : List Int) (hn : xs.length < 1099511627776) : Ev (fun k => spec_diCode.f k m xs) (codeOk m xs) := by
  unfold spec_diCode.f codeOk
  refine Ev.let_ (l1In_some _ _ _) ?_
  by_cases h : 1 ≤ xs.length ∧ xs.length ≤ 12
  · refine Ev.pos (by simp; omega) ?_
    rw [w64 (by omega) (by omega)]
    refine Ev.bind (l1All_ev 0 (m - 1) xs hn) (Ev.val (Ev.now _) ?_)
    rw [decide_eq_true h, Bool.true_and]
  · refine Ev.neg (by simp; omega) (Ev.val (Ev.now _) ?_)
    rw [decide_eq_false h, Bool.false_and]
theorem isDialCode_some (m s : Int) (l : List Int) (h : l.length ≤ 1000000000000) : impl_isDialCode.f m s l = some (decide ((2 ≤ m ∧ m ≤ 100) ∧ 0 ≤ s ∧ s ≤ m - 1) && codeOk m l) := by
  unfold impl_isDialCode.f
  rw [isDial_one, isDial_some _ _ h, within_some]
  unfold codeOk
  by_cases h1 : (2 ≤ m ∧ m ≤ 100) ∧ 0 ≤ s ∧ s ≤ m - 1
  · rw [decide_eq_true h1, decide_eq_true h1.1]
    simp only [Option.bind_some, Bool.true_and, if_true]
    by_cases h2 : (l.all fun n => decide (0 ≤ n ∧ n ≤ m - 1)) = true
    · rw [h2]
      by_cases h3 : 1 ≤ l.length ∧ l.length ≤ 12
      · rw [if_pos rfl, decide_eq_true h3, decide_eq_true (show 1 ≤ (l.length : Int) ∧ (l.length : Int) ≤ 12 by omega)]
        rfl
      · rw [if_pos rfl, decide_eq_false h3, decide_eq_false (show ¬ (1 ≤ (l.length : Int) ∧ (l.length : Int) ≤ 12) by omega)]
        rfl
    · rw [Bool.eq_false_iff.mpr h2]
      simp
  · rw [decide_eq_false h1]
    simp
end Go.Proofs.YtbncaiombmekhaaR.Pure
