/- Chapter 7: how often numbers pass, and codes that are close. -/
import Derived.Test.YtmliabppmobliaaQx0
import Derived.Test.YtmliabppmobliaaQx1
import Derived.Test.YtmliabppmobliaaQx2
import Derived.Test.YtmliabppmobliaaQx4
import Derived.Test.YtmliabppmobliaaQx5
import Derived.Test.YtmliabppmobliaaQx6
import Derived.Test.YtmliabppmobliaaDialB
namespace Go.Proofs.Ytmliabppmobliaa.Pure
open Go.RowKit Go.Proofs.Ytmliabppmobliaa.Q Go.Proofs.YtmliabppmobliaaW.PrintWords Go.Proofs.YtmliabppmobliaaW.PrintLast Go.Proofs.YtmliabppmobliaaW.PrintMore
set_option linter.unusedVariables false

/-- How often a number is read in so many marks. -/
def passN (m by_ number : Int) : Nat → Int → Int
  | 0, _ => 0
  | n + 1, s => (if (s + by_) % m = number then 1 else 0) + passN m by_ number n ((s + by_) % m)
/-- Behind how many marks it is read first. -/
def firstP (m s number by_ : Int) : Int := if ((number - s) * by_) % m > 0 then ((number - s) * by_) % m else m
theorem passN_bound (m by_ number : Int) : ∀ (n : Nat) (s : Int), 0 ≤ passN m by_ number n s ∧ passN m by_ number n s ≤ (n : Int)
  | 0, s => by simp [passN]
  | n + 1, s => by
    have := passN_bound m by_ number n ((s + by_) % m)
    unfold passN
    split <;> omega
theorem emod_next (m x : Int) (hm : 2 ≤ m) : (x - 1) % m = if x % m = 0 then m - 1 else x % m - 1 := by
  have h1 : 0 ≤ x % m := Int.emod_nonneg _ (by omega)
  have h2 : x % m < m := Int.emod_lt_of_pos _ (by omega)
  have h3 : (x - 1) % m = (x % m - 1) % m := by
    have e : x - 1 = (x % m - 1) + m * (x / m) := by
      have := Int.emod_add_mul_ediv x m
      omega
    rw [e, Int.add_mul_emod_self_left]
  rw [h3]
  split
  · rename_i h
    rw [h]
    have : ((0 : Int) - 1) % m = (0 - 1 + m) % m := by rw [Int.add_emod_right]
    rw [this, Int.emod_eq_of_lt (by omega) (by omega)]
    omega
  · exact Int.emod_eq_of_lt (by omega) (by omega)
theorem back_mod (m s number by_ : Int) (hm : 2 ≤ m) (hby : by_ = 1 ∨ by_ = -1) : ((number - (s + by_) % m) * by_) % m = ((number - s) * by_ - 1) % m := by
  rcases hby with rfl | rfl
  · rw [Int.mul_one, Int.mul_one, Int.sub_emod, Int.emod_emod_of_dvd _ (Int.dvd_refl m), ← Int.sub_emod]
    congr 1
    omega
  · have e : (number - (s + -1) % m) * -1 = (s + -1) % m - number := by omega
    rw [e, Int.sub_emod, Int.emod_emod_of_dvd _ (Int.dvd_refl m), ← Int.sub_emod]
    congr 1
    omega
theorem hit_iff (m s number by_ : Int) (hm : 2 ≤ m) (hby : by_ = 1 ∨ by_ = -1) (hn : 0 ≤ number ∧ number < m) : (s + by_) % m = number ↔ ((number - s) * by_) % m = 1 := by
  have h1 : 0 ≤ ((number - s) * by_) % m := Int.emod_nonneg _ (by omega)
  have h2 : ((number - s) * by_) % m < m := Int.emod_lt_of_pos _ (by omega)
  have h3 := emod_next m ((number - s) * by_) hm
  rw [← back_mod m s number by_ hm hby] at h3
  have e1 : 0 ≤ (s + by_) % m := Int.emod_nonneg _ (by omega)
  have e2 : (s + by_) % m < m := Int.emod_lt_of_pos _ (by omega)
  generalize (s + by_) % m = t at h3 e1 e2 ⊢
  generalize ((number - s) * by_) % m = r at h1 h2 h3 ⊢
  constructor
  · rintro rfl
    have : (t - t) * by_ = 0 := by rw [Int.sub_self, Int.zero_mul]
    rw [this] at h3
    simp only [Int.zero_emod] at h3
    split at h3 <;> omega
  · rintro rfl
    rw [if_neg (by omega)] at h3
    have h4 : (number - t) * by_ % m = 0 := by omega
    have h5 : (number - t) % m = 0 := by
      rcases hby with rfl | rfl
      · simpa using h4
      · have e : (number - t) * -1 = -(number - t) := by omega
        rw [e, Int.neg_emod] at h4
        by_cases hd : m ∣ (number - t)
        · exact Int.emod_eq_zero_of_dvd hd
        · rw [if_neg hd] at h4
          have : (number - t) % m < m := Int.emod_lt_of_pos _ (by omega)
          rw [Int.natAbs_of_nonneg (by omega)] at h4
          omega
    obtain ⟨q, hq⟩ := Int.dvd_of_emod_eq_zero h5
    have : q = 0 := by
      rcases Int.lt_trichotomy q 0 with h | h | h
      · have : m * q ≤ m * (-1) := Int.mul_le_mul_of_nonneg_left (by omega) (by omega)
        omega
      · exact h
      · have : m * 1 ≤ m * q := Int.mul_le_mul_of_nonneg_left (by omega) (by omega)
        omega
    rw [this] at hq
    omega
theorem passN_eq (m by_ number : Int) (hm : 2 ≤ m) (hby : by_ = 1 ∨ by_ = -1) (hn : 0 ≤ number ∧ number < m) : ∀ (n : Nat) (s : Int),
    passN m by_ number n s = if (n : Int) < firstP m s number by_ then 0 else ((n : Int) - firstP m s number by_) / m + 1 := by
  intro n
  induction n with
  | zero =>
    intro s
    have h1 : 0 ≤ ((number - s) * by_) % m := Int.emod_nonneg _ (by omega)
    unfold passN
    rw [if_pos]
    unfold firstP
    split <;> omega
  | succ n ih =>
    intro s
    unfold passN
    rw [ih]
    have h1 : 0 ≤ ((number - s) * by_) % m := Int.emod_nonneg _ (by omega)
    have h2 : ((number - s) * by_) % m < m := Int.emod_lt_of_pos _ (by omega)
    have h3 := emod_next m ((number - s) * by_) hm
    have h4 := hit_iff m s number by_ hm hby hn
    have h5 := back_mod m s number by_ hm hby
    rw [h3] at h5
    have f1 : firstP m s number by_ = if ((number - s) * by_) % m > 0 then ((number - s) * by_) % m else m := rfl
    have f2 : firstP m ((s + by_) % m) number by_ = if ((number - (s + by_) % m) * by_) % m > 0 then ((number - (s + by_) % m) * by_) % m else m := rfl
    rw [h5] at f2
    clear h3 h5
    generalize firstP m ((s + by_) % m) number by_ = g at f2 ⊢
    generalize firstP m s number by_ = f at f1 ⊢
    generalize ((number - s) * by_) % m = r at h1 h2 h4 f1 f2
    by_cases hr : r = 1
    · rw [if_pos (h4.mpr hr)]
      subst hr
      have hg : g = m := by rw [f2]; simp
      have hf : f = 1 := by rw [f1]; simp
      subst hg hf
      rw [if_neg (show ¬ ((n + 1 : Nat) : Int) < 1 by omega)]
      by_cases hlt : (n : Int) < g
      · rw [if_pos hlt]
        have : (((n + 1 : Nat) : Int) - 1) / g = 0 := Int.ediv_eq_zero_of_lt (by omega) (by omega)
        omega
      · rw [if_neg hlt]
        have e : ((n + 1 : Nat) : Int) - 1 = ((n : Int) - g) + g := by omega
        have := Int.add_ediv_of_dvd_right (a := (n : Int) - g) (Int.dvd_refl g)
        rw [Int.ediv_self (by omega)] at this
        rw [e, this]
        omega
    · rw [if_neg (fun h => hr (h4.mp h))]
      have hg : g = f - 1 := by
        rw [f1, f2]
        by_cases h0 : r = 0
        · rw [h0]; simp; omega
        · rw [if_neg h0, if_pos (by omega), if_pos (by omega)]
      subst hg
      by_cases hlt : (n : Int) < f - 1
      · rw [if_pos hlt, if_pos (by omega)]
        rfl
      · rw [if_neg hlt, if_neg (by omega)]
        have e : (n : Int) - (f - 1) = ((n + 1 : Nat) : Int) - f := by omega
        rw [e]
        omega
theorem firstP_bound (m s number by_ : Int) (hm : 2 ≤ m) : 1 ≤ firstP m s number by_ ∧ firstP m s number by_ ≤ m := by
  have h1 : 0 ≤ ((number - s) * by_) % m := Int.emod_nonneg _ (by omega)
  have h2 : ((number - s) * by_) % m < m := Int.emod_lt_of_pos _ (by omega)
  unfold firstP
  split <;> omega

theorem l1Sign_some (a : Int) : spec_l1Sign.f a = some (if a > 0 then 1 else if a < 0 then -1 else 0) := by
  unfold spec_l1Sign.f
  split
  · rfl
  · split <;> rfl
theorem l1Most_some (a b : Int) : spec_l1Most.f a b = some (max a b) := by
  unfold spec_l1Most.f
  by_cases h : a > b
  · rw [if_pos h, Int.max_def, if_neg (by omega)]
  · rw [if_neg h, Int.max_def, if_pos (by omega)]
theorem l1Abs_some (a : Int) (h : -1000000000000 ≤ a ∧ a ≤ 1000000000000) : spec_l1Abs.f a = some (max a (-a)) := by
  unfold spec_l1Abs.f
  rw [w64 (by omega) (by omega), l1Most_some]
  rfl
theorem size_some (a : Int) (h : -1000000000000 ≤ a ∧ a ≤ 1000000000000) : impl_size.f a = some (max a (-a)) := by
  unfold impl_size.f
  rw [w64 (by omega) (by omega)]
  congr 1
  unfold mx
  split <;> omega
theorem first_some (m s number by_ : Int) (hm : 2 ≤ m ∧ m ≤ 100) (hs : 0 ≤ s ∧ s < m) (hn : 0 ≤ number ∧ number < m) (hby : by_ = 1 ∨ by_ = -1) : impl_first.f m s number by_ = some (firstP m s number by_) := by
  unfold impl_first.f firstP
  have e : wrap64 (wrap64 (number - s) * by_) = (number - s) * by_ := by
    rw [w64 (x := number - s) (by omega) (by omega)]
    rcases hby with rfl | rfl
    · rw [w64 (by omega) (by omega)]
    · rw [w64 (by omega) (by omega)]
  rw [e, around_some _ m hm.1 (by omega)]
  simp only [Option.bind_some]
  split <;> rfl
theorem diPasses_l0 (m number by_ : Int) (hm : 2 ≤ m ∧ m ≤ 100) (hby : by_ = 1 ∨ by_ = -1) : ∀ (d : Nat) (s acc : Int), d ≤ 100000 → 0 ≤ s → s < m → 0 ≤ acc → acc + d ≤ 100000 →
    Ev (fun k => spec_diPasses.l0 k m s number by_ acc (d : Int)) (acc + passN m by_ number d s) := by
  intro d
  induction d with
  | zero =>
    intro s acc _ _ _ _ _
    refine Ev.step (fun k => by rw [spec_diPasses.l0]) ?_
    refine Ev.neg (by omega) (Ev.val (Ev.now _) ?_)
    simp [passN]
  | succ d ih =>
    intro s acc hd h0 h1 ha hb
    refine Ev.step (fun k => by rw [spec_diPasses.l0]) ?_
    refine Ev.pos (by omega) ?_
    rw [w64 (x := s + by_) (by omega) (by omega), w64 (x := ((d + 1 : Nat) : Int) - 1) (by omega) (by omega), w64 (x := acc + 1) (by omega) (by omega)]
    refine Ev.let_ (l1Mod_some _ m hm.1 (by omega)) ?_
    have e1 : 0 ≤ (s + by_) % m := Int.emod_nonneg _ (by omega)
    have e2 : (s + by_) % m < m := Int.emod_lt_of_pos _ (by omega)
    have e3 : ((d + 1 : Nat) : Int) - 1 = (d : Int) := by omega
    rw [e3]
    unfold passN
    by_cases hc : (s + by_) % m = number
    · refine Ev.pos hc (Ev.val (ih _ _ (by omega) e1 e2 (by omega) (by omega)) ?_)
      rw [if_pos hc]
      omega
    · refine Ev.neg hc (Ev.val (ih _ _ (by omega) e1 e2 (by omega) (by omega)) ?_)
      rw [if_neg hc]
      omega
/-- What both PassesOf return. -/
def passesV (m s step number : Int) : Int × Bool := if (2 ≤ m ∧ m ≤ 100) ∧ (0 ≤ s ∧ s ≤ m - 1) ∧ stepOk step = true ∧ 0 ≤ number ∧ number ≤ m - 1 then (passN m (if step > 0 then 1 else -1) number (max step (-step)).toNat s, true) else (0, false)
theorem specPassesOf_ev (m s step number : Int) : Ev (fun k => spec_PassesOf.f k m s step number) (passesV m s step number) := by
  unfold spec_PassesOf.f passesV
  refine Ev.let_ (diAsked_some m s) ?_
  by_cases h : (2 ≤ m ∧ m ≤ 100) ∧ 0 ≤ s ∧ s ≤ m - 1
  · refine Ev.pos (by simp; omega) ?_
    refine Ev.let_ (diStep_some step) ?_
    by_cases hx : stepOk step = true
    · refine Ev.pos hx ?_
      rw [w64 (by omega) (by omega)]
      refine Ev.let_ (l1In_some _ _ _) ?_
      by_cases hn : 0 ≤ number ∧ number ≤ m - 1
      · refine Ev.pos (by simp; omega) ?_
        rw [if_pos ⟨h.1, h.2, hx, hn⟩]
        have hx' := stepOk_iff.mp hx
        refine Ev.bind (a := passN m (if step > 0 then 1 else -1) number (max step (-step)).toNat s) ?_ (Ev.now _)
        unfold spec_diPasses.f
        refine Ev.let_ (l1Sign_some step) (Ev.let_ (l1Abs_some step (by omega)) ?_)
        have e : (max step (-step)) = (((max step (-step)).toNat : Nat) : Int) := by omega
        have e2 : (if step > 0 then (1 : Int) else if step < 0 then -1 else 0) = if step > 0 then 1 else -1 := by
          split
          · rfl
          · rw [if_pos (by omega)]
        rw [e2]
        rw [e]
        rw [Int.toNat_natCast]
        have := diPasses_l0 m number (if step > 0 then 1 else -1) h.1 (by split <;> omega) (max step (-step)).toNat s 0 (by omega) (by omega) (by omega) (by omega) (by omega)
        rw [Int.zero_add] at this
        exact this
      · refine Ev.neg (by simp; omega) (Ev.val (Ev.now _) ?_)
        rw [if_neg (by intro hc; exact hn hc.2.2.2)]
    · refine Ev.neg hx (Ev.val (Ev.now _) ?_)
      rw [if_neg (by intro hc; exact hx hc.2.2.1)]
  · refine Ev.neg (by simp; omega) (Ev.val (Ev.now _) ?_)
    rw [if_neg (by intro hc; exact h ⟨hc.1, hc.2.1⟩)]
theorem isDial_two (m s n : Int) : impl_isDial.f m [s, n] = some (decide ((2 ≤ m ∧ m ≤ 100) ∧ (0 ≤ s ∧ s ≤ m - 1) ∧ 0 ≤ n ∧ n ≤ m - 1)) := by
  rw [isDial_some _ _ (by simp)]
  by_cases h : 2 ≤ m ∧ m ≤ 100 <;> simp [h]
theorem implPassesOf_ev (m s step number : Int) : Ev (fun k => impl_PassesOf.f k m s step number) (passesV m s step number) := by
  unfold impl_PassesOf.f passesV
  refine Ev.let_ (isDial_two m s number) ?_
  by_cases h : (2 ≤ m ∧ m ≤ 100) ∧ (0 ≤ s ∧ s ≤ m - 1) ∧ 0 ≤ number ∧ number ≤ m - 1
  · refine Ev.pos (by simp; omega) ?_
    refine Ev.let_ (areSteps_some [step]) ?_
    refine Ev.step (fun k => by rw [impl_PassesOf.j0]) ?_
    have es : stepsOk [step] = stepOk step := by simp [stepsOk]
    rw [es]
    by_cases hx : stepOk step = true
    · have hx' := stepOk_iff.mp hx
      refine Ev.neg (by simp [hx]) ?_
      rw [if_pos ⟨h.1, h.2.1, hx, h.2.2⟩]
      have key : ∀ by_, by_ = (if step > 0 then (1 : Int) else -1) → Ev (fun k => impl_PassesOf.j1 k m s step number by_) (passN m (if step > 0 then 1 else -1) number (max step (-step)).toNat s, true) := by
        intro by_ hby
        rw [← hby]
        have hb : by_ = 1 ∨ by_ = -1 := by rw [hby]; split <;> omega
        refine Ev.step (fun k => by rw [impl_PassesOf.j1]) ?_
        refine Ev.let_ (size_some step (by omega)) ?_
        refine Ev.let_ (first_some m s number by_ h.1 (by omega) (by omega) hb) ?_
        have hf := firstP_bound m s number by_ (by omega)
        have hp := passN_eq m by_ number (by omega) hb (by omega) (max step (-step)).toNat s
        rw [show (((max step (-step)).toNat : Nat) : Int) = max step (-step) by omega] at hp
        rw [hp]
        rw [w64 (x := max step (-step) - firstP m s number by_) (by omega) (by omega)]
        by_cases hlt : max step (-step) < firstP m s number by_
        · refine Ev.pos (by omega) (Ev.val (Ev.now _) ?_)
          rw [if_pos hlt]
        · refine Ev.neg (by omega) (Ev.neg (by omega) (Ev.val (Ev.now _) ?_))
          rw [if_neg hlt, Int.tdiv_eq_ediv_of_nonneg (by omega)]
          have d1 : 0 ≤ (max step (-step) - firstP m s number by_) / m := Int.ediv_nonneg (by omega) (by omega)
          have d2 : (max step (-step) - firstP m s number by_) / m ≤ max step (-step) - firstP m s number by_ := Int.ediv_le_self _ (by omega)
          rw [w64 (x := (max step (-step) - firstP m s number by_) / m) (by omega) (by omega), w64 (by omega) (by omega)]
      by_cases hp : step < 0
      · exact Ev.pos hp (key (-1) (by rw [if_neg (by omega)]))
      · exact Ev.neg hp (key 1 (by rw [if_pos (by omega)]))
    · refine Ev.pos (by simp [hx]) (Ev.val (Ev.now _) ?_)
      rw [if_neg (by intro hc; exact hx hc.2.2.1)]
  · refine Ev.neg (by simp; omega) ?_
    refine Ev.step (fun k => by rw [impl_PassesOf.j0]) ?_
    refine Ev.pos rfl (Ev.val (Ev.now _) ?_)
    rw [if_neg (by intro hc; exact h ⟨hc.1, hc.2.1, hc.2.2.2⟩)]

/-! close codes -/
/-- How far apart two numbers are, around. -/
def apartP (m a b : Int) : Int := min ((a - b) % m) (m - (a - b) % m)
theorem apartP_abs (m a b : Int) (hm : 2 ≤ m) (ha : 0 ≤ a ∧ a < m) (hb : 0 ≤ b ∧ b < m) : apartP m a b = min (max (a - b) (-(a - b))) (m - max (a - b) (-(a - b))) := by
  unfold apartP
  by_cases h : b ≤ a
  · rw [Int.emod_eq_of_lt (by omega) (by omega)]
    omega
  · have : (a - b) % m = a - b + m := by
      rw [← Int.add_emod_right, Int.emod_eq_of_lt (by omega) (by omega)]
    rw [this]
    omega
theorem apart_some (m a b : Int) (hm : 2 ≤ m ∧ m ≤ 100) (ha : 0 ≤ a ∧ a < m) (hb : 0 ≤ b ∧ b < m) : impl_apart.f m a b = some (apartP m a b) := by
  unfold impl_apart.f
  rw [w64 (x := a - b) (by omega) (by omega), size_some _ (by omega)]
  simp only [Option.bind_some]
  rw [w64 (by omega) (by omega), apartP_abs m a b hm.1 ha hb]
  congr 1
  unfold mn
  split <;> omega
def codeOk (m : Int) (l : List Int) : Bool := decide (1 ≤ l.length ∧ l.length ≤ 12) && l.all (fun n => decide (0 ≤ n ∧ n ≤ m - 1))
theorem codeOk_iff {m : Int} {l : List Int} : codeOk m l = true ↔ (1 ≤ l.length ∧ l.length ≤ 12) ∧ ∀ x ∈ l, 0 ≤ x ∧ x ≤ m - 1 := by
  unfold codeOk
  rw [Bool.and_eq_true, decide_eq_true_iff, List.all_eq_true]
  simp only [decide_eq_true_iff]
theorem l1All_l0 (lo hi : Int) (xs : List Int) (hn : xs.length < 1099511627776) : ∀ (d i : Nat), i + d = xs.length →
    Ev (fun k => spec_l1All.l0 k lo hi xs (xs.length : Int) (i : Int)) ((xs.drop i).all (fun n => decide (lo ≤ n ∧ n ≤ hi))) := by
  intro d
  induction d with
  | zero =>
    intro i hj
    refine Ev.step (fun k => by rw [spec_l1All.l0]) ?_
    refine Ev.neg (by omega) (Ev.val (Ev.now _) ?_)
    rw [List.drop_eq_nil_of_le (by omega)]
    rfl
  | succ d ih =>
    intro i hj
    have h1 : i < xs.length := by omega
    refine Ev.step (fun k => by rw [spec_l1All.l0]) ?_
    refine Ev.pos (by omega) (Ev.pos (by omega) (Ev.pos (by omega) ?_))
    rw [rd_nat h1, w64n (by omega)]
    refine Ev.let_ (l1In_some _ _ _) ?_
    rw [List.drop_eq_getElem_cons h1, List.all_cons]
    by_cases he : decide (lo ≤ xs[i] ∧ xs[i] ≤ hi) = true
    · refine Ev.pos he (Ev.val (ih (i + 1) (by omega)) ?_)
      rw [he, Bool.true_and]
    · refine Ev.neg he (Ev.val (Ev.now _) ?_)
      rw [Bool.eq_false_iff.mpr he, Bool.false_and]
theorem l1All_ev (lo hi : Int) (xs : List Int) (hn : xs.length < 1099511627776) : Ev (fun k => spec_l1All.f k xs lo hi) (xs.all (fun n => decide (lo ≤ n ∧ n ≤ hi))) := by
  unfold spec_l1All.f
  have := l1All_l0 lo hi xs hn xs.length 0 (by omega)
  simpa using this
theorem diCode_ev (m : Int) (hm : 2 ≤ m ∧ m ≤ 100) (xs : List Int) (hn : xs.length < 1099511627776) : Ev (fun k => spec_diCode.f k m xs) (codeOk m xs) := by
  unfold spec_diCode.f codeOk
  refine Ev.let_ (l1In_some _ _ _) ?_
  by_cases h : 1 ≤ xs.length ∧ xs.length ≤ 12
  · refine Ev.pos (by simp; omega) ?_
    rw [w64 (by omega) (by omega)]
    refine Ev.bind (l1All_ev 0 (m - 1) xs hn) (Ev.val (Ev.now _) ?_)
    rw [decide_eq_true h, Bool.true_and]
  · refine Ev.neg (by simp; omega) (Ev.val (Ev.now _) ?_)
    rw [decide_eq_false h, Bool.false_and]
theorem isDialCode_some (m s : Int) (l : List Int) (h : l.length ≤ 1000000000000) : impl_isDialCode.f m s l = some (decide ((2 ≤ m ∧ m ≤ 100) ∧ 0 ≤ s ∧ s ≤ m - 1) && codeOk m l) := by
  unfold impl_isDialCode.f
  rw [isDial_one, isDial_some _ _ h, within_some]
  unfold codeOk
  by_cases h1 : (2 ≤ m ∧ m ≤ 100) ∧ 0 ≤ s ∧ s ≤ m - 1
  · rw [decide_eq_true h1, decide_eq_true h1.1]
    simp only [Option.bind_some, Bool.true_and, if_true]
    by_cases h2 : (l.all fun n => decide (0 ≤ n ∧ n ≤ m - 1)) = true
    · rw [h2]
      by_cases h3 : 1 ≤ l.length ∧ l.length ≤ 12
      · rw [if_pos rfl, decide_eq_true h3, decide_eq_true (show 1 ≤ (l.length : Int) ∧ (l.length : Int) ≤ 12 by omega)]
        rfl
      · rw [if_pos rfl, decide_eq_false h3, decide_eq_false (show ¬ (1 ≤ (l.length : Int) ∧ (l.length : Int) ≤ 12) by omega)]
        rfl
    · rw [Bool.eq_false_iff.mpr h2]
      simp
  · rw [decide_eq_false h1]
    simp
def closeL (m s : Int) : List Int → List Int → Bool
  | x :: xs, y :: ys => decide (apartP m x y ≤ s) && closeL m s xs ys
  | _, _ => true
def closeV (m s : Int) (a b : List Int) : Bool × Bool := if (2 ≤ m ∧ m ≤ 100) ∧ (0 ≤ s ∧ s ≤ 100) ∧ codeOk m a = true ∧ codeOk m b = true ∧ a.length = b.length then (closeL m s a b, true) else (false, false)
theorem specClose_l0 (m s : Int) (hm : 2 ≤ m ∧ m ≤ 100) (a b : List Int) (hl : a.length = b.length) (hn : a.length ≤ 12) (ha : ∀ x ∈ a, 0 ≤ x ∧ x ≤ m - 1) (hb : ∀ x ∈ b, 0 ≤ x ∧ x ≤ m - 1) : ∀ (d i : Nat), i + d = a.length →
    Ev (fun k => spec_AreClose.l0 k m s b a (a.length : Int) (i : Int)) (closeL m s (a.drop i) (b.drop i), true) := by
  intro d
  induction d with
  | zero =>
    intro i hi
    refine Ev.step (fun k => by rw [spec_AreClose.l0]) ?_
    refine Ev.neg (by omega) (Ev.val (Ev.now _) ?_)
    rw [List.drop_eq_nil_of_le (by omega)]
    rfl
  | succ d ih =>
    intro i hi
    have h1 : i < a.length := by omega
    have h2 : i < b.length := by omega
    have x1 := ha _ (List.getElem_mem h1)
    have x2 := hb _ (List.getElem_mem h2)
    refine Ev.step (fun k => by rw [spec_AreClose.l0]) ?_
    refine Ev.pos (by omega) (Ev.pos (by omega) (Ev.pos (by omega) (Ev.pos (by omega) ?_)))
    rw [rd_nat h1, rd_nat h2, w64n (by omega), w64 (x := a[i] - b[i]) (by omega) (by omega)]
    refine Ev.let_ (l1Mod_some _ m hm.1 (by omega)) ?_
    have e1 : 0 ≤ (a[i] - b[i]) % m := Int.emod_nonneg _ (by omega)
    have e2 : (a[i] - b[i]) % m < m := Int.emod_lt_of_pos _ (by omega)
    rw [w64 (x := m - (a[i] - b[i]) % m) (by omega) (by omega)]
    refine Ev.let_ (l1Least_some _ _) ?_
    rw [List.drop_eq_getElem_cons h1, List.drop_eq_getElem_cons h2, closeL]
    by_cases hc : apartP m a[i] b[i] ≤ s
    · refine Ev.neg (by unfold apartP at hc; omega) (Ev.val (ih (i + 1) (by omega)) ?_)
      rw [decide_eq_true hc, Bool.true_and]
    · refine Ev.pos (by unfold apartP at hc; omega) (Ev.val (Ev.now _) ?_)
      rw [decide_eq_false hc, Bool.false_and]
theorem implClose_l0 (m s : Int) (hm : 2 ≤ m ∧ m ≤ 100) (a b : List Int) (hl : a.length = b.length) (hn : a.length ≤ 12) (ha : ∀ x ∈ a, 0 ≤ x ∧ x ≤ m - 1) (hb : ∀ x ∈ b, 0 ≤ x ∧ x ≤ m - 1) : ∀ (d i : Nat), i + d = a.length →
    Ev (fun k => impl_AreClose.l0 k m s a b (a.length : Int) (i : Int)) (closeL m s (a.drop i) (b.drop i), true) := by
  intro d
  induction d with
  | zero =>
    intro i hi
    refine Ev.step (fun k => by rw [impl_AreClose.l0]) ?_
    refine Ev.neg (by omega) (Ev.val (Ev.now _) ?_)
    rw [List.drop_eq_nil_of_le (by omega)]
    rfl
  | succ d ih =>
    intro i hi
    have h1 : i < a.length := by omega
    have h2 : i < b.length := by omega
    have x1 := ha _ (List.getElem_mem h1)
    have x2 := hb _ (List.getElem_mem h2)
    refine Ev.step (fun k => by rw [impl_AreClose.l0]) ?_
    refine Ev.pos (by omega) (Ev.pos (by omega) (Ev.pos (by omega) (Ev.pos (by omega) ?_)))
    rw [rd_nat h1, rd_nat h2, w64n (by omega)]
    refine Ev.let_ (apart_some m _ _ hm (by omega) (by omega)) ?_
    rw [List.drop_eq_getElem_cons h1, List.drop_eq_getElem_cons h2, closeL]
    by_cases hc : apartP m a[i] b[i] ≤ s
    · refine Ev.neg (by omega) (Ev.val (ih (i + 1) (by omega)) ?_)
      rw [decide_eq_true hc, Bool.true_and]
    · refine Ev.pos (by omega) (Ev.val (Ev.now _) ?_)
      rw [decide_eq_false hc, Bool.false_and]
theorem specAreClose_ev (m s : Int) (a b : List Int) (ha : a.length < 1000000000000) (hb : b.length < 1000000000000) : Ev (fun k => spec_AreClose.f k m s a b) (closeV m s a b) := by
  have no : ∀ x : Bool, x = true → Ev (fun k => spec_AreClose.j0 k m s a b x) (false, false) := by
    intro x hx
    refine Ev.step (fun k => by rw [spec_AreClose.j0]) ?_
    exact Ev.pos hx (Ev.now _)
  unfold spec_AreClose.f closeV
  refine Ev.let_ (diMarks_some m) ?_
  by_cases h1 : 2 ≤ m ∧ m ≤ 100
  · refine Ev.pos (by simp; omega) (Ev.let_ (l1In_some _ _ _) ?_)
    by_cases h2 : 0 ≤ s ∧ s ≤ 100
    · refine Ev.pos (by simp; omega) (Ev.bind (diCode_ev m h1 a (by omega)) ?_)
      by_cases h3 : codeOk m a = true
      · refine Ev.pos h3 (Ev.bind (diCode_ev m h1 b (by omega)) ?_)
        by_cases h4 : codeOk m b = true
        · refine Ev.pos h4 ?_
          by_cases h5 : a.length = b.length
          · refine Ev.step (fun k => by rw [spec_AreClose.j0]) ?_
            refine Ev.neg (by simp; omega) ?_
            rw [if_pos ⟨h1, h2, h3, h4, h5⟩]
            have h3' := codeOk_iff.mp h3
            have h4' := codeOk_iff.mp h4
            have := specClose_l0 m s h1 a b h5 h3'.1.2 h3'.2 h4'.2 a.length 0 (by omega)
            simpa using this
          · rw [if_neg (fun hc => h5 hc.2.2.2.2)]
            exact no _ (by simp; omega)
        · rw [if_neg (fun hc => h4 hc.2.2.2.1)]
          exact Ev.neg h4 (no _ rfl)
      · rw [if_neg (fun hc => h3 hc.2.2.1)]
        exact Ev.neg h3 (no _ rfl)
    · rw [if_neg (fun hc => h2 hc.2.1)]
      exact Ev.neg (by simp; omega) (no _ rfl)
  · rw [if_neg (fun hc => h1 hc.1)]
    exact Ev.neg (by simp; omega) (no _ rfl)
theorem implAreClose_ev (m s : Int) (a b : List Int) (ha : a.length < 1000000000000) (hb : b.length < 1000000000000) : Ev (fun k => impl_AreClose.f k m s a b) (closeV m s a b) := by
  have no : ∀ x : Bool, x = true → Ev (fun k => impl_AreClose.j0 k m s a b x) (false, false) := by
    intro x hx
    refine Ev.step (fun k => by rw [impl_AreClose.j0]) ?_
    exact Ev.pos hx (Ev.now _)
  unfold impl_AreClose.f closeV
  refine Ev.let_ (isSlack_some m s) ?_
  by_cases h1 : (2 ≤ m ∧ m ≤ 100) ∧ 0 ≤ s ∧ s ≤ 100
  · refine Ev.pos (by simp; omega) (Ev.let_ (isDialCode_some m 0 a (by omega)) ?_)
    rw [decide_eq_true (show (2 ≤ m ∧ m ≤ 100) ∧ (0 : Int) ≤ 0 ∧ 0 ≤ m - 1 by omega), Bool.true_and]
    by_cases h3 : codeOk m a = true
    · refine Ev.pos h3 (Ev.let_ (isDialCode_some m 0 b (by omega)) ?_)
      rw [decide_eq_true (show (2 ≤ m ∧ m ≤ 100) ∧ (0 : Int) ≤ 0 ∧ 0 ≤ m - 1 by omega), Bool.true_and]
      by_cases h4 : codeOk m b = true
      · refine Ev.pos h4 ?_
        by_cases h5 : a.length = b.length
        · refine Ev.step (fun k => by rw [impl_AreClose.j0]) ?_
          refine Ev.neg (by simp; omega) ?_
          rw [if_pos ⟨h1.1, h1.2, h3, h4, h5⟩]
          have h3' := codeOk_iff.mp h3
          have h4' := codeOk_iff.mp h4
          have := implClose_l0 m s h1.1 a b h5 h3'.1.2 h3'.2 h4'.2 a.length 0 (by omega)
          simpa using this
        · rw [if_neg (fun hc => h5 hc.2.2.2.2)]
          exact no _ (by simp; omega)
      · rw [if_neg (fun hc => h4 hc.2.2.2.1)]
        exact Ev.neg h4 (no _ rfl)
    · rw [if_neg (fun hc => h3 hc.2.2.1)]
      exact Ev.neg h3 (no _ rfl)
  · rw [if_neg (fun hc => h1 ⟨hc.1, hc.2.1⟩)]
    exact Ev.neg (by simp; omega) (no _ rfl)
end Go.Proofs.Ytmliabppmobliaa.Pure
