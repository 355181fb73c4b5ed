/- Chapter 7: opening turns pass their numbers as often as told; all numbers together pass once for each mark; IsOpening of both sides at short codes. -/
import Derived.Test.YtbncaiombmekhaaRBx0
import Derived.Test.YtbncaiombmekhaaRBx3
import Derived.Test.YtbncaiombmekhaaRBx4
import Derived.Test.YtbncaiombmekhaaRBx6
import Derived.Test.YtbncaiombmekhaaRDialG
import Derived.Test.YtbncaiombmekhaaRDialD
namespace Go.Proofs.YtbncaiombmekhaaR.Pure
open Go.RowKit Go.Proofs.YtbncaiombmekhaaR.B Go.Proofs.YtbncaiombmekhaaRW.PrintWords Go.Proofs.YtbncaiombmekhaaRW.PrintLast Go.Proofs.YtbncaiombmekhaaRW.PrintMore
set_option linter.unusedVariables false
theorem aSame_ev (xs : List Int) (hn : xs.length < 1099511627776) : Ev (fun k => laws_aSame.f k xs xs) true := by
  have key : ∀ (d i : Nat), i + d = xs.length → Ev (fun k => laws_aSame.l0 k xs xs (xs.length : Int) (i : Int)) true := by
    intro d
    induction d with
    | zero =>
      intro i hi
      refine Ev.step (fun k => by rw [laws_aSame.l0]) ?_
      exact Ev.neg (by omega) (Ev.now _)
    | succ d ih =>
      intro i hi
      refine Ev.step (fun k => by rw [laws_aSame.l0]) ?_
      refine Ev.pos (by omega) (Ev.pos (by omega) (Ev.pos (by omega) (Ev.pos (by omega) (Ev.pos rfl ?_))))
      rw [w64n (by omega)]
      exact ih (i + 1) (by omega)
  unfold laws_aSame.f
  exact Ev.pos rfl (key xs.length 0 (by omega))
theorem aSum_ev (xs : List Int) (hn : xs.length ≤ 100) (hx : ∀ x ∈ xs, -100000 ≤ x ∧ x ≤ 100000) : Ev (fun k => laws_aSum.f k xs) (lenP xs) := by
  have key : ∀ (d i : Nat) (acc : Int), i + d = xs.length → 0 ≤ acc → acc ≤ (i : Int) * 100000 → Ev (fun k => laws_aSum.l0 k acc xs (xs.length : Int) (i : Int)) (acc + lenP (xs.drop i)) := by
    intro d
    induction d with
    | zero =>
      intro i acc hi h0 h1
      refine Ev.step (fun k => by rw [laws_aSum.l0]) ?_
      refine Ev.neg (by omega) (Ev.val (Ev.now _) ?_)
      rw [List.drop_eq_nil_of_le (by omega), lenP]
      omega
    | succ d ih =>
      intro i acc hi h0 h1
      have h2 : i < xs.length := by omega
      have hb := hx _ (List.getElem_mem h2)
      have h3 : ((i + 1 : Nat) : Int) * 100000 = (i : Int) * 100000 + 100000 := by omega
      refine Ev.step (fun k => by rw [laws_aSum.l0]) ?_
      rw [rd_nat h2, w64n (by omega), List.drop_eq_getElem_cons h2, lenP]
      refine Ev.pos (by omega) (Ev.pos (by omega) (Ev.pos (by omega) ?_))
      by_cases hs : xs[i] < 0
      · rw [w64 (x := -xs[i]) (by omega) (by omega), w64 (x := acc + -xs[i]) (by omega) (by omega)]
        exact Ev.pos hs (Ev.val (ih (i + 1) (acc + -xs[i]) (by omega) (by omega) (by omega)) (by omega))
      · rw [w64 (x := acc + xs[i]) (by omega) (by omega)]
        exact Ev.neg hs (Ev.val (ih (i + 1) (acc + xs[i]) (by omega) (by omega) (by omega)) (by omega))
  unfold laws_aSum.f
  exact Ev.val (key xs.length 0 0 (by omega) (by omega) (by omega)) (by simp)
/-! passes -/
theorem pass_open (m s n by_ : Int) (L : Nat) (hm : 2 ≤ m) (hb : by_ = 1 ∨ by_ = -1) (hn : 0 ≤ n ∧ n ≤ m - 1) :
    passN m by_ n (firstP m s n by_ + (L : Int) * m).toNat s = (L : Int) + 1 := by
  have h1 := (firstP_bound m s n by_ hm).1
  have h2 : 0 ≤ (L : Int) * m := Int.mul_nonneg (by omega) (by omega)
  rw [passN_eq m by_ n hm hb (by omega), Int.toNat_of_nonneg (by omega), if_neg (by omega)]
  have e : firstP m s n by_ + (L : Int) * m - firstP m s n by_ = (L : Int) * m := by omega
  rw [e, Int.mul_ediv_cancel _ (by omega)]
theorem step_size (m s n by_ : Int) (L : Nat) (hm : 2 ≤ m) (hb : by_ = 1 ∨ by_ = -1) : (by_ * (firstP m s n by_ + (L : Int) * m) > 0 ↔ by_ = 1) ∧ max (by_ * (firstP m s n by_ + (L : Int) * m)) (-(by_ * (firstP m s n by_ + (L : Int) * m))) = firstP m s n by_ + (L : Int) * m := by
  have h1 := (firstP_bound m s n by_ hm).1
  have h2 : 0 ≤ (L : Int) * m := Int.mul_nonneg (by omega) (by omega)
  rcases hb with rfl | rfl
  · constructor <;> omega
  · constructor <;> omega
theorem passes_open (m s n by_ : Int) (L : Nat) (hm : 2 ≤ m ∧ m ≤ 100) (hs : 0 ≤ s ∧ s ≤ m - 1) (hb : by_ = 1 ∨ by_ = -1) (hn : 0 ≤ n ∧ n ≤ m - 1) (hok : stepOk (by_ * (firstP m s n by_ + (L : Int) * m)) = true) :
    passesV m s (by_ * (firstP m s n by_ + (L : Int) * m)) n = ((L : Int) + 1, true) := by
  obtain ⟨h1, h2⟩ := step_size m s n by_ L hm.1 hb
  unfold passesV
  rw [if_pos ⟨hm, hs, hok, hn⟩, h2]
  have e : (if by_ * (firstP m s n by_ + (L : Int) * m) > 0 then (1 : Int) else -1) = by_ := by
    rcases hb with rfl | rfl
    · rw [if_pos (h1.mpr rfl)]
    · rw [if_neg (fun hc => by have := h1.mp hc; omega)]
  rw [e, pass_open m s n by_ L hm.1 hb hn]
/-- How often each passes: about as often. -/
theorem passN_div (m by_ n : Int) (hm : 2 ≤ m) (hb : by_ = 1 ∨ by_ = -1) (hn : 0 ≤ n ∧ n < m) (N : Nat) (s : Int) : (N : Int) / m ≤ passN m by_ n N s ∧ passN m by_ n N s ≤ (N : Int) / m + 1 := by
  have hf := firstP_bound m s n by_ hm
  rw [passN_eq m by_ n hm hb hn]
  have hd := Int.mul_ediv_add_emod (N : Int) m
  have hr0 := Int.emod_nonneg (N : Int) (show m ≠ 0 by omega)
  have hr1 := Int.emod_lt_of_pos (N : Int) (show 0 < m by omega)
  have hq : 0 ≤ (N : Int) / m := Int.ediv_nonneg (by omega) (by omega)
  by_cases h : (N : Int) < firstP m s n by_
  · rw [if_pos h]
    by_cases hlt : (N : Int) < m
    · rw [Int.ediv_eq_zero_of_lt (by omega) hlt]
      omega
    · have e : (N : Int) = m - 1 + 1 := by omega
      omega
  · rw [if_neg h]
    have h1 : ((N : Int) - firstP m s n by_) / m ≤ (N : Int) / m := Int.ediv_le_ediv (by omega) (by omega)
    have h2 : ((N : Int) - m) / m ≤ ((N : Int) - firstP m s n by_) / m := Int.ediv_le_ediv (by omega) (by omega)
    have h3 : ((N : Int) - m) / m = (N : Int) / m - 1 := by
      rw [show (N : Int) - m = (N : Int) + (-1) * m by omega, Int.add_mul_ediv_right _ _ (by omega)]
      omega
    omega
def sumTo (F : Nat → Int) : Nat → Int
  | 0 => 0
  | n + 1 => sumTo F n + F n
theorem sumTo_add (F G : Nat → Int) : ∀ n, sumTo (fun i => F i + G i) n = sumTo F n + sumTo G n
  | 0 => rfl
  | n + 1 => by simp only [sumTo, sumTo_add F G n]; omega
theorem sumTo_one (t : Int) (h0 : 0 ≤ t) : ∀ n : Nat, sumTo (fun i => if t = (i : Int) then (1 : Int) else 0) n = if t < (n : Int) then 1 else 0
  | 0 => by rw [if_neg (by omega)]; rfl
  | n + 1 => by
    simp only [sumTo, sumTo_one t h0 n]
    split <;> split <;> split <;> omega
theorem sumTo_zero : ∀ n, sumTo (fun _ => (0 : Int)) n = 0
  | 0 => rfl
  | n + 1 => by simp only [sumTo, sumTo_zero n]; omega
theorem passN_sum (m by_ : Int) (hm : 2 ≤ m) : ∀ (N : Nat) (s : Int), sumTo (fun i => passN m by_ (i : Int) N s) m.toNat = (N : Int)
  | 0, s => by simp only [passN]; exact sumTo_zero _
  | N + 1, s => by
    have e : (fun i : Nat => passN m by_ (i : Int) (N + 1) s) = fun i : Nat => (if (s + by_) % m = (i : Int) then (1 : Int) else 0) + passN m by_ (i : Int) N ((s + by_) % m) := by
      funext i
      rw [passN]
    rw [e, sumTo_add, sumTo_one _ (Int.emod_nonneg _ (by omega)), passN_sum m by_ hm N, if_pos (by have := Int.emod_lt_of_pos (s + by_) (show 0 < m by omega); omega)]
    omega
theorem sumTo_bd (F : Nat → Int) (B : Int) (hF : ∀ i, 0 ≤ F i ∧ F i ≤ B) : ∀ n : Nat, 0 ≤ sumTo F n ∧ sumTo F n ≤ (n : Int) * B
  | 0 => by simp [sumTo]
  | n + 1 => by
    have h1 := sumTo_bd F B hF n
    have h2 := hF n
    have h3 : ((n + 1 : Nat) : Int) * B = (n : Int) * B + B := by rw [Int.natCast_add, Int.add_mul]; simp
    simp only [sumTo]
    omega
/-! IsOpening -/
def isV (m s : Int) (own l : List Int) : Bool × Bool := if (2 ≤ m ∧ m ≤ 100) ∧ (0 ≤ s ∧ s ≤ m - 1) ∧ codeOk m own = true ∧ stepsOk l = true then (decide (openL m 1 s own = l), true) else (false, false)
theorem small_open (m s : Int) (own : List Int) (hm : 2 ≤ m ∧ m ≤ 100) (hl : own.length ≤ 10) : smallAll (openL m 1 s own) = true := by
  unfold smallAll
  rw [List.all_eq_true]
  intro x hx
  have := openL_bound m hm own 1 s (.inl rfl) x hx
  exact decide_eq_true (by omega)
theorem implIs_ev (m s : Int) (own l : List Int) (hl : own.length ≤ 10) (hn : l.length < 1000000) : Ev (fun k => impl_IsOpening.f k m s own l) (isV m s own l) := by
  unfold impl_IsOpening.f isV
  refine Ev.bind (implOpeningTurns_ev m s own (by omega)) ?_
  unfold openingV
  by_cases h : (2 ≤ m ∧ m ≤ 100) ∧ (0 ≤ s ∧ s ≤ m - 1) ∧ codeOk m own = true
  · rw [if_pos ⟨h.1, h.2.1, h.2.2, small_open m s own h.1 hl⟩]
    refine Ev.pos rfl (Ev.let_ (areSteps_some l) ?_)
    by_cases h2 : stepsOk l = true
    · rw [if_pos ⟨h.1, h.2.1, h.2.2, h2⟩]
      exact Ev.pos h2 (Ev.bind (implEqual_ev _ l (by rw [openL_length]; omega)) (Ev.now _))
    · rw [if_neg (fun hc => h2 hc.2.2.2)]
      exact Ev.neg h2 (Ev.now _)
  · rw [if_neg (fun hc => h ⟨hc.1, hc.2.1, hc.2.2.1⟩), if_neg (fun hc => h ⟨hc.1, hc.2.1, hc.2.2.1⟩)]
    exact Ev.neg (by decide) (Ev.now _)
theorem specIs_ev (m s : Int) (own l : List Int) (hl : own.length ≤ 10) (hn : l.length < 1000000) : Ev (fun k => spec_IsOpening.f k m s own l) (isV m s own l) := by
  have no : ∀ x : Bool, x = true → Ev (fun K => spec_IsOpening.j0 K m s own l x) (false, false) := by
    intro x hx
    refine Ev.step (fun k => by rw [spec_IsOpening.j0]) ?_
    exact Ev.pos hx (Ev.now _)
  unfold spec_IsOpening.f isV
  refine Ev.let_ (diAsked_some m s) ?_
  by_cases h : (2 ≤ m ∧ m ≤ 100) ∧ 0 ≤ s ∧ s ≤ m - 1
  · refine Ev.pos (decide_eq_true h) (Ev.bind (diCode_ev m h.1 own (by omega)) ?_)
    by_cases h2 : codeOk m own = true
    · refine Ev.pos h2 (Ev.bind (diSteps_ev l (by omega)) ?_)
      refine Ev.step (fun k => by rw [spec_IsOpening.j0]) ?_
      by_cases h3 : stepsOk l = true
      · rw [if_pos ⟨h.1, h.2, h2, h3⟩]
        exact Ev.neg (by simp [h3]) (Ev.bind (specOpen_ev m s h.1 h.2 own h2) (Ev.bind (specSame_ev _ l (by rw [openL_length]; omega)) (Ev.now _)))
      · rw [if_neg (fun hc => h3 hc.2.2.2)]
        exact Ev.pos (by simp [h3]) (Ev.now _)
    · rw [if_neg (fun hc => h2 hc.2.2.1)]
      exact Ev.neg h2 (no _ rfl)
  · rw [if_neg (fun hc => h ⟨hc.1, hc.2.1⟩)]
    exact Ev.neg (by simpa using h) (no _ rfl)
end Go.Proofs.YtbncaiombmekhaaR.Pure
