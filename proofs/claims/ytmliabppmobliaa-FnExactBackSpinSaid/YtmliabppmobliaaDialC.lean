/- Chapter 7: the turns with the other sign and the turns back. -/
import Derived.Test.YtmliabppmobliaaQx0
import Derived.Test.YtmliabppmobliaaQx3
import Derived.Test.YtmliabppmobliaaQx7
import Derived.Test.YtmliabppmobliaaDialB
namespace Go.Proofs.Ytmliabppmobliaa.Pure
open Go.RowKit Go.Proofs.Ytmliabppmobliaa.Q Go.Proofs.YtmliabppmobliaaW.PrintWords Go.Proofs.YtmliabppmobliaaW.PrintLast Go.Proofs.YtmliabppmobliaaW.PrintMore
set_option linter.unusedVariables false

def otherV (xs : List Int) : List Int × Bool := if stepsOk xs = true then (xs.map (fun x => -x), true) else ([], false)
theorem specOther_l0 (xs : List Int) (hn : xs.length < 1000) (hx : ∀ x ∈ xs, -1000 ≤ x ∧ x ≤ 1000) : ∀ (d i : Nat) (acc : List Int), i + d = xs.length → acc.length = i →
    Ev (fun k => spec_OtherTurns.l0 k acc xs (xs.length : Int) (i : Int)) (acc ++ (xs.drop i).map (fun x => -x), true) := by
  intro d
  induction d with
  | zero =>
    intro i acc hi _
    refine Ev.step (fun k => by rw [spec_OtherTurns.l0]) ?_
    refine Ev.neg (by omega) (Ev.val (Ev.now _) ?_)
    rw [List.drop_eq_nil_of_le (by omega)]
    simp
  | succ d ih =>
    intro i acc hi ha
    have h1 : i < xs.length := by omega
    have hb := hx _ (List.getElem_mem h1)
    refine Ev.step (fun k => by rw [spec_OtherTurns.l0]) ?_
    refine Ev.pos (by omega) (Ev.pos (by omega) (Ev.pos (by omega) (Ev.pos (by omega) ?_)))
    rw [rd_nat h1, w64n (by omega), w64 (x := -xs[i]) (by omega) (by omega)]
    refine Ev.val (ih (i + 1) _ (by omega) (by simp [ha])) ?_
    rw [List.drop_eq_getElem_cons h1]
    simp only [List.map_cons, List.append_assoc, List.cons_append, List.nil_append]
theorem implOther_l0 (xs : List Int) (hn : xs.length < 1000) (hx : ∀ x ∈ xs, -1000 ≤ x ∧ x ≤ 1000) : ∀ (d i : Nat) (acc : List Int), i + d = xs.length → acc.length = i →
    Ev (fun k => impl_OtherTurns.l0 k acc xs (xs.length : Int) (i : Int)) (acc ++ (xs.drop i).map (fun x => -x), true) := by
  intro d
  induction d with
  | zero =>
    intro i acc hi _
    refine Ev.step (fun k => by rw [impl_OtherTurns.l0]) ?_
    refine Ev.neg (by omega) (Ev.val (Ev.now _) ?_)
    rw [List.drop_eq_nil_of_le (by omega)]
    simp
  | succ d ih =>
    intro i acc hi ha
    have h1 : i < xs.length := by omega
    have hb := hx _ (List.getElem_mem h1)
    refine Ev.step (fun k => by rw [impl_OtherTurns.l0]) ?_
    refine Ev.pos (by omega) (Ev.pos (by omega) (Ev.pos (by omega) (Ev.pos (by omega) ?_)))
    rw [rd_nat h1, w64n (by omega), w64 (x := -xs[i]) (by omega) (by omega)]
    refine Ev.val (ih (i + 1) _ (by omega) (by simp [ha])) ?_
    rw [List.drop_eq_getElem_cons h1]
    simp only [List.map_cons, List.append_assoc, List.cons_append, List.nil_append]
theorem specOther_ev (xs : List Int) (hn : xs.length < 1099511627776) : Ev (fun k => spec_OtherTurns.f k xs) (otherV xs) := by
  unfold spec_OtherTurns.f otherV
  refine Ev.bind (diSteps_ev xs hn) ?_
  by_cases hx : stepsOk xs = true
  · have hx' := stepsOk_iff.mp hx
    rw [if_pos hx]
    refine Ev.pos hx ?_
    have := specOther_l0 xs (by omega) (fun x h => (hx'.2 x h).2) xs.length 0 [] (by omega) rfl
    simpa using this
  · rw [if_neg hx]
    exact Ev.neg hx (Ev.now _)
theorem implOther_ev (xs : List Int) : Ev (fun k => impl_OtherTurns.f k xs) (otherV xs) := by
  unfold impl_OtherTurns.f otherV
  refine Ev.let_ (areSteps_some xs) ?_
  by_cases hx : stepsOk xs = true
  · have hx' := stepsOk_iff.mp hx
    rw [if_pos hx]
    refine Ev.pos hx ?_
    have := implOther_l0 xs (by omega) (fun x h => (hx'.2 x h).2) xs.length 0 [] (by omega) rfl
    simpa using this
  · rw [if_neg hx]
    exact Ev.neg hx (Ev.now _)
theorem otherV_length (xs : List Int) : (otherV xs).1.length ≤ xs.length := by
  unfold otherV
  split <;> simp

/-- Back: the same, in the other order. -/
def backV (xs : List Int) : List Int × Bool := if stepsOk xs = true then ((xs.map (fun x => -x)).reverse, true) else ([], false)
theorem backV_length (xs : List Int) : (backV xs).1.length ≤ xs.length := by
  unfold backV
  split <;> simp
theorem specBack_l0 (xs : List Int) (hn : xs.length < 1000) (hx : ∀ x ∈ xs, -1000 ≤ x ∧ x ≤ 1000) : ∀ (d : Nat) (acc : List Int), d ≤ xs.length → acc.length + d = xs.length →
    Ev (fun k => spec_BackSpin.l0 k xs acc ((d : Int) - 1)) (acc ++ ((xs.take d).map (fun x => -x)).reverse, true) := by
  intro d
  induction d with
  | zero =>
    intro acc _ _
    refine Ev.step (fun k => by rw [spec_BackSpin.l0]) ?_
    refine Ev.neg (by omega) (Ev.val (Ev.now _) ?_)
    simp
  | succ d ih =>
    intro acc hd ha
    have h1 : d < xs.length := by omega
    have hb := hx _ (List.getElem_mem h1)
    have e : ((d + 1 : Nat) : Int) - 1 = (d : Int) := by omega
    rw [e]
    refine Ev.step (fun k => by rw [spec_BackSpin.l0]) ?_
    refine Ev.pos (by omega) (Ev.pos (by omega) (Ev.pos (by omega) (Ev.pos (by omega) ?_)))
    rw [rd_nat h1, w64 (x := (d : Int) - 1) (by omega) (by omega), w64 (x := -xs[d]) (by omega) (by omega)]
    refine Ev.val (ih _ (by omega) (by simp; omega)) ?_
    rw [List.take_succ_eq_append_getElem h1, List.map_append, List.reverse_append, List.map_cons, List.map_nil, List.reverse_singleton, List.append_assoc]
theorem specBack_ev (xs : List Int) (hn : xs.length < 1099511627776) : Ev (fun k => spec_BackSpin.f k xs) (backV xs) := by
  unfold spec_BackSpin.f backV
  refine Ev.bind (diSteps_ev xs hn) ?_
  by_cases hx : stepsOk xs = true
  · have hx' := stepsOk_iff.mp hx
    rw [if_pos hx]
    refine Ev.pos hx ?_
    have := specBack_l0 xs (by omega) (fun x h => (hx'.2 x h).2) xs.length [] (by omega) (by simp)
    rw [w64 (by omega) (by omega)]
    simpa using this
  · rw [if_neg hx]
    exact Ev.neg hx (Ev.now _)
theorem reverse_l0 (xs : List Int) (hn : xs.length < 1099511627776) : ∀ (d i : Nat) (ys : List Int), 2 * i + d = xs.length → ys.length = xs.length →
    (∀ p, p < xs.length → ys[p]? = if p < i ∨ xs.length ≤ p + i then xs[xs.length - 1 - p]? else xs[p]?) →
    Ev (fun k => slices_Reverse_int_int.l0 k ys (i : Int) ((xs.length : Int) - 1 - (i : Int))) xs.reverse := by
  intro d
  induction d using Nat.strongRecOn with
  | _ d ih =>
    intro i ys hi hl hp
    refine Ev.step (fun k => by rw [slices_Reverse_int_int.l0]) ?_
    by_cases hlt : 2 ≤ d
    · have h1 : i < ys.length := by omega
      have h2 : xs.length - 1 - i < ys.length := by omega
      have e2 : (xs.length : Int) - 1 - (i : Int) = ((xs.length - 1 - i : Nat) : Int) := by omega
      refine Ev.pos (by omega) (Ev.pos (by omega) (Ev.pos (by omega) (Ev.pos (by omega) (Ev.pos (by omega) ?_))))
      rw [e2, rd_nat h1, rd_nat h2, w64n (by omega), w64 (x := ((xs.length - 1 - i : Nat) : Int) - 1) (by omega) (by omega), Int.toNat_natCast, Int.toNat_natCast]
      have e3 : ((xs.length - 1 - i : Nat) : Int) - 1 = (xs.length : Int) - 1 - ((i + 1 : Nat) : Int) := by omega
      rw [e3]
      refine ih (d - 2) (by omega) (i + 1) _ (by omega) (by simp [hl]) ?_
      intro p hpl
      have hpp := hp p hpl
      have hpi := hp i (by omega)
      have hpj := hp (xs.length - 1 - i) (by omega)
      rw [if_neg (by omega), List.getElem?_eq_getElem h1] at hpi
      rw [if_neg (by omega), List.getElem?_eq_getElem h2] at hpj
      rw [List.getElem?_set, List.getElem?_set]
      by_cases c1 : xs.length - 1 - i = p
      · rw [if_pos c1, if_pos (by simp; omega), if_pos (by omega), hpi]
        congr 1
        omega
      · rw [if_neg c1]
        by_cases c2 : i = p
        · rw [if_pos c2, if_pos (by omega), if_pos (by omega), hpj]
          congr 1
          omega
        · rw [if_neg c2, hpp]
          by_cases c3 : p < i ∨ xs.length ≤ p + i
          · rw [if_pos c3, if_pos (by omega)]
          · rw [if_neg c3, if_neg (by omega)]
    · refine Ev.neg (by omega) (Ev.val (Ev.now _) ?_)
      apply List.ext_getElem?
      intro p
      by_cases hpl : p < xs.length
      · rw [hp p hpl, List.getElem?_reverse hpl]
        by_cases c : p < i ∨ xs.length ≤ p + i
        · rw [if_pos c]
        · rw [if_neg c]
          congr 1
          omega
      · rw [List.getElem?_eq_none (by omega), List.getElem?_eq_none (by simp; omega)]
theorem reverse_ev (xs : List Int) (hn : xs.length < 1099511627776) : Ev (fun k => slices_Reverse_int_int.f k xs) xs.reverse := by
  unfold slices_Reverse_int_int.f
  rw [w64 (by omega) (by omega)]
  have := reverse_l0 xs hn xs.length 0 xs (by omega) rfl (by intro p hp; rw [if_neg (by omega)])
  simpa using this
theorem implBack_ev (xs : List Int) : Ev (fun k => impl_BackSpin.f k xs) (backV xs) := by
  unfold impl_BackSpin.f
  refine Ev.bind (implOther_ev xs) ?_
  have hl : (otherV xs).1.length < 1099511627776 := by
    unfold otherV
    by_cases h : stepsOk xs = true
    · rw [if_pos h]
      have := (stepsOk_iff.mp h).1
      simp
      omega
    · rw [if_neg h]
      simp
  refine Ev.bind (reverse_ev _ hl) (Ev.val (Ev.now _) ?_)
  unfold otherV backV
  split <;> rfl
end Go.Proofs.Ytmliabppmobliaa.Pure
