/- Chapter 7, steps: which lists are steps, their stops, the other and the backward turns, slices turned round; no condition beyond those stated. -/
import Derived.Test.YtbncaiombmekhaaRBx0
import Derived.Test.YtbncaiombmekhaaRBx1
import Derived.Test.YtbncaiombmekhaaRBx2
import Derived.Test.YtbncaiombmekhaaRBx3
import Derived.Test.YtbncaiombmekhaaRBx4
import Derived.Test.YtbncaiombmekhaaRBx5
import Derived.Test.YtbncaiombmekhaaRDialA0
namespace Go.Proofs.YtbncaiombmekhaaR.Pure
open Go.RowKit Go.Proofs.YtbncaiombmekhaaR.B Go.Proofs.YtbncaiombmekhaaRW.PrintWords Go.Proofs.YtbncaiombmekhaaRW.PrintLast Go.Proofs.YtbncaiombmekhaaRW.PrintMore
set_option linter.unusedVariables false

def stepOk (x : Int) : Bool := decide (x ≠ 0 ∧ -1000 ≤ x ∧ x ≤ 1000)
def stepsOk (l : List Int) : Bool := decide (l.length ≤ 12) && l.all stepOk
theorem stepOk_iff {x : Int} : stepOk x = true ↔ x ≠ 0 ∧ -1000 ≤ x ∧ x ≤ 1000 := by unfold stepOk; exact decide_eq_true_iff
theorem stepsOk_iff {l : List Int} : stepsOk l = true ↔ l.length ≤ 12 ∧ ∀ x ∈ l, x ≠ 0 ∧ -1000 ≤ x ∧ x ≤ 1000 := by
  unfold stepsOk
  rw [Bool.and_eq_true, decide_eq_true_iff, List.all_eq_true]
  simp only [stepOk_iff]

theorem areSteps_some (l : List Int) : impl_areSteps.f l = some (stepsOk l) := rfl
theorem diStep_some (x : Int) : spec_diStep.f x = some (stepOk x) := by
  unfold spec_diStep.f stepOk
  rw [l1In_some]
  by_cases h : x = 0
  · rw [if_pos h]; simp [h]
  · rw [if_neg h]; simp [h]
theorem diSteps_l0 (xs : List Int) (hn : xs.length < 1099511627776) : ∀ (d i : Nat), i + d = xs.length →
    Ev (fun k => spec_diSteps.l0 k xs (xs.length : Int) (i : Int)) ((xs.drop i).all stepOk) := by
  intro d
  induction d with
  | zero =>
    intro i hi
    refine Ev.step (fun k => by rw [spec_diSteps.l0]) ?_
    refine Ev.neg (by omega) (Ev.val (Ev.now _) ?_)
    rw [List.drop_eq_nil_of_le (by omega)]
    rfl
  | succ d ih =>
    intro i hi
    have h1 : i < xs.length := by omega
    refine Ev.step (fun k => by rw [spec_diSteps.l0]) ?_
    refine Ev.pos (by omega) (Ev.pos (by omega) (Ev.pos (by omega) ?_))
    rw [rd_nat h1, w64n (by omega)]
    refine Ev.let_ (diStep_some _) ?_
    rw [List.drop_eq_getElem_cons h1, List.all_cons]
    by_cases he : stepOk xs[i] = true
    · refine Ev.pos he (Ev.val (ih (i + 1) (by omega)) ?_)
      rw [he, Bool.true_and]
    · refine Ev.neg he (Ev.val (Ev.now _) ?_)
      rw [Bool.eq_false_iff.mpr he, Bool.false_and]
theorem diSteps_ev (xs : List Int) (hn : xs.length < 1099511627776) : Ev (fun k => spec_diSteps.f k xs) (stepsOk xs) := by
  unfold spec_diSteps.f stepsOk
  by_cases h : (xs.length : Int) > 12
  · refine Ev.pos h (Ev.val (Ev.now _) ?_)
    rw [decide_eq_false (by omega), Bool.false_and]
  · refine Ev.neg h (Ev.val (diSteps_l0 xs hn xs.length 0 (by omega)) ?_)
    rw [decide_eq_true (by omega), Bool.true_and, List.drop_zero]
theorem diAsked_some (m s : Int) : spec_diAsked.f m s = some (decide ((2 ≤ m ∧ m ≤ 100) ∧ 0 ≤ s ∧ s ≤ m - 1)) := by
  unfold spec_diAsked.f
  rw [diMarks_some]
  by_cases h : 2 ≤ m ∧ m ≤ 100
  · rw [w64 (by omega) (by omega), l1In_some]
    simp [h]
  · simp [h]
theorem isDial_one (m s : Int) : impl_isDial.f m [s] = some (decide ((2 ≤ m ∧ m ≤ 100) ∧ 0 ≤ s ∧ s ≤ m - 1)) := by
  rw [isDial_some _ _ (by simp)]
  by_cases h : 2 ≤ m ∧ m ≤ 100 <;> simp [h]

/-- The stops of steps. -/
def stopsP (m : Int) : Int → List Int → List Int
  | _, [] => []
  | s, x :: xs => (s + x) % m :: stopsP m ((s + x) % m) xs
theorem stopsP_length (m : Int) : ∀ (l : List Int) (s : Int), (stopsP m s l).length = l.length
  | [], _ => rfl
  | x :: xs, s => by simp [stopsP, stopsP_length m xs]
theorem specStops_l0 (m : Int) (hm : 2 ≤ m ∧ m ≤ 100) (xs : List Int) (hn : xs.length < 1000) (hx : ∀ x ∈ xs, -1000 ≤ x ∧ x ≤ 1000) : ∀ (d i : Nat) (s : Int) (acc : List Int), i + d = xs.length → acc.length = i → 0 ≤ s → s ≤ 1000 →
    Ev (fun k => spec_StopsOf.l0 k m s acc xs (xs.length : Int) (i : Int)) (acc ++ stopsP m s (xs.drop i), true) := by
  intro d
  induction d with
  | zero =>
    intro i s acc hi _ _ _
    refine Ev.step (fun k => by rw [spec_StopsOf.l0]) ?_
    refine Ev.neg (by omega) (Ev.val (Ev.now _) ?_)
    rw [List.drop_eq_nil_of_le (by omega)]
    simp [stopsP]
  | succ d ih =>
    intro i s acc hi ha h0 h2
    have h1 : i < xs.length := by omega
    have hb := hx _ (List.getElem_mem h1)
    refine Ev.step (fun k => by rw [spec_StopsOf.l0]) ?_
    refine Ev.pos (by omega) (Ev.pos (by omega) (Ev.pos (by omega) ?_))
    rw [rd_nat h1, w64n (by omega), w64 (x := s + xs[i]) (by omega) (by omega)]
    refine Ev.let_ (l1Mod_some _ m hm.1 (by omega)) ?_
    refine Ev.pos (by omega) ?_
    have e1 : 0 ≤ (s + xs[i]) % m := Int.emod_nonneg _ (by omega)
    have e2 : (s + xs[i]) % m < m := Int.emod_lt_of_pos _ (by omega)
    refine Ev.val (ih (i + 1) _ _ (by omega) (by simp [ha]) e1 (by omega)) ?_
    rw [List.drop_eq_getElem_cons h1, stopsP]
    simp
theorem stops_l0 (m : Int) (hm : 2 ≤ m ∧ m ≤ 100) (xs : List Int) (hn : xs.length < 1000) (hx : ∀ x ∈ xs, -1000 ≤ x ∧ x ≤ 1000) : ∀ (d i : Nat) (s : Int) (acc : List Int), i + d = xs.length → acc.length = i → 0 ≤ s → s ≤ 1000 →
    Ev (fun k => impl_stops.l0 k m s acc xs (xs.length : Int) (i : Int)) (acc ++ stopsP m s (xs.drop i)) := by
  intro d
  induction d with
  | zero =>
    intro i s acc hi _ _ _
    refine Ev.step (fun k => by rw [impl_stops.l0]) ?_
    refine Ev.neg (by omega) (Ev.val (Ev.now _) ?_)
    rw [List.drop_eq_nil_of_le (by omega)]
    simp [stopsP]
  | succ d ih =>
    intro i s acc hi ha h0 h2
    have h1 : i < xs.length := by omega
    have hb := hx _ (List.getElem_mem h1)
    refine Ev.step (fun k => by rw [impl_stops.l0]) ?_
    refine Ev.pos (by omega) (Ev.pos (by omega) (Ev.pos (by omega) ?_))
    rw [rd_nat h1, w64n (by omega), w64 (x := s + xs[i]) (by omega) (by omega)]
    refine Ev.let_ (around_some _ m hm.1 (by omega)) ?_
    refine Ev.pos (by omega) ?_
    have e1 : 0 ≤ (s + xs[i]) % m := Int.emod_nonneg _ (by omega)
    have e2 : (s + xs[i]) % m < m := Int.emod_lt_of_pos _ (by omega)
    refine Ev.val (ih (i + 1) _ _ (by omega) (by simp [ha]) e1 (by omega)) ?_
    rw [List.drop_eq_getElem_cons h1, stopsP]
    simp
theorem stops_ev (m s : Int) (hm : 2 ≤ m ∧ m ≤ 100) (hs : 0 ≤ s ∧ s ≤ m - 1) (xs : List Int) (hx : stepsOk xs = true) : Ev (fun k => impl_stops.f k m s xs) (stopsP m s xs) := by
  rw [stepsOk_iff] at hx
  unfold impl_stops.f
  have := stops_l0 m hm xs (by omega) (fun x h => (hx.2 x h).2) xs.length 0 s [] (by omega) rfl (by omega) (by omega)
  simpa using this
/-- What both StopsOf return. -/
def stopsV (m s : Int) (xs : List Int) : List Int × Bool := if (2 ≤ m ∧ m ≤ 100) ∧ (0 ≤ s ∧ s ≤ m - 1) ∧ stepsOk xs = true then (stopsP m s xs, true) else ([], false)
theorem specStopsOf_ev (m s : Int) (xs : List Int) (hn : xs.length < 1099511627776) : Ev (fun k => spec_StopsOf.f k m s xs) (stopsV m s xs) := by
  unfold spec_StopsOf.f stopsV
  refine Ev.let_ (diAsked_some m s) ?_
  by_cases h : (2 ≤ m ∧ m ≤ 100) ∧ 0 ≤ s ∧ s ≤ m - 1
  · refine Ev.pos (by simp; omega) ?_
    refine Ev.bind (diSteps_ev xs hn) ?_
    refine Ev.step (fun k => by rw [spec_StopsOf.j0]) ?_
    by_cases hx : stepsOk xs = true
    · refine Ev.neg (by simp [hx]) ?_
      rw [if_pos ⟨h.1, h.2, hx⟩]
      have hx' := stepsOk_iff.mp hx
      have := specStops_l0 m h.1 xs (by omega) (fun x h => (hx'.2 x h).2) xs.length 0 s [] (by omega) rfl (by omega) (by omega)
      simpa using this
    · refine Ev.pos (by simp [hx]) (Ev.val (Ev.now _) ?_)
      rw [if_neg (by simp [hx])]
  · refine Ev.neg (by simp; omega) ?_
    refine Ev.step (fun k => by rw [spec_StopsOf.j0]) ?_
    refine Ev.pos rfl (Ev.val (Ev.now _) ?_)
    rw [if_neg (by intro hc; exact h ⟨hc.1, hc.2.1⟩)]
theorem implStopsOf_ev (m s : Int) (xs : List Int) : Ev (fun k => impl_StopsOf.f k m s xs) (stopsV m s xs) := by
  unfold impl_StopsOf.f stopsV
  refine Ev.let_ (isDial_one m s) ?_
  by_cases h : (2 ≤ m ∧ m ≤ 100) ∧ 0 ≤ s ∧ s ≤ m - 1
  · refine Ev.pos (by simp; omega) ?_
    refine Ev.let_ (areSteps_some xs) ?_
    by_cases hx : stepsOk xs = true
    · refine Ev.pos hx ?_
      rw [if_pos ⟨h.1, h.2, hx⟩]
      exact Ev.bind (stops_ev m s h.1 h.2 xs hx) (Ev.now _)
    · refine Ev.neg hx (Ev.val (Ev.now _) ?_)
      rw [if_neg (by simp [hx])]
  · refine Ev.neg (by simp; omega) (Ev.val (Ev.now _) ?_)
    rw [if_neg (by intro hc; exact h ⟨hc.1, hc.2.1⟩)]
theorem stopsV_length (m s : Int) (xs : List Int) : (stopsV m s xs).1.length ≤ xs.length := by
  unfold stopsV
  split
  · exact Nat.le_of_eq (stopsP_length m xs s)
  · simp
end Go.Proofs.YtbncaiombmekhaaR.Pure
