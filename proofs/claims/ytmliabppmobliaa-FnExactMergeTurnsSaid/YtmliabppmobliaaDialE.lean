/- Chapter 7: steps merged. -/
import Derived.Test.YtmliabppmobliaaQx0
import Derived.Test.YtmliabppmobliaaQx10
import Derived.Test.YtmliabppmobliaaDialD
namespace Go.Proofs.Ytmliabppmobliaa.Pure
open Go.RowKit Go.Proofs.Ytmliabppmobliaa.Q Go.Proofs.YtmliabppmobliaaW.PrintWords Go.Proofs.YtmliabppmobliaaW.PrintLast Go.Proofs.YtmliabppmobliaaW.PrintMore
set_option linter.unusedVariables false

def sameSign (y x : Int) : Bool := decide (y > 0) == decide (x > 0)
def mergeStep (acc : List Int) (x : Int) : List Int := match acc.getLast? with
  | some y => if sameSign y x = true then acc.dropLast ++ [y + x] else acc ++ [x]
  | none => [x]
theorem mergeStep_nil (x : Int) : mergeStep [] x = [x] := rfl
theorem mergeStep_snoc (ys : List Int) (y x : Int) : mergeStep (ys ++ [y]) x = if sameSign y x = true then ys ++ [y + x] else ys ++ [y] ++ [x] := by
  simp [mergeStep]
def mergeP (xs : List Int) : List Int := xs.foldl mergeStep []
def mergeV (xs : List Int) : List Int × Bool := if stepsOk xs = true ∧ stepsOk (mergeP xs) = true then (mergeP xs, true) else ([], false)
/-- What holds of the steps merged so far. -/
def MOk (i : Nat) (acc : List Int) : Prop := acc.length ≤ i ∧ ∀ z ∈ acc, z ≠ 0 ∧ -(1000 * (i : Int)) ≤ z ∧ z ≤ 1000 * (i : Int)
theorem MOk_step {i : Nat} {acc : List Int} {x : Int} (h : MOk i acc) (hx : x ≠ 0 ∧ -1000 ≤ x ∧ x ≤ 1000) : MOk (i + 1) (mergeStep acc x) := by
  obtain ⟨h1, h2⟩ := h
  rcases List.eq_nil_or_concat acc with rfl | ⟨ys, y, rfl⟩
  · rw [mergeStep_nil]
    refine ⟨by simp, ?_⟩
    intro z hz
    simp at hz
    subst hz
    omega
  · rw [List.concat_eq_append] at h1 h2 ⊢
    rw [mergeStep_snoc]
    have hy := h2 y (by simp)
    have hl : ys.length + 1 ≤ i := by simpa using h1
    by_cases hs : sameSign y x = true
    · rw [if_pos hs]
      refine ⟨by simp; omega, ?_⟩
      intro z hz
      rcases List.mem_append.mp hz with hz | hz
      · have := h2 z (List.mem_append_left _ hz)
        omega
      · simp at hz
        subst hz
        unfold sameSign at hs
        rw [beq_iff_eq, decide_eq_decide] at hs
        omega
    · rw [if_neg hs]
      refine ⟨by simp; omega, ?_⟩
      intro z hz
      rcases List.mem_append.mp hz with hz | hz
      · have := h2 z hz
        omega
      · simp at hz
        subst hz
        omega
theorem foldl_drop {i : Nat} {xs : List Int} (h : i < xs.length) (acc : List Int) : (xs.drop i).foldl mergeStep acc = (xs.drop (i + 1)).foldl mergeStep (mergeStep acc xs[i]) := by
  rw [List.drop_eq_getElem_cons h, List.foldl_cons]
theorem sign_same (y x : Int) (hy : y ≠ 0) (hx : x ≠ 0) : ((if y > 0 then (1 : Int) else if y < 0 then -1 else 0) = (if x > 0 then (1 : Int) else if x < 0 then -1 else 0)) ↔ sameSign y x = true := by
  unfold sameSign
  rw [beq_iff_eq, decide_eq_decide]
  by_cases h1 : y > 0 <;> by_cases h2 : x > 0 <;> simp [h1, h2] <;> split <;> (try split) <;> omega
theorem specMerge_l0 (xs : List Int) (hn : xs.length ≤ 12) (hx : ∀ x ∈ xs, x ≠ 0 ∧ -1000 ≤ x ∧ x ≤ 1000) : ∀ (d i : Nat) (acc : List Int), i + d = xs.length → MOk i acc →
    Ev (fun k => spec_MergeTurns.l0 k acc xs (xs.length : Int) (i : Int)) (if stepsOk ((xs.drop i).foldl mergeStep acc) = true then ((xs.drop i).foldl mergeStep acc, true) else ([], false)) := by
  intro d
  induction d with
  | zero =>
    intro i acc hi hm
    refine Ev.step (fun k => by rw [spec_MergeTurns.l0]) ?_
    refine Ev.neg (by omega) ?_
    rw [List.drop_eq_nil_of_le (by omega), List.foldl_nil]
    refine Ev.bind (diSteps_ev acc (by have := hm.1; omega)) ?_
    by_cases hs : stepsOk acc = true
    · exact Ev.pos hs (Ev.val (Ev.now _) (by rw [if_pos hs]))
    · exact Ev.neg hs (Ev.val (Ev.now _) (by rw [if_neg hs]))
  | succ d ih =>
    intro i acc hi hm
    have h1 : i < xs.length := by omega
    have hb := hx _ (List.getElem_mem h1)
    have hm' := MOk_step hm hb
    refine Ev.step (fun k => by rw [spec_MergeTurns.l0]) ?_
    refine Ev.pos (by omega) (Ev.pos (by omega) (Ev.pos (by omega) ?_))
    rw [rd_nat h1, w64n (by omega), foldl_drop h1]
    have ih' := ih (i + 1) _ (by omega) hm'
    obtain ⟨hm1, hm2⟩ := hm
    rcases List.eq_nil_or_concat acc with rfl | ⟨ys, y, rfl⟩
    · rw [mergeStep_nil] at ih' ⊢
      exact Ev.neg (by rw [w64 (by simp) (by simp)]; simp) (Ev.pos (by simp) ih')
    · rw [List.concat_eq_append] at ih' hm1 hm2 ⊢
      rw [mergeStep_snoc] at ih' ⊢
      have hy := hm2 y (by simp)
      have hl : ys.length + 1 ≤ i := by simpa using hm1
      have e1 : wrap64 (((ys ++ [y]).length : Int) - 1) = (ys.length : Int) := by
        have e0 : ((ys ++ [y]).length : Int) - 1 = (ys.length : Int) := by
          rw [List.length_append]
          simp
        rw [e0, w64 (by omega) (by omega)]
      have e2 : rd (ys ++ [y]) (ys.length : Int) = y := by
        rw [rd_nat (by simp)]
        simp
      rw [e1, e2, Int.toNat_natCast]
      refine Ev.pos (by omega) (Ev.pos (by omega) (Ev.pos (by simp; omega) ?_))
      refine Ev.let_ (l1Sign_some y) (Ev.let_ (l1Sign_some _) ?_)
      by_cases hs : sameSign y xs[i] = true
      · rw [if_pos hs] at ih' ⊢
        refine Ev.pos ((sign_same y _ hy.1 hb.1).mpr hs) ?_
        rw [w64 (x := y + xs[i]) (by omega) (by omega)]
        have e3 : (ys ++ [y]).set ys.length (y + xs[i]) = ys ++ [y + xs[i]] := by
          rw [List.set_append_right _ _ (by omega)]
          simp
        rw [e3]
        exact ih'
      · rw [if_neg hs] at ih' ⊢
        refine Ev.neg (fun h => hs ((sign_same y _ hy.1 hb.1).mp h)) (Ev.pos (by simp; omega) ?_)
        exact ih'
theorem implMerge_l0 (xs : List Int) (hn : xs.length ≤ 12) (hx : ∀ x ∈ xs, x ≠ 0 ∧ -1000 ≤ x ∧ x ≤ 1000) : ∀ (d i : Nat) (acc : List Int), i + d = xs.length → MOk i acc →
    Ev (fun k => impl_MergeTurns.l0 k acc xs (xs.length : Int) (i : Int)) (if stepsOk ((xs.drop i).foldl mergeStep acc) = true then ((xs.drop i).foldl mergeStep acc, true) else ([], false)) := by
  intro d
  induction d with
  | zero =>
    intro i acc hi hm
    refine Ev.step (fun k => by rw [impl_MergeTurns.l0]) ?_
    refine Ev.neg (by omega) ?_
    rw [List.drop_eq_nil_of_le (by omega), List.foldl_nil]
    refine Ev.let_ (areSteps_some acc) ?_
    by_cases hs : stepsOk acc = true
    · exact Ev.pos hs (Ev.val (Ev.now _) (by rw [if_pos hs]))
    · exact Ev.neg hs (Ev.val (Ev.now _) (by rw [if_neg hs]))
  | succ d ih =>
    intro i acc hi hm
    have h1 : i < xs.length := by omega
    have hb := hx _ (List.getElem_mem h1)
    have hm' := MOk_step hm hb
    refine Ev.step (fun k => by rw [impl_MergeTurns.l0]) ?_
    refine Ev.pos (by omega) (Ev.pos (by omega) (Ev.pos (by omega) ?_))
    rw [rd_nat h1, w64n (by omega), foldl_drop h1]
    have ih' := ih (i + 1) _ (by omega) hm'
    obtain ⟨hm1, hm2⟩ := hm
    rcases List.eq_nil_or_concat acc with rfl | ⟨ys, y, rfl⟩
    · rw [mergeStep_nil] at ih' ⊢
      exact Ev.neg (by rw [w64 (by simp) (by simp)]; simp) (Ev.pos (by simp) ih')
    · rw [List.concat_eq_append] at ih' hm1 hm2 ⊢
      rw [mergeStep_snoc] at ih' ⊢
      have hy := hm2 y (by simp)
      have hl : ys.length + 1 ≤ i := by simpa using hm1
      have e1 : wrap64 (((ys ++ [y]).length : Int) - 1) = (ys.length : Int) := by
        have e0 : ((ys ++ [y]).length : Int) - 1 = (ys.length : Int) := by
          rw [List.length_append]
          simp
        rw [e0, w64 (by omega) (by omega)]
      have e2 : rd (ys ++ [y]) (ys.length : Int) = y := by
        rw [rd_nat (by simp)]
        simp
      rw [e1, e2, Int.toNat_natCast]
      refine Ev.pos (by omega) (Ev.pos (by omega) (Ev.pos (by simp; omega) ?_))
      by_cases hs : sameSign y xs[i] = true
      · rw [if_pos hs] at ih' ⊢
        refine Ev.pos hs ?_
        rw [w64 (x := y + xs[i]) (by omega) (by omega)]
        have e3 : (ys ++ [y]).set ys.length (y + xs[i]) = ys ++ [y + xs[i]] := by
          rw [List.set_append_right _ _ (by omega)]
          simp
        rw [e3]
        exact ih'
      · rw [if_neg hs] at ih' ⊢
        refine Ev.neg hs (Ev.pos (by simp; omega) ?_)
        exact ih'
theorem MOk_nil : MOk 0 [] := ⟨by simp, by simp⟩
theorem mergeP_ok : ∀ (xs : List Int) (i : Nat) (acc : List Int), (∀ x ∈ xs, x ≠ 0 ∧ -1000 ≤ x ∧ x ≤ 1000) → MOk i acc → MOk (i + xs.length) (xs.foldl mergeStep acc)
  | [], i, acc, _, h => h
  | x :: xs, i, acc, hx, h => by
    have := mergeP_ok xs (i + 1) (mergeStep acc x) (fun z hz => hx z (List.mem_cons_of_mem _ hz)) (MOk_step h (hx x List.mem_cons_self))
    rw [List.foldl_cons, List.length_cons, show i + (xs.length + 1) = i + 1 + xs.length by omega]
    exact this
theorem mergeV_length (xs : List Int) : (mergeV xs).1.length ≤ xs.length := by
  unfold mergeV
  split
  · rename_i h
    have hx := stepsOk_iff.mp h.1
    have := (mergeP_ok xs 0 [] hx.2 MOk_nil).1
    simpa [mergeP] using this
  · simp
theorem mergeV_if (xs : List Int) (hx : stepsOk xs = true) : (if stepsOk ((xs.drop 0).foldl mergeStep []) = true then ((xs.drop 0).foldl mergeStep [], true) else ([], false)) = mergeV xs := by
  unfold mergeV mergeP
  rw [List.drop_zero]
  by_cases h : stepsOk (xs.foldl mergeStep []) = true
  · rw [if_pos h, if_pos ⟨hx, h⟩]
  · rw [if_neg h, if_neg (fun hc => h hc.2)]
theorem specMerge_ev (xs : List Int) (hn : xs.length < 1099511627776) : Ev (fun k => spec_MergeTurns.f k xs) (mergeV xs) := by
  unfold spec_MergeTurns.f
  refine Ev.bind (diSteps_ev xs hn) ?_
  by_cases hx : stepsOk xs = true
  · have hx' := stepsOk_iff.mp hx
    exact Ev.pos hx (Ev.val (specMerge_l0 xs hx'.1 hx'.2 xs.length 0 [] (by omega) MOk_nil) (mergeV_if xs hx))
  · refine Ev.neg hx (Ev.val (Ev.now _) ?_)
    unfold mergeV
    rw [if_neg (fun hc => hx hc.1)]
theorem implMerge_ev (xs : List Int) : Ev (fun k => impl_MergeTurns.f k xs) (mergeV xs) := by
  unfold impl_MergeTurns.f
  refine Ev.let_ (areSteps_some xs) ?_
  by_cases hx : stepsOk xs = true
  · have hx' := stepsOk_iff.mp hx
    exact Ev.pos hx (Ev.val (implMerge_l0 xs hx'.1 hx'.2 xs.length 0 [] (by omega) MOk_nil) (mergeV_if xs hx))
  · refine Ev.neg hx (Ev.val (Ev.now _) ?_)
    unfold mergeV
    rw [if_neg (fun hc => hx hc.1)]
end Go.Proofs.Ytmliabppmobliaa.Pure
