/- Chapter 7: what the opening turns of a code come to, in the program and in the reference, and the codes that turns tell. -/
import Derived.Test.YtbncaiombmekhaaRBx0
import Derived.Test.YtbncaiombmekhaaRBx2
import Derived.Test.YtbncaiombmekhaaRBx3
import Derived.Test.YtbncaiombmekhaaRBx4
import Derived.Test.YtbncaiombmekhaaRBx5
import Derived.Test.YtbncaiombmekhaaRDialG0
namespace Go.Proofs.YtbncaiombmekhaaR.Pure
open Go.RowKit Go.Proofs.YtbncaiombmekhaaR.B Go.Proofs.YtbncaiombmekhaaRW.PrintWords Go.Proofs.YtbncaiombmekhaaRW.PrintLast Go.Proofs.YtbncaiombmekhaaRW.PrintMore
set_option linter.unusedVariables false

theorem implOpening_l0 (m : Int) (hm : 2 ≤ m ∧ m ≤ 100) (l : List Int) (hn : l.length ≤ 12) (hl : ∀ x ∈ l, 0 ≤ x ∧ x ≤ m - 1) : ∀ (d i : Nat) (by_ s : Int) (acc : List Int), i + d = l.length → acc.length = i → (by_ = 1 ∨ by_ = -1) → 0 ≤ s ∧ s < m →
    Ev (fun k => impl_opening.l0 k m s l acc by_ l (l.length : Int) (i : Int)) (if smallAll (openL m by_ s (l.drop i)) = true then (acc ++ openL m by_ s (l.drop i), true) else ([], false)) := by
  intro d
  induction d with
  | zero =>
    intro i by_ s acc hi ha hb hs
    refine Ev.step (fun k => by rw [impl_opening.l0]) ?_
    refine Ev.neg (by omega) (Ev.val (Ev.now _) ?_)
    rw [List.drop_eq_nil_of_le (by omega)]
    simp [openL, smallAll]
  | succ d ih =>
    intro i by_ s acc hi ha hb hs
    have h1 : i < l.length := by omega
    have hx := hl _ (List.getElem_mem h1)
    have hf := firstP_bound m s l[i] by_ hm.1
    have hld : ((l.drop (i + 1)).length : Int) = (l.length : Int) - (i : Int) - 1 := by rw [List.length_drop]; omega
    have p0 : 0 ≤ ((l.length : Int) - (i : Int) - 1) * m := Int.mul_nonneg (by omega) (by omega)
    have p1 : ((l.length : Int) - (i : Int) - 1) * m ≤ 12 * 100 := by
      have a1 : ((l.length : Int) - (i : Int) - 1) * m ≤ 12 * m := Int.mul_le_mul_of_nonneg_right (by omega) (by omega)
      omega
    refine Ev.step (fun k => by rw [impl_opening.l0]) ?_
    refine Ev.pos (by omega) (Ev.pos (by omega) (Ev.pos (by omega) ?_))
    rw [rd_nat h1, w64n (by omega), w64 (x := (l.length : Int) - (i : Int)) (by omega) (by omega), w64 (x := (l.length : Int) - (i : Int) - 1) (by omega) (by omega), w64 (x := ((l.length : Int) - (i : Int) - 1) * m) (by omega) (by omega), w64 (x := -by_) (by omega) (by omega)]
    refine Ev.let_ (first_some m s _ by_ hm hs (by omega) hb) ?_
    rw [List.drop_eq_getElem_cons h1, openL, hld]
    rw [w64 (x := firstP m s l[i] by_ + ((l.length : Int) - (i : Int) - 1) * m) (by omega) (by omega)]
    generalize hg : firstP m s l[i] by_ + ((l.length : Int) - (i : Int) - 1) * m = g
    have hbg : by_ * g = g ∨ by_ * g = -g := by rcases hb with rfl | rfl <;> omega
    rw [w64 (x := by_ * g) (by omega) (by omega)]
    by_cases hbig : g > 1000
    · refine Ev.pos hbig (Ev.val (Ev.now _) ?_)
      rw [if_neg]
      intro hc
      unfold smallAll at hc
      rw [List.all_cons, Bool.and_eq_true, decide_eq_true_iff] at hc
      omega
    · refine Ev.neg hbig (Ev.pos (by omega) ?_)
      refine Ev.val (ih (i + 1) (-by_) _ _ (by omega) (by simp [ha]) (by omega) (by omega)) ?_
      have hs1 : smallAll (by_ * g :: openL m (-by_) l[i] (l.drop (i + 1))) = smallAll (openL m (-by_) l[i] (l.drop (i + 1))) := by
        unfold smallAll
        rw [List.all_cons, decide_eq_true (by omega), Bool.true_and]
      rw [hs1, List.append_assoc]
      rfl
theorem implOpening_ev (m s : Int) (hm : 2 ≤ m ∧ m ≤ 100) (hs : 0 ≤ s ∧ s ≤ m - 1) (l : List Int) (hl : codeOk m l = true) : Ev (fun k => impl_opening.f k m s l) (if smallAll (openL m 1 s l) = true then (openL m 1 s l, true) else ([], false)) := by
  have h := codeOk_iff.mp hl
  unfold impl_opening.f
  have := implOpening_l0 m hm l h.1.2 h.2 l.length 0 1 s [] (by omega) rfl (by omega) (by omega)
  simpa using this
theorem specOpen_l0 (m : Int) (hm : 2 ≤ m ∧ m ≤ 100) (l : List Int) (hn : l.length ≤ 12) (hl : ∀ x ∈ l, 0 ≤ x ∧ x ≤ m - 1) : ∀ (d i : Nat) (by_ s : Int) (acc : List Int), i + d = l.length → acc.length = i → (by_ = 1 ∨ by_ = -1) → 0 ≤ s ∧ s < m →
    Ev (fun k => spec_diOpen.l0 k m s l acc by_ l (l.length : Int) (i : Int)) (acc ++ openL m by_ s (l.drop i)) := by
  intro d
  induction d with
  | zero =>
    intro i by_ s acc hi ha hb hs
    refine Ev.step (fun k => by rw [spec_diOpen.l0]) ?_
    refine Ev.neg (by omega) (Ev.val (Ev.now _) ?_)
    rw [List.drop_eq_nil_of_le (by omega)]
    simp [openL]
  | succ d ih =>
    intro i by_ s acc hi ha hb hs
    have h1 : i < l.length := by omega
    have hx := hl _ (List.getElem_mem h1)
    have hf := firstP_bound m s l[i] by_ hm.1
    have hld : ((l.drop (i + 1)).length : Int) = (l.length : Int) - 1 - (i : Int) := by rw [List.length_drop]; omega
    have p0 : 0 ≤ ((l.length : Int) - 1 - (i : Int)) * m := Int.mul_nonneg (by omega) (by omega)
    have p1 : ((l.length : Int) - 1 - (i : Int)) * m ≤ 12 * 100 := by
      have a1 : ((l.length : Int) - 1 - (i : Int)) * m ≤ 12 * m := Int.mul_le_mul_of_nonneg_right (by omega) (by omega)
      omega
    have hbx : by_ * (l[i] - s) = l[i] - s ∨ by_ * (l[i] - s) = -(l[i] - s) := by rcases hb with rfl | rfl <;> omega
    refine Ev.step (fun k => by rw [spec_diOpen.l0]) ?_
    refine Ev.pos (by omega) (Ev.pos (by omega) (Ev.pos (by omega) ?_))
    rw [rd_nat h1, w64n (by omega), w64 (x := l[i] - s) (by omega) (by omega), w64 (x := by_ * (l[i] - s)) (by omega) (by omega), w64 (x := by_ * (l[i] - s) - 1) (by omega) (by omega),
      w64 (x := (l.length : Int) - 1) (by omega) (by omega), w64 (x := (l.length : Int) - 1 - (i : Int)) (by omega) (by omega), w64 (x := ((l.length : Int) - 1 - (i : Int)) * m) (by omega) (by omega), w64 (x := -by_) (by omega) (by omega)]
    refine Ev.let_ (l1Mod_some _ m hm.1 (by omega)) ?_
    have e := far_eq m s l[i] by_ hm.1
    rw [w64 (x := (by_ * (l[i] - s) - 1) % m + 1) (by omega) (by omega), e, w64 (x := firstP m s l[i] by_ + ((l.length : Int) - 1 - (i : Int)) * m) (by omega) (by omega)]
    rw [List.drop_eq_getElem_cons h1, openL, hld]
    have hgb : 1 ≤ firstP m s l[i] by_ + ((l.length : Int) - 1 - (i : Int)) * m ∧ firstP m s l[i] by_ + ((l.length : Int) - 1 - (i : Int)) * m ≤ 2000 := by omega
    generalize firstP m s l[i] by_ + ((l.length : Int) - 1 - (i : Int)) * m = g at hgb ⊢
    have hbg : by_ * g = g ∨ by_ * g = -g := by rcases hb with rfl | rfl <;> omega
    refine Ev.pos (by omega) ?_
    rw [w64 (x := by_ * g) (by omega) (by omega)]
    refine Ev.val (ih (i + 1) (-by_) _ _ (by omega) (by simp [ha]) (by omega) (by omega)) ?_
    rw [List.append_assoc]
    rfl
theorem specOpen_ev (m s : Int) (hm : 2 ≤ m ∧ m ≤ 100) (hs : 0 ≤ s ∧ s ≤ m - 1) (l : List Int) (hl : codeOk m l = true) : Ev (fun k => spec_diOpen.f k m s l) (openL m 1 s l) := by
  have h := codeOk_iff.mp hl
  unfold spec_diOpen.f
  have := specOpen_l0 m hm l h.1.2 h.2 l.length 0 1 s [] (by omega) rfl (by omega) (by omega)
  simpa using this
/-- What both OpeningTurns return. -/
def openingV (m s : Int) (l : List Int) : List Int × Bool := if (2 ≤ m ∧ m ≤ 100) ∧ (0 ≤ s ∧ s ≤ m - 1) ∧ codeOk m l = true ∧ smallAll (openL m 1 s l) = true then (openL m 1 s l, true) else ([], false)
theorem openingV_length (m s : Int) (l : List Int) : (openingV m s l).1.length ≤ 12 := by
  unfold openingV
  split
  · rename_i h
    rw [openL_length]
    exact (codeOk_iff.mp h.2.2.1).1.2
  · simp
theorem implOpeningTurns_ev (m s : Int) (l : List Int) (hn : l.length < 1000000000000) : Ev (fun k => impl_OpeningTurns.f k m s l) (openingV m s l) := by
  unfold impl_OpeningTurns.f openingV
  refine Ev.let_ (isDialCode_some m s l (by omega)) ?_
  by_cases h1 : (2 ≤ m ∧ m ≤ 100) ∧ 0 ≤ s ∧ s ≤ m - 1
  · by_cases h2 : codeOk m l = true
    · refine Ev.pos (by rw [decide_eq_true h1, h2]; rfl) ?_
      refine Ev.bind (implOpening_ev m s h1.1 h1.2 l h2) (Ev.val (Ev.now _) ?_)
      by_cases h3 : smallAll (openL m 1 s l) = true
      · rw [if_pos h3, if_pos ⟨h1.1, h1.2, h2, h3⟩]
      · rw [if_neg h3, if_neg (fun hc => h3 hc.2.2.2)]
    · refine Ev.neg (by rw [Bool.eq_false_iff.mpr h2, Bool.and_false]; decide) (Ev.val (Ev.now _) ?_)
      rw [if_neg (fun hc => h2 hc.2.2.1)]
  · refine Ev.neg (by rw [decide_eq_false h1, Bool.false_and]; decide) (Ev.val (Ev.now _) ?_)
    rw [if_neg (fun hc => h1 ⟨hc.1, hc.2.1⟩)]
theorem specOpeningTurns_ev (m s : Int) (l : List Int) (hn : l.length < 1000000000000) : Ev (fun k => spec_OpeningTurns.f k m s l) (openingV m s l) := by
  have no : ∀ x : Bool, x = true → Ev (fun k => spec_OpeningTurns.j0 k m s l x) ([], false) := by
    intro x hx
    refine Ev.step (fun k => by rw [spec_OpeningTurns.j0]) ?_
    exact Ev.pos hx (Ev.now _)
  unfold spec_OpeningTurns.f openingV
  refine Ev.let_ (diAsked_some m s) ?_
  by_cases h1 : (2 ≤ m ∧ m ≤ 100) ∧ 0 ≤ s ∧ s ≤ m - 1
  · refine Ev.pos (decide_eq_true h1) ?_
    refine Ev.bind (diCode_ev m h1.1 l (by omega)) ?_
    by_cases h2 : codeOk m l = true
    · refine Ev.step (fun k => by rw [spec_OpeningTurns.j0]) ?_
      refine Ev.neg (by rw [h2]; decide) ?_
      have hl := (codeOk_iff.mp h2).1.2
      refine Ev.bind (specOpen_ev m s h1.1 h1.2 l h2) (Ev.bind (diSteps_ev _ (by rw [openL_length]; omega)) ?_)
      rw [openL_ok m 1 s h1.1.1 (.inl rfl) l hl]
      by_cases h3 : smallAll (openL m 1 s l) = true
      · exact Ev.pos h3 (Ev.val (Ev.now _) (by rw [if_pos ⟨h1.1, h1.2, h2, h3⟩]))
      · exact Ev.neg h3 (Ev.val (Ev.now _) (by rw [if_neg (fun hc => h3 hc.2.2.2)]))
    · rw [if_neg (fun hc => h2 hc.2.2.1)]
      exact no _ (by rw [Bool.eq_false_iff.mpr h2]; rfl)
  · rw [if_neg (fun hc => h1 ⟨hc.1, hc.2.1⟩)]
    exact Ev.neg (by rw [decide_eq_false h1]; decide) (no _ rfl)

/-! lengths -/
theorem implLength_l0 (xs : List Int) (hn : xs.length ≤ 100) (hx : ∀ x ∈ xs, -100000 ≤ x ∧ x ≤ 100000) : ∀ (d i : Nat) (acc : Int), i + d = xs.length → 0 ≤ acc → acc ≤ (i : Int) * 100000 →
    Ev (fun k => impl_length.l0 k acc xs (xs.length : Int) (i : Int)) (acc + lenP (xs.drop i)) := by
  intro d
  induction d with
  | zero =>
    intro i acc hi _ _
    refine Ev.step (fun k => by rw [impl_length.l0]) ?_
    refine Ev.neg (by omega) (Ev.val (Ev.now _) ?_)
    rw [List.drop_eq_nil_of_le (by omega)]
    simp [lenP]
  | succ d ih =>
    intro i acc hi h0 hb
    have h1 : i < xs.length := by omega
    have hx' := hx _ (List.getElem_mem h1)
    refine Ev.step (fun k => by rw [impl_length.l0]) ?_
    refine Ev.pos (by omega) (Ev.pos (by omega) (Ev.pos (by omega) ?_))
    rw [rd_nat h1, w64n (by omega)]
    refine Ev.let_ (size_some _ (by omega)) ?_
    rw [w64 (by omega) (by omega)]
    refine Ev.val (ih (i + 1) _ (by omega) (by omega) (by omega)) ?_
    rw [List.drop_eq_getElem_cons h1, lenP]
    omega
theorem specLength_l0 (xs : List Int) (hn : xs.length ≤ 100) (hx : ∀ x ∈ xs, -100000 ≤ x ∧ x ≤ 100000) : ∀ (d i : Nat) (acc : Int), i + d = xs.length → 0 ≤ acc → acc ≤ (i : Int) * 100000 →
    Ev (fun k => spec_diLength.l0 k acc xs (xs.length : Int) (i : Int)) (acc + lenP (xs.drop i)) := by
  intro d
  induction d with
  | zero =>
    intro i acc hi _ _
    refine Ev.step (fun k => by rw [spec_diLength.l0]) ?_
    refine Ev.neg (by omega) (Ev.val (Ev.now _) ?_)
    rw [List.drop_eq_nil_of_le (by omega)]
    simp [lenP]
  | succ d ih =>
    intro i acc hi h0 hb
    have h1 : i < xs.length := by omega
    have hx' := hx _ (List.getElem_mem h1)
    refine Ev.step (fun k => by rw [spec_diLength.l0]) ?_
    refine Ev.pos (by omega) (Ev.pos (by omega) (Ev.pos (by omega) ?_))
    rw [rd_nat h1, w64n (by omega)]
    refine Ev.let_ (l1Abs_some _ (by omega)) ?_
    rw [w64 (by omega) (by omega)]
    refine Ev.val (ih (i + 1) _ (by omega) (by omega) (by omega)) ?_
    rw [List.drop_eq_getElem_cons h1, lenP]
    omega
theorem implLength_ev (xs : List Int) (hn : xs.length ≤ 100) (hx : ∀ x ∈ xs, -100000 ≤ x ∧ x ≤ 100000) : Ev (fun k => impl_length.f k xs) (lenP xs) := by
  unfold impl_length.f
  have := implLength_l0 xs hn hx xs.length 0 0 (by omega) (by omega) (by omega)
  simpa using this
theorem specLength_ev (xs : List Int) (hn : xs.length ≤ 100) (hx : ∀ x ∈ xs, -100000 ≤ x ∧ x ≤ 100000) : Ev (fun k => spec_diLength.f k xs) (lenP xs) := by
  unfold spec_diLength.f
  have := specLength_l0 xs hn hx xs.length 0 0 (by omega) (by omega) (by omega)
  simpa using this
theorem openingV_small (m s : Int) (l : List Int) : ∀ x ∈ (openingV m s l).1, -1000 ≤ x ∧ x ≤ 1000 := by
  intro x hx
  unfold openingV at hx
  split at hx
  · rename_i h
    have h3 := h.2.2.2
    unfold smallAll at h3
    rw [List.all_eq_true] at h3
    exact of_decide_eq_true (h3 x hx)
  · simp at hx
def openLenV (m s : Int) (l : List Int) : Int × Bool := (lenP (openingV m s l).1, (openingV m s l).2)
theorem implOpeningLength_ev (m s : Int) (l : List Int) (hn : l.length < 1000000000000) : Ev (fun k => impl_OpeningLength.f k m s l) (openLenV m s l) := by
  unfold impl_OpeningLength.f openLenV
  refine Ev.bind (implOpeningTurns_ev m s l hn) (Ev.bind (implLength_ev _ (by have := openingV_length m s l; omega) (fun x hx => by have := openingV_small m s l x hx; omega)) (Ev.now _))
theorem specOpeningLength_ev (m s : Int) (l : List Int) (hn : l.length < 1000000000000) : Ev (fun k => spec_OpeningLength.f k m s l) (openLenV m s l) := by
  unfold spec_OpeningLength.f openLenV
  refine Ev.bind (specOpeningTurns_ev m s l hn) ?_
  by_cases h : (openingV m s l).2 = true
  · refine Ev.pos h (Ev.bind (specLength_ev _ (by have := openingV_length m s l; omega) (fun x hx => by have := openingV_small m s l x hx; omega)) (Ev.val (Ev.now _) ?_))
    rw [h]
  · refine Ev.neg h (Ev.val (Ev.now _) ?_)
    unfold openingV at h ⊢
    split
    · rename_i h'
      rw [if_pos h'] at h
      exact absurd rfl h
    · rfl

/-! codes told by turns -/
theorem implEqual_l0 (xs ys : List Int) (hn : xs.length < 1099511627776) (hl : xs.length = ys.length) : ∀ (d i : Nat), i + d = xs.length →
    Ev (fun k => slices_Equal_int_int.l0 k xs ys (xs.length : Int) (i : Int)) (decide (xs.drop i = ys.drop i)) := by
  intro d
  induction d with
  | zero =>
    intro i hi
    refine Ev.step (fun k => by rw [slices_Equal_int_int.l0]) ?_
    refine Ev.neg (by omega) (Ev.val (Ev.now _) ?_)
    rw [List.drop_eq_nil_of_le (by omega), List.drop_eq_nil_of_le (by omega)]
    rfl
  | succ d ih =>
    intro i hi
    have h1 : i < xs.length := by omega
    have h2 : i < ys.length := by omega
    refine Ev.step (fun k => by rw [slices_Equal_int_int.l0]) ?_
    refine Ev.pos (by omega) (Ev.pos (by omega) (Ev.pos (by omega) (Ev.pos (by omega) ?_)))
    rw [rd_nat h1, rd_nat h2, w64n (by omega)]
    by_cases he : xs[i] = ys[i]
    · refine Ev.pos he (Ev.val (ih (i + 1) (by omega)) ?_)
      rw [List.drop_eq_getElem_cons h1, List.drop_eq_getElem_cons h2, he]
      simp only [List.cons.injEq, true_and]
    · refine Ev.neg he (Ev.val (Ev.now _) ?_)
      rw [List.drop_eq_getElem_cons h1, List.drop_eq_getElem_cons h2]
      simp only [List.cons.injEq, he, false_and, decide_false]
theorem implEqual_ev (xs ys : List Int) (hn : xs.length < 1099511627776) : Ev (fun k => slices_Equal_int_int.f k xs ys) (decide (xs = ys)) := by
  unfold slices_Equal_int_int.f
  by_cases h : xs.length = ys.length
  · refine Ev.pos (by omega) ?_
    have := implEqual_l0 xs ys hn h xs.length 0 (by omega)
    simpa using this
  · refine Ev.neg (by omega) (Ev.val (Ev.now _) ?_)
    symm
    rw [decide_eq_false_iff_not]
    intro e
    exact h (by rw [e])
theorem specSame_l0 (xs ys : List Int) (hn : xs.length < 1099511627776) (hl : xs.length = ys.length) : ∀ (d i : Nat), i + d = xs.length →
    Ev (fun k => spec_l1Same.l0 k xs ys (xs.length : Int) (i : Int)) (decide (xs.drop i = ys.drop i)) := by
  intro d
  induction d with
  | zero =>
    intro i hi
    refine Ev.step (fun k => by rw [spec_l1Same.l0]) ?_
    refine Ev.neg (by omega) (Ev.val (Ev.now _) ?_)
    rw [List.drop_eq_nil_of_le (by omega), List.drop_eq_nil_of_le (by omega)]
    rfl
  | succ d ih =>
    intro i hi
    have h1 : i < xs.length := by omega
    have h2 : i < ys.length := by omega
    refine Ev.step (fun k => by rw [spec_l1Same.l0]) ?_
    refine Ev.pos (by omega) (Ev.pos (by omega) (Ev.pos (by omega) (Ev.pos (by omega) ?_)))
    rw [rd_nat h1, rd_nat h2, w64n (by omega)]
    by_cases he : xs[i] = ys[i]
    · refine Ev.pos he (Ev.val (ih (i + 1) (by omega)) ?_)
      rw [List.drop_eq_getElem_cons h1, List.drop_eq_getElem_cons h2, he]
      simp only [List.cons.injEq, true_and]
    · refine Ev.neg he (Ev.val (Ev.now _) ?_)
      rw [List.drop_eq_getElem_cons h1, List.drop_eq_getElem_cons h2]
      simp only [List.cons.injEq, he, false_and, decide_false]
theorem specSame_ev (xs ys : List Int) (hn : xs.length < 1099511627776) : Ev (fun k => spec_l1Same.f k xs ys) (decide (xs = ys)) := by
  unfold spec_l1Same.f
  by_cases h : xs.length = ys.length
  · refine Ev.pos (by omega) ?_
    have := specSame_l0 xs ys hn h xs.length 0 (by omega)
    simpa using this
  · refine Ev.neg (by omega) (Ev.val (Ev.now _) ?_)
    symm
    rw [decide_eq_false_iff_not]
    intro e
    exact h (by rw [e])
theorem stopsP_mem (m : Int) (hm : 2 ≤ m) : ∀ (l : List Int) (s : Int), ∀ x ∈ stopsP m s l, 0 ≤ x ∧ x ≤ m - 1
  | [], _, x, hx => by simp [stopsP] at hx
  | y :: ys, s, x, hx => by
    unfold stopsP at hx
    rcases List.mem_cons.mp hx with rfl | hx
    · have e1 : 0 ≤ (s + y) % m := Int.emod_nonneg _ (by omega)
      have e2 : (s + y) % m < m := Int.emod_lt_of_pos _ (by omega)
      omega
    · exact stopsP_mem m hm ys _ x hx
/-- What both CodeOfTurns return. -/
def codeOfV (m s : Int) (l : List Int) : List Int × Bool := if (2 ≤ m ∧ m ≤ 100) ∧ (0 ≤ s ∧ s ≤ m - 1) ∧ stepsOk l = true ∧ l ≠ [] ∧ openL m 1 s (stopsP m s l) = l then (stopsP m s l, true) else ([], false)
theorem codeOfV_length (m s : Int) (l : List Int) : (codeOfV m s l).1.length ≤ l.length := by
  unfold codeOfV
  split
  · exact Nat.le_of_eq (stopsP_length m l s)
  · simp
theorem stops_code (m s : Int) (l : List Int) (hm : 2 ≤ m ∧ m ≤ 100) (hl : stepsOk l = true) (h0 : l ≠ []) : codeOk m (stopsP m s l) = true := by
  rw [codeOk_iff, stopsP_length]
  have := stepsOk_iff.mp hl
  have h1 : 0 < l.length := List.length_pos_iff.mpr h0
  exact ⟨⟨by omega, this.1⟩, stopsP_mem m hm.1 l s⟩
theorem specCodeOfTurns_ev (m s : Int) (l : List Int) (hn : l.length < 1000000000000) : Ev (fun k => spec_CodeOfTurns.f k m s l) (codeOfV m s l) := by
  unfold spec_CodeOfTurns.f codeOfV
  refine Ev.bind (specStopsOf_ev m s l (by omega)) ?_
  unfold stopsV
  by_cases h : (2 ≤ m ∧ m ≤ 100) ∧ (0 ≤ s ∧ s ≤ m - 1) ∧ stepsOk l = true
  · rw [if_pos h]
    refine Ev.pos rfl ?_
    by_cases h0 : l = []
    · subst h0
      refine Ev.pos rfl (Ev.val (Ev.now _) ?_)
      rw [if_neg (fun hc => hc.2.2.2.1 rfl)]
    · have h1 : 0 < l.length := List.length_pos_iff.mpr h0
      refine Ev.neg (by simp only [stopsP_length]; omega) ?_
      have hc := stops_code m s l h.1 h.2.2 h0
      refine Ev.bind (specOpen_ev m s h.1 h.2.1 _ hc) (Ev.bind (specSame_ev _ _ (by rw [openL_length, stopsP_length]; omega)) ?_)
      by_cases he : openL m 1 s (stopsP m s l) = l
      · exact Ev.pos (decide_eq_true he) (Ev.val (Ev.now _) (by rw [if_pos ⟨h.1, h.2.1, h.2.2, h0, he⟩]))
      · exact Ev.neg (by rw [decide_eq_false he]; decide) (Ev.val (Ev.now _) (by rw [if_neg (fun hc => he hc.2.2.2.2)]))
  · rw [if_neg h]
    refine Ev.neg (by decide) (Ev.val (Ev.now _) ?_)
    rw [if_neg (fun hc => h ⟨hc.1, hc.2.1, hc.2.2.1⟩)]
theorem implCodeOfTurns_ev (m s : Int) (l : List Int) : Ev (fun k => impl_CodeOfTurns.f k m s l) (codeOfV m s l) := by
  have no : ∀ (c : List Int) (x : Bool), x = true → Ev (fun k => impl_CodeOfTurns.j0 k m s l c x) ([], false) := by
    intro c x hx
    refine Ev.step (fun k => by rw [impl_CodeOfTurns.j0]) ?_
    exact Ev.pos hx (Ev.now _)
  unfold impl_CodeOfTurns.f codeOfV
  refine Ev.bind (implStopsOf_ev m s l) ?_
  unfold stopsV
  by_cases h : (2 ≤ m ∧ m ≤ 100) ∧ (0 ≤ s ∧ s ≤ m - 1) ∧ stepsOk l = true
  · rw [if_pos h]
    refine Ev.pos rfl ?_
    by_cases h0 : l = []
    · subst h0
      rw [if_neg (fun hc => hc.2.2.2.1 rfl)]
      exact no _ _ rfl
    · have h1 : 0 < l.length := List.length_pos_iff.mpr h0
      refine Ev.step (fun k => by rw [impl_CodeOfTurns.j0]) ?_
      refine Ev.neg (by simp only [stopsP_length]; simp; omega) ?_
      have hc := stops_code m s l h.1 h.2.2 h0
      refine Ev.bind (implOpening_ev m s h.1 h.2.1 _ hc) ?_
      by_cases h3 : smallAll (openL m 1 s (stopsP m s l)) = true
      · rw [if_pos h3]
        refine Ev.pos rfl (Ev.bind (implEqual_ev _ _ (by rw [openL_length, stopsP_length]; have := (stepsOk_iff.mp h.2.2).1; omega)) ?_)
        by_cases he : openL m 1 s (stopsP m s l) = l
        · exact Ev.pos (decide_eq_true he) (Ev.val (Ev.now _) (by rw [if_pos ⟨h.1, h.2.1, h.2.2, h0, he⟩]))
        · exact Ev.neg (by rw [decide_eq_false he]; decide) (Ev.val (Ev.now _) (by rw [if_neg (fun hc => he hc.2.2.2.2)]))
      · rw [if_neg h3]
        refine Ev.neg (by decide) (Ev.val (Ev.now _) ?_)
        rw [if_neg]
        rintro ⟨_, _, hs, _, he⟩
        apply h3
        rw [he]
        unfold smallAll
        rw [List.all_eq_true]
        exact fun x hx => decide_eq_true ((stepsOk_iff.mp hs).2 x hx).2
  · rw [if_neg h]
    refine Ev.neg (by decide) ?_
    rw [if_neg (fun hc => h ⟨hc.1, hc.2.1, hc.2.2.1⟩)]
    exact no _ _ rfl
end Go.Proofs.YtbncaiombmekhaaR.Pure
