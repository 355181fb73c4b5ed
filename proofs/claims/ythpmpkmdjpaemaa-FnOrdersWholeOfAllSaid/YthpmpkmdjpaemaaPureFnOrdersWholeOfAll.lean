/- Orders: whole orders have each code, closed ones come back by a turn, first ones are the first that are counted, whatever is given; no condition beyond the law's own. -/
import Derived.Test.YthpmpkmdjpaemaaOx0
import Derived.Test.YthpmpkmdjpaemaaOx10
import Derived.Test.YthpmpkmdjpaemaaOx19
import Derived.Test.YthpmpkmdjpaemaaOrdH
import Derived.Test.YthpmpkmdjpaemaaStatFnOrdersWholeOfAll
namespace Go.Proofs.Ythpmpkmdjpaemaa.Pure
open Go.RowKit Go.Proofs.Ythpmpkmdjpaemaa.O Go.Proofs.YthpmpkmdjpaemaaW.PrintWords Go.Proofs.YthpmpkmdjpaemaaW.PrintLast Go.Proofs.YthpmpkmdjpaemaaW.PrintMore
set_option linter.unusedVariables false
theorem ord_j3 {w d : Nat} (hw : 1 ≤ w ∧ w ≤ 6) (hd : 2 ≤ d ∧ d ≤ 10) (codes : List ByteArray) (x y : Int) : Ev (fun K => laws_FnOrdersWholeOfAll.j3 K codes (wholeB w d codes) w d x y) true := by
  refine Ev.step (fun k => by rw [laws_FnOrdersWholeOfAll.j3]) ?_
  cases h : wholeB w d codes with
  | false => exact Ev.neg (by decide) (orders_ev x y)
  | true =>
    have h2 := h
    unfold wholeB at h2
    rw [Bool.and_eq_true, beq_iff_eq] at h2
    refine Ev.pos rfl (Ev.bind (a := (((d ^ w : Nat) : Int), true)) ?_ (Ev.pos rfl (Ev.pos h2.2 (orders_ev x y))))
    unfold impl_CountCodes.f
    exact Ev.let_ (IsLock_some _ _) (Ev.pos (lock_isL hw hd) (Ev.bind (count_ev w d hw.2 hd.1 hd.2) (Ev.now _)))
theorem ord_j2 {w d : Nat} (hw : 1 ≤ w ∧ w ≤ 6) (hd : 2 ≤ d ∧ d ≤ 10) (codes : List ByteArray) (x y : Int) : Ev (fun K => laws_FnOrdersWholeOfAll.j2 K codes true (wholeB w d codes) w d x y) true := by
  refine Ev.step (fun k => by rw [laws_FnOrdersWholeOfAll.j2]) ?_
  exact Ev.pos rfl (ord_j3 hw hd codes x y)
theorem ord_j1 {w d : Nat} (hw : 1 ≤ w ∧ w ≤ 6) (hd : 2 ≤ d ∧ d ≤ 10) (codes : List ByteArray) (hg : goodB w d codes = true) (x y : Int) : Ev (fun K => laws_FnOrdersWholeOfAll.j1 K codes true (wholeB w d codes) (turnsO w d [] codes) (decide ((codes.length : Int) > 0)) w d x y) true := by
  refine Ev.step (fun k => by rw [laws_FnOrdersWholeOfAll.j1]) ?_
  have hl := goodR_len w d codes [] (by simp) hg
  simp at hl
  cases codes with
  | nil => exact Ev.neg (by simp) (ord_j2 hw hd [] x y)
  | cons p rest =>
    have hp := good_codes w d _ [] hg p List.mem_cons_self
    have hgr : goodR w d [p] rest = true := by
      unfold goodB at hg
      rw [goodR] at hg
      simp only [Bool.and_eq_true] at hg
      exact hg.2.2.2.2
    have hc := good_chain w d rest p [] hgr
    have ht : turnsO w d [] (p :: rest) = turnsC w d p rest := rfl
    have hlen := turnsC_len w d rest p
    have hcl : (p :: rest).length = rest.length + 1 := rfl
    have e0 : rdOf ByteArray.empty (p :: rest) 0 = p := rfl
    have eL : rdOf ByteArray.empty (p :: rest) (((p :: rest).length : Int) - 1) = (p :: rest).getLast (by simp) := by
      rw [List.getLast_eq_getElem]
      unfold rdOf
      rw [show (((p :: rest).length : Int) - 1).toNat = (p :: rest).length - 1 by omega, List.getD_eq_getElem?_getD, List.getElem?_eq_getElem (by rw [hcl]; omega)]
      rfl
    rw [ht]
    refine Ev.pos (decide_eq_true (by omega)) (Ev.pos (by omega) ?_)
    rw [e0]
    refine Ev.bind (TurnWheels_ev hw hd p hp (turnsC w d p rest) (by rw [hlen]; omega) (turnsC_ok hw hd rest p hp hc)) ?_
    rw [w64 (x := ((p :: rest).length : Int) - 1) (by omega) (by omega), eL]
    unfold twV
    by_cases h2 : ((turnsC w d p rest).length : Int) ≤ 200
    · rw [if_pos h2]
      refine Ev.pos h2 (Ev.pos rfl (Ev.pos (by omega) (Ev.pos (by omega) (Ev.pos ?_ (Ev.pos (by omega) (ord_j2 hw hd _ x y))))))
      rw [turnedL_end hw hd rest p hp hc]
    · rw [if_neg h2]
      exact Ev.neg h2 (Ev.pos (by omega) (ord_j2 hw hd _ x y))
theorem ord_lock {w d : Nat} (hw : 1 ≤ w ∧ w ≤ 6) (hd : 2 ≤ d ∧ d ≤ 10) (codes : List ByteArray) (hr : ∀ s ∈ codes, s.size < 9223372036854775808) (hn : codes.length ≤ 10000) (x y : Int) : Ev (fun K => laws_FnOrdersWholeOfAll.f K w d codes x y) true := by
  unfold laws_FnOrdersWholeOfAll.f
  refine Ev.neg (by omega) ?_
  refine Ev.bind (implTO_ev hw hd codes hr) (Ev.bind (specTO_ev hw hd codes hr) (Ev.bind (implWO_ev hw hd codes hr) (Ev.bind (specWO_ev hw hd codes hr) (Ev.bind (implCO_ev hw hd codes hr) (Ev.bind (specCO_ev hw hd codes hr) (Ev.bind (implTS_ev hw hd codes hr) (Ev.bind (specTS_ev hw hd codes hr) ?_)))))))
  have hlen : (turnsL w d codes).1.length ≤ 1000000 := by
    unfold turnsL
    split
    · cases codes with
      | nil => simp [turnsO]
      | cons p rest =>
        show (turnsC w d p rest).length ≤ 1000000
        rw [turnsC_len]
        simp at hn
        omega
    · simp
  refine Ev.neg (by simp) (Ev.neg (by simp) (Ev.neg (by simp) (Ev.neg (by simp) (Ev.neg (by simp) (Ev.neg (by simp) (Ev.neg (by simp) (Ev.bind (aTurns_ev _ hlen) (Ev.pos rfl (Ev.neg (by simp) (Ev.neg (by simp) (Ev.pos rfl (Ev.neg (by simp [turnsL_ok]) ?_))))))))))))
  have hwg : wholeB w d codes = true → goodB w d codes = true := fun h => by
    unfold wholeB at h; rw [Bool.and_eq_true] at h; exact h.1
  have hcw : closedB w d codes = true → wholeB w d codes = true := fun h => by
    unfold closedB at h; rw [Bool.and_eq_true] at h; exact h.1
  have hj : ∀ b : Bool, b = false → Ev (fun K => laws_FnOrdersWholeOfAll.j0 K codes true (wholeB w d codes) (turnsL w d codes).1 (turnsL w d codes).2 b w d x y) true := fun b hb => by
    subst hb
    refine Ev.step (fun k => by rw [laws_FnOrdersWholeOfAll.j0]) (Ev.neg (by decide) ?_)
    rw [turnsL_ok]
    cases hg : goodB w d codes with
    | true =>
      have e : (turnsL w d codes).1 = turnsO w d [] codes := by unfold turnsL; rw [if_pos hg]
      rw [e]
      exact Ev.pos rfl (ord_j1 hw hd codes hg x y)
    | false =>
      refine Ev.neg (by decide) (Ev.step (fun k => by rw [laws_FnOrdersWholeOfAll.j1]) (Ev.neg (by decide) (ord_j2 hw hd codes x y)))
  cases hc : closedB w d codes with
  | true =>
    have h1 := hcw hc
    refine Ev.pos rfl (Ev.pos h1 ?_)
    exact hj _ (by rw [hwg h1]; rfl)
  | false =>
    refine Ev.neg (by decide) ?_
    by_cases h1 : wholeB w d codes = true
    · exact Ev.pos h1 (hj _ (by rw [hwg h1]; rfl))
    · exact Ev.neg h1 (hj _ rfl)
theorem ord_no {a b : Int} (h : ¬ lockB a b = true) (codes : List ByteArray) (hn : codes.length ≤ 10000) (x y : Int) : Ev (fun K => laws_FnOrdersWholeOfAll.f K a b codes x y) true := by
  unfold laws_FnOrdersWholeOfAll.f
  refine Ev.neg (by omega) ?_
  refine Ev.bind (implTO_no h codes) (Ev.bind (specTO_no h codes) (Ev.bind (implWO_no h codes) (Ev.bind (specWO_no h codes) (Ev.bind (implCO_no h codes) (Ev.bind (specCO_no h codes) (Ev.bind (implTS_no h codes) (Ev.bind (specTS_no h codes) ?_)))))))
  refine Ev.neg (by decide) (Ev.neg (by decide) (Ev.neg (by decide) (Ev.neg (by decide) (Ev.neg (by decide) (Ev.neg (by decide) (Ev.neg (by decide) (Ev.bind (aTurns_ev [] (by simp)) (Ev.pos rfl (Ev.neg (by decide) (Ev.neg (by decide) (Ev.neg (by decide) (Ev.neg (by decide) ?_))))))))))))
  refine Ev.step (fun k => by rw [laws_FnOrdersWholeOfAll.j0]) (Ev.neg (by decide) (Ev.neg (by decide) ?_))
  refine Ev.step (fun k => by rw [laws_FnOrdersWholeOfAll.j1]) (Ev.neg (by decide) ?_)
  refine Ev.step (fun k => by rw [laws_FnOrdersWholeOfAll.j2]) (Ev.neg (by decide) ?_)
  exact Ev.step (fun k => by rw [laws_FnOrdersWholeOfAll.j3]) (Ev.neg (by decide) (orders_ev x y))
theorem FnOrdersWholeOfAll : laws_FnOrdersWholeOfAll.Pure := by
  intro a b codes x y _ _ hc _ _
  unfold maxLen at hc
  apply Ev.rounds
  by_cases hn : codes.length ≤ 10000
  · by_cases h : lockB a b = true
    · obtain ⟨w, d, rfl, rfl, h1, h2, h3, h4⟩ := lock_nat h
      exact ord_lock ⟨h1, h2⟩ ⟨h3, h4⟩ codes (fun s hs => by have := hc.2 s hs; omega) hn x y
    · exact ord_no h codes hn x y
  · unfold laws_FnOrdersWholeOfAll.f
    exact Ev.pos (by omega) (Ev.now _)
end Go.Proofs.Ythpmpkmdjpaemaa.Pure
