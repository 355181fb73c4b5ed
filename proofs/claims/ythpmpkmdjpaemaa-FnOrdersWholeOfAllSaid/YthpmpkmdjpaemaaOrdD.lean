/- Chapter 5: the answers on orders, as both sides give them. -/
import Derived.Test.YthpmpkmdjpaemaaOx0
import Derived.Test.YthpmpkmdjpaemaaOx18
import Derived.Test.YthpmpkmdjpaemaaOx3
import Derived.Test.YthpmpkmdjpaemaaOx6
import Derived.Test.YthpmpkmdjpaemaaOx7
import Derived.Test.YthpmpkmdjpaemaaOx8
import Derived.Test.YthpmpkmdjpaemaaOx9
import Derived.Test.YthpmpkmdjpaemaaOrdC
namespace Go.Proofs.Ythpmpkmdjpaemaa.Pure
open Go.RowKit Go.Proofs.Ythpmpkmdjpaemaa.O Go.Proofs.YthpmpkmdjpaemaaW.PrintWords Go.Proofs.YthpmpkmdjpaemaaW.PrintLast Go.Proofs.YthpmpkmdjpaemaaW.PrintMore
set_option linter.unusedVariables false

def goodB (w d : Nat) (codes : List ByteArray) : Bool := goodR w d [] codes
def wholeB (w d : Nat) (codes : List ByteArray) : Bool := goodB w d codes && ((codes.length : Int) == ((d ^ w : Nat) : Int))
def lastC (codes : List ByteArray) : ByteArray := rdOf ByteArray.empty codes ((codes.length : Int) - 1)
def closedB (w d : Nat) (codes : List ByteArray) : Bool := wholeB w d codes && (distN d (rdOf ByteArray.empty codes 0) (lastC codes) w == 1)
def turnsL (w d : Nat) (codes : List ByteArray) : List S46 × Bool := if goodB w d codes = true then (turnsO w d [] codes, true) else ([], false)
theorem ordV_eq (w d : Nat) (codes : List ByteArray) : ordV w d [] codes [] = turnsL w d codes := by
  unfold ordV turnsL goodB
  rw [List.nil_append]
theorem turnsL_ok (w d : Nat) (codes : List ByteArray) : (turnsL w d codes).2 = goodB w d codes := by
  unfold turnsL
  cases h : goodB w d codes <;> simp
section lock
variable {w d : Nat} (hw : 1 ≤ w ∧ w ≤ 6) (hd : 2 ≤ d ∧ d ≤ 10) (codes : List ByteArray) (hr : ∀ s ∈ codes, s.size < 9223372036854775808) (hn : codes.length ≤ 1000000)
include hw hd hr
theorem ordT_ev : Ev (fun K => impl_Lock_orderTurns.f K w d codes) (turnsL w d codes) := Ev.val (orderTurns_ev hw hd codes hr) (ordV_eq w d codes)
omit hr in
theorem lock_isL : lockB (w : Int) (d : Int) = true := lockB_iff.mpr ⟨by omega, by omega⟩
theorem implTO_ev : Ev (fun K => impl_IsTurnOrder.f K w d codes) (goodB w d codes, true) := by
  unfold impl_IsTurnOrder.f
  refine Ev.let_ (IsLock_some _ _) (Ev.pos (lock_isL hw hd) (Ev.bind (ordT_ev hw hd codes hr) (Ev.val (Ev.now _) ?_)))
  rw [turnsL_ok]
theorem specTO_ev : Ev (fun K => spec_IsTurnOrder.f K w d codes) (goodB w d codes, true) := by
  unfold spec_IsTurnOrder.f
  exact Ev.let_ (whGood_some _ _) (Ev.pos (lock_isL hw hd) (Ev.bind (orGood_ev hw hd codes hr) (Ev.now _)))
theorem isWhole_ev : Ev (fun K => impl_Lock_isWhole.f K w d codes) (wholeB w d codes) := by
  unfold impl_Lock_isWhole.f wholeB
  refine Ev.bind (ordT_ev hw hd codes hr) ?_
  rw [turnsL_ok]
  cases goodB w d codes with
  | true => exact Ev.pos rfl (Ev.bind (count_ev w d hw.2 hd.1 hd.2) (Ev.val (Ev.now _) (by rw [Bool.true_and])))
  | false => exact Ev.neg (by decide) (Ev.val (Ev.now _) (by rw [Bool.false_and]))
theorem orWhole_ev : Ev (fun K => spec_orWhole.f K w d codes) (wholeB w d codes) := by
  unfold spec_orWhole.f wholeB
  refine Ev.bind (orGood_ev hw hd codes hr) ?_
  rw [show goodR w d [] codes = goodB w d codes from rfl]
  cases goodB w d codes with
  | true => exact Ev.pos rfl (Ev.bind (whCount_ev w d hw.2 hd.1 hd.2) (Ev.val (Ev.now _) (by rw [Bool.true_and])))
  | false => exact Ev.neg (by decide) (Ev.val (Ev.now _) (by rw [Bool.false_and]))
theorem implWO_ev : Ev (fun K => impl_IsWholeOrder.f K w d codes) (wholeB w d codes, true) := by
  unfold impl_IsWholeOrder.f
  exact Ev.let_ (IsLock_some _ _) (Ev.pos (lock_isL hw hd) (Ev.bind (isWhole_ev hw hd codes hr) (Ev.now _)))
theorem specWO_ev : Ev (fun K => spec_IsWholeOrder.f K w d codes) (wholeB w d codes, true) := by
  unfold spec_IsWholeOrder.f
  exact Ev.let_ (whGood_some _ _) (Ev.pos (lock_isL hw hd) (Ev.bind (orWhole_ev hw hd codes hr) (Ev.now _)))
omit hr in
theorem whole_ends (h : wholeB w d codes = true) : 2 ≤ codes.length ∧ codes.length ≤ 1000 ∧ codeB (w : Int) (d : Int) (rdOf ByteArray.empty codes 0) = true ∧ codeB (w : Int) (d : Int) (lastC codes) = true := by
  unfold wholeB at h
  simp only [Bool.and_eq_true, beq_iff_eq] at h
  have h1 := good_codes w d codes [] h.1
  have h2 : 2 ≤ codes.length := by
    have h3 : d ^ 1 ≤ d ^ w := Nat.pow_le_pow_right (by omega) hw.1
    rw [Nat.pow_one] at h3
    omega
  have h4 := goodR_len w d codes [] (by simp) h.1
  simp at h4
  refine ⟨h2, h4, ?_, ?_⟩
  · have e : rdOf ByteArray.empty codes 0 = codes[0] := by unfold rdOf; simp [show 0 < codes.length by omega]
    rw [e]
    exact h1 _ (List.getElem_mem _)
  · have e : lastC codes = codes[codes.length - 1] := by
      unfold lastC rdOf
      rw [show ((codes.length : Int) - 1).toNat = codes.length - 1 by omega]
      simp [show codes.length - 1 < codes.length by omega]
    rw [e]
    exact h1 _ (List.getElem_mem _)
theorem isClosed_ev : Ev (fun K => impl_Lock_isClosed.f K w d codes) (closedB w d codes) := by
  unfold impl_Lock_isClosed.f closedB
  refine Ev.bind (isWhole_ev hw hd codes hr) ?_
  cases h : wholeB w d codes with
  | true =>
    have h1 := whole_ends hw hd codes h
    refine Ev.pos rfl (Ev.pos (by omega) ?_)
    rw [w64 (x := (codes.length : Int) - 1) (by omega) (by omega)]
    refine Ev.pos (by omega) (Ev.pos (by omega) (Ev.bind (distance_ev hw.2 hd h1.2.2.1 h1.2.2.2) (Ev.val (Ev.now _) ?_)))
    rw [Bool.true_and]
    rfl
  | false => exact Ev.neg (by decide) (Ev.val (Ev.now _) (by rw [Bool.false_and]))
theorem implCO_ev : Ev (fun K => impl_IsClosedOrder.f K w d codes) (closedB w d codes, true) := by
  unfold impl_IsClosedOrder.f
  exact Ev.let_ (IsLock_some _ _) (Ev.pos (lock_isL hw hd) (Ev.bind (isClosed_ev hw hd codes hr) (Ev.now _)))
theorem specCO_ev : Ev (fun K => spec_IsClosedOrder.f K w d codes) (closedB w d codes, true) := by
  unfold spec_IsClosedOrder.f closedB
  refine Ev.let_ (whGood_some _ _) (Ev.pos (lock_isL hw hd) (Ev.bind (orWhole_ev hw hd codes hr) ?_))
  cases h : wholeB w d codes with
  | true =>
    have h1 := whole_ends hw hd codes h
    refine Ev.pos rfl (Ev.pos (by omega) ?_)
    rw [w64 (x := (codes.length : Int) - 1) (by omega) (by omega)]
    refine Ev.pos (by omega) (Ev.pos (by omega) (Ev.bind (whDistance_ev hw hd h1.2.2.1 h1.2.2.2) (Ev.val (Ev.now _) ?_)))
    rw [Bool.true_and]
    rfl
  | false => exact Ev.neg (by decide) (Ev.val (Ev.now _) (by rw [Bool.false_and]))
theorem implTS_ev : Ev (fun K => impl_TurnsOfOrder.f K w d codes) (turnsL w d codes) := by
  unfold impl_TurnsOfOrder.f
  exact Ev.let_ (IsLock_some _ _) (Ev.pos (lock_isL hw hd) (Ev.bind (ordT_ev hw hd codes hr) (Ev.now _)))
omit hr in
theorem specTS_l0 (hl : codes.length ≤ 1000) (hc : ∀ s ∈ codes, codeB (w : Int) (d : Int) s = true) : ∀ (rest : List ByteArray) (p : ByteArray) (i : Nat) (acc : List S46), codes.drop i = p :: rest → acc.length ≤ i →
    Ev (fun K => spec_TurnsOfOrder.l0 K codes acc ((i + 1 : Nat) : Int) w d) (acc ++ turnsC w d p rest, true)
  | [], p, i, acc, he, ha => by
    have hlen : codes.length - i = 1 := by have := congrArg List.length he; simpa using this
    refine Ev.step (fun k => by rw [spec_TurnsOfOrder.l0]) (Ev.neg (by omega) (Ev.val (Ev.now _) ?_))
    simp [turnsC]
  | s :: rest, p, i, acc, he, ha => by
    have hlen : codes.length - i = rest.length + 2 := by have := congrArg List.length he; simpa using this
    have h0 : codes[i]'(by omega) = p := by
      have := List.drop_eq_getElem_cons (show i < codes.length by omega)
      rw [he] at this
      exact (List.cons.inj this).1.symm
    have hd1 : codes.drop (i + 1) = s :: rest := by
      have := List.drop_eq_getElem_cons (show i < codes.length by omega)
      rw [he] at this
      exact (List.cons.inj this).2.symm
    have h1 : codes[i + 1]'(by omega) = s := by
      have := List.drop_eq_getElem_cons (show i + 1 < codes.length by omega)
      rw [hd1] at this
      exact (List.cons.inj this).1.symm
    have e0 : rdOf ByteArray.empty codes (i : Int) = p := by rw [← h0]; unfold rdOf; simp [show i < codes.length by omega]
    have e1 : rdOf ByteArray.empty codes ((i + 1 : Nat) : Int) = s := by
      rw [← h1]; unfold rdOf
      rw [Int.toNat_natCast, List.getD_eq_getElem?_getD, List.getElem?_eq_getElem (show i + 1 < codes.length by omega)]; rfl
    have hp := hc p (by rw [← h0]; exact List.getElem_mem _)
    have hs := hc s (by rw [← h1]; exact List.getElem_mem _)
    refine Ev.step (fun k => by rw [spec_TurnsOfOrder.l0]) (Ev.pos (by omega) ?_)
    rw [w64 (x := ((i + 1 : Nat) : Int) - 1) (by omega) (by omega), show ((i + 1 : Nat) : Int) - 1 = (i : Int) by omega, e0, e1]
    refine Ev.pos (by omega) (Ev.pos (by omega) (Ev.pos (by omega) (Ev.bind (orTurn_ev hw hd hp hs) (Ev.pos (by omega) ?_))))
    rw [w64n (by omega)]
    refine Ev.val (specTS_l0 hl hc rest s (i + 1) _ hd1 (by simp; omega)) ?_
    simp [turnsC]
theorem specTS_ev : Ev (fun K => spec_TurnsOfOrder.f K w d codes) (turnsL w d codes) := by
  unfold spec_TurnsOfOrder.f turnsL
  refine Ev.let_ (whGood_some _ _) (Ev.pos (lock_isL hw hd) (Ev.bind (orGood_ev hw hd codes hr) (Ev.step (fun k => by rw [spec_TurnsOfOrder.j0]) ?_)))
  rw [show goodR w d [] codes = goodB w d codes from rfl]
  cases h : goodB w d codes with
  | false => exact Ev.pos rfl (Ev.now _)
  | true =>
    have h4 := goodR_len w d codes [] (by simp) h
    simp at h4
    refine Ev.neg (by decide) ?_
    cases codes with
    | nil =>
      refine Ev.step (fun k => by rw [spec_TurnsOfOrder.l0]) (Ev.neg (by simp) (Ev.val (Ev.now _) ?_))
      rfl
    | cons p rest =>
      have := specTS_l0 hw hd (p :: rest) h4 (good_codes w d _ [] h) rest p 0 [] rfl (by simp)
      rw [List.nil_append] at this
      exact this
end lock
section nolock
variable {a b : Int} (h : ¬ lockB a b = true) (codes : List ByteArray)
include h
theorem implTO_no : Ev (fun K => impl_IsTurnOrder.f K a b codes) (false, false) := by
  unfold impl_IsTurnOrder.f; exact Ev.let_ (IsLock_some _ _) (Ev.neg h (Ev.now _))
theorem specTO_no : Ev (fun K => spec_IsTurnOrder.f K a b codes) (false, false) := by
  unfold spec_IsTurnOrder.f; exact Ev.let_ (whGood_some _ _) (Ev.neg h (Ev.now _))
theorem implWO_no : Ev (fun K => impl_IsWholeOrder.f K a b codes) (false, false) := by
  unfold impl_IsWholeOrder.f; exact Ev.let_ (IsLock_some _ _) (Ev.neg h (Ev.now _))
theorem specWO_no : Ev (fun K => spec_IsWholeOrder.f K a b codes) (false, false) := by
  unfold spec_IsWholeOrder.f; exact Ev.let_ (whGood_some _ _) (Ev.neg h (Ev.now _))
theorem implCO_no : Ev (fun K => impl_IsClosedOrder.f K a b codes) (false, false) := by
  unfold impl_IsClosedOrder.f; exact Ev.let_ (IsLock_some _ _) (Ev.neg h (Ev.now _))
theorem specCO_no : Ev (fun K => spec_IsClosedOrder.f K a b codes) (false, false) := by
  unfold spec_IsClosedOrder.f; exact Ev.let_ (whGood_some _ _) (Ev.neg h (Ev.now _))
theorem implTS_no : Ev (fun K => impl_TurnsOfOrder.f K a b codes) ([], false) := by
  unfold impl_TurnsOfOrder.f; exact Ev.let_ (IsLock_some _ _) (Ev.neg h (Ev.now _))
theorem specTS_no : Ev (fun K => spec_TurnsOfOrder.f K a b codes) ([], false) := by
  unfold spec_TurnsOfOrder.f
  exact Ev.let_ (whGood_some _ _) (Ev.neg h (Ev.step (fun k => by rw [spec_TurnsOfOrder.j0]) (Ev.pos rfl (Ev.now _))))
end nolock
theorem aTurns_ev (l : List S46) (hl : l.length ≤ 1000000) : Ev (fun K => laws_aTurns.f K l l) true := by
  have key : ∀ (j i : Nat), i + j = l.length → Ev (fun K => laws_aTurns.l0 K l l (l.length : Int) i) true := by
    intro j
    induction j with
    | zero =>
      intro i hi
      exact Ev.step (fun k => by rw [laws_aTurns.l0]) (Ev.neg (by omega) (Ev.now _))
    | succ j ih =>
      intro i hi
      refine Ev.step (fun k => by rw [laws_aTurns.l0]) (Ev.pos (by omega) (Ev.pos (by omega) (Ev.pos (by omega) (Ev.pos (by omega) (Ev.neg (by simp) ?_)))))
      rw [w64n (by omega)]
      exact ih (i + 1) (by omega)
  unfold laws_aTurns.f
  exact Ev.pos rfl (key l.length 0 (by omega))
theorem aTexts_ev (l : List ByteArray) (hl : l.length ≤ 1000000) : Ev (fun K => laws_aTexts.f K l l) true := by
  have key : ∀ (j i : Nat), i + j = l.length → Ev (fun K => laws_aTexts.l0 K l l (l.length : Int) i) true := by
    intro j
    induction j with
    | zero =>
      intro i hi
      exact Ev.step (fun k => by rw [laws_aTexts.l0]) (Ev.neg (by omega) (Ev.now _))
    | succ j ih =>
      intro i hi
      refine Ev.step (fun k => by rw [laws_aTexts.l0]) (Ev.pos (by omega) (Ev.pos (by omega) (Ev.pos (by omega) (Ev.pos (by omega) (Ev.pos rfl ?_)))))
      rw [w64n (by omega)]
      exact ih (i + 1) (by omega)
  unfold laws_aTexts.f
  exact Ev.pos rfl (key l.length 0 (by omega))
end Go.Proofs.Ythpmpkmdjpaemaa.Pure
