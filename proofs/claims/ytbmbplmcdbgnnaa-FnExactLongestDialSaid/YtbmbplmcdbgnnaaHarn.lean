/- What the laws' own helpers on slices of ints come to: copies, comparisons, marks; for lists shorter than 2^40. -/
import Derived.Test.YtbmbplmcdbgnnaaQx0
import Derived.Test.YtbmbplmcdbgnnaaQx1
import Derived.Test.YtbmbplmcdbgnnaaQx2
import Derived.Test.YtbmbplmcdbgnnaaKit
namespace Go.Proofs.Ytbmbplmcdbgnnaa.Pure
open Go.RowKit Go.Proofs.Ytbmbplmcdbgnnaa.Q Go.Proofs.YtbmbplmcdbgnnaaW.PrintWords Go.Proofs.YtbmbplmcdbgnnaaW.PrintLast Go.Proofs.YtbmbplmcdbgnnaaW.PrintMore
set_option linter.unusedVariables false

theorem toIntS_l0 (xs : List Int) (hn : xs.length < 1099511627776) : ∀ (d i : Nat) (ys : List Int), i + d = xs.length → ys.length = xs.length → ys.take i = xs.take i →
    Ev (fun k => laws_toIntS.l0 k xs ys (i : Int)) xs := by
  intro d
  induction d with
  | zero =>
    intro i ys hi hl he
    refine Ev.step (fun k => by rw [laws_toIntS.l0]) ?_
    refine Ev.neg (by omega) ?_
    refine Ev.val (Ev.now _) ?_
    rw [List.take_of_length_le (by omega), List.take_of_length_le (by omega)] at he
    exact he
  | succ d ih =>
    intro i ys hi hl he
    refine Ev.step (fun k => by rw [laws_toIntS.l0]) ?_
    refine Ev.pos (by omega) (Ev.pos (by omega) (Ev.pos (by omega) ?_))
    rw [w64n (by omega), Int.toNat_natCast, rd_nat (by omega)]
    refine ih (i + 1) _ (by omega) (by simp [hl]) ?_
    have h1 : i < xs.length := by omega
    rw [List.take_succ_eq_append_getElem (by simp; omega), List.take_succ_eq_append_getElem h1, List.take_set]
    rw [List.set_eq_of_length_le (by simp; omega), he]
    simp
theorem toIntS_ev (xs : List Int) (hn : xs.length < 1099511627776) : Ev (fun k => laws_toIntS.f k xs) xs := by
  unfold laws_toIntS.f
  refine Ev.pos (by omega) (Ev.pos (by omega) ?_)
  rw [Int.toNat_natCast]
  exact toIntS_l0 xs hn xs.length 0 _ (by omega) (by simp) rfl

theorem eqIntS_l0 (xs ys : List Int) (hn : xs.length < 1099511627776) (hl : xs.length = ys.length) : ∀ (d i : Nat), i + d = xs.length →
    Ev (fun k => laws_eqIntS.l0 k xs ys (i : Int)) (decide (xs.drop i = ys.drop i)) := by
  intro d
  induction d with
  | zero =>
    intro i hi
    refine Ev.step (fun k => by rw [laws_eqIntS.l0]) ?_
    refine Ev.neg (by omega) ?_
    refine Ev.val (Ev.now _) ?_
    rw [List.drop_eq_nil_of_le (by omega), List.drop_eq_nil_of_le (by omega)]
    rfl
  | succ d ih =>
    intro i hi
    have h1 : i < xs.length := by omega
    have h2 : i < ys.length := by omega
    refine Ev.step (fun k => by rw [laws_eqIntS.l0]) ?_
    refine Ev.pos (by omega) (Ev.pos (by omega) (Ev.pos (by omega) ?_))
    rw [rd_nat h1, rd_nat h2, w64n (by omega)]
    by_cases he : xs[i] = ys[i]
    · refine Ev.pos he (Ev.val (ih (i + 1) (by omega)) ?_)
      rw [List.drop_eq_getElem_cons h1, List.drop_eq_getElem_cons h2, he]
      simp only [List.cons.injEq, true_and]
    · refine Ev.neg he (Ev.val (Ev.now _) ?_)
      rw [List.drop_eq_getElem_cons h1, List.drop_eq_getElem_cons h2]
      simp only [List.cons.injEq, he, false_and, decide_false]
theorem eqIntS_ev (xs ys : List Int) (hn : xs.length < 1099511627776) : Ev (fun k => laws_eqIntS.f k xs ys) (decide (xs = ys)) := by
  unfold laws_eqIntS.f
  by_cases h : xs.length = ys.length
  · refine Ev.pos (by omega) ?_
    have := eqIntS_l0 xs ys hn h xs.length 0 (by omega)
    simpa using this
  · refine Ev.neg (by omega) (Ev.val (Ev.now _) ?_)
    symm
    rw [decide_eq_false_iff_not]
    intro e
    exact h (by rw [e])

/-- The marks a, a + 1, .. -/
def marksFrom (a : Int) (n : Nat) : List Int := (List.range n).map (fun (j : Nat) => a + (j : Int))
theorem marksFrom_succ (a : Int) (n : Nat) : marksFrom a (n + 1) = a :: marksFrom (a + 1) n := by
  unfold marksFrom
  rw [List.range_succ_eq_map]
  simp only [List.map_cons, List.map_map, Int.natCast_zero, Int.add_zero]
  congr 1
  apply List.map_congr_left
  intro j _
  simp only [Function.comp]
  omega
theorem marksFrom_length (a : Int) (n : Nat) : (marksFrom a n).length = n := by simp [marksFrom]
theorem marksFrom_get (a : Int) (n i : Nat) (h : i < (marksFrom a n).length) : (marksFrom a n)[i] = a + (i : Int) := by simp [marksFrom]

theorem markIntS_l0 (n : Nat) (hn : n < 1099511627776) : ∀ (d i : Nat) (xs : List Int), i + d = n → xs.length = n →
    Ev (fun k => laws_markIntS.l0 k xs (1 + (i : Int)) (i : Int)) (1 + (n : Int), xs.take i ++ marksFrom (1 + (i : Int)) d) := by
  intro d
  induction d with
  | zero =>
    intro i xs hi hl
    refine Ev.step (fun k => by rw [laws_markIntS.l0]) ?_
    refine Ev.neg (by omega) (Ev.val (Ev.now _) ?_)
    rw [List.take_of_length_le (by omega)]
    have : i = n := by omega
    simp [marksFrom, this]
  | succ d ih =>
    intro i xs hi hl
    refine Ev.step (fun k => by rw [laws_markIntS.l0]) ?_
    refine Ev.pos (by omega) (Ev.pos (by omega) ?_)
    rw [w64n (by omega), Int.toNat_natCast, w64 (x := 1 + (i : Int) + 1) (by omega) (by omega)]
    have e : 1 + (i : Int) + 1 = 1 + ((i + 1 : Nat) : Int) := by omega
    rw [e]
    refine Ev.val (ih (i + 1) _ (by omega) (by simp [hl])) ?_
    rw [List.take_succ_eq_append_getElem (by simp; omega), List.take_set, List.set_eq_of_length_le (by simp; omega), marksFrom_succ, ← e]
    simp
theorem markIntS_ev (xs : List Int) (hn : xs.length < 1099511627776) : Ev (fun k => laws_markIntS.f k xs 1) (1 + (xs.length : Int), marksFrom 1 xs.length) := by
  unfold laws_markIntS.f
  have := markIntS_l0 xs.length hn xs.length 0 xs (by omega) rfl
  simpa using this

theorem heldIntS_l0 (n : Nat) (hn : n < 1099511627776) : ∀ (d i : Nat), i + d = n →
    Ev (fun k => laws_heldIntS.l0 k (marksFrom 1 n) (1 + (i : Int)) (i : Int)) (1 + (n : Int)) := by
  intro d
  induction d with
  | zero =>
    intro i hi
    refine Ev.step (fun k => by rw [laws_heldIntS.l0]) ?_
    refine Ev.neg (by rw [marksFrom_length]; omega) (Ev.val (Ev.now _) (by omega))
  | succ d ih =>
    intro i hi
    refine Ev.step (fun k => by rw [laws_heldIntS.l0]) ?_
    refine Ev.pos (by rw [marksFrom_length]; omega) (Ev.pos (by omega) (Ev.pos ?_ ?_))
    · rw [rd_nat (by rw [marksFrom_length]; omega), marksFrom_get]
    · rw [w64n (by omega), w64 (x := 1 + (i : Int) + 1) (by omega) (by omega)]
      have e : 1 + (i : Int) + 1 = 1 + ((i + 1 : Nat) : Int) := by omega
      rw [e]
      exact ih (i + 1) (by omega)
theorem heldIntS_ev (n : Nat) (hn : n < 1099511627776) : Ev (fun k => laws_heldIntS.f k (marksFrom 1 n) 1) (1 + (n : Int)) := by
  unfold laws_heldIntS.f
  have := heldIntS_l0 n hn n 0 (by omega)
  simpa using this
end Go.Proofs.Ytbmbplmcdbgnnaa.Pure
