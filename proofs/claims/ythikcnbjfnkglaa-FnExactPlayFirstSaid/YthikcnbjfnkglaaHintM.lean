/- Marks on hints: what the laws' helpers write and read again. -/
import Derived.Test.YthikcnbjfnkglaaSx0
import Derived.Test.YthikcnbjfnkglaaSx12
import Derived.Test.YthikcnbjfnkglaaSx13
import Derived.Test.YthikcnbjfnkglaaHintS
namespace Go.Proofs.Ythikcnbjfnkglaa.Pure
open Go.RowKit Go.Proofs.Ythikcnbjfnkglaa.S Go.Proofs.YthikcnbjfnkglaaW.PrintWords Go.Proofs.YthikcnbjfnkglaaW.PrintLast Go.Proofs.YthikcnbjfnkglaaW.PrintMore
set_option linter.unusedVariables false

noncomputable def marksH (n : Nat) : List S75 := (List.range n).map (fun (i : Nat) => ⟨markT (1 + 3 * i), ((1 + 3 * i + 1 : Nat) : Int), ((1 + 3 * i + 1 + 1 : Nat) : Int)⟩)
theorem marksH_length (n : Nat) : (marksH n).length = n := by simp [marksH]
theorem rdH_set (xs : List S75) (i : Nat) (v : S75) (h : i < xs.length) : rd_T75 (xs.set i v) (i : Int) = v := by simp [rd_T75, List.getD, h]
theorem markHints_l0 (n : Nat) (hn : n ≤ 10000000) : ∀ (d i : Nat) (xs : List S75), i + d = n → xs.length = n → xs.take i = marksH i → Ev (fun k => laws_markHintS.l0 k xs ((1 + 3 * i : Nat) : Int) (i : Int)) (((1 + 3 * n : Nat) : Int), marksH n) := by
  intro d
  induction d with
  | zero =>
    intro i xs hi hl he
    refine Ev.step (fun k => by rw [laws_markHintS.l0]) ?_
    refine Ev.neg (by omega) (Ev.val (Ev.now _) ?_)
    rw [List.take_of_length_le (by omega)] at he
    rw [he, show i = n by omega]
  | succ d ih =>
    intro i xs hi hl he
    refine Ev.step (fun k => by rw [laws_markHintS.l0]) ?_
    refine Ev.pos (by omega) (Ev.bind (markT_ev (1 + 3 * i) (by omega)) (Ev.pos (by omega) (Ev.let_ rfl (Ev.let_ rfl ?_))))
    simp only [Int.toNat_natCast]
    rw [rdH_set _ i _ (by omega), rdH_set _ i _ (by simp; omega), List.set_set, List.set_set, w64n (i := 1 + 3 * i) (by omega), w64n (i := 1 + 3 * i + 1) (by omega), w64n (i := 1 + 3 * i + 1 + 1) (by omega), w64n (i := i) (by omega)]
    have e : (1 + 3 * i + 1 + 1 + 1) = 1 + 3 * (i + 1) := by omega
    rw [e]
    refine ih (i + 1) _ (by omega) (by simp [hl]) ?_
    rw [List.take_succ_eq_append_getElem (by simp; omega), List.take_set, List.set_eq_of_length_le (by simp; omega), he, List.getElem_set_self]
    unfold marksH
    rw [List.range_succ, List.map_append]
    rfl
theorem markHints_ev (xs : List S75) (hn : xs.length ≤ 10000000) : Ev (fun k => laws_markHintS.f k xs 1) (((1 + 3 * xs.length : Nat) : Int), marksH xs.length) := by
  unfold laws_markHintS.f
  exact markHints_l0 xs.length hn xs.length 0 xs (by omega) rfl rfl
theorem heldHints_l0 (n : Nat) (hn : n ≤ 10000000) : ∀ (d i : Nat), i + d = n → Ev (fun k => laws_heldHintS.l0 k (marksH n) ((1 + 3 * i : Nat) : Int) (i : Int)) ((1 + 3 * n : Nat) : Int) := by
  intro d
  induction d with
  | zero =>
    intro i hi
    refine Ev.step (fun k => by rw [laws_heldHintS.l0]) ?_
    refine Ev.neg (by rw [marksH_length]; omega) (Ev.val (Ev.now _) (by rw [show i = n by omega]))
  | succ d ih =>
    intro i hi
    have hr : rd_T75 (marksH n) (i : Int) = ⟨markT (1 + 3 * i), ((1 + 3 * i + 1 : Nat) : Int), ((1 + 3 * i + 1 + 1 : Nat) : Int)⟩ := by
      unfold rd_T75 marksH
      simp [List.getD, show i < n by omega]
    have e : (1 + 3 * i + 1 + 1 + 1) = 1 + 3 * (i + 1) := by omega
    refine Ev.step (fun k => by rw [laws_heldHintS.l0]) ?_
    rw [hr, w64n (i := 1 + 3 * i) (by omega), w64n (i := 1 + 3 * i + 1) (by omega), w64n (i := 1 + 3 * i + 1 + 1) (by omega), w64n (i := i) (by omega), e]
    exact Ev.pos (by rw [marksH_length]; omega) (Ev.pos (by omega) (Ev.bind (markT_ev (1 + 3 * i) (by omega)) (Ev.pos rfl (Ev.pos rfl (Ev.pos rfl (ih (i + 1) (by omega)))))))
theorem heldHints_ev (n : Nat) (hn : n ≤ 10000000) : Ev (fun k => laws_heldHintS.f k (marksH n) 1) ((1 + 3 * n : Nat) : Int) := by
  unfold laws_heldHintS.f
  exact heldHints_l0 n hn n 0 (by omega)
end Go.Proofs.Ythikcnbjfnkglaa.Pure
