/- Chapter 5: the law's last part: first orders and their numbers. -/
import Derived.Test.YthpmpkmdjpaemaaOx0
import Derived.Test.YthpmpkmdjpaemaaOx13
import Derived.Test.YthpmpkmdjpaemaaOx17
import Derived.Test.YthpmpkmdjpaemaaOrdW
import Derived.Test.YthpmpkmdjpaemaaOrdS
namespace Go.Proofs.Ythpmpkmdjpaemaa.Pure
open Go.RowKit Go.Proofs.Ythpmpkmdjpaemaa.O Go.Proofs.YthpmpkmdjpaemaaW.PrintWords Go.Proofs.YthpmpkmdjpaemaaW.PrintLast Go.Proofs.YthpmpkmdjpaemaaW.PrintMore
set_option linter.unusedVariables false

set_option maxRecDepth 100000 in
theorem lock23 : LockVal 2 3 ⟨#[48, 48]⟩ first23 168 96 := ⟨wholes23, search23, by decide +kernel, by decide +kernel, by decide +kernel, by decide⟩
theorem small_cases {a b : Int} (h : smallB a b 9 = true) : (a = 1 ∧ b = 2) ∨ (a = 1 ∧ b = 3) ∨ (a = 1 ∧ b = 4) ∨ (a = 1 ∧ b = 5) ∨ (a = 1 ∧ b = 6) ∨ (a = 1 ∧ b = 7) ∨ (a = 1 ∧ b = 8) ∨ (a = 1 ∧ b = 9) ∨ (a = 2 ∧ b = 2) ∨ (a = 2 ∧ b = 3) ∨ (a = 3 ∧ b = 2) := by
  unfold smallB at h
  rw [Bool.and_eq_true, decide_eq_true_iff] at h
  obtain ⟨w, d, rfl, rfl, h1, h2, h3, h4⟩ := lock_nat h.1
  have h5 := h.2
  simp only [Int.toNat_natCast] at h5
  have h6 : d ^ w ≤ 9 := by omega
  have key : ∀ w : Fin 7, ∀ d : Fin 11, 1 ≤ w.1 → 2 ≤ d.1 → d.1 ^ w.1 ≤ 9 → ((w.1 = 1 ∧ d.1 = 2) ∨ (w.1 = 1 ∧ d.1 = 3) ∨ (w.1 = 1 ∧ d.1 = 4) ∨ (w.1 = 1 ∧ d.1 = 5) ∨ (w.1 = 1 ∧ d.1 = 6) ∨ (w.1 = 1 ∧ d.1 = 7) ∨ (w.1 = 1 ∧ d.1 = 8) ∨ (w.1 = 1 ∧ d.1 = 9) ∨ (w.1 = 2 ∧ d.1 = 2) ∨ (w.1 = 2 ∧ d.1 = 3) ∨ (w.1 = 3 ∧ d.1 = 2)) := by decide +kernel
  have := key ⟨w, by omega⟩ ⟨d, by omega⟩ h1 h3 h6
  simp only at this
  rcases this with ⟨rfl, rfl⟩ | ⟨rfl, rfl⟩ | ⟨rfl, rfl⟩ | ⟨rfl, rfl⟩ | ⟨rfl, rfl⟩ | ⟨rfl, rfl⟩ | ⟨rfl, rfl⟩ | ⟨rfl, rfl⟩ | ⟨rfl, rfl⟩ | ⟨rfl, rfl⟩ | ⟨rfl, rfl⟩ <;> decide
theorem small_lockval {a b : Int} (h : smallB a b 9 = true) : ∃ z F c e, LockVal a b z F c e := by
  rcases small_cases h with ⟨rfl, rfl⟩ | ⟨rfl, rfl⟩ | ⟨rfl, rfl⟩ | ⟨rfl, rfl⟩ | ⟨rfl, rfl⟩ | ⟨rfl, rfl⟩ | ⟨rfl, rfl⟩ | ⟨rfl, rfl⟩ | ⟨rfl, rfl⟩ | ⟨rfl, rfl⟩ | ⟨rfl, rfl⟩
  · exact ⟨_, _, _, _, lock12⟩
  · exact ⟨_, _, _, _, lock13⟩
  · exact ⟨_, _, _, _, lock14⟩
  · exact ⟨_, _, _, _, lock15⟩
  · exact ⟨_, _, _, _, lock16⟩
  · exact ⟨_, _, _, _, lock17⟩
  · exact ⟨_, _, _, _, lock18⟩
  · exact ⟨_, _, _, _, lock19⟩
  · exact ⟨_, _, _, _, lock22⟩
  · exact ⟨_, _, _, _, lock23⟩
  · exact ⟨_, _, _, _, lock32⟩
theorem orFew_ev (a b : Int) : Ev (fun K => spec_orFew.f K a b) (smallB a b 9) := by
  unfold spec_orFew.f smallB
  refine Ev.let_ (whGood_some a b) ?_
  by_cases h : lockB a b = true
  · obtain ⟨w, d, rfl, rfl, h1, h2, h3, h4⟩ := lock_nat h
    refine Ev.pos h (Ev.bind (whCount_ev w d h2 h3 h4) (Ev.val (Ev.now _) ?_))
    rw [h, Bool.true_and]
    simp only [Int.toNat_natCast]
  · refine Ev.neg h (Ev.val (Ev.now _) ?_)
    rw [Bool.eq_false_iff.mpr h, Bool.false_and]
theorem orZero_ev (w d : Nat) (hw : 1 ≤ w ∧ w ≤ 6) (hd : 2 ≤ d ∧ d ≤ 10) : Ev (fun K => spec_orZero.f K w d) [codeT w d 0] := by
  unfold spec_orZero.f
  exact Ev.bind (whOf_ev w d 0 hw.1 hw.2 hd (by omega)) (Ev.now _)
end Go.Proofs.Ythpmpkmdjpaemaa.Pure
