/- Chapter 7: how often numbers pass, and codes that are close. -/
import Derived.Test.YtbncaiombmekhaaRBx0
import Derived.Test.YtbncaiombmekhaaRBx1
import Derived.Test.YtbncaiombmekhaaRBx4
import Derived.Test.YtbncaiombmekhaaRBx5
import Derived.Test.YtbncaiombmekhaaRBx6
import Derived.Test.YtbncaiombmekhaaRDialD0
import Derived.Test.YtbncaiombmekhaaRDialA
namespace Go.Proofs.YtbncaiombmekhaaR.Pure
open Go.RowKit Go.Proofs.YtbncaiombmekhaaR.B Go.Proofs.YtbncaiombmekhaaRW.PrintWords Go.Proofs.YtbncaiombmekhaaRW.PrintLast Go.Proofs.YtbncaiombmekhaaRW.PrintMore
set_option linter.unusedVariables false

theorem l1Sign_some (a : Int) : spec_l1Sign.f a = some (if a > 0 then 1 else if a < 0 then -1 else 0) := by
  unfold spec_l1Sign.f
  split
  · rfl
  · split <;> rfl
theorem diPasses_l0 (m number by_ : Int) (hm : 2 ≤ m ∧ m ≤ 100) (hby : by_ = 1 ∨ by_ = -1) : ∀ (d : Nat) (s acc : Int), d ≤ 100000 → 0 ≤ s → s < m → 0 ≤ acc → acc + d ≤ 100000 →
    Ev (fun k => spec_diPasses.l0 k m s number by_ acc (d : Int)) (acc + passN m by_ number d s) := by
  intro d
  induction d with
  | zero =>
    intro s acc _ _ _ _ _
    refine Ev.step (fun k => by rw [spec_diPasses.l0]) ?_
    refine Ev.neg (by omega) (Ev.val (Ev.now _) ?_)
    simp [passN]
  | succ d ih =>
    intro s acc hd h0 h1 ha hb
    refine Ev.step (fun k => by rw [spec_diPasses.l0]) ?_
    refine Ev.pos (by omega) ?_
    rw [w64 (x := s + by_) (by omega) (by omega), w64 (x := ((d + 1 : Nat) : Int) - 1) (by omega) (by omega), w64 (x := acc + 1) (by omega) (by omega)]
    refine Ev.let_ (l1Mod_some _ m hm.1 (by omega)) ?_
    have e1 : 0 ≤ (s + by_) % m := Int.emod_nonneg _ (by omega)
    have e2 : (s + by_) % m < m := Int.emod_lt_of_pos _ (by omega)
    have e3 : ((d + 1 : Nat) : Int) - 1 = (d : Int) := by omega
    rw [e3]
    unfold passN
    by_cases hc : (s + by_) % m = number
    · refine Ev.pos hc (Ev.val (ih _ _ (by omega) e1 e2 (by omega) (by omega)) ?_)
      rw [if_pos hc]
      omega
    · refine Ev.neg hc (Ev.val (ih _ _ (by omega) e1 e2 (by omega) (by omega)) ?_)
      rw [if_neg hc]
      omega
/-- What both PassesOf return. -/
def passesV (m s step number : Int) : Int × Bool := if (2 ≤ m ∧ m ≤ 100) ∧ (0 ≤ s ∧ s ≤ m - 1) ∧ stepOk step = true ∧ 0 ≤ number ∧ number ≤ m - 1 then (passN m (if step > 0 then 1 else -1) number (max step (-step)).toNat s, true) else (0, false)
theorem specPassesOf_ev (m s step number : Int) : Ev (fun k => spec_PassesOf.f k m s step number) (passesV m s step number) := by
  unfold spec_PassesOf.f passesV
  refine Ev.let_ (diAsked_some m s) ?_
  by_cases h : (2 ≤ m ∧ m ≤ 100) ∧ 0 ≤ s ∧ s ≤ m - 1
  · refine Ev.pos (by simp; omega) ?_
    refine Ev.let_ (diStep_some step) ?_
    by_cases hx : stepOk step = true
    · refine Ev.pos hx ?_
      rw [w64 (by omega) (by omega)]
      refine Ev.let_ (l1In_some _ _ _) ?_
      by_cases hn : 0 ≤ number ∧ number ≤ m - 1
      · refine Ev.pos (by simp; omega) ?_
        rw [if_pos ⟨h.1, h.2, hx, hn⟩]
        have hx' := stepOk_iff.mp hx
        refine Ev.bind (a := passN m (if step > 0 then 1 else -1) number (max step (-step)).toNat s) ?_ (Ev.now _)
        unfold spec_diPasses.f
        refine Ev.let_ (l1Sign_some step) (Ev.let_ (l1Abs_some step (by omega)) ?_)
        have e : (max step (-step)) = (((max step (-step)).toNat : Nat) : Int) := by omega
        have e2 : (if step > 0 then (1 : Int) else if step < 0 then -1 else 0) = if step > 0 then 1 else -1 := by
          split
          · rfl
          · rw [if_pos (by omega)]
        rw [e2]
        rw [e]
        rw [Int.toNat_natCast]
        have := diPasses_l0 m number (if step > 0 then 1 else -1) h.1 (by split <;> omega) (max step (-step)).toNat s 0 (by omega) (by omega) (by omega) (by omega) (by omega)
        rw [Int.zero_add] at this
        exact this
      · refine Ev.neg (by simp; omega) (Ev.val (Ev.now _) ?_)
        rw [if_neg (by intro hc; exact hn hc.2.2.2)]
    · refine Ev.neg hx (Ev.val (Ev.now _) ?_)
      rw [if_neg (by intro hc; exact hx hc.2.2.1)]
  · refine Ev.neg (by simp; omega) (Ev.val (Ev.now _) ?_)
    rw [if_neg (by intro hc; exact h ⟨hc.1, hc.2.1⟩)]
theorem isDial_two (m s n : Int) : impl_isDial.f m [s, n] = some (decide ((2 ≤ m ∧ m ≤ 100) ∧ (0 ≤ s ∧ s ≤ m - 1) ∧ 0 ≤ n ∧ n ≤ m - 1)) := by
  rw [isDial_some _ _ (by simp)]
  by_cases h : 2 ≤ m ∧ m ≤ 100 <;> simp [h]
theorem implPassesOf_ev (m s step number : Int) : Ev (fun k => impl_PassesOf.f k m s step number) (passesV m s step number) := by
  unfold impl_PassesOf.f passesV
  refine Ev.let_ (isDial_two m s number) ?_
  by_cases h : (2 ≤ m ∧ m ≤ 100) ∧ (0 ≤ s ∧ s ≤ m - 1) ∧ 0 ≤ number ∧ number ≤ m - 1
  · refine Ev.pos (by simp; omega) ?_
    refine Ev.let_ (areSteps_some [step]) ?_
    refine Ev.step (fun k => by rw [impl_PassesOf.j0]) ?_
    have es : stepsOk [step] = stepOk step := by simp [stepsOk]
    rw [es]
    by_cases hx : stepOk step = true
    · have hx' := stepOk_iff.mp hx
      refine Ev.neg (by simp [hx]) ?_
      rw [if_pos ⟨h.1, h.2.1, hx, h.2.2⟩]
      have key : ∀ by_, by_ = (if step > 0 then (1 : Int) else -1) → Ev (fun k => impl_PassesOf.j1 k m s step number by_) (passN m (if step > 0 then 1 else -1) number (max step (-step)).toNat s, true) := by
        intro by_ hby
        rw [← hby]
        have hb : by_ = 1 ∨ by_ = -1 := by rw [hby]; split <;> omega
        refine Ev.step (fun k => by rw [impl_PassesOf.j1]) ?_
        refine Ev.let_ (size_some step (by omega)) ?_
        refine Ev.let_ (first_some m s number by_ h.1 (by omega) (by omega) hb) ?_
        have hf := firstP_bound m s number by_ (by omega)
        have hp := passN_eq m by_ number (by omega) hb (by omega) (max step (-step)).toNat s
        rw [show (((max step (-step)).toNat : Nat) : Int) = max step (-step) by omega] at hp
        rw [hp]
        rw [w64 (x := max step (-step) - firstP m s number by_) (by omega) (by omega)]
        by_cases hlt : max step (-step) < firstP m s number by_
        · refine Ev.pos (by omega) (Ev.val (Ev.now _) ?_)
          rw [if_pos hlt]
        · refine Ev.neg (by omega) (Ev.neg (by omega) (Ev.val (Ev.now _) ?_))
          rw [if_neg hlt, Int.tdiv_eq_ediv_of_nonneg (by omega)]
          have d1 : 0 ≤ (max step (-step) - firstP m s number by_) / m := Int.ediv_nonneg (by omega) (by omega)
          have d2 : (max step (-step) - firstP m s number by_) / m ≤ max step (-step) - firstP m s number by_ := Int.ediv_le_self _ (by omega)
          rw [w64 (x := (max step (-step) - firstP m s number by_) / m) (by omega) (by omega), w64 (by omega) (by omega)]
      by_cases hp : step < 0
      · exact Ev.pos hp (key (-1) (by rw [if_neg (by omega)]))
      · exact Ev.neg hp (key 1 (by rw [if_pos (by omega)]))
    · refine Ev.pos (by simp [hx]) (Ev.val (Ev.now _) ?_)
      rw [if_neg (by intro hc; exact hx hc.2.2.1)]
  · refine Ev.neg (by simp; omega) ?_
    refine Ev.step (fun k => by rw [impl_PassesOf.j0]) ?_
    refine Ev.pos rfl (Ev.val (Ev.now _) ?_)
    rw [if_neg (by intro hc; exact h ⟨hc.1, hc.2.1, hc.2.2.2⟩)]
end Go.Proofs.YtbncaiombmekhaaR.Pure
