/- The program's CountKeys returns what the reference's returns, for all arguments; no condition beyond the law's own. -/
import Derived.Test.YtdkgclkkofmgkaaStatFnExactCountKeys
import Derived.Test.YtdkgclkkofmgkaaQx0
import Derived.Test.YtdkgclkkofmgkaaQx3
import Derived.Test.YtdkgclkkofmgkaaQx4
import Derived.Test.YtdkgclkkofmgkaaKeyA
namespace Go.Proofs.Ytdkgclkkofmgkaa.Pure
open Go.RowKit Go.Proofs.Ytdkgclkkofmgkaa.Q Go.Proofs.YtdkgclkkofmgkaaW.PrintWords Go.Proofs.YtdkgclkkofmgkaaW.PrintLast Go.Proofs.YtdkgclkkofmgkaaW.PrintMore
set_option linter.unusedVariables false
def prodW (l : List (List Int)) (a : Int) : Int := l.foldl (fun a x => wrap64 (a * (x.length : Int))) a
theorem keCount_l0 (l : List (List Int)) (hn : l.length ≤ 1048576) : ∀ (d i : Nat) (a : Int), i + d = l.length → Ev (fun k => spec_keCount.l0 k a l (l.length : Int) (i : Int)) (prodW (l.drop i) a) := by
  intro d
  induction d with
  | zero =>
    intro i a hi
    refine Ev.step (fun k => by rw [spec_keCount.l0]) ?_
    refine Ev.neg (by omega) (Ev.val (Ev.now _) ?_)
    rw [List.drop_eq_nil_of_le (by omega)]
    rfl
  | succ d ih =>
    intro i a hi
    have h1 : i < l.length := by omega
    refine Ev.step (fun k => by rw [spec_keCount.l0]) ?_
    refine Ev.pos (by omega) (Ev.pos (by omega) (Ev.pos (by omega) ?_))
    rw [rdL_nat h1, w64n (by omega)]
    refine Ev.val (ih (i + 1) _ (by omega)) ?_
    rw [List.drop_eq_getElem_cons h1]
    rfl
theorem keys_l0 (l : List (List Int)) (hn : l.length ≤ 1048576) : ∀ (d i : Nat) (a : Int), i + d = l.length → Ev (fun k => impl_Pins_keys.l0 k a l (l.length : Int) (i : Int)) (prodW (l.drop i) a) := by
  intro d
  induction d with
  | zero =>
    intro i a hi
    refine Ev.step (fun k => by rw [impl_Pins_keys.l0]) ?_
    refine Ev.neg (by omega) (Ev.val (Ev.now _) ?_)
    rw [List.drop_eq_nil_of_le (by omega)]
    rfl
  | succ d ih =>
    intro i a hi
    have h1 : i < l.length := by omega
    refine Ev.step (fun k => by rw [impl_Pins_keys.l0]) ?_
    refine Ev.pos (by omega) (Ev.pos (by omega) (Ev.pos (by omega) ?_))
    rw [rdL_nat h1, w64n (by omega)]
    refine Ev.val (ih (i + 1) _ (by omega)) ?_
    rw [List.drop_eq_getElem_cons h1]
    rfl
def keysV (d : Int) (l : List (List Int)) : Int × Bool := if pinsOk d l = true then (prodW l 1, true) else (0, false)
theorem FnExactCountKeys : laws_FnExactCountKeys.Pure := by
  intro d l _ hl
  apply Ev.rounds
  obtain ⟨v, hv, hb⟩ := szPins_ev d l hl.1 (fun x h => (hl.2 x h).1)
  unfold laws_FnExactCountKeys.f
  refine Ev.bind hv ?_
  by_cases h : v < 0
  · exact Ev.pos h (Ev.now _)
  refine Ev.neg h ?_
  obtain ⟨hn, hx⟩ := hb.resolve_left h
  have hS : Ev (fun k => spec_CountKeys.f k d l) (keysV d l) := by
    unfold spec_CountKeys.f keysV
    refine Ev.bind (keGood_ev d l hn hx) ?_
    by_cases hp : pinsOk d l = true
    · rw [if_pos hp]
      refine Ev.pos hp (Ev.bind (a := prodW l 1) ?_ (Ev.now _))
      unfold spec_keCount.f
      exact keCount_l0 l hn l.length 0 1 (by omega)
    · rw [if_neg hp]
      exact Ev.neg hp (Ev.now _)
  have hI : Ev (fun k => impl_CountKeys.f k d l) (keysV d l) := by
    unfold impl_CountKeys.f keysV
    refine Ev.bind (implArePins_ev d l hn hx) ?_
    by_cases hp : pinsOk d l = true
    · rw [if_pos hp]
      refine Ev.pos hp (Ev.bind (a := prodW l 1) ?_ (Ev.now _))
      unfold impl_Pins_keys.f
      exact keys_l0 l hn l.length 0 1 (by omega)
    · rw [if_neg hp]
      exact Ev.neg hp (Ev.now _)
  refine Ev.bind (toPins_ev d l hn hx) (Ev.bind hS (Ev.bind (toPins_ev d l hn hx) (Ev.bind hI (Ev.pos rfl ?_))))
  refine Ev.step (fun k => by rw [laws_FnExactCountKeys.j0]) ?_
  exact Ev.neg (by simp) (Ev.bind (toPins_ev d l hn hx) (Ev.bind (eqPins_refl d l hn hx) (Ev.pos rfl (Ev.now _))))
end Go.Proofs.Ytdkgclkkofmgkaa.Pure
