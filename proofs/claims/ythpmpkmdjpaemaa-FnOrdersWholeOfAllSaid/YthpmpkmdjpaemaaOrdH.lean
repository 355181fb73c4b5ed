/- Chapter 5: the law's last part. -/
import Derived.Test.YthpmpkmdjpaemaaOx0
import Derived.Test.YthpmpkmdjpaemaaOx12
import Derived.Test.YthpmpkmdjpaemaaOx13
import Derived.Test.YthpmpkmdjpaemaaOx16
import Derived.Test.YthpmpkmdjpaemaaOx17
import Derived.Test.YthpmpkmdjpaemaaOx18
import Derived.Test.YthpmpkmdjpaemaaOx19
import Derived.Test.YthpmpkmdjpaemaaOrdE
namespace Go.Proofs.Ythpmpkmdjpaemaa.Pure
open Go.RowKit Go.Proofs.Ythpmpkmdjpaemaa.O Go.Proofs.YthpmpkmdjpaemaaW.PrintWords Go.Proofs.YthpmpkmdjpaemaaW.PrintLast Go.Proofs.YthpmpkmdjpaemaaW.PrintMore
set_option linter.unusedVariables false

theorem orders_some {a b : Int} {z : ByteArray} {F : List ByteArray} {c e : Int} (h : smallB a b 9 = true) (v : LockVal a b z F c e) : Ev (fun K => laws_FnOrdersWholeOfAll.j4 K a b) true := by
  obtain ⟨w, d, rfl, rfl, h1, h2, h3, h4⟩ := lock_nat (small_lock h)
  have hw : 1 ≤ w ∧ w ≤ 6 := ⟨h1, h2⟩
  have hd : 2 ≤ d ∧ d ≤ 10 := ⟨h3, h4⟩
  have vz := v.zero
  have vw := v.whole
  simp only [Int.toNat_natCast] at vz vw
  have eW : Ev (fun K => impl_Lock_wholes.f K w d) (F, c, e) := Ev.of (fun k => impl_Lock_wholes.mono _ _ k) v.wholes
  have eS : Ev (fun K => spec_orSearch.f K w d [z]) (F, c, e) := Ev.of (fun k => spec_orSearch.mono _ _ _ k) v.search
  have eZ := orZero_ev w d hw hd
  rw [vz] at eZ
  have hg := whole_ends hw hd F vw
  have hs : ∀ s ∈ F, s.size < 9223372036854775808 := fun s hs => by
    have vw2 := vw
    unfold wholeB at vw2
    rw [Bool.and_eq_true] at vw2
    have := code_size (good_codes w d F [] vw2.1 s hs)
    omega
  have hc := v.some
  refine Ev.step (fun k => by rw [laws_FnOrdersWholeOfAll.j4]) ?_
  refine Ev.bind (a := (F, decide (c > 0))) (by unfold impl_FirstWhole.f; exact Ev.bind (isSmall_ev _ _ 9) (Ev.pos h (Ev.bind eW (Ev.now _)))) ?_
  refine Ev.bind (a := (F, true)) (by unfold spec_FirstWhole.f; exact Ev.bind (orFew_ev _ _) (Ev.pos h (Ev.bind eZ (Ev.bind eS (Ev.now _))))) ?_
  refine Ev.bind (a := (c, true)) (by unfold impl_CountWhole.f; exact Ev.bind (isSmall_ev _ _ 9) (Ev.pos h (Ev.bind eW (Ev.now _)))) ?_
  refine Ev.bind (a := (c, true)) (by unfold spec_CountWhole.f; exact Ev.bind (orFew_ev _ _) (Ev.pos h (Ev.bind eZ (Ev.bind eS (Ev.now _))))) ?_
  refine Ev.bind (a := (e, true)) (by unfold impl_CountClosed.f; exact Ev.bind (isSmall_ev _ _ 9) (Ev.pos h (Ev.bind eW (Ev.now _)))) ?_
  refine Ev.bind (a := (e, true)) (by unfold spec_CountClosed.f; exact Ev.bind (orFew_ev _ _) (Ev.pos h (Ev.bind eZ (Ev.bind eS (Ev.now _))))) ?_
  rw [decide_eq_true (show c > 0 by omega)]
  refine Ev.neg (by simp) (Ev.bind (aTexts_ev F (by omega)) (Ev.pos rfl (Ev.neg (by simp) (Ev.pos rfl (Ev.neg (by simp) (Ev.pos rfl (Ev.neg (by simp) (Ev.neg (by simp) (Ev.pos rfl ?_)))))))))
  dsimp only
  refine Ev.bind (implWO_ev hw hd F hs) (Ev.bind (a := (z, true)) ?_ ?_)
  · unfold impl_ZeroCode.f
    have := implCode_ev w d 0 h1 h2 hd (by omega)
    rw [vz] at this
    exact Ev.let_ (IsLock_some _ _) (Ev.pos (lock_isL hw hd) (Ev.bind this (Ev.now _)))
  dsimp only
  rw [vw, v.first]
  refine Ev.pos rfl (Ev.pos rfl (Ev.pos rfl (Ev.pos (by omega) (Ev.pos rfl (Ev.neg (by omega) (Ev.neg (by omega) (Ev.neg (by omega) (Ev.now _))))))))
theorem orders_none {a b : Int} (h : ¬ smallB a b 9 = true) : Ev (fun K => laws_FnOrdersWholeOfAll.j4 K a b) true := by
  refine Ev.step (fun k => by rw [laws_FnOrdersWholeOfAll.j4]) ?_
  refine Ev.bind (a := ([], false)) (by unfold impl_FirstWhole.f; exact Ev.bind (isSmall_ev _ _ 9) (Ev.neg h (Ev.now _))) ?_
  refine Ev.bind (a := ([], false)) (by unfold spec_FirstWhole.f; exact Ev.bind (orFew_ev _ _) (Ev.neg h (Ev.now _))) ?_
  refine Ev.bind (a := (0, false)) (by unfold impl_CountWhole.f; exact Ev.bind (isSmall_ev _ _ 9) (Ev.neg h (Ev.now _))) ?_
  refine Ev.bind (a := (0, false)) (by unfold spec_CountWhole.f; exact Ev.bind (orFew_ev _ _) (Ev.neg h (Ev.now _))) ?_
  refine Ev.bind (a := (0, false)) (by unfold impl_CountClosed.f; exact Ev.bind (isSmall_ev _ _ 9) (Ev.neg h (Ev.now _))) ?_
  refine Ev.bind (a := (0, false)) (by unfold spec_CountClosed.f; exact Ev.bind (orFew_ev _ _) (Ev.neg h (Ev.now _))) ?_
  exact Ev.neg (by decide) (Ev.bind (aTexts_ev [] (by simp)) (Ev.pos rfl (Ev.neg (by decide) (Ev.pos rfl (Ev.neg (by decide) (Ev.pos rfl (Ev.neg (by decide) (Ev.neg (by decide) (Ev.neg (by decide) (Ev.now _))))))))))
theorem orders_ev (a b : Int) : Ev (fun K => laws_FnOrdersWholeOfAll.j4 K a b) true := by
  by_cases h : smallB a b 9 = true
  · obtain ⟨z, F, c, e, v⟩ := small_lockval h
    exact orders_some h v
  · exact orders_none h
end Go.Proofs.Ythpmpkmdjpaemaa.Pure
