-- Printed by hp.py, a program of this session: a machine's side of laws, out of the translation; Lean checks it.
import Derived.Test.YtbncaiombmekhaaRBx0
import Derived.Test.YtbncaiombmekhaaRBx1
import Derived.Test.YtbncaiombmekhaaRBx2
import Derived.Test.YtbncaiombmekhaaRBx3
import Derived.Test.YtbncaiombmekhaaRBx4
import Derived.Test.YtbncaiombmekhaaRBx5
import Derived.Test.YtbncaiombmekhaaRBx6
namespace Go.Proofs.YtbncaiombmekhaaR.B
open Go.RowKit Go.Proofs.YtbncaiombmekhaaRW.PrintWords Go.Proofs.YtbncaiombmekhaaRW.PrintLast Go.Proofs.YtbncaiombmekhaaRW.PrintMore
attribute [local go_sem] max2_int min2_int max_two min_two max_three min_three max_four min_four   -- for this text's walks alone
set_option linter.unusedVariables false
set_option linter.unusedSimpArgs false

/-! ### laws_FnDialsOpen: function 3 -/
mutual
def laws_FnDialsOpen.j1 : Nat → List Int → Option (Bool)
 | 0, _ => none
 | k + 1, x1 => (spec_DrawCodeOfTurns.f k x1).bind fun bt351 => ((impl_CodeOfTurns.f k bt351.1 bt351.2.1 bt351.2.2).bind fun bt356 => ((spec_CodeOfTurns.f k bt351.1 bt351.2.1 bt351.2.2).bind fun bt360 => ((impl_StopsOf.f k bt351.1 bt351.2.1 bt351.2.2).bind fun bt364 => ((spec_StopsOf.f k bt351.1 bt351.2.1 bt351.2.2).bind fun bt368 => ((spec_DrawPassesOf.f x1).bind fun bt372 => ((impl_PassesOf.f k bt372.1 bt372.2.1 bt372.2.2.1 bt372.2.2.2).bind fun bt376 => ((spec_PassesOf.f k bt372.1 bt372.2.1 bt372.2.2.1 bt372.2.2.2).bind fun bt378 => ((spec_DrawIsOpening.f k x1).bind fun bt380 => ((impl_IsOpening.f k bt380.1 bt380.2.1 bt380.2.2.1 bt380.2.2.2).bind fun bt388 => ((spec_IsOpening.f k bt380.1 bt380.2.1 bt380.2.2.1 bt380.2.2.2).bind fun bt390 => (if (bt356.2 != bt360.2) = true then (none) else ((laws_aSame.f k bt356.1 bt360.1).bind fun t392 => (if t392 = true then (if (bt364.2 != bt368.2) = true then (none) else ((laws_aSame.f k bt364.1 bt368.1).bind fun t393 => (if t393 = true then (if (bt376.2 != bt378.2) = true then (none) else (if bt376.1 = bt378.1 then (if (bt388.2 != bt390.2) = true then (none) else (if (bt388.1 != bt390.1) = true then (none) else (if bt356.2 = true then (laws_FnDialsOpen.j2 k bt351.1 bt351.2.1 bt351.2.2 bt356.1 bt356.2 bt364.1 bt372.1 bt372.2.1 bt372.2.2.1 bt376.1 bt376.2 bt380.1 bt380.2.1 bt380.2.2.1 bt380.2.2.2 bt388.1 bt388.2 (!bt364.2)) else (laws_FnDialsOpen.j2 k bt351.1 bt351.2.1 bt351.2.2 bt356.1 bt356.2 bt364.1 bt372.1 bt372.2.1 bt372.2.2.1 bt376.1 bt376.2 bt380.1 bt380.2.1 bt380.2.2.1 bt380.2.2.2 bt388.1 bt388.2 false)))) else (none))) else (none)))) else (none))))))))))))))
def laws_FnDialsOpen.j2 : Nat → Int → Int → List Int → List Int → Bool → List Int → Int → Int → Int → Int → Bool → Int → Int → List Int → List Int → Bool → Bool → Bool → Option (Bool)
 | 0, _, _, _, _, _, _, _, _, _, _, _, _, _, _, _, _, _, _ => none
 | k + 1, x27, x28, x29, x30, x31, x34, x38, x39, x40, x42, x43, x46, x47, x48, x49, x50, x51, x354 => if x354 = true then (none) else (if x31 = true then ((impl_OpeningTurns.f k x27 x28 x30).bind fun bt394 => (if bt394.2 = true then ((laws_aSame.f k bt394.1 x29).bind fun t398 => (if t398 = true then ((laws_aSame.f k x30 x34).bind fun t399 => (if t399 = true then (laws_FnDialsOpen.j3 k x38 x39 x40 x42 x43 x46 x47 x48 x49 x50 x51) else (none))) else (none))) else (none))) else (laws_FnDialsOpen.j3 k x38 x39 x40 x42 x43 x46 x47 x48 x49 x50 x51))
def laws_FnDialsOpen.j3 : Nat → Int → Int → Int → Int → Bool → Int → Int → List Int → List Int → Bool → Bool → Option (Bool)
 | 0, _, _, _, _, _, _, _, _, _, _, _ => none
 | k + 1, x38, x39, x40, x42, x43, x46, x47, x48, x49, x50, x51 => if x43 = true then (laws_FnDialsOpen.l1 k x38 x39 x40 x42 x46 x47 x48 x49 x50 x51 0 0) else (laws_FnDialsOpen.j5 k x46 x47 x48 x49 x50 x51)
def laws_FnDialsOpen.j5 : Nat → Int → Int → List Int → List Int → Bool → Bool → Option (Bool)
 | 0, _, _, _, _, _, _ => none
 | k + 1, x46, x47, x48, x49, x50, x51 => if x51 = true then (laws_FnDialsOpen.j6 k x46 x47 x48 x49 x50) else (laws_FnDialsOpen.j6 k x46 x47 x48 x49 false)
def laws_FnDialsOpen.j6 : Nat → Int → Int → List Int → List Int → Bool → Option (Bool)
 | 0, _, _, _, _, _ => none
 | k + 1, x46, x47, x48, x49, x419 => if x419 = true then ((impl_OpeningTurns.f k x46 x47 x48).bind fun bt402 => (if bt402.2 = true then ((laws_aSame.f k bt402.1 x49).bind fun t406 => (some t406)) else (none))) else (some true)
def laws_FnDialsOpen.l1 : Nat → Int → Int → Int → Int → Int → Int → List Int → List Int → Bool → Bool → Int → Int → Option (Bool)
 | 0, _, _, _, _, _, _, _, _, _, _, _, _ => none
 | k + 1, x38, x39, x40, x42, x46, x47, x48, x49, x50, x51, x56, x57 => if x57 < x38 then ((impl_PassesOf.f k x38 x39 x40 x57).bind fun bt400 => (if bt400.2 = true then (if (wrap64 (bt400.1 - x42)) > 1 then (none) else (if (wrap64 (x42 - bt400.1)) > 1 then (none) else (laws_FnDialsOpen.l1 k x38 x39 x40 x42 x46 x47 x48 x49 x50 x51 (wrap64 (x56 + bt400.1)) (wrap64 (x57 + 1))))) else (none))) else (if x40 < 0 then (if x56 = (wrap64 (-x40)) then (laws_FnDialsOpen.j5 k x46 x47 x48 x49 x50 x51) else (none)) else (if x56 = x40 then (laws_FnDialsOpen.j5 k x46 x47 x48 x49 x50 x51) else (none)))
def laws_FnDialsOpen.l0 : Nat → List Int → Int → List Int → Int → List Int → Int → Int → Option (Bool)
 | 0, _, _, _, _, _, _, _ => none
 | k + 1, x1, x5, x7, x22, x187, x188, x189 => if x189 < x188 then (if 0 ≤ x189 then (if x189 < (x187.length : Int) then (if x189 < (x7.length : Int) then ((impl_PassesOf.f k x5 x22 (rd x187 x189) (rd x7 x189)).bind fun bt348 => (if bt348.2 = true then (if bt348.1 = (wrap64 ((x7.length : Int) - x189)) then (if ((decide ((rd x187 x189) > 0)) != ((Int.tmod x189 2) == 0)) = true then (none) else (laws_FnDialsOpen.l0 k x1 x5 x7 (rd x7 x189) x187 x188 (wrap64 (x189 + 1)))) else (none)) else (none))) else (none)) else (none)) else (none)) else (laws_FnDialsOpen.j1 k x1)
end
def laws_FnDialsOpen.f (k : Nat) (l0 : List Int) (l1 : List Int) : Option (Bool) := (laws_big.f l0 l1).bind fun t314 => (if t314 = true then (some true) else ((spec_DrawOpeningTurns.f k l0).bind fun bt315 => ((impl_OpeningTurns.f k bt315.1 bt315.2.1 bt315.2.2).bind fun bt320 => ((spec_OpeningTurns.f k bt315.1 bt315.2.1 bt315.2.2).bind fun bt324 => ((impl_OpeningLength.f k bt315.1 bt315.2.1 bt315.2.2).bind fun bt328 => ((spec_OpeningLength.f k bt315.1 bt315.2.1 bt315.2.2).bind fun bt330 => (if (bt320.2 != bt324.2) = true then (none) else ((laws_aSame.f k bt320.1 bt324.1).bind fun t332 => (if t332 = true then (if (bt328.2 != bt330.2) = true then (none) else (if bt328.1 = bt330.1 then (if (bt328.2 != bt320.2) = true then (none) else (if bt320.2 = true then ((impl_StopsOf.f k bt315.1 bt315.2.1 bt320.1).bind fun bt333 => ((impl_CodeOfTurns.f k bt315.1 bt315.2.1 bt320.1).bind fun bt337 => ((impl_IsOpening.f k bt315.1 bt315.2.1 bt315.2.2 bt320.1).bind fun bt341 => (if bt333.2 = true then ((laws_aSame.f k bt333.1 bt315.2.2).bind fun t343 => (if t343 = true then (if bt337.2 = true then ((laws_aSame.f k bt337.1 bt315.2.2).bind fun t344 => (if t344 = true then (if bt341.2 = true then (if bt341.1 = true then ((laws_aSum.f k bt320.1).bind fun t345 => (if t345 = bt328.1 then (if (bt320.1.length : Int) = (bt315.2.2.length : Int) then (laws_FnDialsOpen.l0 k l1 bt315.1 bt315.2.2 bt315.2.1 bt320.1 (bt320.1.length : Int) 0) else (none)) else (none))) else (none)) else (none)) else (none))) else (none)) else (none))) else (none))))) else (laws_FnDialsOpen.j1 k l1))) else (none))) else (none))))))))))
theorem laws_FnDialsOpen.mono_l : ∀ k, (∀ y0, LeO (laws_FnDialsOpen.j1 k y0) (laws_FnDialsOpen.j1 (k + 1) y0)) ∧ (∀ y0 y1 y2 y3 y4 y5 y6 y7 y8 y9 y10 y11 y12 y13 y14 y15 y16 y17, LeO (laws_FnDialsOpen.j2 k y0 y1 y2 y3 y4 y5 y6 y7 y8 y9 y10 y11 y12 y13 y14 y15 y16 y17) (laws_FnDialsOpen.j2 (k + 1) y0 y1 y2 y3 y4 y5 y6 y7 y8 y9 y10 y11 y12 y13 y14 y15 y16 y17)) ∧ (∀ y0 y1 y2 y3 y4 y5 y6 y7 y8 y9 y10, LeO (laws_FnDialsOpen.j3 k y0 y1 y2 y3 y4 y5 y6 y7 y8 y9 y10) (laws_FnDialsOpen.j3 (k + 1) y0 y1 y2 y3 y4 y5 y6 y7 y8 y9 y10)) ∧ (∀ y0 y1 y2 y3 y4 y5, LeO (laws_FnDialsOpen.j5 k y0 y1 y2 y3 y4 y5) (laws_FnDialsOpen.j5 (k + 1) y0 y1 y2 y3 y4 y5)) ∧ (∀ y0 y1 y2 y3 y4, LeO (laws_FnDialsOpen.j6 k y0 y1 y2 y3 y4) (laws_FnDialsOpen.j6 (k + 1) y0 y1 y2 y3 y4)) ∧ (∀ y0 y1 y2 y3 y4 y5 y6 y7 y8 y9 y10 y11, LeO (laws_FnDialsOpen.l1 k y0 y1 y2 y3 y4 y5 y6 y7 y8 y9 y10 y11) (laws_FnDialsOpen.l1 (k + 1) y0 y1 y2 y3 y4 y5 y6 y7 y8 y9 y10 y11)) ∧ (∀ y0 y1 y2 y3 y4 y5 y6, LeO (laws_FnDialsOpen.l0 k y0 y1 y2 y3 y4 y5 y6) (laws_FnDialsOpen.l0 (k + 1) y0 y1 y2 y3 y4 y5 y6))
 | 0 => ⟨fun _ r h => by simp [laws_FnDialsOpen.j1] at h, fun _ _ _ _ _ _ _ _ _ _ _ _ _ _ _ _ _ _ r h => by simp [laws_FnDialsOpen.j2] at h, fun _ _ _ _ _ _ _ _ _ _ _ r h => by simp [laws_FnDialsOpen.j3] at h, fun _ _ _ _ _ _ r h => by simp [laws_FnDialsOpen.j5] at h, fun _ _ _ _ _ r h => by simp [laws_FnDialsOpen.j6] at h, fun _ _ _ _ _ _ _ _ _ _ _ _ r h => by simp [laws_FnDialsOpen.l1] at h, fun _ _ _ _ _ _ _ r h => by simp [laws_FnDialsOpen.l0] at h⟩
 | k + 1 => by
  obtain ⟨ih0, ih1, ih2, ih3, ih4, ih5, ih6⟩ := laws_FnDialsOpen.mono_l k
  refine ⟨?_, ?_, ?_, ?_, ?_, ?_, ?_⟩
  ·intro y0
   unfold laws_FnDialsOpen.j1
   repeat' first
   | (with_reducible exact ih0 _)
   | (with_reducible exact ih1 _ _ _ _ _ _ _ _ _ _ _ _ _ _ _ _ _ _)
   | (with_reducible exact ih2 _ _ _ _ _ _ _ _ _ _ _)
   | (with_reducible exact ih3 _ _ _ _ _ _)
   | (with_reducible exact ih4 _ _ _ _ _)
   | (with_reducible exact ih5 _ _ _ _ _ _ _ _ _ _ _ _)
   | (with_reducible exact ih6 _ _ _ _ _ _ _)
   | (with_reducible exact impl_CodeOfTurns.mono _ _ _ _)
   | (with_reducible exact impl_IsOpening.mono _ _ _ _ _)
   | (with_reducible exact impl_OpeningLength.mono _ _ _ _)
   | (with_reducible exact impl_OpeningTurns.mono _ _ _ _)
   | (with_reducible exact impl_PassesOf.mono _ _ _ _ _)
   | (with_reducible exact impl_StopsOf.mono _ _ _ _)
   | (with_reducible exact laws_aSame.mono _ _ _)
   | (with_reducible exact laws_aSum.mono _ _)
   | (with_reducible exact spec_CodeOfTurns.mono _ _ _ _)
   | (with_reducible exact spec_DrawCodeOfTurns.mono _ _)
   | (with_reducible exact spec_DrawIsOpening.mono _ _)
   | (with_reducible exact spec_DrawOpeningTurns.mono _ _)
   | (with_reducible exact spec_IsOpening.mono _ _ _ _ _)
   | (with_reducible exact spec_OpeningLength.mono _ _ _ _)
   | (with_reducible exact spec_OpeningTurns.mono _ _ _ _)
   | (with_reducible exact spec_PassesOf.mono _ _ _ _ _)
   | (with_reducible exact spec_StopsOf.mono _ _ _ _)
   | (with_reducible exact LeO.refl _)
   | (with_reducible exact LeO.none _)
   | (with_reducible refine LeO.ite ?_ ?_)
   | (with_reducible refine LeO.bind ?_ (fun _ => ?_))
   | exact ih0 _
   | exact ih1 _ _ _ _ _ _ _ _ _ _ _ _ _ _ _ _ _ _
   | exact ih2 _ _ _ _ _ _ _ _ _ _ _
   | exact ih3 _ _ _ _ _ _
   | exact ih4 _ _ _ _ _
   | exact ih5 _ _ _ _ _ _ _ _ _ _ _ _
   | exact ih6 _ _ _ _ _ _ _
   | exact impl_CodeOfTurns.mono _ _ _ _
   | exact impl_IsOpening.mono _ _ _ _ _
   | exact impl_OpeningLength.mono _ _ _ _
   | exact impl_OpeningTurns.mono _ _ _ _
   | exact impl_PassesOf.mono _ _ _ _ _
   | exact impl_StopsOf.mono _ _ _ _
   | exact laws_aSame.mono _ _ _
   | exact laws_aSum.mono _ _
   | exact spec_CodeOfTurns.mono _ _ _ _
   | exact spec_DrawCodeOfTurns.mono _ _
   | exact spec_DrawIsOpening.mono _ _
   | exact spec_DrawOpeningTurns.mono _ _
   | exact spec_IsOpening.mono _ _ _ _ _
   | exact spec_OpeningLength.mono _ _ _ _
   | exact spec_OpeningTurns.mono _ _ _ _
   | exact spec_PassesOf.mono _ _ _ _ _
   | exact spec_StopsOf.mono _ _ _ _
   | exact LeO.none _
   | refine LeO.ite ?_ ?_
   | refine LeO.bind ?_ (fun _ => ?_)
  ·intro y0 y1 y2 y3 y4 y5 y6 y7 y8 y9 y10 y11 y12 y13 y14 y15 y16 y17
   unfold laws_FnDialsOpen.j2
   repeat' first
   | (with_reducible exact ih0 _)
   | (with_reducible exact ih1 _ _ _ _ _ _ _ _ _ _ _ _ _ _ _ _ _ _)
   | (with_reducible exact ih2 _ _ _ _ _ _ _ _ _ _ _)
   | (with_reducible exact ih3 _ _ _ _ _ _)
   | (with_reducible exact ih4 _ _ _ _ _)
   | (with_reducible exact ih5 _ _ _ _ _ _ _ _ _ _ _ _)
   | (with_reducible exact ih6 _ _ _ _ _ _ _)
   | (with_reducible exact impl_CodeOfTurns.mono _ _ _ _)
   | (with_reducible exact impl_IsOpening.mono _ _ _ _ _)
   | (with_reducible exact impl_OpeningLength.mono _ _ _ _)
   | (with_reducible exact impl_OpeningTurns.mono _ _ _ _)
   | (with_reducible exact impl_PassesOf.mono _ _ _ _ _)
   | (with_reducible exact impl_StopsOf.mono _ _ _ _)
   | (with_reducible exact laws_aSame.mono _ _ _)
   | (with_reducible exact laws_aSum.mono _ _)
   | (with_reducible exact spec_CodeOfTurns.mono _ _ _ _)
   | (with_reducible exact spec_DrawCodeOfTurns.mono _ _)
   | (with_reducible exact spec_DrawIsOpening.mono _ _)
   | (with_reducible exact spec_DrawOpeningTurns.mono _ _)
   | (with_reducible exact spec_IsOpening.mono _ _ _ _ _)
   | (with_reducible exact spec_OpeningLength.mono _ _ _ _)
   | (with_reducible exact spec_OpeningTurns.mono _ _ _ _)
   | (with_reducible exact spec_PassesOf.mono _ _ _ _ _)
   | (with_reducible exact spec_StopsOf.mono _ _ _ _)
   | (with_reducible exact LeO.refl _)
   | (with_reducible exact LeO.none _)
   | (with_reducible refine LeO.ite ?_ ?_)
   | (with_reducible refine LeO.bind ?_ (fun _ => ?_))
   | exact ih0 _
   | exact ih1 _ _ _ _ _ _ _ _ _ _ _ _ _ _ _ _ _ _
   | exact ih2 _ _ _ _ _ _ _ _ _ _ _
   | exact ih3 _ _ _ _ _ _
   | exact ih4 _ _ _ _ _
   | exact ih5 _ _ _ _ _ _ _ _ _ _ _ _
   | exact ih6 _ _ _ _ _ _ _
   | exact impl_CodeOfTurns.mono _ _ _ _
   | exact impl_IsOpening.mono _ _ _ _ _
   | exact impl_OpeningLength.mono _ _ _ _
   | exact impl_OpeningTurns.mono _ _ _ _
   | exact impl_PassesOf.mono _ _ _ _ _
   | exact impl_StopsOf.mono _ _ _ _
   | exact laws_aSame.mono _ _ _
   | exact laws_aSum.mono _ _
   | exact spec_CodeOfTurns.mono _ _ _ _
   | exact spec_DrawCodeOfTurns.mono _ _
   | exact spec_DrawIsOpening.mono _ _
   | exact spec_DrawOpeningTurns.mono _ _
   | exact spec_IsOpening.mono _ _ _ _ _
   | exact spec_OpeningLength.mono _ _ _ _
   | exact spec_OpeningTurns.mono _ _ _ _
   | exact spec_PassesOf.mono _ _ _ _ _
   | exact spec_StopsOf.mono _ _ _ _
   | exact LeO.none _
   | refine LeO.ite ?_ ?_
   | refine LeO.bind ?_ (fun _ => ?_)
  ·intro y0 y1 y2 y3 y4 y5 y6 y7 y8 y9 y10
   unfold laws_FnDialsOpen.j3
   repeat' first
   | (with_reducible exact ih0 _)
   | (with_reducible exact ih1 _ _ _ _ _ _ _ _ _ _ _ _ _ _ _ _ _ _)
   | (with_reducible exact ih2 _ _ _ _ _ _ _ _ _ _ _)
   | (with_reducible exact ih3 _ _ _ _ _ _)
   | (with_reducible exact ih4 _ _ _ _ _)
   | (with_reducible exact ih5 _ _ _ _ _ _ _ _ _ _ _ _)
   | (with_reducible exact ih6 _ _ _ _ _ _ _)
   | (with_reducible exact impl_CodeOfTurns.mono _ _ _ _)
   | (with_reducible exact impl_IsOpening.mono _ _ _ _ _)
   | (with_reducible exact impl_OpeningLength.mono _ _ _ _)
   | (with_reducible exact impl_OpeningTurns.mono _ _ _ _)
   | (with_reducible exact impl_PassesOf.mono _ _ _ _ _)
   | (with_reducible exact impl_StopsOf.mono _ _ _ _)
   | (with_reducible exact laws_aSame.mono _ _ _)
   | (with_reducible exact laws_aSum.mono _ _)
   | (with_reducible exact spec_CodeOfTurns.mono _ _ _ _)
   | (with_reducible exact spec_DrawCodeOfTurns.mono _ _)
   | (with_reducible exact spec_DrawIsOpening.mono _ _)
   | (with_reducible exact spec_DrawOpeningTurns.mono _ _)
   | (with_reducible exact spec_IsOpening.mono _ _ _ _ _)
   | (with_reducible exact spec_OpeningLength.mono _ _ _ _)
   | (with_reducible exact spec_OpeningTurns.mono _ _ _ _)
   | (with_reducible exact spec_PassesOf.mono _ _ _ _ _)
   | (with_reducible exact spec_StopsOf.mono _ _ _ _)
   | (with_reducible exact LeO.refl _)
   | (with_reducible exact LeO.none _)
   | (with_reducible refine LeO.ite ?_ ?_)
   | (with_reducible refine LeO.bind ?_ (fun _ => ?_))
   | exact ih0 _
   | exact ih1 _ _ _ _ _ _ _ _ _ _ _ _ _ _ _ _ _ _
   | exact ih2 _ _ _ _ _ _ _ _ _ _ _
   | exact ih3 _ _ _ _ _ _
   | exact ih4 _ _ _ _ _
   | exact ih5 _ _ _ _ _ _ _ _ _ _ _ _
   | exact ih6 _ _ _ _ _ _ _
   | exact impl_CodeOfTurns.mono _ _ _ _
   | exact impl_IsOpening.mono _ _ _ _ _
   | exact impl_OpeningLength.mono _ _ _ _
   | exact impl_OpeningTurns.mono _ _ _ _
   | exact impl_PassesOf.mono _ _ _ _ _
   | exact impl_StopsOf.mono _ _ _ _
   | exact laws_aSame.mono _ _ _
   | exact laws_aSum.mono _ _
   | exact spec_CodeOfTurns.mono _ _ _ _
   | exact spec_DrawCodeOfTurns.mono _ _
   | exact spec_DrawIsOpening.mono _ _
   | exact spec_DrawOpeningTurns.mono _ _
   | exact spec_IsOpening.mono _ _ _ _ _
   | exact spec_OpeningLength.mono _ _ _ _
   | exact spec_OpeningTurns.mono _ _ _ _
   | exact spec_PassesOf.mono _ _ _ _ _
   | exact spec_StopsOf.mono _ _ _ _
   | exact LeO.none _
   | refine LeO.ite ?_ ?_
   | refine LeO.bind ?_ (fun _ => ?_)
  ·intro y0 y1 y2 y3 y4 y5
   unfold laws_FnDialsOpen.j5
   repeat' first
   | (with_reducible exact ih0 _)
   | (with_reducible exact ih1 _ _ _ _ _ _ _ _ _ _ _ _ _ _ _ _ _ _)
   | (with_reducible exact ih2 _ _ _ _ _ _ _ _ _ _ _)
   | (with_reducible exact ih3 _ _ _ _ _ _)
   | (with_reducible exact ih4 _ _ _ _ _)
   | (with_reducible exact ih5 _ _ _ _ _ _ _ _ _ _ _ _)
   | (with_reducible exact ih6 _ _ _ _ _ _ _)
   | (with_reducible exact impl_CodeOfTurns.mono _ _ _ _)
   | (with_reducible exact impl_IsOpening.mono _ _ _ _ _)
   | (with_reducible exact impl_OpeningLength.mono _ _ _ _)
   | (with_reducible exact impl_OpeningTurns.mono _ _ _ _)
   | (with_reducible exact impl_PassesOf.mono _ _ _ _ _)
   | (with_reducible exact impl_StopsOf.mono _ _ _ _)
   | (with_reducible exact laws_aSame.mono _ _ _)
   | (with_reducible exact laws_aSum.mono _ _)
   | (with_reducible exact spec_CodeOfTurns.mono _ _ _ _)
   | (with_reducible exact spec_DrawCodeOfTurns.mono _ _)
   | (with_reducible exact spec_DrawIsOpening.mono _ _)
   | (with_reducible exact spec_DrawOpeningTurns.mono _ _)
   | (with_reducible exact spec_IsOpening.mono _ _ _ _ _)
   | (with_reducible exact spec_OpeningLength.mono _ _ _ _)
   | (with_reducible exact spec_OpeningTurns.mono _ _ _ _)
   | (with_reducible exact spec_PassesOf.mono _ _ _ _ _)
   | (with_reducible exact spec_StopsOf.mono _ _ _ _)
   | (with_reducible exact LeO.refl _)
   | (with_reducible exact LeO.none _)
   | (with_reducible refine LeO.ite ?_ ?_)
   | (with_reducible refine LeO.bind ?_ (fun _ => ?_))
   | exact ih0 _
   | exact ih1 _ _ _ _ _ _ _ _ _ _ _ _ _ _ _ _ _ _
   | exact ih2 _ _ _ _ _ _ _ _ _ _ _
   | exact ih3 _ _ _ _ _ _
   | exact ih4 _ _ _ _ _
   | exact ih5 _ _ _ _ _ _ _ _ _ _ _ _
   | exact ih6 _ _ _ _ _ _ _
   | exact impl_CodeOfTurns.mono _ _ _ _
   | exact impl_IsOpening.mono _ _ _ _ _
   | exact impl_OpeningLength.mono _ _ _ _
   | exact impl_OpeningTurns.mono _ _ _ _
   | exact impl_PassesOf.mono _ _ _ _ _
   | exact impl_StopsOf.mono _ _ _ _
   | exact laws_aSame.mono _ _ _
   | exact laws_aSum.mono _ _
   | exact spec_CodeOfTurns.mono _ _ _ _
   | exact spec_DrawCodeOfTurns.mono _ _
   | exact spec_DrawIsOpening.mono _ _
   | exact spec_DrawOpeningTurns.mono _ _
   | exact spec_IsOpening.mono _ _ _ _ _
   | exact spec_OpeningLength.mono _ _ _ _
   | exact spec_OpeningTurns.mono _ _ _ _
   | exact spec_PassesOf.mono _ _ _ _ _
   | exact spec_StopsOf.mono _ _ _ _
   | exact LeO.none _
   | refine LeO.ite ?_ ?_
   | refine LeO.bind ?_ (fun _ => ?_)
  ·intro y0 y1 y2 y3 y4
   unfold laws_FnDialsOpen.j6
   repeat' first
   | (with_reducible exact ih0 _)
   | (with_reducible exact ih1 _ _ _ _ _ _ _ _ _ _ _ _ _ _ _ _ _ _)
   | (with_reducible exact ih2 _ _ _ _ _ _ _ _ _ _ _)
   | (with_reducible exact ih3 _ _ _ _ _ _)
   | (with_reducible exact ih4 _ _ _ _ _)
   | (with_reducible exact ih5 _ _ _ _ _ _ _ _ _ _ _ _)
   | (with_reducible exact ih6 _ _ _ _ _ _ _)
   | (with_reducible exact impl_CodeOfTurns.mono _ _ _ _)
   | (with_reducible exact impl_IsOpening.mono _ _ _ _ _)
   | (with_reducible exact impl_OpeningLength.mono _ _ _ _)
   | (with_reducible exact impl_OpeningTurns.mono _ _ _ _)
   | (with_reducible exact impl_PassesOf.mono _ _ _ _ _)
   | (with_reducible exact impl_StopsOf.mono _ _ _ _)
   | (with_reducible exact laws_aSame.mono _ _ _)
   | (with_reducible exact laws_aSum.mono _ _)
   | (with_reducible exact spec_CodeOfTurns.mono _ _ _ _)
   | (with_reducible exact spec_DrawCodeOfTurns.mono _ _)
   | (with_reducible exact spec_DrawIsOpening.mono _ _)
   | (with_reducible exact spec_DrawOpeningTurns.mono _ _)
   | (with_reducible exact spec_IsOpening.mono _ _ _ _ _)
   | (with_reducible exact spec_OpeningLength.mono _ _ _ _)
   | (with_reducible exact spec_OpeningTurns.mono _ _ _ _)
   | (with_reducible exact spec_PassesOf.mono _ _ _ _ _)
   | (with_reducible exact spec_StopsOf.mono _ _ _ _)
   | (with_reducible exact LeO.refl _)
   | (with_reducible exact LeO.none _)
   | (with_reducible refine LeO.ite ?_ ?_)
   | (with_reducible refine LeO.bind ?_ (fun _ => ?_))
   | exact ih0 _
   | exact ih1 _ _ _ _ _ _ _ _ _ _ _ _ _ _ _ _ _ _
   | exact ih2 _ _ _ _ _ _ _ _ _ _ _
   | exact ih3 _ _ _ _ _ _
   | exact ih4 _ _ _ _ _
   | exact ih5 _ _ _ _ _ _ _ _ _ _ _ _
   | exact ih6 _ _ _ _ _ _ _
   | exact impl_CodeOfTurns.mono _ _ _ _
   | exact impl_IsOpening.mono _ _ _ _ _
   | exact impl_OpeningLength.mono _ _ _ _
   | exact impl_OpeningTurns.mono _ _ _ _
   | exact impl_PassesOf.mono _ _ _ _ _
   | exact impl_StopsOf.mono _ _ _ _
   | exact laws_aSame.mono _ _ _
   | exact laws_aSum.mono _ _
   | exact spec_CodeOfTurns.mono _ _ _ _
   | exact spec_DrawCodeOfTurns.mono _ _
   | exact spec_DrawIsOpening.mono _ _
   | exact spec_DrawOpeningTurns.mono _ _
   | exact spec_IsOpening.mono _ _ _ _ _
   | exact spec_OpeningLength.mono _ _ _ _
   | exact spec_OpeningTurns.mono _ _ _ _
   | exact spec_PassesOf.mono _ _ _ _ _
   | exact spec_StopsOf.mono _ _ _ _
   | exact LeO.none _
   | refine LeO.ite ?_ ?_
   | refine LeO.bind ?_ (fun _ => ?_)
  ·intro y0 y1 y2 y3 y4 y5 y6 y7 y8 y9 y10 y11
   unfold laws_FnDialsOpen.l1
   repeat' first
   | (with_reducible exact ih0 _)
   | (with_reducible exact ih1 _ _ _ _ _ _ _ _ _ _ _ _ _ _ _ _ _ _)
   | (with_reducible exact ih2 _ _ _ _ _ _ _ _ _ _ _)
   | (with_reducible exact ih3 _ _ _ _ _ _)
   | (with_reducible exact ih4 _ _ _ _ _)
   | (with_reducible exact ih5 _ _ _ _ _ _ _ _ _ _ _ _)
   | (with_reducible exact ih6 _ _ _ _ _ _ _)
   | (with_reducible exact impl_CodeOfTurns.mono _ _ _ _)
   | (with_reducible exact impl_IsOpening.mono _ _ _ _ _)
   | (with_reducible exact impl_OpeningLength.mono _ _ _ _)
   | (with_reducible exact impl_OpeningTurns.mono _ _ _ _)
   | (with_reducible exact impl_PassesOf.mono _ _ _ _ _)
   | (with_reducible exact impl_StopsOf.mono _ _ _ _)
   | (with_reducible exact laws_aSame.mono _ _ _)
   | (with_reducible exact laws_aSum.mono _ _)
   | (with_reducible exact spec_CodeOfTurns.mono _ _ _ _)
   | (with_reducible exact spec_DrawCodeOfTurns.mono _ _)
   | (with_reducible exact spec_DrawIsOpening.mono _ _)
   | (with_reducible exact spec_DrawOpeningTurns.mono _ _)
   | (with_reducible exact spec_IsOpening.mono _ _ _ _ _)
   | (with_reducible exact spec_OpeningLength.mono _ _ _ _)
   | (with_reducible exact spec_OpeningTurns.mono _ _ _ _)
   | (with_reducible exact spec_PassesOf.mono _ _ _ _ _)
   | (with_reducible exact spec_StopsOf.mono _ _ _ _)
   | (with_reducible exact LeO.refl _)
   | (with_reducible exact LeO.none _)
   | (with_reducible refine LeO.ite ?_ ?_)
   | (with_reducible refine LeO.bind ?_ (fun _ => ?_))
   | exact ih0 _
   | exact ih1 _ _ _ _ _ _ _ _ _ _ _ _ _ _ _ _ _ _
   | exact ih2 _ _ _ _ _ _ _ _ _ _ _
   | exact ih3 _ _ _ _ _ _
   | exact ih4 _ _ _ _ _
   | exact ih5 _ _ _ _ _ _ _ _ _ _ _ _
   | exact ih6 _ _ _ _ _ _ _
   | exact impl_CodeOfTurns.mono _ _ _ _
   | exact impl_IsOpening.mono _ _ _ _ _
   | exact impl_OpeningLength.mono _ _ _ _
   | exact impl_OpeningTurns.mono _ _ _ _
   | exact impl_PassesOf.mono _ _ _ _ _
   | exact impl_StopsOf.mono _ _ _ _
   | exact laws_aSame.mono _ _ _
   | exact laws_aSum.mono _ _
   | exact spec_CodeOfTurns.mono _ _ _ _
   | exact spec_DrawCodeOfTurns.mono _ _
   | exact spec_DrawIsOpening.mono _ _
   | exact spec_DrawOpeningTurns.mono _ _
   | exact spec_IsOpening.mono _ _ _ _ _
   | exact spec_OpeningLength.mono _ _ _ _
   | exact spec_OpeningTurns.mono _ _ _ _
   | exact spec_PassesOf.mono _ _ _ _ _
   | exact spec_StopsOf.mono _ _ _ _
   | exact LeO.none _
   | refine LeO.ite ?_ ?_
   | refine LeO.bind ?_ (fun _ => ?_)
  ·intro y0 y1 y2 y3 y4 y5 y6
   unfold laws_FnDialsOpen.l0
   repeat' first
   | (with_reducible exact ih0 _)
   | (with_reducible exact ih1 _ _ _ _ _ _ _ _ _ _ _ _ _ _ _ _ _ _)
   | (with_reducible exact ih2 _ _ _ _ _ _ _ _ _ _ _)
   | (with_reducible exact ih3 _ _ _ _ _ _)
   | (with_reducible exact ih4 _ _ _ _ _)
   | (with_reducible exact ih5 _ _ _ _ _ _ _ _ _ _ _ _)
   | (with_reducible exact ih6 _ _ _ _ _ _ _)
   | (with_reducible exact impl_CodeOfTurns.mono _ _ _ _)
   | (with_reducible exact impl_IsOpening.mono _ _ _ _ _)
   | (with_reducible exact impl_OpeningLength.mono _ _ _ _)
   | (with_reducible exact impl_OpeningTurns.mono _ _ _ _)
   | (with_reducible exact impl_PassesOf.mono _ _ _ _ _)
   | (with_reducible exact impl_StopsOf.mono _ _ _ _)
   | (with_reducible exact laws_aSame.mono _ _ _)
   | (with_reducible exact laws_aSum.mono _ _)
   | (with_reducible exact spec_CodeOfTurns.mono _ _ _ _)
   | (with_reducible exact spec_DrawCodeOfTurns.mono _ _)
   | (with_reducible exact spec_DrawIsOpening.mono _ _)
   | (with_reducible exact spec_DrawOpeningTurns.mono _ _)
   | (with_reducible exact spec_IsOpening.mono _ _ _ _ _)
   | (with_reducible exact spec_OpeningLength.mono _ _ _ _)
   | (with_reducible exact spec_OpeningTurns.mono _ _ _ _)
   | (with_reducible exact spec_PassesOf.mono _ _ _ _ _)
   | (with_reducible exact spec_StopsOf.mono _ _ _ _)
   | (with_reducible exact LeO.refl _)
   | (with_reducible exact LeO.none _)
   | (with_reducible refine LeO.ite ?_ ?_)
   | (with_reducible refine LeO.bind ?_ (fun _ => ?_))
   | exact ih0 _
   | exact ih1 _ _ _ _ _ _ _ _ _ _ _ _ _ _ _ _ _ _
   | exact ih2 _ _ _ _ _ _ _ _ _ _ _
   | exact ih3 _ _ _ _ _ _
   | exact ih4 _ _ _ _ _
   | exact ih5 _ _ _ _ _ _ _ _ _ _ _ _
   | exact ih6 _ _ _ _ _ _ _
   | exact impl_CodeOfTurns.mono _ _ _ _
   | exact impl_IsOpening.mono _ _ _ _ _
   | exact impl_OpeningLength.mono _ _ _ _
   | exact impl_OpeningTurns.mono _ _ _ _
   | exact impl_PassesOf.mono _ _ _ _ _
   | exact impl_StopsOf.mono _ _ _ _
   | exact laws_aSame.mono _ _ _
   | exact laws_aSum.mono _ _
   | exact spec_CodeOfTurns.mono _ _ _ _
   | exact spec_DrawCodeOfTurns.mono _ _
   | exact spec_DrawIsOpening.mono _ _
   | exact spec_DrawOpeningTurns.mono _ _
   | exact spec_IsOpening.mono _ _ _ _ _
   | exact spec_OpeningLength.mono _ _ _ _
   | exact spec_OpeningTurns.mono _ _ _ _
   | exact spec_PassesOf.mono _ _ _ _ _
   | exact spec_StopsOf.mono _ _ _ _
   | exact LeO.none _
   | refine LeO.ite ?_ ?_
   | refine LeO.bind ?_ (fun _ => ?_)
theorem laws_FnDialsOpen.mono : ∀ a0 a1 k, LeO (laws_FnDialsOpen.f k a0 a1) (laws_FnDialsOpen.f (k + 1) a0 a1) := by
 intro a0 a1 k
 obtain ⟨ih0, ih1, ih2, ih3, ih4, ih5, ih6⟩ := laws_FnDialsOpen.mono_l k
 unfold laws_FnDialsOpen.f
 repeat' first
   | (with_reducible exact ih0 _)
   | (with_reducible exact ih1 _ _ _ _ _ _ _ _ _ _ _ _ _ _ _ _ _ _)
   | (with_reducible exact ih2 _ _ _ _ _ _ _ _ _ _ _)
   | (with_reducible exact ih3 _ _ _ _ _ _)
   | (with_reducible exact ih4 _ _ _ _ _)
   | (with_reducible exact ih5 _ _ _ _ _ _ _ _ _ _ _ _)
   | (with_reducible exact ih6 _ _ _ _ _ _ _)
   | (with_reducible exact impl_CodeOfTurns.mono _ _ _ _)
   | (with_reducible exact impl_IsOpening.mono _ _ _ _ _)
   | (with_reducible exact impl_OpeningLength.mono _ _ _ _)
   | (with_reducible exact impl_OpeningTurns.mono _ _ _ _)
   | (with_reducible exact impl_PassesOf.mono _ _ _ _ _)
   | (with_reducible exact impl_StopsOf.mono _ _ _ _)
   | (with_reducible exact laws_aSame.mono _ _ _)
   | (with_reducible exact laws_aSum.mono _ _)
   | (with_reducible exact spec_CodeOfTurns.mono _ _ _ _)
   | (with_reducible exact spec_DrawCodeOfTurns.mono _ _)
   | (with_reducible exact spec_DrawIsOpening.mono _ _)
   | (with_reducible exact spec_DrawOpeningTurns.mono _ _)
   | (with_reducible exact spec_IsOpening.mono _ _ _ _ _)
   | (with_reducible exact spec_OpeningLength.mono _ _ _ _)
   | (with_reducible exact spec_OpeningTurns.mono _ _ _ _)
   | (with_reducible exact spec_PassesOf.mono _ _ _ _ _)
   | (with_reducible exact spec_StopsOf.mono _ _ _ _)
   | (with_reducible exact LeO.refl _)
   | (with_reducible exact LeO.none _)
   | (with_reducible refine LeO.ite ?_ ?_)
   | (with_reducible refine LeO.bind ?_ (fun _ => ?_))
   | exact ih0 _
   | exact ih1 _ _ _ _ _ _ _ _ _ _ _ _ _ _ _ _ _ _
   | exact ih2 _ _ _ _ _ _ _ _ _ _ _
   | exact ih3 _ _ _ _ _ _
   | exact ih4 _ _ _ _ _
   | exact ih5 _ _ _ _ _ _ _ _ _ _ _ _
   | exact ih6 _ _ _ _ _ _ _
   | exact impl_CodeOfTurns.mono _ _ _ _
   | exact impl_IsOpening.mono _ _ _ _ _
   | exact impl_OpeningLength.mono _ _ _ _
   | exact impl_OpeningTurns.mono _ _ _ _
   | exact impl_PassesOf.mono _ _ _ _ _
   | exact impl_StopsOf.mono _ _ _ _
   | exact laws_aSame.mono _ _ _
   | exact laws_aSum.mono _ _
   | exact spec_CodeOfTurns.mono _ _ _ _
   | exact spec_DrawCodeOfTurns.mono _ _
   | exact spec_DrawIsOpening.mono _ _
   | exact spec_DrawOpeningTurns.mono _ _
   | exact spec_IsOpening.mono _ _ _ _ _
   | exact spec_OpeningLength.mono _ _ _ _
   | exact spec_OpeningTurns.mono _ _ _ _
   | exact spec_PassesOf.mono _ _ _ _ _
   | exact spec_StopsOf.mono _ _ _ _
   | exact LeO.none _
   | refine LeO.ite ?_ ?_
   | refine LeO.bind ?_ (fun _ => ?_)
set_option maxHeartbeats 8000000 in
set_option maxRecDepth 100000 in
theorem laws_FnDialsOpen.calls (k : Nat) (A0 : Option Addr) (c0 : Nat) (l0 : List Int) (A1 : Option Addr) (c1 : Nat) (l1 : List Int) (r : Bool) (w : World) (hr0 : Kd.C (Kd.int .u8) w A0 l0.length l0) (hc0 : l0.length ≤ c0) (hr1 : Kd.C (Kd.int .u8) w A1 l1.length l1) (hc1 : l1.length ≤ c1) (h : laws_FnDialsOpen.f k l0 l1 = some r) :
  Calls Try.prog 3 #[.slice A0 l0.length c0, .slice A1 l1.length c1] w fun e w' => e = .returned (.bool r) ∧ Below w.heap.size w w' := by
 have HR0 := Aside0.mk hr0
 have HC0 := Aside0.mk hc0
 clear hr0 hc0
 have HR1 := Aside0.mk hr1
 have HC1 := Aside0.mk hc1
 clear hr1 hc1
 have HB := Aside0.mk (Below.refl w.heap.size w)
 have H : ((laws_big.f l0 l1).bind fun t314 => (if t314 = true then (some true) else ((spec_DrawOpeningTurns.f k l0).bind fun bt315 => ((impl_OpeningTurns.f k bt315.1 bt315.2.1 bt315.2.2).bind fun bt320 => ((spec_OpeningTurns.f k bt315.1 bt315.2.1 bt315.2.2).bind fun bt324 => ((impl_OpeningLength.f k bt315.1 bt315.2.1 bt315.2.2).bind fun bt328 => ((spec_OpeningLength.f k bt315.1 bt315.2.1 bt315.2.2).bind fun bt330 => (if (bt320.2 != bt324.2) = true then (none) else ((laws_aSame.f k bt320.1 bt324.1).bind fun t332 => (if t332 = true then (if (bt328.2 != bt330.2) = true then (none) else (if bt328.1 = bt330.1 then (if (bt328.2 != bt320.2) = true then (none) else (if bt320.2 = true then ((impl_StopsOf.f k bt315.1 bt315.2.1 bt320.1).bind fun bt333 => ((impl_CodeOfTurns.f k bt315.1 bt315.2.1 bt320.1).bind fun bt337 => ((impl_IsOpening.f k bt315.1 bt315.2.1 bt315.2.2 bt320.1).bind fun bt341 => (if bt333.2 = true then ((laws_aSame.f k bt333.1 bt315.2.2).bind fun t343 => (if t343 = true then (if bt337.2 = true then ((laws_aSame.f k bt337.1 bt315.2.2).bind fun t344 => (if t344 = true then (if bt341.2 = true then (if bt341.1 = true then ((laws_aSum.f k bt320.1).bind fun t345 => (if t345 = bt328.1 then (if (bt320.1.length : Int) = (bt315.2.2.length : Int) then (laws_FnDialsOpen.l0 k l1 bt315.1 bt315.2.2 bt315.2.1 bt320.1 (bt320.1.length : Int) 0) else (none)) else (none))) else (none)) else (none)) else (none))) else (none)) else (none))) else (none))))) else (laws_FnDialsOpen.j1 k l1))) else (none))) else (none))))))))))) = some r := h
 clear h
 replace H := Option.bind_eq_some_iff.mp H
 obtain ⟨t314, A30, H⟩ := H
 (try dsimp only at H)
 have A3 := Aside0.mk A30
 clear A30
 by_cases c4 : t314 = true
 ·subst c4
  have H1 : (some true) = some r := by rw [if_pos rfl] at H; exact H
  clear H
  have H := H1
  clear H1
  obtain rfl := Option.some.inj H
  go_enter Try.func3, Try.ntmps3
  go_wp2_with (first | ((with_reducible refine gate_callee (f := 4) rfl ?_); refine goesL_ (some 65) rfl rfl Try.func4 (by kernel_rfl) rfl #[.slice A0 l0.length c0, .slice A1 l1.length c1] rfl (by (try simp only [List.map_toArray, List.map_cons, List.map_nil]); first | done | rfl | (simp only [List.length_drop, List.length_take]; rfl)) ?_; (with_reducible refine (laws_big.calls _ _ l0 _ _ l1 true _ ?side1 ?side2 ?side3 ?side4 A3.out).mono ?_); (case side1 => repeat (first | exact HR0.out | (with_reducible refine Kd.C_alloc ?_ _) | (with_reducible refine Kd.C_drewN ?_ _) | (with_reducible refine Kd.C_drew ?_))); (case side2 => exact HC0.out); (case side3 => repeat (first | exact HR1.out | (with_reducible refine Kd.C_alloc ?_ _) | (with_reducible refine Kd.C_drewN ?_ _) | (with_reducible refine Kd.C_drew ?_))); (case side4 => exact HC1.out); rintro e w' ⟨rfl, ⟨nd, rfl⟩⟩; refine ⟨_, rfl, ?_⟩))
  go_ret
  exact ⟨by first | rfl | (simp [errW_none, errW_some] <;> rfl) | (simp [*, errW_none, errW_some] <;> rfl), by repeat (first | (with_reducible first | exact HB.out | apply below_alloc | apply pw_below_drewN | apply below_drew1) | exact HB.out)⟩
 ·replace c4 := Bool.eq_false_iff.mpr c4
  subst c4
  have H1 : ((spec_DrawOpeningTurns.f k l0).bind fun bt315 => ((impl_OpeningTurns.f k bt315.1 bt315.2.1 bt315.2.2).bind fun bt320 => ((spec_OpeningTurns.f k bt315.1 bt315.2.1 bt315.2.2).bind fun bt324 => ((impl_OpeningLength.f k bt315.1 bt315.2.1 bt315.2.2).bind fun bt328 => ((spec_OpeningLength.f k bt315.1 bt315.2.1 bt315.2.2).bind fun bt330 => (if (bt320.2 != bt324.2) = true then (none) else ((laws_aSame.f k bt320.1 bt324.1).bind fun t332 => (if t332 = true then (if (bt328.2 != bt330.2) = true then (none) else (if bt328.1 = bt330.1 then (if (bt328.2 != bt320.2) = true then (none) else (if bt320.2 = true then ((impl_StopsOf.f k bt315.1 bt315.2.1 bt320.1).bind fun bt333 => ((impl_CodeOfTurns.f k bt315.1 bt315.2.1 bt320.1).bind fun bt337 => ((impl_IsOpening.f k bt315.1 bt315.2.1 bt315.2.2 bt320.1).bind fun bt341 => (if bt333.2 = true then ((laws_aSame.f k bt333.1 bt315.2.2).bind fun t343 => (if t343 = true then (if bt337.2 = true then ((laws_aSame.f k bt337.1 bt315.2.2).bind fun t344 => (if t344 = true then (if bt341.2 = true then (if bt341.1 = true then ((laws_aSum.f k bt320.1).bind fun t345 => (if t345 = bt328.1 then (if (bt320.1.length : Int) = (bt315.2.2.length : Int) then (laws_FnDialsOpen.l0 k l1 bt315.1 bt315.2.2 bt315.2.1 bt320.1 (bt320.1.length : Int) 0) else (none)) else (none))) else (none)) else (none)) else (none))) else (none)) else (none))) else (none))))) else (laws_FnDialsOpen.j1 k l1))) else (none))) else (none))))))))) = some r := by rw [if_neg (show ¬ (false = true) by decide)] at H; exact H
  clear H
  have H := H1
  clear H1
  replace H := Option.bind_eq_some_iff.mp H
  obtain ⟨⟨t315, t316, t317⟩, A50, H⟩ := H
  (try dsimp only at H)
  have A5 := Aside0.mk A50
  clear A50
  replace H := Option.bind_eq_some_iff.mp H
  obtain ⟨⟨t320, t321⟩, A60, H⟩ := H
  (try dsimp only at H)
  have A6 := Aside0.mk A60
  clear A60
  replace H := Option.bind_eq_some_iff.mp H
  obtain ⟨⟨t324, t325⟩, A70, H⟩ := H
  (try dsimp only at H)
  have A7 := Aside0.mk A70
  clear A70
  replace H := Option.bind_eq_some_iff.mp H
  obtain ⟨⟨t328, t329⟩, A80, H⟩ := H
  (try dsimp only at H)
  have A8 := Aside0.mk A80
  clear A80
  replace H := Option.bind_eq_some_iff.mp H
  obtain ⟨⟨t330, t331⟩, A90, H⟩ := H
  (try dsimp only at H)
  have A9 := Aside0.mk A90
  clear A90
  by_cases c10 : (t321 != t325) = true
  ·rw [if_pos c10] at H
   exact absurd H (by simp)
  ·rw [if_neg c10] at H
   have c10b0 : (t321 != t325) = false := by simpa using c10
   (try (have c10b1 : decide (t321 = t325) = true := by simpa using c10))
   (try (have c10b2 : (t321 == t325) = true := by simpa using c10))
   clear c10
   replace H := Option.bind_eq_some_iff.mp H
   obtain ⟨t332, A110, H⟩ := H
   (try dsimp only at H)
   have A11 := Aside0.mk A110
   clear A110
   by_cases c12 : t332 = true
   ·subst c12
    have H1 : (if (t329 != t331) = true then (none) else (if t328 = t330 then (if (t329 != t321) = true then (none) else (if t321 = true then ((impl_StopsOf.f k t315 t316 t320).bind fun bt333 => ((impl_CodeOfTurns.f k t315 t316 t320).bind fun bt337 => ((impl_IsOpening.f k t315 t316 t317 t320).bind fun bt341 => (if bt333.2 = true then ((laws_aSame.f k bt333.1 t317).bind fun t343 => (if t343 = true then (if bt337.2 = true then ((laws_aSame.f k bt337.1 t317).bind fun t344 => (if t344 = true then (if bt341.2 = true then (if bt341.1 = true then ((laws_aSum.f k t320).bind fun t345 => (if t345 = t328 then (if (t320.length : Int) = (t317.length : Int) then (laws_FnDialsOpen.l0 k l1 t315 t317 t316 t320 (t320.length : Int) 0) else (none)) else (none))) else (none)) else (none)) else (none))) else (none)) else (none))) else (none))))) else (laws_FnDialsOpen.j1 k l1))) else (none))) = some r := by rw [if_pos rfl] at H; exact H
    clear H
    have H := H1
    clear H1
    by_cases c13 : (t329 != t331) = true
    ·rw [if_pos c13] at H
     exact absurd H (by simp)
    ·rw [if_neg c13] at H
     have c13b0 : (t329 != t331) = false := by simpa using c13
     (try (have c13b1 : decide (t329 = t331) = true := by simpa using c13))
     (try (have c13b2 : (t329 == t331) = true := by simpa using c13))
     clear c13
     by_cases c14 : t328 = t330
     ·rw [if_pos c14] at H
      have c14b0 : (t328 == t330) = true := beq_iff_eq.mpr c14
      have c14b1 : (t328 != t330) = false := bne_eq_false_iff_eq.mpr c14
      clear c14
      by_cases c15 : (t329 != t321) = true
      ·rw [if_pos c15] at H
       exact absurd H (by simp)
      ·rw [if_neg c15] at H
       have c15b0 : (t329 != t321) = false := by simpa using c15
       (try (have c15b1 : decide (t329 = t321) = true := by simpa using c15))
       (try (have c15b2 : (t329 == t321) = true := by simpa using c15))
       clear c15
       have HC16 := Aside0.mk H
       clear H
       go_enter Try.func3, Try.ntmps3
       go_upto_region 3 with (first | ((with_reducible refine gate_callee (f := 4) rfl ?_); refine goesL_ (some 65) rfl rfl Try.func4 (by kernel_rfl) rfl #[.slice A0 l0.length c0, .slice A1 l1.length c1] rfl (by (try simp only [List.map_toArray, List.map_cons, List.map_nil]); first | done | rfl | (simp only [List.length_drop, List.length_take]; rfl)) ?_; (with_reducible refine (laws_big.calls _ _ l0 _ _ l1 false _ ?side1 ?side2 ?side3 ?side4 A3.out).mono ?_); (case side1 => repeat (first | exact HR0.out | (with_reducible refine Kd.C_alloc ?_ _) | (with_reducible refine Kd.C_drewN ?_ _) | (with_reducible refine Kd.C_drew ?_))); (case side2 => exact HC0.out); (case side3 => repeat (first | exact HR1.out | (with_reducible refine Kd.C_alloc ?_ _) | (with_reducible refine Kd.C_drewN ?_ _) | (with_reducible refine Kd.C_drew ?_))); (case side4 => exact HC1.out); rintro e w' ⟨rfl, ⟨nd, rfl⟩⟩; refine ⟨_, rfl, ?_⟩))
       as_aux_lemma =>
        go_upto_region 4 with (first | ((with_reducible refine gate_callee (f := 5) rfl ?_); refine goesL_ (some 68) rfl rfl Try.func5 (by kernel_rfl) rfl #[.slice A0 l0.length c0] rfl (by (try simp only [List.map_toArray, List.map_cons, List.map_nil]); first | done | rfl | (simp only [List.length_drop, List.length_take]; rfl)) ?_; (with_reducible refine (spec_DrawOpeningTurns.calls k _ _ l0 t315 t316 t317 _ ?side1 ?side2 A5.out).mono ?_); (case side1 => repeat (first | exact HR0.out | (with_reducible refine Kd.C_alloc ?_ _) | (with_reducible refine Kd.C_drewN ?_ _) | (with_reducible refine Kd.C_drew ?_))); (case side2 => exact HC0.out); rintro e w17 ⟨v318, rfl, ho0, hb⟩; refine ⟨_, rfl, ?_⟩; have n0_ := Aside0.mk (Kd.R_lower ho0 (below_size (by repeat (first | (with_reducible first | exact HB.out | apply below_alloc | apply pw_below_drewN | apply below_drew1) | exact HB.out)))); have n1_ := Aside0.mk (below_step (by repeat (first | (with_reducible first | exact HB.out | apply below_alloc | apply pw_below_drewN | apply below_drew1) | exact HB.out)) hb); clear HB; have HO319 := n0_; have HB := n1_; clear n0_ n1_; (try clear hb); (try clear hb2); (try clear hk); (try clear hi); (try clear ho0); obtain ⟨Ao18, co18, eo18⟩ := Kd.R_slice HO319.out; subst eo18))
        as_aux_lemma =>
         go_upto_region 5 with (first | ((with_reducible refine gate_callee (f := 6) rfl ?_); refine goesL_ (some 76) rfl rfl Try.func6 (by kernel_rfl) rfl #[.int .i64 t315, .int .i64 t316, .slice Ao18 t317.length co18] rfl (by (try simp only [List.map_toArray, List.map_cons, List.map_nil]); first | done | rfl | (simp only [List.length_drop, List.length_take]; rfl)) ?_; (with_reducible refine (impl_OpeningTurns.calls k t315 t316 _ _ t317 t320 t321 _ ?side1 ?side2 A6.out).mono ?_); (case side1 => repeat (first | exact (Kd.R_reads' HO319.out).2.2 | (with_reducible refine Kd.C_alloc ?_ _) | (with_reducible refine Kd.C_drewN ?_ _) | (with_reducible refine Kd.C_drew ?_))); (case side2 => exact (Kd.R_reads' HO319.out).2.1); rintro e w19 ⟨v322, rfl, ho0, hb⟩; refine ⟨_, rfl, ?_⟩; have n0_ := Aside0.mk (Kd.R_elder' (by (with_reducible repeat (first | apply Kd.R_alloc | apply Kd.R_drewN | apply Kd.R_drew)); exact HO319.out) (Kd.R_base ho0) hb); have n1_ := Aside0.mk (Kd.R_lower (Kd.R_new' ho0 (Kd.R_lt (by (with_reducible repeat (first | apply Kd.R_alloc | apply Kd.R_drewN | apply Kd.R_drew)); exact HO319.out))) (below_size (by repeat (first | (with_reducible first | exact HB.out | apply below_alloc | apply pw_below_drewN | apply below_drew1) | exact HB.out)))); have n2_ := Aside0.mk (below_step (by repeat (first | (with_reducible first | exact HB.out | apply below_alloc | apply pw_below_drewN | apply below_drew1) | exact HB.out)) hb); clear HO319; clear HB; have HO319 := n0_; have HO323 := n1_; have HB := n2_; clear n0_ n1_ n2_; (try clear hb); (try clear hb2); (try clear hk); (try clear hi); (try clear ho0)))
         as_aux_lemma =>
          go_upto_region 6 with (first | ((with_reducible refine gate_callee (f := 7) rfl ?_); refine goesL_ (some 83) rfl rfl Try.func7 (by kernel_rfl) rfl #[.int .i64 t315, .int .i64 t316, .slice Ao18 t317.length co18] rfl (by (try simp only [List.map_toArray, List.map_cons, List.map_nil]); first | done | rfl | (simp only [List.length_drop, List.length_take]; rfl)) ?_; (with_reducible refine (spec_OpeningTurns.calls k t315 t316 _ _ t317 t324 t325 _ ?side1 ?side2 A7.out).mono ?_); (case side1 => repeat (first | exact (Kd.R_reads' HO319.out).2.2 | (with_reducible refine Kd.C_alloc ?_ _) | (with_reducible refine Kd.C_drewN ?_ _) | (with_reducible refine Kd.C_drew ?_))); (case side2 => exact (Kd.R_reads' HO319.out).2.1); rintro e w20 ⟨v326, rfl, ho0, hb⟩; refine ⟨_, rfl, ?_⟩; have n0_ := Aside0.mk (Kd.R_elder' (by (with_reducible repeat (first | apply Kd.R_alloc | apply Kd.R_drewN | apply Kd.R_drew)); exact HO319.out) (Kd.R_base ho0) hb); have n1_ := Aside0.mk (Kd.R_elder' (by (with_reducible repeat (first | apply Kd.R_alloc | apply Kd.R_drewN | apply Kd.R_drew)); exact HO323.out) (Kd.R_base ho0) hb); have n2_ := Aside0.mk (Kd.R_lower (Kd.R_new' (Kd.R_new' ho0 (Kd.R_lt (by (with_reducible repeat (first | apply Kd.R_alloc | apply Kd.R_drewN | apply Kd.R_drew)); exact HO319.out))) (Kd.R_lt (by (with_reducible repeat (first | apply Kd.R_alloc | apply Kd.R_drewN | apply Kd.R_drew)); exact HO323.out))) (below_size (by repeat (first | (with_reducible first | exact HB.out | apply below_alloc | apply pw_below_drewN | apply below_drew1) | exact HB.out)))); have n3_ := Aside0.mk (below_step (by repeat (first | (with_reducible first | exact HB.out | apply below_alloc | apply pw_below_drewN | apply below_drew1) | exact HB.out)) hb); clear HO319; clear HO323; clear HB; have HO319 := n0_; have HO323 := n1_; have HO327 := n2_; have HB := n3_; clear n0_ n1_ n2_ n3_; (try clear hb); (try clear hb2); (try clear hk); (try clear hi); (try clear ho0)))
          as_aux_lemma =>
           go_upto_region 7 with (first | ((with_reducible refine gate_callee (f := 8) rfl ?_); refine goesL_ (some 90) rfl rfl Try.func8 (by kernel_rfl) rfl #[.int .i64 t315, .int .i64 t316, .slice Ao18 t317.length co18] rfl (by (try simp only [List.map_toArray, List.map_cons, List.map_nil]); first | done | rfl | (simp only [List.length_drop, List.length_take]; rfl)) ?_; (with_reducible refine (impl_OpeningLength.calls k t315 t316 _ _ t317 t328 t329 _ ?side1 ?side2 A8.out).mono ?_); (case side1 => repeat (first | exact (Kd.R_reads' HO319.out).2.2 | (with_reducible refine Kd.C_alloc ?_ _) | (with_reducible refine Kd.C_drewN ?_ _) | (with_reducible refine Kd.C_drew ?_))); (case side2 => exact (Kd.R_reads' HO319.out).2.1); rintro e w21 ⟨rfl, hb⟩; refine ⟨_, rfl, ?_⟩; have n0_ := Aside0.mk (Kd.R_below (by (with_reducible repeat (first | apply Kd.R_alloc | apply Kd.R_drewN | apply Kd.R_drew)); exact HO319.out) hb); have n1_ := Aside0.mk (Kd.R_below (by (with_reducible repeat (first | apply Kd.R_alloc | apply Kd.R_drewN | apply Kd.R_drew)); exact HO323.out) hb); have n2_ := Aside0.mk (Kd.R_below (by (with_reducible repeat (first | apply Kd.R_alloc | apply Kd.R_drewN | apply Kd.R_drew)); exact HO327.out) hb); have n3_ := Aside0.mk (below_step (by repeat (first | (with_reducible first | exact HB.out | apply below_alloc | apply pw_below_drewN | apply below_drew1) | exact HB.out)) hb); clear HO319; clear HO323; clear HO327; clear HB; have HO319 := n0_; have HO323 := n1_; have HO327 := n2_; have HB := n3_; clear n0_ n1_ n2_ n3_; (try clear hb); (try clear hb2); (try clear hk); (try clear hi)))
           as_aux_lemma =>
            go_upto_if 124 with (first | ((with_reducible refine gate_callee (f := 9) rfl ?_); refine goesL_ (some 97) rfl rfl Try.func9 (by kernel_rfl) rfl #[.int .i64 t315, .int .i64 t316, .slice Ao18 t317.length co18] rfl (by (try simp only [List.map_toArray, List.map_cons, List.map_nil]); first | done | rfl | (simp only [List.length_drop, List.length_take]; rfl)) ?_; (with_reducible refine (spec_OpeningLength.calls k t315 t316 _ _ t317 t330 t331 _ ?side1 ?side2 A9.out).mono ?_); (case side1 => repeat (first | exact (Kd.R_reads' HO319.out).2.2 | (with_reducible refine Kd.C_alloc ?_ _) | (with_reducible refine Kd.C_drewN ?_ _) | (with_reducible refine Kd.C_drew ?_))); (case side2 => exact (Kd.R_reads' HO319.out).2.1); rintro e w22 ⟨rfl, hb⟩; refine ⟨_, rfl, ?_⟩; have n0_ := Aside0.mk (Kd.R_below (by (with_reducible repeat (first | apply Kd.R_alloc | apply Kd.R_drewN | apply Kd.R_drew)); exact HO319.out) hb); have n1_ := Aside0.mk (Kd.R_below (by (with_reducible repeat (first | apply Kd.R_alloc | apply Kd.R_drewN | apply Kd.R_drew)); exact HO323.out) hb); have n2_ := Aside0.mk (Kd.R_below (by (with_reducible repeat (first | apply Kd.R_alloc | apply Kd.R_drewN | apply Kd.R_drew)); exact HO327.out) hb); have n3_ := Aside0.mk (below_step (by repeat (first | (with_reducible first | exact HB.out | apply below_alloc | apply pw_below_drewN | apply below_drew1) | exact HB.out)) hb); clear HO319; clear HO323; clear HO327; clear HB; have HO319 := n0_; have HO323 := n1_; have HO327 := n2_; have HB := n3_; clear n0_ n1_ n2_ n3_; (try clear hb); (try clear hb2); (try clear hk); (try clear hi); obtain ⟨Ao23, co23, eo23⟩ := Kd.R_slice HO323.out; subst eo23; obtain ⟨Ao24, co24, eo24⟩ := Kd.R_slice HO327.out; subst eo24) | (go_at_call 10; (with_reducible refine (laws_aSame.calls k _ _ t320 _ _ t324 true _ ?side1 ?side2 ?side3 ?side4 A11.out).mono ?_); (case side1 => repeat (first | exact (Kd.R_reads' HO323.out).2.2 | (with_reducible refine Kd.C_alloc ?_ _) | (with_reducible refine Kd.C_drewN ?_ _) | (with_reducible refine Kd.C_drew ?_))); (case side2 => exact (Kd.R_reads' HO323.out).2.1); (case side3 => repeat (first | exact (Kd.R_reads' HO327.out).2.2 | (with_reducible refine Kd.C_alloc ?_ _) | (with_reducible refine Kd.C_drewN ?_ _) | (with_reducible refine Kd.C_drew ?_))); (case side4 => exact (Kd.R_reads' HO327.out).2.1); rintro e w' ⟨rfl, ⟨nd, rfl⟩⟩))
            (try simp only [Act.put, List.setIfInBounds_toArray, List.set_cons_zero, List.set_cons_succ])
            go_cut [] (fun wc => ∃ (kq : Nat), Aside0 (laws_FnDialsOpen.j1 kq l1 = some r) ∧ Aside0 (kq ≤ k) ∧ Aside0 (Below w.heap.size w wc))
            case first =>
             as_aux_lemma =>
              have H := HC16.out
              clear HC16
              by_cases c25 : t321 = true
              ·subst c25
               have H1 : ((impl_StopsOf.f k t315 t316 t320).bind fun bt333 => ((impl_CodeOfTurns.f k t315 t316 t320).bind fun bt337 => ((impl_IsOpening.f k t315 t316 t317 t320).bind fun bt341 => (if bt333.2 = true then ((laws_aSame.f k bt333.1 t317).bind fun t343 => (if t343 = true then (if bt337.2 = true then ((laws_aSame.f k bt337.1 t317).bind fun t344 => (if t344 = true then (if bt341.2 = true then (if bt341.1 = true then ((laws_aSum.f k t320).bind fun t345 => (if t345 = t328 then (if (t320.length : Int) = (t317.length : Int) then (laws_FnDialsOpen.l0 k l1 t315 t317 t316 t320 (t320.length : Int) 0) else (none)) else (none))) else (none)) else (none)) else (none))) else (none)) else (none))) else (none))))) = some r := by rw [if_pos rfl] at H; exact H
               clear H
               have H := H1
               clear H1
               replace H := Option.bind_eq_some_iff.mp H
               obtain ⟨⟨t333, t334⟩, A260, H⟩ := H
               (try dsimp only at H)
               have A26 := Aside0.mk A260
               clear A260
               replace H := Option.bind_eq_some_iff.mp H
               obtain ⟨⟨t337, t338⟩, A270, H⟩ := H
               (try dsimp only at H)
               have A27 := Aside0.mk A270
               clear A270
               replace H := Option.bind_eq_some_iff.mp H
               obtain ⟨⟨t341, t342⟩, A280, H⟩ := H
               (try dsimp only at H)
               have A28 := Aside0.mk A280
               clear A280
               by_cases c29 : t334 = true
               ·subst c29
                have H1 : ((laws_aSame.f k t333 t317).bind fun t343 => (if t343 = true then (if t338 = true then ((laws_aSame.f k t337 t317).bind fun t344 => (if t344 = true then (if t342 = true then (if t341 = true then ((laws_aSum.f k t320).bind fun t345 => (if t345 = t328 then (if (t320.length : Int) = (t317.length : Int) then (laws_FnDialsOpen.l0 k l1 t315 t317 t316 t320 (t320.length : Int) 0) else (none)) else (none))) else (none)) else (none)) else (none))) else (none)) else (none))) = some r := by rw [if_pos rfl] at H; exact H
                clear H
                have H := H1
                clear H1
                replace H := Option.bind_eq_some_iff.mp H
                obtain ⟨t343, A300, H⟩ := H
                (try dsimp only at H)
                have A30 := Aside0.mk A300
                clear A300
                by_cases c31 : t343 = true
                ·subst c31
                 have H1 : (if t338 = true then ((laws_aSame.f k t337 t317).bind fun t344 => (if t344 = true then (if t342 = true then (if t341 = true then ((laws_aSum.f k t320).bind fun t345 => (if t345 = t328 then (if (t320.length : Int) = (t317.length : Int) then (laws_FnDialsOpen.l0 k l1 t315 t317 t316 t320 (t320.length : Int) 0) else (none)) else (none))) else (none)) else (none)) else (none))) else (none)) = some r := by rw [if_pos rfl] at H; exact H
                 clear H
                 have H := H1
                 clear H1
                 by_cases c32 : t338 = true
                 ·subst c32
                  have H1 : ((laws_aSame.f k t337 t317).bind fun t344 => (if t344 = true then (if t342 = true then (if t341 = true then ((laws_aSum.f k t320).bind fun t345 => (if t345 = t328 then (if (t320.length : Int) = (t317.length : Int) then (laws_FnDialsOpen.l0 k l1 t315 t317 t316 t320 (t320.length : Int) 0) else (none)) else (none))) else (none)) else (none)) else (none))) = some r := by rw [if_pos rfl] at H; exact H
                  clear H
                  have H := H1
                  clear H1
                  replace H := Option.bind_eq_some_iff.mp H
                  obtain ⟨t344, A330, H⟩ := H
                  (try dsimp only at H)
                  have A33 := Aside0.mk A330
                  clear A330
                  by_cases c34 : t344 = true
                  ·subst c34
                   have H1 : (if t342 = true then (if t341 = true then ((laws_aSum.f k t320).bind fun t345 => (if t345 = t328 then (if (t320.length : Int) = (t317.length : Int) then (laws_FnDialsOpen.l0 k l1 t315 t317 t316 t320 (t320.length : Int) 0) else (none)) else (none))) else (none)) else (none)) = some r := by rw [if_pos rfl] at H; exact H
                   clear H
                   have H := H1
                   clear H1
                   by_cases c35 : t342 = true
                   ·subst c35
                    have H1 : (if t341 = true then ((laws_aSum.f k t320).bind fun t345 => (if t345 = t328 then (if (t320.length : Int) = (t317.length : Int) then (laws_FnDialsOpen.l0 k l1 t315 t317 t316 t320 (t320.length : Int) 0) else (none)) else (none))) else (none)) = some r := by rw [if_pos rfl] at H; exact H
                    clear H
                    have H := H1
                    clear H1
                    by_cases c36 : t341 = true
                    ·subst c36
                     have H1 : ((laws_aSum.f k t320).bind fun t345 => (if t345 = t328 then (if (t320.length : Int) = (t317.length : Int) then (laws_FnDialsOpen.l0 k l1 t315 t317 t316 t320 (t320.length : Int) 0) else (none)) else (none))) = some r := by rw [if_pos rfl] at H; exact H
                     clear H
                     have H := H1
                     clear H1
                     replace H := Option.bind_eq_some_iff.mp H
                     obtain ⟨t345, A370, H⟩ := H
                     (try dsimp only at H)
                     have A37 := Aside0.mk A370
                     clear A370
                     by_cases c38 : t345 = t328
                     ·rw [if_pos c38] at H
                      have c38b0 : (t345 == t328) = true := beq_iff_eq.mpr c38
                      have c38b1 : (t345 != t328) = false := bne_eq_false_iff_eq.mpr c38
                      clear c38
                      (first | rw [c38b0] | (simp only [i64_w, i32_w]; rw [c38b0]) | skip)
                      by_cases c39 : (t320.length : Int) = (t317.length : Int)
                      ·rw [if_pos c39] at H
                       have c39b0 : ((t320.length : Int) == (t317.length : Int)) = true := beq_iff_eq.mpr c39
                       have c39b1 : ((t320.length : Int) != (t317.length : Int)) = false := bne_eq_false_iff_eq.mpr c39
                       have c39b2 : (t320.length == t317.length) = true := by first | simpa using c39 | (simp at c39 ⊢; omega)
                       clear c39
                       have H' := Aside0.mk H
                       clear H
                       go_wp2_with (first | ((with_reducible refine gate_callee (f := 11) rfl ?_); refine goesL_ (some 129) rfl rfl Try.func11 (by kernel_rfl) rfl #[.int .i64 t315, .int .i64 t316, .slice Ao23 t320.length co23] rfl (by (try simp only [List.map_toArray, List.map_cons, List.map_nil]); first | done | rfl | (simp only [List.length_drop, List.length_take]; rfl)) ?_; (with_reducible refine (impl_StopsOf.calls k t315 t316 _ _ t320 t333 true _ ?side1 ?side2 A26.out).mono ?_); (case side1 => repeat (first | exact (Kd.R_reads' HO323.out).2.2 | (with_reducible refine Kd.C_alloc ?_ _) | (with_reducible refine Kd.C_drewN ?_ _) | (with_reducible refine Kd.C_drew ?_))); (case side2 => exact (Kd.R_reads' HO323.out).2.1); rintro e w40 ⟨v335, rfl, ho0, hb⟩; refine ⟨_, rfl, ?_⟩; have n0_ := Aside0.mk (Kd.R_elder' (by (with_reducible repeat (first | apply Kd.R_alloc | apply Kd.R_drewN | apply Kd.R_drew)); exact HO319.out) (Kd.R_base ho0) hb); have n1_ := Aside0.mk (Kd.R_elder' (by (with_reducible repeat (first | apply Kd.R_alloc | apply Kd.R_drewN | apply Kd.R_drew)); exact HO323.out) (Kd.R_base ho0) hb); have n2_ := Aside0.mk (Kd.R_elder' (by (with_reducible repeat (first | apply Kd.R_alloc | apply Kd.R_drewN | apply Kd.R_drew)); exact HO327.out) (Kd.R_base ho0) hb); have n3_ := Aside0.mk (Kd.R_lower (Kd.R_new' (Kd.R_new' (Kd.R_new' ho0 (Kd.R_lt (by (with_reducible repeat (first | apply Kd.R_alloc | apply Kd.R_drewN | apply Kd.R_drew)); exact HO319.out))) (Kd.R_lt (by (with_reducible repeat (first | apply Kd.R_alloc | apply Kd.R_drewN | apply Kd.R_drew)); exact HO323.out))) (Kd.R_lt (by (with_reducible repeat (first | apply Kd.R_alloc | apply Kd.R_drewN | apply Kd.R_drew)); exact HO327.out))) (below_size (by repeat (first | (with_reducible first | exact HB.out | apply below_alloc | apply pw_below_drewN | apply below_drew1) | exact HB.out)))); have n4_ := Aside0.mk (below_step (by repeat (first | (with_reducible first | exact HB.out | apply below_alloc | apply pw_below_drewN | apply below_drew1) | exact HB.out)) hb); clear HO319; clear HO323; clear HO327; clear HB; have HO319 := n0_; have HO323 := n1_; have HO327 := n2_; have HO336 := n3_; have HB := n4_; clear n0_ n1_ n2_ n3_ n4_; (try clear hb); (try clear hb2); (try clear hk); (try clear hi); (try clear ho0)) | ((with_reducible refine gate_callee (f := 12) rfl ?_); refine goesL_ (some 136) rfl rfl Try.func12 (by kernel_rfl) rfl #[.int .i64 t315, .int .i64 t316, .slice Ao23 t320.length co23] rfl (by (try simp only [List.map_toArray, List.map_cons, List.map_nil]); first | done | rfl | (simp only [List.length_drop, List.length_take]; rfl)) ?_; (with_reducible refine (impl_CodeOfTurns.calls k t315 t316 _ _ t320 t337 true _ ?side1 ?side2 A27.out).mono ?_); (case side1 => repeat (first | exact (Kd.R_reads' HO323.out).2.2 | (with_reducible refine Kd.C_alloc ?_ _) | (with_reducible refine Kd.C_drewN ?_ _) | (with_reducible refine Kd.C_drew ?_))); (case side2 => exact (Kd.R_reads' HO323.out).2.1); rintro e w41 ⟨v339, rfl, ho0, hb⟩; refine ⟨_, rfl, ?_⟩; have n0_ := Aside0.mk (Kd.R_elder' (by (with_reducible repeat (first | apply Kd.R_alloc | apply Kd.R_drewN | apply Kd.R_drew)); exact HO319.out) (Kd.R_base ho0) hb); have n1_ := Aside0.mk (Kd.R_elder' (by (with_reducible repeat (first | apply Kd.R_alloc | apply Kd.R_drewN | apply Kd.R_drew)); exact HO323.out) (Kd.R_base ho0) hb); have n2_ := Aside0.mk (Kd.R_elder' (by (with_reducible repeat (first | apply Kd.R_alloc | apply Kd.R_drewN | apply Kd.R_drew)); exact HO327.out) (Kd.R_base ho0) hb); have n3_ := Aside0.mk (Kd.R_elder' (by (with_reducible repeat (first | apply Kd.R_alloc | apply Kd.R_drewN | apply Kd.R_drew)); exact HO336.out) (Kd.R_base ho0) hb); have n4_ := Aside0.mk (Kd.R_lower (Kd.R_new' (Kd.R_new' (Kd.R_new' (Kd.R_new' ho0 (Kd.R_lt (by (with_reducible repeat (first | apply Kd.R_alloc | apply Kd.R_drewN | apply Kd.R_drew)); exact HO319.out))) (Kd.R_lt (by (with_reducible repeat (first | apply Kd.R_alloc | apply Kd.R_drewN | apply Kd.R_drew)); exact HO323.out))) (Kd.R_lt (by (with_reducible repeat (first | apply Kd.R_alloc | apply Kd.R_drewN | apply Kd.R_drew)); exact HO327.out))) (Kd.R_lt (by (with_reducible repeat (first | apply Kd.R_alloc | apply Kd.R_drewN | apply Kd.R_drew)); exact HO336.out))) (below_size (by repeat (first | (with_reducible first | exact HB.out | apply below_alloc | apply pw_below_drewN | apply below_drew1) | exact HB.out)))); have n5_ := Aside0.mk (below_step (by repeat (first | (with_reducible first | exact HB.out | apply below_alloc | apply pw_below_drewN | apply below_drew1) | exact HB.out)) hb); clear HO319; clear HO323; clear HO327; clear HO336; clear HB; have HO319 := n0_; have HO323 := n1_; have HO327 := n2_; have HO336 := n3_; have HO340 := n4_; have HB := n5_; clear n0_ n1_ n2_ n3_ n4_ n5_; (try clear hb); (try clear hb2); (try clear hk); (try clear hi); (try clear ho0)) | ((with_reducible refine gate_callee (f := 13) rfl ?_); refine goesL_ (some 144) rfl rfl Try.func13 (by kernel_rfl) rfl #[.int .i64 t315, .int .i64 t316, .slice Ao18 t317.length co18, .slice Ao23 t320.length co23] rfl (by (try simp only [List.map_toArray, List.map_cons, List.map_nil]); first | done | rfl | (simp only [List.length_drop, List.length_take]; rfl)) ?_; (with_reducible refine (impl_IsOpening.calls k t315 t316 _ _ t317 _ _ t320 true true _ ?side1 ?side2 ?side3 ?side4 A28.out).mono ?_); (case side1 => repeat (first | exact (Kd.R_reads' HO319.out).2.2 | (with_reducible refine Kd.C_alloc ?_ _) | (with_reducible refine Kd.C_drewN ?_ _) | (with_reducible refine Kd.C_drew ?_))); (case side2 => exact (Kd.R_reads' HO319.out).2.1); (case side3 => repeat (first | exact (Kd.R_reads' HO323.out).2.2 | (with_reducible refine Kd.C_alloc ?_ _) | (with_reducible refine Kd.C_drewN ?_ _) | (with_reducible refine Kd.C_drew ?_))); (case side4 => exact (Kd.R_reads' HO323.out).2.1); rintro e w42 ⟨rfl, hb⟩; refine ⟨_, rfl, ?_⟩; have n0_ := Aside0.mk (Kd.R_below (by (with_reducible repeat (first | apply Kd.R_alloc | apply Kd.R_drewN | apply Kd.R_drew)); exact HO319.out) hb); have n1_ := Aside0.mk (Kd.R_below (by (with_reducible repeat (first | apply Kd.R_alloc | apply Kd.R_drewN | apply Kd.R_drew)); exact HO323.out) hb); have n2_ := Aside0.mk (Kd.R_below (by (with_reducible repeat (first | apply Kd.R_alloc | apply Kd.R_drewN | apply Kd.R_drew)); exact HO327.out) hb); have n3_ := Aside0.mk (Kd.R_below (by (with_reducible repeat (first | apply Kd.R_alloc | apply Kd.R_drewN | apply Kd.R_drew)); exact HO336.out) hb); have n4_ := Aside0.mk (Kd.R_below (by (with_reducible repeat (first | apply Kd.R_alloc | apply Kd.R_drewN | apply Kd.R_drew)); exact HO340.out) hb); have n5_ := Aside0.mk (below_step (by repeat (first | (with_reducible first | exact HB.out | apply below_alloc | apply pw_below_drewN | apply below_drew1) | exact HB.out)) hb); clear HO319; clear HO323; clear HO327; clear HO336; clear HO340; clear HB; have HO319 := n0_; have HO323 := n1_; have HO327 := n2_; have HO336 := n3_; have HO340 := n4_; have HB := n5_; clear n0_ n1_ n2_ n3_ n4_ n5_; (try clear hb); (try clear hb2); (try clear hk); (try clear hi); obtain ⟨Ao43, co43, eo43⟩ := Kd.R_slice HO336.out; subst eo43) | (go_at_call 10; (with_reducible refine (laws_aSame.calls k _ _ t333 _ _ t317 true _ ?side1 ?side2 ?side3 ?side4 A30.out).mono ?_); (case side1 => repeat (first | exact (Kd.R_reads' HO336.out).2.2 | (with_reducible refine Kd.C_alloc ?_ _) | (with_reducible refine Kd.C_drewN ?_ _) | (with_reducible refine Kd.C_drew ?_))); (case side2 => exact (Kd.R_reads' HO336.out).2.1); (case side3 => repeat (first | exact (Kd.R_reads' HO319.out).2.2 | (with_reducible refine Kd.C_alloc ?_ _) | (with_reducible refine Kd.C_drewN ?_ _) | (with_reducible refine Kd.C_drew ?_))); (case side4 => exact (Kd.R_reads' HO319.out).2.1); rintro e w' ⟨rfl, ⟨nd, rfl⟩⟩; obtain ⟨Ao44, co44, eo44⟩ := Kd.R_slice HO340.out; subst eo44) | (go_at_call 10; (with_reducible refine (laws_aSame.calls k _ _ t337 _ _ t317 true _ ?side1 ?side2 ?side3 ?side4 A33.out).mono ?_); (case side1 => repeat (first | exact (Kd.R_reads' HO340.out).2.2 | (with_reducible refine Kd.C_alloc ?_ _) | (with_reducible refine Kd.C_drewN ?_ _) | (with_reducible refine Kd.C_drew ?_))); (case side2 => exact (Kd.R_reads' HO340.out).2.1); (case side3 => repeat (first | exact (Kd.R_reads' HO319.out).2.2 | (with_reducible refine Kd.C_alloc ?_ _) | (with_reducible refine Kd.C_drewN ?_ _) | (with_reducible refine Kd.C_drew ?_))); (case side4 => exact (Kd.R_reads' HO319.out).2.1); rintro e w' ⟨rfl, ⟨nd, rfl⟩⟩) | (go_at_call 14; (with_reducible refine (laws_aSum.calls k _ _ t320 t345 _ ?side1 ?side2 A37.out).mono ?_); (case side1 => repeat (first | exact (Kd.R_reads' HO323.out).2.2 | (with_reducible refine Kd.C_alloc ?_ _) | (with_reducible refine Kd.C_drewN ?_ _) | (with_reducible refine Kd.C_drew ?_))); (case side2 => exact (Kd.R_reads' HO323.out).2.1); rintro e w' ⟨rfl, ⟨nd, rfl⟩⟩))
                       as_aux_lemma =>
                        go_loopg [22, 189] k (fun kq v22 v189 w' => ∃ (x22_1 : Int) (x189_1 : Int), v22 = .int .i64 x22_1 ∧ v189 = .int .i64 x189_1 ∧ Aside0 (laws_FnDialsOpen.l0 kq l1 t315 t317 x22_1 t320 (t320.length : Int) x189_1 = some r) ∧ Aside0 (kq ≤ k) ∧ Aside0 (Kd.R (Kd.int .i64) 3 w' w.heap.size (fun k_ => some k_ ≠ ((.slice Ao23 t320.length co23) : Value).ownBlock) (.slice Ao18 t317.length co18) t317) ∧ Aside0 (Kd.R (Kd.int .i64) 3 w' w.heap.size (fun k_ => some k_ ≠ ((.slice Ao18 t317.length co18) : Value).ownBlock) (.slice Ao23 t320.length co23) t320) ∧ Aside0 (Below w.heap.size w w'))
                        case atStart => exact ⟨(t316), (0), (by first | rfl | (simp; done) | (simp [*]; done)), (by first | rfl | (simp; done) | (simp [*]; done)), H', ⟨Nat.le_refl _⟩, ⟨by (with_reducible repeat (first | apply Kd.R_alloc | apply Kd.R_drewN | apply Kd.R_drew)); exact Kd.R_mono HO319.out (fun _ hk => hk.1.1.1.2)⟩, ⟨by (with_reducible repeat (first | apply Kd.R_alloc | apply Kd.R_drewN | apply Kd.R_drew)); exact Kd.R_mono HO323.out (fun _ hk => hk.1.1.1.2)⟩, ⟨by repeat (first | (with_reducible first | exact HB.out | apply below_alloc | apply pw_below_drewN | apply below_drew1) | exact HB.out)⟩⟩
                        case round =>
                         as_aux_lemma =>
                          clear H'
                          (try clear c1); (try clear c2); (try clear p2); (try clear c3); (try clear c4); (try clear c5); (try clear c6); (try clear c7); (try clear c8); (try clear c9); (try clear c10); (try clear c10b0); (try clear c10b1); (try clear c10b2); (try clear c11); (try clear c12); (try clear c13); (try clear c13b0); (try clear c13b1); (try clear c13b2); (try clear c14); (try clear c14b0); (try clear c14b1); (try clear c15); (try clear c15b0); (try clear c15b1); (try clear c15b2); (try clear c25); (try clear c29); (try clear c31); (try clear c32); (try clear c34); (try clear c35); (try clear c36); (try clear c38); (try clear c38b0); (try clear c38b1); (try clear c39); (try clear c39b0); (try clear c39b1); (try clear c39b2)
                          obtain ⟨x22_1, x189_1, rfl, rfl, HA, HK1, HO_7, HO_187, HB⟩ := hrel
                          cases gk with
                          | zero => exact absurd HA.out (by simp [laws_FnDialsOpen.l0])
                          | succ k1 =>
                           have H := HA.out
                           clear HA
                           simp only [laws_FnDialsOpen.l0] at H
                           by_cases c45 : x189_1 < (t320.length : Int)
                           ·rw [if_pos c45] at H
                            have c45b0 : decide (x189_1 < (t320.length : Int)) = true := decide_eq_true c45
                            clear c45
                            by_cases c46 : 0 ≤ x189_1
                            ·rw [if_pos c46] at H
                             have c46b0 : decide (0 ≤ x189_1) = true := decide_eq_true c46
                             clear c46
                             by_cases c47 : x189_1 < (t320.length : Int)
                             ·rw [if_pos c47] at H
                              have c47b0 : decide (x189_1 < (t320.length : Int)) = true := decide_eq_true c47
                              clear c47
                              by_cases c48 : x189_1 < (t317.length : Int)
                              ·rw [if_pos c48] at H
                               have c48b0 : decide (x189_1 < (t317.length : Int)) = true := decide_eq_true c48
                               clear c48
                               replace H := Option.bind_eq_some_iff.mp H
                               obtain ⟨⟨t348, t349⟩, A490, H⟩ := H
                               (try dsimp only at H)
                               have A49 := Aside0.mk A490
                               clear A490
                               by_cases c50 : t349 = true
                               ·subst c50
                                have H1 : (if t348 = (wrap64 ((t317.length : Int) - x189_1)) then (if ((decide ((rd t320 x189_1) > 0)) != ((Int.tmod x189_1 2) == 0)) = true then (none) else (laws_FnDialsOpen.l0 k1 l1 t315 t317 (rd t317 x189_1) t320 (t320.length : Int) (wrap64 (x189_1 + 1)))) else (none)) = some r := by rw [if_pos rfl] at H; exact H
                                clear H
                                have H := H1
                                clear H1
                                by_cases c51 : t348 = (wrap64 ((t317.length : Int) - x189_1))
                                ·rw [if_pos c51] at H
                                 have c51b0 : (t348 == (wrap64 ((t317.length : Int) - x189_1))) = true := beq_iff_eq.mpr c51
                                 have c51b1 : (t348 != (wrap64 ((t317.length : Int) - x189_1))) = false := bne_eq_false_iff_eq.mpr c51
                                 clear c51
                                 by_cases c52 : ((decide ((rd t320 x189_1) > 0)) != ((Int.tmod x189_1 2) == 0)) = true
                                 ·rw [if_pos c52] at H
                                  exact absurd H (by simp)
                                 ·rw [if_neg c52] at H
                                  have c52b0 : ((decide ((rd t320 x189_1) > 0)) != ((Int.tmod x189_1 2) == 0)) = false := by simpa using c52
                                  (try (have c52b1 : decide ((decide ((rd t320 x189_1) > 0)) = ((Int.tmod x189_1 2) == 0)) = true := by simpa using c52))
                                  (try (have c52b2 : ((decide ((rd t320 x189_1) > 0)) == ((Int.tmod x189_1 2) == 0)) = true := by simpa using c52))
                                  clear c52
                                  have H' := Aside0.mk H
                                  clear H
                                  have p346 : 0 ≤ (x189_1 : Int) := of_decide_eq_true (by first | (with_reducible assumption) | assumption)
                                  have q346 : x189_1 < (t320.length : Int) := of_decide_eq_true (by first | (with_reducible assumption) | assumption)
                                  obtain ⟨ad346, e346, hx346_0⟩ := Kd.at_int (Kd.R_reads' HO_187.out).2.2 x189_1 p346 q346
                                  cases e346
                                  replace p346 := eq_true p346; replace q346 := eq_true q346
                                  have p347 : 0 ≤ (x189_1 : Int) := of_decide_eq_true (by first | (with_reducible assumption) | assumption)
                                  have q347 : x189_1 < (t317.length : Int) := of_decide_eq_true (by first | (with_reducible assumption) | assumption)
                                  obtain ⟨ad347, e347, hx347_0⟩ := Kd.at_int (Kd.R_reads' HO_7.out).2.2 x189_1 p347 q347
                                  cases e347
                                  replace p347 := eq_true p347; replace q347 := eq_true q347
                                  go_wp2_with (first | ((with_reducible refine gate_callee (f := 15) rfl ?_); refine goesL_ (some 202) rfl rfl Try.func15 (by kernel_rfl) rfl #[.int .i64 t315, .int .i64 x22_1, .int .i64 (rd t320 x189_1), .int .i64 (rd t317 x189_1)] rfl (by (try simp only [List.map_toArray, List.map_cons, List.map_nil]); first | done | rfl | (simp only [List.length_drop, List.length_take]; rfl)) ?_; (with_reducible refine (impl_PassesOf.calls k1 t315 x22_1 (rd t320 x189_1) (rd t317 x189_1) t348 true _ A49.out).mono ?_); rintro e w53 ⟨rfl, hb⟩; refine ⟨_, rfl, ?_⟩; have n0_ := Aside0.mk (Kd.R_below (by (with_reducible repeat (first | apply Kd.R_alloc | apply Kd.R_drewN | apply Kd.R_drew)); exact HO_7.out) hb); have n1_ := Aside0.mk (Kd.R_below (by (with_reducible repeat (first | apply Kd.R_alloc | apply Kd.R_drewN | apply Kd.R_drew)); exact HO_187.out) hb); have n2_ := Aside0.mk (below_step (by repeat (first | (with_reducible first | exact HB.out | apply below_alloc | apply pw_below_drewN | apply below_drew1) | exact HB.out)) hb); clear HO_7; clear HO_187; clear HB; have HO_7 := n0_; have HO_187 := n1_; have HB := n2_; clear n0_ n1_ n2_; (try clear hb); (try clear hb2); (try clear hk); (try clear hi); have p350 : 0 ≤ (x189_1 : Int) := of_decide_eq_true (by first | (with_reducible assumption) | assumption); have q350 : x189_1 < (t317.length : Int) := of_decide_eq_true (by first | (with_reducible assumption) | assumption); obtain ⟨ad350, e350, hx350_0⟩ := Kd.at_int (Kd.R_reads' HO_7.out).2.2 x189_1 p350 q350; obtain rfl : ad347 = ad350 := (by injection e350); replace p350 := eq_true p350; replace q350 := eq_true q350))
                                  go_roundg k1
                                  case measure => have := HK1.out; omega
                                  case rel => exact ⟨(rd t317 x189_1), (wrap64 (x189_1 + 1)), (by first | rfl | (simp; done) | (simp [*]; done)), (by first | rfl | (simp; done) | (simp [*]; done)), H', ⟨by have := HK1.out; omega⟩, ⟨by (with_reducible repeat (first | apply Kd.R_alloc | apply Kd.R_drewN | apply Kd.R_drew)); exact HO_7.out⟩, ⟨by (with_reducible repeat (first | apply Kd.R_alloc | apply Kd.R_drewN | apply Kd.R_drew)); exact HO_187.out⟩, ⟨by repeat (first | (with_reducible first | exact HB.out | apply below_alloc | apply pw_below_drewN | apply below_drew1) | exact HB.out)⟩⟩
                                ·rw [if_neg c51] at H
                                 exact absurd H (by simp)
                               ·replace c50 := Bool.eq_false_iff.mpr c50
                                subst c50
                                have H1 : (none) = some r := by rw [if_neg (show ¬ (false = true) by decide)] at H; exact H
                                clear H
                                have H := H1
                                clear H1
                                exact absurd H (by simp)
                              ·rw [if_neg c48] at H
                               exact absurd H (by simp)
                             ·rw [if_neg c47] at H
                              exact absurd H (by simp)
                            ·rw [if_neg c46] at H
                             exact absurd H (by simp)
                           ·rw [if_neg c45] at H
                            have c45b0 : decide (x189_1 < (t320.length : Int)) = false := decide_eq_false c45
                            clear c45
                            have H' := Aside0.mk H
                            clear H
                            go_wp2
                            go_meet
                            case rel => exact ⟨_, H', ⟨by have := HK1.out; first | omega | exact Nat.le_refl _⟩, ⟨by repeat (first | (with_reducible first | exact HB.out | apply below_alloc | apply pw_below_drewN | apply below_drew1) | exact HB.out)⟩⟩
                      ·rw [if_neg c39] at H
                       exact absurd H (by simp)
                     ·rw [if_neg c38] at H
                      exact absurd H (by simp)
                    ·replace c36 := Bool.eq_false_iff.mpr c36
                     subst c36
                     have H1 : (none) = some r := by rw [if_neg (show ¬ (false = true) by decide)] at H; exact H
                     clear H
                     have H := H1
                     clear H1
                     exact absurd H (by simp)
                   ·replace c35 := Bool.eq_false_iff.mpr c35
                    subst c35
                    have H1 : (none) = some r := by rw [if_neg (show ¬ (false = true) by decide)] at H; exact H
                    clear H
                    have H := H1
                    clear H1
                    exact absurd H (by simp)
                  ·replace c34 := Bool.eq_false_iff.mpr c34
                   subst c34
                   have H1 : (none) = some r := by rw [if_neg (show ¬ (false = true) by decide)] at H; exact H
                   clear H
                   have H := H1
                   clear H1
                   exact absurd H (by simp)
                 ·replace c32 := Bool.eq_false_iff.mpr c32
                  subst c32
                  have H1 : (none) = some r := by rw [if_neg (show ¬ (false = true) by decide)] at H; exact H
                  clear H
                  have H := H1
                  clear H1
                  exact absurd H (by simp)
                ·replace c31 := Bool.eq_false_iff.mpr c31
                 subst c31
                 have H1 : (none) = some r := by rw [if_neg (show ¬ (false = true) by decide)] at H; exact H
                 clear H
                 have H := H1
                 clear H1
                 exact absurd H (by simp)
               ·replace c29 := Bool.eq_false_iff.mpr c29
                subst c29
                have H1 : (none) = some r := by rw [if_neg (show ¬ (false = true) by decide)] at H; exact H
                clear H
                have H := H1
                clear H1
                exact absurd H (by simp)
              ·replace c25 := Bool.eq_false_iff.mpr c25
               subst c25
               have H1 : (laws_FnDialsOpen.j1 k l1) = some r := by rw [if_neg (show ¬ (false = true) by decide)] at H; exact H
               clear H
               have H := H1
               clear H1
               have H' := Aside0.mk H
               clear H
               go_wp2
               go_meet
               case rel => exact ⟨_, H', ⟨by first | omega | exact Nat.le_refl _⟩, ⟨by repeat (first | (with_reducible first | exact HB.out | apply below_alloc | apply pw_below_drewN | apply below_drew1) | exact HB.out)⟩⟩
            case rest =>
             as_aux_lemma =>
              clear HC16
              (try clear c1); (try clear c2); (try clear p2); (try clear c3); (try clear p3); (try clear q3); (try clear hx3); (try clear c4); (try clear c5); (try clear c6); (try clear p6); (try clear c7); (try clear c8); (try clear c9); (try clear c10); (try clear c10b0); (try clear c10b1); (try clear c10b2); (try clear c11); (try clear c12); (try clear c13); (try clear c13b0); (try clear c13b1); (try clear c13b2); (try clear c14); (try clear c14b0); (try clear c14b1); (try clear c15); (try clear c15b0); (try clear c15b1); (try clear c15b2); (try clear c25); (try clear c29); (try clear c31); (try clear c32); (try clear c34); (try clear p34); (try clear q34); (try clear hx34); (try clear c35); (try clear p35); (try clear q35); (try clear hx35); (try clear c36); (try clear c38); (try clear c38b0); (try clear c38b1); (try clear c39); (try clear c39b0); (try clear c39b1); (try clear c39b2); (try clear c45); (try clear c45b0); (try clear c46); (try clear c46b0); (try clear c47); (try clear c47b0); (try clear c48); (try clear c48b0); (try clear c50); (try clear c51); (try clear c51b0); (try clear c51b1); (try clear c52); (try clear c52b0); (try clear c52b1); (try clear c52b2); (try clear hx346_0); (try clear hx347_0); (try clear hx350_0); (try clear p2); (try clear p346); (try clear p347); (try clear p350); (try clear q346); (try clear q347); (try clear q350)
              obtain ⟨kq, HA, HJ15, HB⟩ := hcut
              cases kq with
              | zero => exact absurd HA.out (by simp [laws_FnDialsOpen.j1])
              | succ kj15 =>
               have H := HA.out
               clear HA
               simp only [laws_FnDialsOpen.j1] at H
               replace H := Option.bind_eq_some_iff.mp H
               obtain ⟨⟨t351, t352, t353⟩, A540, H⟩ := H
               (try dsimp only at H)
               have A54 := Aside0.mk A540
               clear A540
               replace H := Option.bind_eq_some_iff.mp H
               obtain ⟨⟨t356, t357⟩, A550, H⟩ := H
               (try dsimp only at H)
               have A55 := Aside0.mk A550
               clear A550
               replace H := Option.bind_eq_some_iff.mp H
               obtain ⟨⟨t360, t361⟩, A560, H⟩ := H
               (try dsimp only at H)
               have A56 := Aside0.mk A560
               clear A560
               replace H := Option.bind_eq_some_iff.mp H
               obtain ⟨⟨t364, t365⟩, A570, H⟩ := H
               (try dsimp only at H)
               have A57 := Aside0.mk A570
               clear A570
               replace H := Option.bind_eq_some_iff.mp H
               obtain ⟨⟨t368, t369⟩, A580, H⟩ := H
               (try dsimp only at H)
               have A58 := Aside0.mk A580
               clear A580
               replace H := Option.bind_eq_some_iff.mp H
               obtain ⟨⟨t372, t373, t374, t375⟩, A590, H⟩ := H
               (try dsimp only at H)
               have A59 := Aside0.mk A590
               clear A590
               replace H := Option.bind_eq_some_iff.mp H
               obtain ⟨⟨t376, t377⟩, A600, H⟩ := H
               (try dsimp only at H)
               have A60 := Aside0.mk A600
               clear A600
               replace H := Option.bind_eq_some_iff.mp H
               obtain ⟨⟨t378, t379⟩, A610, H⟩ := H
               (try dsimp only at H)
               have A61 := Aside0.mk A610
               clear A610
               replace H := Option.bind_eq_some_iff.mp H
               obtain ⟨⟨t380, t381, t382, t383⟩, A620, H⟩ := H
               (try dsimp only at H)
               have A62 := Aside0.mk A620
               clear A620
               replace H := Option.bind_eq_some_iff.mp H
               obtain ⟨⟨t388, t389⟩, A630, H⟩ := H
               (try dsimp only at H)
               have A63 := Aside0.mk A630
               clear A630
               replace H := Option.bind_eq_some_iff.mp H
               obtain ⟨⟨t390, t391⟩, A640, H⟩ := H
               (try dsimp only at H)
               have A64 := Aside0.mk A640
               clear A640
               have HC65 := Aside0.mk H
               clear H
               go_upto_region 26 with (first | ((with_reducible refine gate_callee (f := 16) rfl ?_); refine goesL_ (some 230) rfl rfl Try.func16 (by kernel_rfl) rfl #[.slice A1 l1.length c1] rfl (by (try simp only [List.map_toArray, List.map_cons, List.map_nil]); first | done | rfl | (simp only [List.length_drop, List.length_take]; rfl)) ?_; (with_reducible refine (spec_DrawCodeOfTurns.calls kj15 _ _ l1 t351 t352 t353 _ ?side1 ?side2 A54.out).mono ?_); (case side1 => repeat (first | exact (Kd.C_below HR1.out HB.out) | (with_reducible refine Kd.C_alloc ?_ _) | (with_reducible refine Kd.C_drewN ?_ _) | (with_reducible refine Kd.C_drew ?_))); (case side2 => exact HC1.out); rintro e w66 ⟨v354, rfl, ho0, hb⟩; refine ⟨_, rfl, ?_⟩; have n0_ := Aside0.mk (Kd.R_lower ho0 (below_size (by repeat (first | (with_reducible first | exact HB.out | apply below_alloc | apply pw_below_drewN | apply below_drew1) | exact HB.out)))); have n1_ := Aside0.mk (below_step (by repeat (first | (with_reducible first | exact HB.out | apply below_alloc | apply pw_below_drewN | apply below_drew1) | exact HB.out)) hb); clear HB; have HO355 := n0_; have HB := n1_; clear n0_ n1_; (try clear hb); (try clear hb2); (try clear hk); (try clear hi); (try clear ho0); obtain ⟨Ao67, co67, eo67⟩ := Kd.R_slice HO355.out; subst eo67))
               as_aux_lemma =>
                go_upto_region 27 with (first | ((with_reducible refine gate_callee (f := 12) rfl ?_); refine goesL_ (some 238) rfl rfl Try.func12 (by kernel_rfl) rfl #[.int .i64 t351, .int .i64 t352, .slice Ao67 t353.length co67] rfl (by (try simp only [List.map_toArray, List.map_cons, List.map_nil]); first | done | rfl | (simp only [List.length_drop, List.length_take]; rfl)) ?_; (with_reducible refine (impl_CodeOfTurns.calls kj15 t351 t352 _ _ t353 t356 t357 _ ?side1 ?side2 A55.out).mono ?_); (case side1 => repeat (first | exact (Kd.R_reads' HO355.out).2.2 | (with_reducible refine Kd.C_alloc ?_ _) | (with_reducible refine Kd.C_drewN ?_ _) | (with_reducible refine Kd.C_drew ?_))); (case side2 => exact (Kd.R_reads' HO355.out).2.1); rintro e w68 ⟨v358, rfl, ho0, hb⟩; refine ⟨_, rfl, ?_⟩; have n0_ := Aside0.mk (Kd.R_elder' (by (with_reducible repeat (first | apply Kd.R_alloc | apply Kd.R_drewN | apply Kd.R_drew)); exact HO355.out) (Kd.R_base ho0) hb); have n1_ := Aside0.mk (Kd.R_lower (Kd.R_new' ho0 (Kd.R_lt (by (with_reducible repeat (first | apply Kd.R_alloc | apply Kd.R_drewN | apply Kd.R_drew)); exact HO355.out))) (below_size (by repeat (first | (with_reducible first | exact HB.out | apply below_alloc | apply pw_below_drewN | apply below_drew1) | exact HB.out)))); have n2_ := Aside0.mk (below_step (by repeat (first | (with_reducible first | exact HB.out | apply below_alloc | apply pw_below_drewN | apply below_drew1) | exact HB.out)) hb); clear HO355; clear HB; have HO355 := n0_; have HO359 := n1_; have HB := n2_; clear n0_ n1_ n2_; (try clear hb); (try clear hb2); (try clear hk); (try clear hi); (try clear ho0)))
                as_aux_lemma =>
                 go_upto_region 28 with (first | ((with_reducible refine gate_callee (f := 17) rfl ?_); refine goesL_ (some 245) rfl rfl Try.func17 (by kernel_rfl) rfl #[.int .i64 t351, .int .i64 t352, .slice Ao67 t353.length co67] rfl (by (try simp only [List.map_toArray, List.map_cons, List.map_nil]); first | done | rfl | (simp only [List.length_drop, List.length_take]; rfl)) ?_; (with_reducible refine (spec_CodeOfTurns.calls kj15 t351 t352 _ _ t353 t360 t361 _ ?side1 ?side2 A56.out).mono ?_); (case side1 => repeat (first | exact (Kd.R_reads' HO355.out).2.2 | (with_reducible refine Kd.C_alloc ?_ _) | (with_reducible refine Kd.C_drewN ?_ _) | (with_reducible refine Kd.C_drew ?_))); (case side2 => exact (Kd.R_reads' HO355.out).2.1); rintro e w69 ⟨v362, rfl, ho0, hb⟩; refine ⟨_, rfl, ?_⟩; have n0_ := Aside0.mk (Kd.R_elder' (by (with_reducible repeat (first | apply Kd.R_alloc | apply Kd.R_drewN | apply Kd.R_drew)); exact HO355.out) (Kd.R_base ho0) hb); have n1_ := Aside0.mk (Kd.R_elder' (by (with_reducible repeat (first | apply Kd.R_alloc | apply Kd.R_drewN | apply Kd.R_drew)); exact HO359.out) (Kd.R_base ho0) hb); have n2_ := Aside0.mk (Kd.R_lower (Kd.R_new' (Kd.R_new' ho0 (Kd.R_lt (by (with_reducible repeat (first | apply Kd.R_alloc | apply Kd.R_drewN | apply Kd.R_drew)); exact HO355.out))) (Kd.R_lt (by (with_reducible repeat (first | apply Kd.R_alloc | apply Kd.R_drewN | apply Kd.R_drew)); exact HO359.out))) (below_size (by repeat (first | (with_reducible first | exact HB.out | apply below_alloc | apply pw_below_drewN | apply below_drew1) | exact HB.out)))); have n3_ := Aside0.mk (below_step (by repeat (first | (with_reducible first | exact HB.out | apply below_alloc | apply pw_below_drewN | apply below_drew1) | exact HB.out)) hb); clear HO355; clear HO359; clear HB; have HO355 := n0_; have HO359 := n1_; have HO363 := n2_; have HB := n3_; clear n0_ n1_ n2_ n3_; (try clear hb); (try clear hb2); (try clear hk); (try clear hi); (try clear ho0)))
                 as_aux_lemma =>
                  go_upto_region 29 with (first | ((with_reducible refine gate_callee (f := 11) rfl ?_); refine goesL_ (some 252) rfl rfl Try.func11 (by kernel_rfl) rfl #[.int .i64 t351, .int .i64 t352, .slice Ao67 t353.length co67] rfl (by (try simp only [List.map_toArray, List.map_cons, List.map_nil]); first | done | rfl | (simp only [List.length_drop, List.length_take]; rfl)) ?_; (with_reducible refine (impl_StopsOf.calls kj15 t351 t352 _ _ t353 t364 t365 _ ?side1 ?side2 A57.out).mono ?_); (case side1 => repeat (first | exact (Kd.R_reads' HO355.out).2.2 | (with_reducible refine Kd.C_alloc ?_ _) | (with_reducible refine Kd.C_drewN ?_ _) | (with_reducible refine Kd.C_drew ?_))); (case side2 => exact (Kd.R_reads' HO355.out).2.1); rintro e w70 ⟨v366, rfl, ho0, hb⟩; refine ⟨_, rfl, ?_⟩; have n0_ := Aside0.mk (Kd.R_elder' (by (with_reducible repeat (first | apply Kd.R_alloc | apply Kd.R_drewN | apply Kd.R_drew)); exact HO355.out) (Kd.R_base ho0) hb); have n1_ := Aside0.mk (Kd.R_elder' (by (with_reducible repeat (first | apply Kd.R_alloc | apply Kd.R_drewN | apply Kd.R_drew)); exact HO359.out) (Kd.R_base ho0) hb); have n2_ := Aside0.mk (Kd.R_elder' (by (with_reducible repeat (first | apply Kd.R_alloc | apply Kd.R_drewN | apply Kd.R_drew)); exact HO363.out) (Kd.R_base ho0) hb); have n3_ := Aside0.mk (Kd.R_lower (Kd.R_new' (Kd.R_new' (Kd.R_new' ho0 (Kd.R_lt (by (with_reducible repeat (first | apply Kd.R_alloc | apply Kd.R_drewN | apply Kd.R_drew)); exact HO355.out))) (Kd.R_lt (by (with_reducible repeat (first | apply Kd.R_alloc | apply Kd.R_drewN | apply Kd.R_drew)); exact HO359.out))) (Kd.R_lt (by (with_reducible repeat (first | apply Kd.R_alloc | apply Kd.R_drewN | apply Kd.R_drew)); exact HO363.out))) (below_size (by repeat (first | (with_reducible first | exact HB.out | apply below_alloc | apply pw_below_drewN | apply below_drew1) | exact HB.out)))); have n4_ := Aside0.mk (below_step (by repeat (first | (with_reducible first | exact HB.out | apply below_alloc | apply pw_below_drewN | apply below_drew1) | exact HB.out)) hb); clear HO355; clear HO359; clear HO363; clear HB; have HO355 := n0_; have HO359 := n1_; have HO363 := n2_; have HO367 := n3_; have HB := n4_; clear n0_ n1_ n2_ n3_ n4_; (try clear hb); (try clear hb2); (try clear hk); (try clear hi); (try clear ho0)))
                  as_aux_lemma =>
                   go_upto_region 30 with (first | ((with_reducible refine gate_callee (f := 18) rfl ?_); refine goesL_ (some 259) rfl rfl Try.func18 (by kernel_rfl) rfl #[.int .i64 t351, .int .i64 t352, .slice Ao67 t353.length co67] rfl (by (try simp only [List.map_toArray, List.map_cons, List.map_nil]); first | done | rfl | (simp only [List.length_drop, List.length_take]; rfl)) ?_; (with_reducible refine (spec_StopsOf.calls kj15 t351 t352 _ _ t353 t368 t369 _ ?side1 ?side2 A58.out).mono ?_); (case side1 => repeat (first | exact (Kd.R_reads' HO355.out).2.2 | (with_reducible refine Kd.C_alloc ?_ _) | (with_reducible refine Kd.C_drewN ?_ _) | (with_reducible refine Kd.C_drew ?_))); (case side2 => exact (Kd.R_reads' HO355.out).2.1); rintro e w71 ⟨v370, rfl, ho0, hb⟩; refine ⟨_, rfl, ?_⟩; have n0_ := Aside0.mk (Kd.R_elder' (by (with_reducible repeat (first | apply Kd.R_alloc | apply Kd.R_drewN | apply Kd.R_drew)); exact HO355.out) (Kd.R_base ho0) hb); have n1_ := Aside0.mk (Kd.R_elder' (by (with_reducible repeat (first | apply Kd.R_alloc | apply Kd.R_drewN | apply Kd.R_drew)); exact HO359.out) (Kd.R_base ho0) hb); have n2_ := Aside0.mk (Kd.R_elder' (by (with_reducible repeat (first | apply Kd.R_alloc | apply Kd.R_drewN | apply Kd.R_drew)); exact HO363.out) (Kd.R_base ho0) hb); have n3_ := Aside0.mk (Kd.R_elder' (by (with_reducible repeat (first | apply Kd.R_alloc | apply Kd.R_drewN | apply Kd.R_drew)); exact HO367.out) (Kd.R_base ho0) hb); have n4_ := Aside0.mk (Kd.R_lower (Kd.R_new' (Kd.R_new' (Kd.R_new' (Kd.R_new' ho0 (Kd.R_lt (by (with_reducible repeat (first | apply Kd.R_alloc | apply Kd.R_drewN | apply Kd.R_drew)); exact HO355.out))) (Kd.R_lt (by (with_reducible repeat (first | apply Kd.R_alloc | apply Kd.R_drewN | apply Kd.R_drew)); exact HO359.out))) (Kd.R_lt (by (with_reducible repeat (first | apply Kd.R_alloc | apply Kd.R_drewN | apply Kd.R_drew)); exact HO363.out))) (Kd.R_lt (by (with_reducible repeat (first | apply Kd.R_alloc | apply Kd.R_drewN | apply Kd.R_drew)); exact HO367.out))) (below_size (by repeat (first | (with_reducible first | exact HB.out | apply below_alloc | apply pw_below_drewN | apply below_drew1) | exact HB.out)))); have n5_ := Aside0.mk (below_step (by repeat (first | (with_reducible first | exact HB.out | apply below_alloc | apply pw_below_drewN | apply below_drew1) | exact HB.out)) hb); clear HO355; clear HO359; clear HO363; clear HO367; clear HB; have HO355 := n0_; have HO359 := n1_; have HO363 := n2_; have HO367 := n3_; have HO371 := n4_; have HB := n5_; clear n0_ n1_ n2_ n3_ n4_ n5_; (try clear hb); (try clear hb2); (try clear hk); (try clear hi); (try clear ho0)))
                   as_aux_lemma =>
                    go_upto_region 31 with (first | ((with_reducible refine gate_callee (f := 19) rfl ?_); refine goesL_ (some 264) rfl rfl Try.func19 (by kernel_rfl) rfl #[.slice A1 l1.length c1] rfl (by (try simp only [List.map_toArray, List.map_cons, List.map_nil]); first | done | rfl | (simp only [List.length_drop, List.length_take]; rfl)) ?_; (with_reducible refine (spec_DrawPassesOf.calls _ _ l1 t372 t373 t374 t375 _ ?side1 ?side2 A59.out).mono ?_); (case side1 => repeat (first | exact (Kd.C_below HR1.out HB.out) | (with_reducible refine Kd.C_alloc ?_ _) | (with_reducible refine Kd.C_drewN ?_ _) | (with_reducible refine Kd.C_drew ?_))); (case side2 => exact HC1.out); rintro e w72 ⟨rfl, hb⟩; refine ⟨_, rfl, ?_⟩; have n0_ := Aside0.mk (Kd.R_below (by (with_reducible repeat (first | apply Kd.R_alloc | apply Kd.R_drewN | apply Kd.R_drew)); exact HO355.out) hb); have n1_ := Aside0.mk (Kd.R_below (by (with_reducible repeat (first | apply Kd.R_alloc | apply Kd.R_drewN | apply Kd.R_drew)); exact HO359.out) hb); have n2_ := Aside0.mk (Kd.R_below (by (with_reducible repeat (first | apply Kd.R_alloc | apply Kd.R_drewN | apply Kd.R_drew)); exact HO363.out) hb); have n3_ := Aside0.mk (Kd.R_below (by (with_reducible repeat (first | apply Kd.R_alloc | apply Kd.R_drewN | apply Kd.R_drew)); exact HO367.out) hb); have n4_ := Aside0.mk (Kd.R_below (by (with_reducible repeat (first | apply Kd.R_alloc | apply Kd.R_drewN | apply Kd.R_drew)); exact HO371.out) hb); have n5_ := Aside0.mk (below_step (by repeat (first | (with_reducible first | exact HB.out | apply below_alloc | apply pw_below_drewN | apply below_drew1) | exact HB.out)) hb); clear HO355; clear HO359; clear HO363; clear HO367; clear HO371; clear HB; have HO355 := n0_; have HO359 := n1_; have HO363 := n2_; have HO367 := n3_; have HO371 := n4_; have HB := n5_; clear n0_ n1_ n2_ n3_ n4_ n5_; (try clear hb); (try clear hb2); (try clear hk); (try clear hi)))
                    as_aux_lemma =>
                     go_upto_region 32 with (first | ((with_reducible refine gate_callee (f := 15) rfl ?_); refine goesL_ (some 274) rfl rfl Try.func15 (by kernel_rfl) rfl #[.int .i64 t372, .int .i64 t373, .int .i64 t374, .int .i64 t375] rfl (by (try simp only [List.map_toArray, List.map_cons, List.map_nil]); first | done | rfl | (simp only [List.length_drop, List.length_take]; rfl)) ?_; (with_reducible refine (impl_PassesOf.calls kj15 t372 t373 t374 t375 t376 t377 _ A60.out).mono ?_); rintro e w73 ⟨rfl, hb⟩; refine ⟨_, rfl, ?_⟩; have n0_ := Aside0.mk (Kd.R_below (by (with_reducible repeat (first | apply Kd.R_alloc | apply Kd.R_drewN | apply Kd.R_drew)); exact HO355.out) hb); have n1_ := Aside0.mk (Kd.R_below (by (with_reducible repeat (first | apply Kd.R_alloc | apply Kd.R_drewN | apply Kd.R_drew)); exact HO359.out) hb); have n2_ := Aside0.mk (Kd.R_below (by (with_reducible repeat (first | apply Kd.R_alloc | apply Kd.R_drewN | apply Kd.R_drew)); exact HO363.out) hb); have n3_ := Aside0.mk (Kd.R_below (by (with_reducible repeat (first | apply Kd.R_alloc | apply Kd.R_drewN | apply Kd.R_drew)); exact HO367.out) hb); have n4_ := Aside0.mk (Kd.R_below (by (with_reducible repeat (first | apply Kd.R_alloc | apply Kd.R_drewN | apply Kd.R_drew)); exact HO371.out) hb); have n5_ := Aside0.mk (below_step (by repeat (first | (with_reducible first | exact HB.out | apply below_alloc | apply pw_below_drewN | apply below_drew1) | exact HB.out)) hb); clear HO355; clear HO359; clear HO363; clear HO367; clear HO371; clear HB; have HO355 := n0_; have HO359 := n1_; have HO363 := n2_; have HO367 := n3_; have HO371 := n4_; have HB := n5_; clear n0_ n1_ n2_ n3_ n4_ n5_; (try clear hb); (try clear hb2); (try clear hk); (try clear hi)))
                     as_aux_lemma =>
                      go_upto_region 33 with (first | ((with_reducible refine gate_callee (f := 20) rfl ?_); refine goesL_ (some 282) rfl rfl Try.func20 (by kernel_rfl) rfl #[.int .i64 t372, .int .i64 t373, .int .i64 t374, .int .i64 t375] rfl (by (try simp only [List.map_toArray, List.map_cons, List.map_nil]); first | done | rfl | (simp only [List.length_drop, List.length_take]; rfl)) ?_; (with_reducible refine (spec_PassesOf.calls kj15 t372 t373 t374 t375 t378 t379 _ A61.out).mono ?_); rintro e w' ⟨rfl, ⟨nd, rfl⟩⟩; refine ⟨_, rfl, ?_⟩))
                      as_aux_lemma =>
                       go_upto_region 34 with (first | ((with_reducible refine gate_callee (f := 21) rfl ?_); refine goesL_ (some 287) rfl rfl Try.func21 (by kernel_rfl) rfl #[.slice A1 l1.length c1] rfl (by (try simp only [List.map_toArray, List.map_cons, List.map_nil]); first | done | rfl | (simp only [List.length_drop, List.length_take]; rfl)) ?_; (with_reducible refine (spec_DrawIsOpening.calls kj15 _ _ l1 t380 t381 t382 t383 _ ?side1 ?side2 A62.out).mono ?_); (case side1 => repeat (first | exact (Kd.C_below HR1.out (by repeat (first | (with_reducible first | exact HB.out | apply below_alloc | apply pw_below_drewN | apply below_drew1) | exact HB.out))) | (with_reducible refine Kd.C_alloc ?_ _) | (with_reducible refine Kd.C_drewN ?_ _) | (with_reducible refine Kd.C_drew ?_))); (case side2 => exact HC1.out); rintro e w74 ⟨v384, v386, rfl, ho0, ho1, hb⟩; refine ⟨_, rfl, ?_⟩; have n0_ := Aside0.mk (Kd.R_mono (Kd.R_told (Kd.R_told (Kd.R_old (by (with_reducible repeat (first | apply Kd.R_alloc | apply Kd.R_drewN | apply Kd.R_drew)); exact HO355.out) hb) (Kd.R_base ho0)) (Kd.R_base ho1)) (fun _ h_ => h_.1)); have n1_ := Aside0.mk (Kd.R_mono (Kd.R_told (Kd.R_told (Kd.R_old (by (with_reducible repeat (first | apply Kd.R_alloc | apply Kd.R_drewN | apply Kd.R_drew)); exact HO359.out) hb) (Kd.R_base ho0)) (Kd.R_base ho1)) (fun _ h_ => h_.1)); have n2_ := Aside0.mk (Kd.R_mono (Kd.R_told (Kd.R_told (Kd.R_old (by (with_reducible repeat (first | apply Kd.R_alloc | apply Kd.R_drewN | apply Kd.R_drew)); exact HO363.out) hb) (Kd.R_base ho0)) (Kd.R_base ho1)) (fun _ h_ => h_.1)); have n3_ := Aside0.mk (Kd.R_mono (Kd.R_told (Kd.R_told (Kd.R_old (by (with_reducible repeat (first | apply Kd.R_alloc | apply Kd.R_drewN | apply Kd.R_drew)); exact HO367.out) hb) (Kd.R_base ho0)) (Kd.R_base ho1)) (fun _ h_ => h_.1)); have n4_ := Aside0.mk (Kd.R_mono (Kd.R_told (Kd.R_told (Kd.R_old (by (with_reducible repeat (first | apply Kd.R_alloc | apply Kd.R_drewN | apply Kd.R_drew)); exact HO371.out) hb) (Kd.R_base ho0)) (Kd.R_base ho1)) (fun _ h_ => h_.1)); have n5_ := Aside0.mk (Kd.R_lower (Kd.R_new' (Kd.R_new' (Kd.R_new' (Kd.R_new' (Kd.R_new' ho0 (Kd.R_lt (by (with_reducible repeat (first | apply Kd.R_alloc | apply Kd.R_drewN | apply Kd.R_drew)); exact HO355.out))) (Kd.R_lt (by (with_reducible repeat (first | apply Kd.R_alloc | apply Kd.R_drewN | apply Kd.R_drew)); exact HO359.out))) (Kd.R_lt (by (with_reducible repeat (first | apply Kd.R_alloc | apply Kd.R_drewN | apply Kd.R_drew)); exact HO363.out))) (Kd.R_lt (by (with_reducible repeat (first | apply Kd.R_alloc | apply Kd.R_drewN | apply Kd.R_drew)); exact HO367.out))) (Kd.R_lt (by (with_reducible repeat (first | apply Kd.R_alloc | apply Kd.R_drewN | apply Kd.R_drew)); exact HO371.out))) (below_size (by repeat (first | (with_reducible first | exact HB.out | apply below_alloc | apply pw_below_drewN | apply below_drew1) | exact HB.out)))); have n6_ := Aside0.mk (Kd.R_lower (Kd.R_new' (Kd.R_new' (Kd.R_new' (Kd.R_new' (Kd.R_new' ho1 (Kd.R_lt (by (with_reducible repeat (first | apply Kd.R_alloc | apply Kd.R_drewN | apply Kd.R_drew)); exact HO355.out))) (Kd.R_lt (by (with_reducible repeat (first | apply Kd.R_alloc | apply Kd.R_drewN | apply Kd.R_drew)); exact HO359.out))) (Kd.R_lt (by (with_reducible repeat (first | apply Kd.R_alloc | apply Kd.R_drewN | apply Kd.R_drew)); exact HO363.out))) (Kd.R_lt (by (with_reducible repeat (first | apply Kd.R_alloc | apply Kd.R_drewN | apply Kd.R_drew)); exact HO367.out))) (Kd.R_lt (by (with_reducible repeat (first | apply Kd.R_alloc | apply Kd.R_drewN | apply Kd.R_drew)); exact HO371.out))) (below_size (by repeat (first | (with_reducible first | exact HB.out | apply below_alloc | apply pw_below_drewN | apply below_drew1) | exact HB.out)))); have n7_ := Aside0.mk (below_step (by repeat (first | (with_reducible first | exact HB.out | apply below_alloc | apply pw_below_drewN | apply below_drew1) | exact HB.out)) hb); clear HO355; clear HO359; clear HO363; clear HO367; clear HO371; clear HB; have HO355 := n0_; have HO359 := n1_; have HO363 := n2_; have HO367 := n3_; have HO371 := n4_; have HO385 := n5_; have HO387 := n6_; have HB := n7_; clear n0_ n1_ n2_ n3_ n4_ n5_ n6_ n7_; (try clear hb); (try clear hb2); (try clear hk); (try clear hi); (try clear ho0); (try clear ho1); obtain ⟨Ao75, co75, eo75⟩ := Kd.R_slice HO385.out; subst eo75; obtain ⟨Ao76, co76, eo76⟩ := Kd.R_slice HO387.out; subst eo76))
                       as_aux_lemma =>
                        go_upto_region 35 with (first | ((with_reducible refine gate_callee (f := 13) rfl ?_); refine goesL_ (some 297) rfl rfl Try.func13 (by kernel_rfl) rfl #[.int .i64 t380, .int .i64 t381, .slice Ao75 t382.length co75, .slice Ao76 t383.length co76] rfl (by (try simp only [List.map_toArray, List.map_cons, List.map_nil]); first | done | rfl | (simp only [List.length_drop, List.length_take]; rfl)) ?_; (with_reducible refine (impl_IsOpening.calls kj15 t380 t381 _ _ t382 _ _ t383 t388 t389 _ ?side1 ?side2 ?side3 ?side4 A63.out).mono ?_); (case side1 => repeat (first | exact (Kd.R_reads' HO385.out).2.2 | (with_reducible refine Kd.C_alloc ?_ _) | (with_reducible refine Kd.C_drewN ?_ _) | (with_reducible refine Kd.C_drew ?_))); (case side2 => exact (Kd.R_reads' HO385.out).2.1); (case side3 => repeat (first | exact (Kd.R_reads' HO387.out).2.2 | (with_reducible refine Kd.C_alloc ?_ _) | (with_reducible refine Kd.C_drewN ?_ _) | (with_reducible refine Kd.C_drew ?_))); (case side4 => exact (Kd.R_reads' HO387.out).2.1); rintro e w77 ⟨rfl, hb⟩; refine ⟨_, rfl, ?_⟩; have n0_ := Aside0.mk (Kd.R_below (by (with_reducible repeat (first | apply Kd.R_alloc | apply Kd.R_drewN | apply Kd.R_drew)); exact HO355.out) hb); have n1_ := Aside0.mk (Kd.R_below (by (with_reducible repeat (first | apply Kd.R_alloc | apply Kd.R_drewN | apply Kd.R_drew)); exact HO359.out) hb); have n2_ := Aside0.mk (Kd.R_below (by (with_reducible repeat (first | apply Kd.R_alloc | apply Kd.R_drewN | apply Kd.R_drew)); exact HO363.out) hb); have n3_ := Aside0.mk (Kd.R_below (by (with_reducible repeat (first | apply Kd.R_alloc | apply Kd.R_drewN | apply Kd.R_drew)); exact HO367.out) hb); have n4_ := Aside0.mk (Kd.R_below (by (with_reducible repeat (first | apply Kd.R_alloc | apply Kd.R_drewN | apply Kd.R_drew)); exact HO371.out) hb); have n5_ := Aside0.mk (Kd.R_below (by (with_reducible repeat (first | apply Kd.R_alloc | apply Kd.R_drewN | apply Kd.R_drew)); exact HO385.out) hb); have n6_ := Aside0.mk (Kd.R_below (by (with_reducible repeat (first | apply Kd.R_alloc | apply Kd.R_drewN | apply Kd.R_drew)); exact HO387.out) hb); have n7_ := Aside0.mk (below_step (by repeat (first | (with_reducible first | exact HB.out | apply below_alloc | apply pw_below_drewN | apply below_drew1) | exact HB.out)) hb); clear HO355; clear HO359; clear HO363; clear HO367; clear HO371; clear HO385; clear HO387; clear HB; have HO355 := n0_; have HO359 := n1_; have HO363 := n2_; have HO367 := n3_; have HO371 := n4_; have HO385 := n5_; have HO387 := n6_; have HB := n7_; clear n0_ n1_ n2_ n3_ n4_ n5_ n6_ n7_; (try clear hb); (try clear hb2); (try clear hk); (try clear hi)))
                        as_aux_lemma =>
                         go_upto_region 36 with (first | ((with_reducible refine gate_callee (f := 22) rfl ?_); refine goesL_ (some 305) rfl rfl Try.func22 (by kernel_rfl) rfl #[.int .i64 t380, .int .i64 t381, .slice Ao75 t382.length co75, .slice Ao76 t383.length co76] rfl (by (try simp only [List.map_toArray, List.map_cons, List.map_nil]); first | done | rfl | (simp only [List.length_drop, List.length_take]; rfl)) ?_; (with_reducible refine (spec_IsOpening.calls kj15 t380 t381 _ _ t382 _ _ t383 t390 t391 _ ?side1 ?side2 ?side3 ?side4 A64.out).mono ?_); (case side1 => repeat (first | exact (Kd.R_reads' HO385.out).2.2 | (with_reducible refine Kd.C_alloc ?_ _) | (with_reducible refine Kd.C_drewN ?_ _) | (with_reducible refine Kd.C_drew ?_))); (case side2 => exact (Kd.R_reads' HO385.out).2.1); (case side3 => repeat (first | exact (Kd.R_reads' HO387.out).2.2 | (with_reducible refine Kd.C_alloc ?_ _) | (with_reducible refine Kd.C_drewN ?_ _) | (with_reducible refine Kd.C_drew ?_))); (case side4 => exact (Kd.R_reads' HO387.out).2.1); rintro e w78 ⟨rfl, hb⟩; refine ⟨_, rfl, ?_⟩; have n0_ := Aside0.mk (Kd.R_below (by (with_reducible repeat (first | apply Kd.R_alloc | apply Kd.R_drewN | apply Kd.R_drew)); exact HO355.out) hb); have n1_ := Aside0.mk (Kd.R_below (by (with_reducible repeat (first | apply Kd.R_alloc | apply Kd.R_drewN | apply Kd.R_drew)); exact HO359.out) hb); have n2_ := Aside0.mk (Kd.R_below (by (with_reducible repeat (first | apply Kd.R_alloc | apply Kd.R_drewN | apply Kd.R_drew)); exact HO363.out) hb); have n3_ := Aside0.mk (Kd.R_below (by (with_reducible repeat (first | apply Kd.R_alloc | apply Kd.R_drewN | apply Kd.R_drew)); exact HO367.out) hb); have n4_ := Aside0.mk (Kd.R_below (by (with_reducible repeat (first | apply Kd.R_alloc | apply Kd.R_drewN | apply Kd.R_drew)); exact HO371.out) hb); have n5_ := Aside0.mk (Kd.R_below (by (with_reducible repeat (first | apply Kd.R_alloc | apply Kd.R_drewN | apply Kd.R_drew)); exact HO385.out) hb); have n6_ := Aside0.mk (Kd.R_below (by (with_reducible repeat (first | apply Kd.R_alloc | apply Kd.R_drewN | apply Kd.R_drew)); exact HO387.out) hb); have n7_ := Aside0.mk (below_step (by repeat (first | (with_reducible first | exact HB.out | apply below_alloc | apply pw_below_drewN | apply below_drew1) | exact HB.out)) hb); clear HO355; clear HO359; clear HO363; clear HO367; clear HO371; clear HO385; clear HO387; clear HB; have HO355 := n0_; have HO359 := n1_; have HO363 := n2_; have HO367 := n3_; have HO371 := n4_; have HO385 := n5_; have HO387 := n6_; have HB := n7_; clear n0_ n1_ n2_ n3_ n4_ n5_ n6_ n7_; (try clear hb); (try clear hb2); (try clear hk); (try clear hi)))
                         (try simp only [Act.put, List.setIfInBounds_toArray, List.set_cons_zero, List.set_cons_succ])
                         go_cut [354] (fun v354 wc => ∃ (kq : Nat) (x354_64 : Bool), v354 = .bool x354_64 ∧ Aside0 (laws_FnDialsOpen.j2 kq t351 t352 t353 t356 t357 t364 t372 t373 t374 t376 t377 t380 t381 t382 t383 t388 t389 x354_64 = some r) ∧ Aside0 (kq ≤ kj15) ∧ Aside0 (Kd.R (Kd.int .i64) 3 wc w.heap.size (fun k_ => some k_ ≠ (v358 : Value).ownBlock ∧ some k_ ≠ (v366 : Value).ownBlock ∧ some k_ ≠ ((.slice Ao75 t382.length co75) : Value).ownBlock ∧ some k_ ≠ ((.slice Ao76 t383.length co76) : Value).ownBlock) (.slice Ao67 t353.length co67) t353) ∧ Aside0 (Kd.R (Kd.int .i64) 3 wc w.heap.size (fun k_ => some k_ ≠ ((.slice Ao67 t353.length co67) : Value).ownBlock ∧ some k_ ≠ (v366 : Value).ownBlock ∧ some k_ ≠ ((.slice Ao75 t382.length co75) : Value).ownBlock ∧ some k_ ≠ ((.slice Ao76 t383.length co76) : Value).ownBlock) v358 t356) ∧ Aside0 (Kd.R (Kd.int .i64) 3 wc w.heap.size (fun k_ => some k_ ≠ ((.slice Ao67 t353.length co67) : Value).ownBlock ∧ some k_ ≠ (v358 : Value).ownBlock ∧ some k_ ≠ ((.slice Ao75 t382.length co75) : Value).ownBlock ∧ some k_ ≠ ((.slice Ao76 t383.length co76) : Value).ownBlock) v366 t364) ∧ Aside0 (Kd.R (Kd.int .i64) 3 wc w.heap.size (fun k_ => some k_ ≠ ((.slice Ao67 t353.length co67) : Value).ownBlock ∧ some k_ ≠ (v358 : Value).ownBlock ∧ some k_ ≠ (v366 : Value).ownBlock ∧ some k_ ≠ ((.slice Ao76 t383.length co76) : Value).ownBlock) (.slice Ao75 t382.length co75) t382) ∧ Aside0 (Kd.R (Kd.int .i64) 3 wc w.heap.size (fun k_ => some k_ ≠ ((.slice Ao67 t353.length co67) : Value).ownBlock ∧ some k_ ≠ (v358 : Value).ownBlock ∧ some k_ ≠ (v366 : Value).ownBlock ∧ some k_ ≠ ((.slice Ao75 t382.length co75) : Value).ownBlock) (.slice Ao76 t383.length co76) t383) ∧ Aside0 (Below w.heap.size w wc))
                         case first =>
                          as_aux_lemma =>
                           have H := HC65.out
                           clear HC65
                           by_cases c79 : (t357 != t361) = true
                           ·rw [if_pos c79] at H
                            exact absurd H (by simp)
                           ·rw [if_neg c79] at H
                            have c79b0 : (t357 != t361) = false := by simpa using c79
                            (try (have c79b1 : decide (t357 = t361) = true := by simpa using c79))
                            (try (have c79b2 : (t357 == t361) = true := by simpa using c79))
                            clear c79
                            (first | rw [c79b0] | (simp only [i64_w, i32_w]; rw [c79b0]) | skip)
                            replace H := Option.bind_eq_some_iff.mp H
                            obtain ⟨t392, A800, H⟩ := H
                            (try dsimp only at H)
                            have A80 := Aside0.mk A800
                            clear A800
                            by_cases c81 : t392 = true
                            ·subst c81
                             have H1 : (if (t365 != t369) = true then (none) else ((laws_aSame.f kj15 t364 t368).bind fun t393 => (if t393 = true then (if (t377 != t379) = true then (none) else (if t376 = t378 then (if (t389 != t391) = true then (none) else (if (t388 != t390) = true then (none) else (if t357 = true then (laws_FnDialsOpen.j2 kj15 t351 t352 t353 t356 t357 t364 t372 t373 t374 t376 t377 t380 t381 t382 t383 t388 t389 (!t365)) else (laws_FnDialsOpen.j2 kj15 t351 t352 t353 t356 t357 t364 t372 t373 t374 t376 t377 t380 t381 t382 t383 t388 t389 false)))) else (none))) else (none)))) = some r := by rw [if_pos rfl] at H; exact H
                             clear H
                             have H := H1
                             clear H1
                             by_cases c82 : (t365 != t369) = true
                             ·rw [if_pos c82] at H
                              exact absurd H (by simp)
                             ·rw [if_neg c82] at H
                              have c82b0 : (t365 != t369) = false := by simpa using c82
                              (try (have c82b1 : decide (t365 = t369) = true := by simpa using c82))
                              (try (have c82b2 : (t365 == t369) = true := by simpa using c82))
                              clear c82
                              replace H := Option.bind_eq_some_iff.mp H
                              obtain ⟨t393, A830, H⟩ := H
                              (try dsimp only at H)
                              have A83 := Aside0.mk A830
                              clear A830
                              by_cases c84 : t393 = true
                              ·subst c84
                               have H1 : (if (t377 != t379) = true then (none) else (if t376 = t378 then (if (t389 != t391) = true then (none) else (if (t388 != t390) = true then (none) else (if t357 = true then (laws_FnDialsOpen.j2 kj15 t351 t352 t353 t356 t357 t364 t372 t373 t374 t376 t377 t380 t381 t382 t383 t388 t389 (!t365)) else (laws_FnDialsOpen.j2 kj15 t351 t352 t353 t356 t357 t364 t372 t373 t374 t376 t377 t380 t381 t382 t383 t388 t389 false)))) else (none))) = some r := by rw [if_pos rfl] at H; exact H
                               clear H
                               have H := H1
                               clear H1
                               by_cases c85 : (t377 != t379) = true
                               ·rw [if_pos c85] at H
                                exact absurd H (by simp)
                               ·rw [if_neg c85] at H
                                have c85b0 : (t377 != t379) = false := by simpa using c85
                                (try (have c85b1 : decide (t377 = t379) = true := by simpa using c85))
                                (try (have c85b2 : (t377 == t379) = true := by simpa using c85))
                                clear c85
                                by_cases c86 : t376 = t378
                                ·rw [if_pos c86] at H
                                 have c86b0 : (t376 == t378) = true := beq_iff_eq.mpr c86
                                 have c86b1 : (t376 != t378) = false := bne_eq_false_iff_eq.mpr c86
                                 clear c86
                                 by_cases c87 : (t389 != t391) = true
                                 ·rw [if_pos c87] at H
                                  exact absurd H (by simp)
                                 ·rw [if_neg c87] at H
                                  have c87b0 : (t389 != t391) = false := by simpa using c87
                                  (try (have c87b1 : decide (t389 = t391) = true := by simpa using c87))
                                  (try (have c87b2 : (t389 == t391) = true := by simpa using c87))
                                  clear c87
                                  by_cases c88 : (t388 != t390) = true
                                  ·rw [if_pos c88] at H
                                   exact absurd H (by simp)
                                  ·rw [if_neg c88] at H
                                   have c88b0 : (t388 != t390) = false := by simpa using c88
                                   (try (have c88b1 : decide (t388 = t390) = true := by simpa using c88))
                                   (try (have c88b2 : (t388 == t390) = true := by simpa using c88))
                                   clear c88
                                   by_cases c89 : t357 = true
                                   ·subst c89
                                    have H1 : (laws_FnDialsOpen.j2 kj15 t351 t352 t353 t356 true t364 t372 t373 t374 t376 t377 t380 t381 t382 t383 t388 t389 (!t365)) = some r := by rw [if_pos rfl] at H; exact H
                                    clear H
                                    have H := H1
                                    clear H1
                                    have H' := Aside0.mk H
                                    clear H
                                    obtain ⟨Ao90, co90, eo90⟩ := Kd.R_slice HO359.out
                                    subst eo90
                                    obtain ⟨Ao91, co91, eo91⟩ := Kd.R_slice HO363.out
                                    subst eo91
                                    go_wp2_with (first | (go_at_call 10; (with_reducible refine (laws_aSame.calls kj15 _ _ t356 _ _ t360 true _ ?side1 ?side2 ?side3 ?side4 A80.out).mono ?_); (case side1 => repeat (first | exact (Kd.R_reads' HO359.out).2.2 | (with_reducible refine Kd.C_alloc ?_ _) | (with_reducible refine Kd.C_drewN ?_ _) | (with_reducible refine Kd.C_drew ?_))); (case side2 => exact (Kd.R_reads' HO359.out).2.1); (case side3 => repeat (first | exact (Kd.R_reads' HO363.out).2.2 | (with_reducible refine Kd.C_alloc ?_ _) | (with_reducible refine Kd.C_drewN ?_ _) | (with_reducible refine Kd.C_drew ?_))); (case side4 => exact (Kd.R_reads' HO363.out).2.1); rintro e w' ⟨rfl, ⟨nd, rfl⟩⟩; obtain ⟨Ao92, co92, eo92⟩ := Kd.R_slice HO367.out; subst eo92; obtain ⟨Ao93, co93, eo93⟩ := Kd.R_slice HO371.out; subst eo93) | (go_at_call 10; (with_reducible refine (laws_aSame.calls kj15 _ _ t364 _ _ t368 true _ ?side1 ?side2 ?side3 ?side4 A83.out).mono ?_); (case side1 => repeat (first | exact (Kd.R_reads' HO367.out).2.2 | (with_reducible refine Kd.C_alloc ?_ _) | (with_reducible refine Kd.C_drewN ?_ _) | (with_reducible refine Kd.C_drew ?_))); (case side2 => exact (Kd.R_reads' HO367.out).2.1); (case side3 => repeat (first | exact (Kd.R_reads' HO371.out).2.2 | (with_reducible refine Kd.C_alloc ?_ _) | (with_reducible refine Kd.C_drewN ?_ _) | (with_reducible refine Kd.C_drew ?_))); (case side4 => exact (Kd.R_reads' HO371.out).2.1); rintro e w' ⟨rfl, ⟨nd, rfl⟩⟩))
                                    go_meet
                                    case rel => exact ⟨_, (!t365), (by first | rfl | (simp; done) | (simp [*]; done)), H', ⟨by have := HJ15.out; first | omega | exact Nat.le_refl _⟩, ⟨by (with_reducible repeat (first | apply Kd.R_alloc | apply Kd.R_drewN | apply Kd.R_drew)); exact Kd.R_mono HO355.out (fun _ hk => ⟨hk.1.1.1.1.1.2, ⟨hk.1.1.1.2, ⟨hk.1.2, hk.2⟩⟩⟩)⟩, ⟨by (with_reducible repeat (first | apply Kd.R_alloc | apply Kd.R_drewN | apply Kd.R_drew)); exact Kd.R_mono HO359.out (fun _ hk => ⟨hk.1.1.1.1.1.2, ⟨hk.1.1.1.2, ⟨hk.1.2, hk.2⟩⟩⟩)⟩, ⟨by (with_reducible repeat (first | apply Kd.R_alloc | apply Kd.R_drewN | apply Kd.R_drew)); exact Kd.R_mono HO367.out (fun _ hk => ⟨hk.1.1.1.1.1.2, ⟨hk.1.1.1.1.2, ⟨hk.1.2, hk.2⟩⟩⟩)⟩, ⟨by (with_reducible repeat (first | apply Kd.R_alloc | apply Kd.R_drewN | apply Kd.R_drew)); exact Kd.R_mono HO385.out (fun _ hk => ⟨hk.1.1.1.1.2, ⟨hk.1.1.1.2, ⟨hk.1.2, hk.1.1.1.1.1⟩⟩⟩)⟩, ⟨by (with_reducible repeat (first | apply Kd.R_alloc | apply Kd.R_drewN | apply Kd.R_drew)); exact Kd.R_mono HO387.out (fun _ hk => ⟨hk.1.1.1.1.2, ⟨hk.1.1.1.2, ⟨hk.1.2, hk.1.1.1.1.1⟩⟩⟩)⟩, ⟨by repeat (first | (with_reducible first | exact HB.out | apply below_alloc | apply pw_below_drewN | apply below_drew1) | exact HB.out)⟩⟩
                                   ·replace c89 := Bool.eq_false_iff.mpr c89
                                    subst c89
                                    have H1 : (laws_FnDialsOpen.j2 kj15 t351 t352 t353 t356 false t364 t372 t373 t374 t376 t377 t380 t381 t382 t383 t388 t389 false) = some r := by rw [if_neg (show ¬ (false = true) by decide)] at H; exact H
                                    clear H
                                    have H := H1
                                    clear H1
                                    have H' := Aside0.mk H
                                    clear H
                                    obtain ⟨Ao94, co94, eo94⟩ := Kd.R_slice HO359.out
                                    subst eo94
                                    obtain ⟨Ao95, co95, eo95⟩ := Kd.R_slice HO363.out
                                    subst eo95
                                    go_wp2_with (first | (go_at_call 10; (with_reducible refine (laws_aSame.calls kj15 _ _ t356 _ _ t360 true _ ?side1 ?side2 ?side3 ?side4 A80.out).mono ?_); (case side1 => repeat (first | exact (Kd.R_reads' HO359.out).2.2 | (with_reducible refine Kd.C_alloc ?_ _) | (with_reducible refine Kd.C_drewN ?_ _) | (with_reducible refine Kd.C_drew ?_))); (case side2 => exact (Kd.R_reads' HO359.out).2.1); (case side3 => repeat (first | exact (Kd.R_reads' HO363.out).2.2 | (with_reducible refine Kd.C_alloc ?_ _) | (with_reducible refine Kd.C_drewN ?_ _) | (with_reducible refine Kd.C_drew ?_))); (case side4 => exact (Kd.R_reads' HO363.out).2.1); rintro e w' ⟨rfl, ⟨nd, rfl⟩⟩; obtain ⟨Ao96, co96, eo96⟩ := Kd.R_slice HO367.out; subst eo96; obtain ⟨Ao97, co97, eo97⟩ := Kd.R_slice HO371.out; subst eo97) | (go_at_call 10; (with_reducible refine (laws_aSame.calls kj15 _ _ t364 _ _ t368 true _ ?side1 ?side2 ?side3 ?side4 A83.out).mono ?_); (case side1 => repeat (first | exact (Kd.R_reads' HO367.out).2.2 | (with_reducible refine Kd.C_alloc ?_ _) | (with_reducible refine Kd.C_drewN ?_ _) | (with_reducible refine Kd.C_drew ?_))); (case side2 => exact (Kd.R_reads' HO367.out).2.1); (case side3 => repeat (first | exact (Kd.R_reads' HO371.out).2.2 | (with_reducible refine Kd.C_alloc ?_ _) | (with_reducible refine Kd.C_drewN ?_ _) | (with_reducible refine Kd.C_drew ?_))); (case side4 => exact (Kd.R_reads' HO371.out).2.1); rintro e w' ⟨rfl, ⟨nd, rfl⟩⟩))
                                    go_meet
                                    case rel => exact ⟨_, (false), (by first | rfl | (simp; done) | (simp [*]; done)), H', ⟨by have := HJ15.out; first | omega | exact Nat.le_refl _⟩, ⟨by (with_reducible repeat (first | apply Kd.R_alloc | apply Kd.R_drewN | apply Kd.R_drew)); exact Kd.R_mono HO355.out (fun _ hk => ⟨hk.1.1.1.1.1.2, ⟨hk.1.1.1.2, ⟨hk.1.2, hk.2⟩⟩⟩)⟩, ⟨by (with_reducible repeat (first | apply Kd.R_alloc | apply Kd.R_drewN | apply Kd.R_drew)); exact Kd.R_mono HO359.out (fun _ hk => ⟨hk.1.1.1.1.1.2, ⟨hk.1.1.1.2, ⟨hk.1.2, hk.2⟩⟩⟩)⟩, ⟨by (with_reducible repeat (first | apply Kd.R_alloc | apply Kd.R_drewN | apply Kd.R_drew)); exact Kd.R_mono HO367.out (fun _ hk => ⟨hk.1.1.1.1.1.2, ⟨hk.1.1.1.1.2, ⟨hk.1.2, hk.2⟩⟩⟩)⟩, ⟨by (with_reducible repeat (first | apply Kd.R_alloc | apply Kd.R_drewN | apply Kd.R_drew)); exact Kd.R_mono HO385.out (fun _ hk => ⟨hk.1.1.1.1.2, ⟨hk.1.1.1.2, ⟨hk.1.2, hk.1.1.1.1.1⟩⟩⟩)⟩, ⟨by (with_reducible repeat (first | apply Kd.R_alloc | apply Kd.R_drewN | apply Kd.R_drew)); exact Kd.R_mono HO387.out (fun _ hk => ⟨hk.1.1.1.1.2, ⟨hk.1.1.1.2, ⟨hk.1.2, hk.1.1.1.1.1⟩⟩⟩)⟩, ⟨by repeat (first | (with_reducible first | exact HB.out | apply below_alloc | apply pw_below_drewN | apply below_drew1) | exact HB.out)⟩⟩
                                ·rw [if_neg c86] at H
                                 exact absurd H (by simp)
                              ·replace c84 := Bool.eq_false_iff.mpr c84
                               subst c84
                               have H1 : (none) = some r := by rw [if_neg (show ¬ (false = true) by decide)] at H; exact H
                               clear H
                               have H := H1
                               clear H1
                               exact absurd H (by simp)
                            ·replace c81 := Bool.eq_false_iff.mpr c81
                             subst c81
                             have H1 : (none) = some r := by rw [if_neg (show ¬ (false = true) by decide)] at H; exact H
                             clear H
                             have H := H1
                             clear H1
                             exact absurd H (by simp)
                         case rest =>
                          as_aux_lemma =>
                           clear HC65
                           (try clear c1); (try clear c2); (try clear p2); (try clear c3); (try clear p3); (try clear q3); (try clear hx3); (try clear c4); (try clear c5); (try clear c6); (try clear p6); (try clear c7); (try clear c8); (try clear c9); (try clear c10); (try clear c10b0); (try clear c10b1); (try clear c10b2); (try clear c11); (try clear c12); (try clear c13); (try clear c13b0); (try clear c13b1); (try clear c13b2); (try clear c14); (try clear c14b0); (try clear c14b1); (try clear c15); (try clear c15b0); (try clear c15b1); (try clear c15b2); (try clear c16); (try clear c17); (try clear c18); (try clear c19); (try clear c20); (try clear c21); (try clear c22); (try clear c25); (try clear c29); (try clear c31); (try clear c32); (try clear c34); (try clear p34); (try clear q34); (try clear hx34); (try clear c35); (try clear p35); (try clear q35); (try clear hx35); (try clear c36); (try clear c38); (try clear c38b0); (try clear c38b1); (try clear c39); (try clear c39b0); (try clear c39b1); (try clear c39b2); (try clear c45); (try clear c45b0); (try clear c46); (try clear c46b0); (try clear c47); (try clear c47b0); (try clear c48); (try clear c48b0); (try clear c50); (try clear c51); (try clear c51b0); (try clear c51b1); (try clear c52); (try clear c52b0); (try clear c52b1); (try clear c52b2); (try clear p64); (try clear c79); (try clear c79b0); (try clear c79b1); (try clear c79b2); (try clear c81); (try clear c82); (try clear c82b0); (try clear c82b1); (try clear c82b2); (try clear c84); (try clear c85); (try clear c85b0); (try clear c85b1); (try clear c85b2); (try clear c86); (try clear c86b0); (try clear c86b1); (try clear c87); (try clear c87b0); (try clear c87b1); (try clear c87b2); (try clear c88); (try clear c88b0); (try clear c88b1); (try clear c88b2); (try clear c89); (try clear hx346_0); (try clear hx347_0); (try clear hx350_0); (try clear p2); (try clear p3); (try clear p34); (try clear p346); (try clear p347); (try clear p35); (try clear p350); (try clear p6); (try clear q3); (try clear q34); (try clear q346); (try clear q347); (try clear q35); (try clear q350)
                           obtain ⟨kq, x354_64, rfl, HA, HJ64, HO_29, HO_30, HO_34, HO_48, HO_49, HB⟩ := hcut
                           cases kq with
                           | zero => exact absurd HA.out (by simp [laws_FnDialsOpen.j2])
                           | succ kj64 =>
                            have H := HA.out
                            clear HA
                            simp only [laws_FnDialsOpen.j2] at H
                            by_cases c98 : x354_64 = true
                            ·subst c98
                             have H1 : (none) = some r := by rw [if_pos rfl] at H; exact H
                             clear H
                             have H := H1
                             clear H1
                             exact absurd H (by simp)
                            ·replace c98 := Bool.eq_false_iff.mpr c98
                             subst c98
                             have H1 : (if t357 = true then ((impl_OpeningTurns.f kj64 t351 t352 t356).bind fun bt394 => (if bt394.2 = true then ((laws_aSame.f kj64 bt394.1 t353).bind fun t398 => (if t398 = true then ((laws_aSame.f kj64 t356 t364).bind fun t399 => (if t399 = true then (laws_FnDialsOpen.j3 kj64 t372 t373 t374 t376 t377 t380 t381 t382 t383 t388 t389) else (none))) else (none))) else (none))) else (laws_FnDialsOpen.j3 kj64 t372 t373 t374 t376 t377 t380 t381 t382 t383 t388 t389)) = some r := by rw [if_neg (show ¬ (false = true) by decide)] at H; exact H
                             clear H
                             have H := H1
                             clear H1
                             have HC99 := Aside0.mk H
                             clear H
                             go_upto_if 355 with (fail)
                             go_cut [] (fun wc => ∃ (kq : Nat), Aside0 (laws_FnDialsOpen.j3 kq t372 t373 t374 t376 t377 t380 t381 t382 t383 t388 t389 = some r) ∧ Aside0 (kq ≤ kj64) ∧ Aside0 (Kd.R (Kd.int .i64) 3 wc w.heap.size (fun k_ => some k_ ≠ ((.slice Ao76 t383.length co76) : Value).ownBlock) (.slice Ao75 t382.length co75) t382) ∧ Aside0 (Kd.R (Kd.int .i64) 3 wc w.heap.size (fun k_ => some k_ ≠ ((.slice Ao75 t382.length co75) : Value).ownBlock) (.slice Ao76 t383.length co76) t383) ∧ Aside0 (Below w.heap.size w wc))
                             case first =>
                              as_aux_lemma =>
                               have H := HC99.out
                               clear HC99
                               by_cases c100 : t357 = true
                               ·subst c100
                                have H1 : ((impl_OpeningTurns.f kj64 t351 t352 t356).bind fun bt394 => (if bt394.2 = true then ((laws_aSame.f kj64 bt394.1 t353).bind fun t398 => (if t398 = true then ((laws_aSame.f kj64 t356 t364).bind fun t399 => (if t399 = true then (laws_FnDialsOpen.j3 kj64 t372 t373 t374 t376 t377 t380 t381 t382 t383 t388 t389) else (none))) else (none))) else (none))) = some r := by rw [if_pos rfl] at H; exact H
                                clear H
                                have H := H1
                                clear H1
                                replace H := Option.bind_eq_some_iff.mp H
                                obtain ⟨⟨t394, t395⟩, A1010, H⟩ := H
                                (try dsimp only at H)
                                have A101 := Aside0.mk A1010
                                clear A1010
                                by_cases c102 : t395 = true
                                ·subst c102
                                 have H1 : ((laws_aSame.f kj64 t394 t353).bind fun t398 => (if t398 = true then ((laws_aSame.f kj64 t356 t364).bind fun t399 => (if t399 = true then (laws_FnDialsOpen.j3 kj64 t372 t373 t374 t376 t377 t380 t381 t382 t383 t388 t389) else (none))) else (none))) = some r := by rw [if_pos rfl] at H; exact H
                                 clear H
                                 have H := H1
                                 clear H1
                                 replace H := Option.bind_eq_some_iff.mp H
                                 obtain ⟨t398, A1030, H⟩ := H
                                 (try dsimp only at H)
                                 have A103 := Aside0.mk A1030
                                 clear A1030
                                 by_cases c104 : t398 = true
                                 ·subst c104
                                  have H1 : ((laws_aSame.f kj64 t356 t364).bind fun t399 => (if t399 = true then (laws_FnDialsOpen.j3 kj64 t372 t373 t374 t376 t377 t380 t381 t382 t383 t388 t389) else (none))) = some r := by rw [if_pos rfl] at H; exact H
                                  clear H
                                  have H := H1
                                  clear H1
                                  replace H := Option.bind_eq_some_iff.mp H
                                  obtain ⟨t399, A1050, H⟩ := H
                                  (try dsimp only at H)
                                  have A105 := Aside0.mk A1050
                                  clear A1050
                                  by_cases c106 : t399 = true
                                  ·subst c106
                                   have H1 : (laws_FnDialsOpen.j3 kj64 t372 t373 t374 t376 t377 t380 t381 t382 t383 t388 t389) = some r := by rw [if_pos rfl] at H; exact H
                                   clear H
                                   have H := H1
                                   clear H1
                                   have H' := Aside0.mk H
                                   clear H
                                   obtain ⟨Ao107, co107, eo107⟩ := Kd.R_slice HO_30.out
                                   subst eo107
                                   go_wp2_with (first | ((with_reducible refine gate_callee (f := 6) rfl ?_); refine goesL_ (some 360) rfl rfl Try.func6 (by kernel_rfl) rfl #[.int .i64 t351, .int .i64 t352, .slice Ao107 t356.length co107] rfl (by (try simp only [List.map_toArray, List.map_cons, List.map_nil]); first | done | rfl | (simp only [List.length_drop, List.length_take]; rfl)) ?_; (with_reducible refine (impl_OpeningTurns.calls kj64 t351 t352 _ _ t356 t394 true _ ?side1 ?side2 A101.out).mono ?_); (case side1 => repeat (first | exact (Kd.R_reads' HO_30.out).2.2 | (with_reducible refine Kd.C_alloc ?_ _) | (with_reducible refine Kd.C_drewN ?_ _) | (with_reducible refine Kd.C_drew ?_))); (case side2 => exact (Kd.R_reads' HO_30.out).2.1); rintro e w108 ⟨v396, rfl, ho0, hb⟩; refine ⟨_, rfl, ?_⟩; have n0_ := Aside0.mk (Kd.R_elder' (by (with_reducible repeat (first | apply Kd.R_alloc | apply Kd.R_drewN | apply Kd.R_drew)); exact HO_29.out) (Kd.R_base ho0) hb); have n1_ := Aside0.mk (Kd.R_elder' (by (with_reducible repeat (first | apply Kd.R_alloc | apply Kd.R_drewN | apply Kd.R_drew)); exact HO_30.out) (Kd.R_base ho0) hb); have n2_ := Aside0.mk (Kd.R_elder' (by (with_reducible repeat (first | apply Kd.R_alloc | apply Kd.R_drewN | apply Kd.R_drew)); exact HO_34.out) (Kd.R_base ho0) hb); have n3_ := Aside0.mk (Kd.R_elder' (by (with_reducible repeat (first | apply Kd.R_alloc | apply Kd.R_drewN | apply Kd.R_drew)); exact HO_48.out) (Kd.R_base ho0) hb); have n4_ := Aside0.mk (Kd.R_elder' (by (with_reducible repeat (first | apply Kd.R_alloc | apply Kd.R_drewN | apply Kd.R_drew)); exact HO_49.out) (Kd.R_base ho0) hb); have n5_ := Aside0.mk (Kd.R_lower (Kd.R_new' (Kd.R_new' (Kd.R_new' (Kd.R_new' (Kd.R_new' ho0 (Kd.R_lt (by (with_reducible repeat (first | apply Kd.R_alloc | apply Kd.R_drewN | apply Kd.R_drew)); exact HO_29.out))) (Kd.R_lt (by (with_reducible repeat (first | apply Kd.R_alloc | apply Kd.R_drewN | apply Kd.R_drew)); exact HO_30.out))) (Kd.R_lt (by (with_reducible repeat (first | apply Kd.R_alloc | apply Kd.R_drewN | apply Kd.R_drew)); exact HO_34.out))) (Kd.R_lt (by (with_reducible repeat (first | apply Kd.R_alloc | apply Kd.R_drewN | apply Kd.R_drew)); exact HO_48.out))) (Kd.R_lt (by (with_reducible repeat (first | apply Kd.R_alloc | apply Kd.R_drewN | apply Kd.R_drew)); exact HO_49.out))) (below_size (by repeat (first | (with_reducible first | exact HB.out | apply below_alloc | apply pw_below_drewN | apply below_drew1) | exact HB.out)))); have n6_ := Aside0.mk (below_step (by repeat (first | (with_reducible first | exact HB.out | apply below_alloc | apply pw_below_drewN | apply below_drew1) | exact HB.out)) hb); clear HO_29; clear HO_30; clear HO_34; clear HO_48; clear HO_49; clear HB; have HO_29 := n0_; have HO_30 := n1_; have HO_34 := n2_; have HO_48 := n3_; have HO_49 := n4_; have HO397 := n5_; have HB := n6_; clear n0_ n1_ n2_ n3_ n4_ n5_ n6_; (try clear hb); (try clear hb2); (try clear hk); (try clear hi); (try clear ho0); obtain ⟨Ao109, co109, eo109⟩ := Kd.R_slice HO397.out; subst eo109) | (go_at_call 10; (with_reducible refine (laws_aSame.calls kj64 _ _ t394 _ _ t353 true _ ?side1 ?side2 ?side3 ?side4 A103.out).mono ?_); (case side1 => repeat (first | exact (Kd.R_reads' HO397.out).2.2 | (with_reducible refine Kd.C_alloc ?_ _) | (with_reducible refine Kd.C_drewN ?_ _) | (with_reducible refine Kd.C_drew ?_))); (case side2 => exact (Kd.R_reads' HO397.out).2.1); (case side3 => repeat (first | exact (Kd.R_reads' HO_29.out).2.2 | (with_reducible refine Kd.C_alloc ?_ _) | (with_reducible refine Kd.C_drewN ?_ _) | (with_reducible refine Kd.C_drew ?_))); (case side4 => exact (Kd.R_reads' HO_29.out).2.1); rintro e w' ⟨rfl, ⟨nd, rfl⟩⟩; obtain ⟨Ao110, co110, eo110⟩ := Kd.R_slice HO_34.out; subst eo110) | (go_at_call 10; (with_reducible refine (laws_aSame.calls kj64 _ _ t356 _ _ t364 true _ ?side1 ?side2 ?side3 ?side4 A105.out).mono ?_); (case side1 => repeat (first | exact (Kd.R_reads' HO_30.out).2.2 | (with_reducible refine Kd.C_alloc ?_ _) | (with_reducible refine Kd.C_drewN ?_ _) | (with_reducible refine Kd.C_drew ?_))); (case side2 => exact (Kd.R_reads' HO_30.out).2.1); (case side3 => repeat (first | exact (Kd.R_reads' HO_34.out).2.2 | (with_reducible refine Kd.C_alloc ?_ _) | (with_reducible refine Kd.C_drewN ?_ _) | (with_reducible refine Kd.C_drew ?_))); (case side4 => exact (Kd.R_reads' HO_34.out).2.1); rintro e w' ⟨rfl, ⟨nd, rfl⟩⟩))
                                   go_meet
                                   case rel => exact ⟨_, H', ⟨by have := HJ15.out; have := HJ64.out; first | omega | exact Nat.le_refl _⟩, ⟨by (with_reducible repeat (first | apply Kd.R_alloc | apply Kd.R_drewN | apply Kd.R_drew)); exact Kd.R_mono HO_48.out (fun _ hk => hk.1.2.2.2)⟩, ⟨by (with_reducible repeat (first | apply Kd.R_alloc | apply Kd.R_drewN | apply Kd.R_drew)); exact Kd.R_mono HO_49.out (fun _ hk => hk.1.2.2.2)⟩, ⟨by repeat (first | (with_reducible first | exact HB.out | apply below_alloc | apply pw_below_drewN | apply below_drew1) | exact HB.out)⟩⟩
                                  ·replace c106 := Bool.eq_false_iff.mpr c106
                                   subst c106
                                   have H1 : (none) = some r := by rw [if_neg (show ¬ (false = true) by decide)] at H; exact H
                                   clear H
                                   have H := H1
                                   clear H1
                                   exact absurd H (by simp)
                                 ·replace c104 := Bool.eq_false_iff.mpr c104
                                  subst c104
                                  have H1 : (none) = some r := by rw [if_neg (show ¬ (false = true) by decide)] at H; exact H
                                  clear H
                                  have H := H1
                                  clear H1
                                  exact absurd H (by simp)
                                ·replace c102 := Bool.eq_false_iff.mpr c102
                                 subst c102
                                 have H1 : (none) = some r := by rw [if_neg (show ¬ (false = true) by decide)] at H; exact H
                                 clear H
                                 have H := H1
                                 clear H1
                                 exact absurd H (by simp)
                               ·replace c100 := Bool.eq_false_iff.mpr c100
                                subst c100
                                have H1 : (laws_FnDialsOpen.j3 kj64 t372 t373 t374 t376 t377 t380 t381 t382 t383 t388 t389) = some r := by rw [if_neg (show ¬ (false = true) by decide)] at H; exact H
                                clear H
                                have H := H1
                                clear H1
                                have H' := Aside0.mk H
                                clear H
                                go_wp2
                                go_meet
                                case rel => exact ⟨_, H', ⟨by have := HJ15.out; have := HJ64.out; first | omega | exact Nat.le_refl _⟩, ⟨by (with_reducible repeat (first | apply Kd.R_alloc | apply Kd.R_drewN | apply Kd.R_drew)); exact Kd.R_mono HO_48.out (fun _ hk => hk.2.2.2)⟩, ⟨by (with_reducible repeat (first | apply Kd.R_alloc | apply Kd.R_drewN | apply Kd.R_drew)); exact Kd.R_mono HO_49.out (fun _ hk => hk.2.2.2)⟩, ⟨by repeat (first | (with_reducible first | exact HB.out | apply below_alloc | apply pw_below_drewN | apply below_drew1) | exact HB.out)⟩⟩
                             case rest =>
                              as_aux_lemma =>
                               clear HC99
                               (try clear c1); (try clear c2); (try clear p2); (try clear c3); (try clear p3); (try clear q3); (try clear hx3); (try clear c4); (try clear c5); (try clear c6); (try clear p6); (try clear c7); (try clear c8); (try clear c9); (try clear c10); (try clear c10b0); (try clear c10b1); (try clear c10b2); (try clear c11); (try clear c12); (try clear c13); (try clear c13b0); (try clear c13b1); (try clear c13b2); (try clear c14); (try clear c14b0); (try clear c14b1); (try clear c15); (try clear c15b0); (try clear c15b1); (try clear c15b2); (try clear c16); (try clear c17); (try clear c18); (try clear c19); (try clear c20); (try clear c21); (try clear c22); (try clear c25); (try clear c29); (try clear c31); (try clear c32); (try clear c34); (try clear p34); (try clear q34); (try clear hx34); (try clear c35); (try clear p35); (try clear q35); (try clear hx35); (try clear c36); (try clear c38); (try clear c38b0); (try clear c38b1); (try clear c39); (try clear c39b0); (try clear c39b1); (try clear c39b2); (try clear c45); (try clear c45b0); (try clear c46); (try clear c46b0); (try clear c47); (try clear c47b0); (try clear c48); (try clear c48b0); (try clear c50); (try clear c51); (try clear c51b0); (try clear c51b1); (try clear c52); (try clear c52b0); (try clear c52b1); (try clear c52b2); (try clear p64); (try clear c79); (try clear c79b0); (try clear c79b1); (try clear c79b2); (try clear c81); (try clear c82); (try clear c82b0); (try clear c82b1); (try clear c82b2); (try clear c84); (try clear c85); (try clear c85b0); (try clear c85b1); (try clear c85b2); (try clear c86); (try clear c86b0); (try clear c86b1); (try clear c87); (try clear c87b0); (try clear c87b1); (try clear c87b2); (try clear c88); (try clear c88b0); (try clear c88b1); (try clear c88b2); (try clear c89); (try clear c98); (try clear c100); (try clear c102); (try clear c104); (try clear c106); (try clear hx346_0); (try clear hx347_0); (try clear hx350_0); (try clear p2); (try clear p3); (try clear p34); (try clear p346); (try clear p347); (try clear p35); (try clear p350); (try clear p6); (try clear p64); (try clear q3); (try clear q34); (try clear q346); (try clear q347); (try clear q35); (try clear q350)
                               obtain ⟨kq, HA, HJ98, HO_48, HO_49, HB⟩ := hcut
                               cases kq with
                               | zero => exact absurd HA.out (by simp [laws_FnDialsOpen.j3])
                               | succ kj98 =>
                                have H := HA.out
                                clear HA
                                simp only [laws_FnDialsOpen.j3] at H
                                have HC111 := Aside0.mk H
                                clear H
                                go_upto_if 377 with (fail)
                                go_cut [] (fun wc => ∃ (kq : Nat), Aside0 (laws_FnDialsOpen.j5 kq t380 t381 t382 t383 t388 t389 = some r) ∧ Aside0 (kq ≤ kj98) ∧ Aside0 (Kd.R (Kd.int .i64) 3 wc w.heap.size (fun k_ => some k_ ≠ ((.slice Ao76 t383.length co76) : Value).ownBlock) (.slice Ao75 t382.length co75) t382) ∧ Aside0 (Kd.R (Kd.int .i64) 3 wc w.heap.size (fun k_ => some k_ ≠ ((.slice Ao75 t382.length co75) : Value).ownBlock) (.slice Ao76 t383.length co76) t383) ∧ Aside0 (Below w.heap.size w wc))
                                case first =>
                                 as_aux_lemma =>
                                  have H := HC111.out
                                  clear HC111
                                  by_cases c112 : t377 = true
                                  ·subst c112
                                   have H1 : (laws_FnDialsOpen.l1 kj98 t372 t373 t374 t376 t380 t381 t382 t383 t388 t389 0 0) = some r := by rw [if_pos rfl] at H; exact H
                                   clear H
                                   have H := H1
                                   clear H1
                                   have H' := Aside0.mk H
                                   clear H
                                   go_wp2
                                   as_aux_lemma =>
                                    go_loopg [56, 57] kj98 (fun kq v56 v57 w' => ∃ (x56_4 : Int) (x57_4 : Int), v56 = .int .i64 x56_4 ∧ v57 = .int .i64 x57_4 ∧ Aside0 (laws_FnDialsOpen.l1 kq t372 t373 t374 t376 t380 t381 t382 t383 t388 t389 x56_4 x57_4 = some r) ∧ Aside0 (kq ≤ kj98) ∧ Aside0 (Kd.R (Kd.int .i64) 3 w' w.heap.size (fun k_ => some k_ ≠ ((.slice Ao76 t383.length co76) : Value).ownBlock) (.slice Ao75 t382.length co75) t382) ∧ Aside0 (Kd.R (Kd.int .i64) 3 w' w.heap.size (fun k_ => some k_ ≠ ((.slice Ao75 t382.length co75) : Value).ownBlock) (.slice Ao76 t383.length co76) t383) ∧ Aside0 (Below w.heap.size w w'))
                                    case atStart => exact ⟨(0), (0), (by first | rfl | (simp; done) | (simp [*]; done)), (by first | rfl | (simp; done) | (simp [*]; done)), H', ⟨Nat.le_refl _⟩, ⟨by (with_reducible repeat (first | apply Kd.R_alloc | apply Kd.R_drewN | apply Kd.R_drew)); exact HO_48.out⟩, ⟨by (with_reducible repeat (first | apply Kd.R_alloc | apply Kd.R_drewN | apply Kd.R_drew)); exact HO_49.out⟩, ⟨by repeat (first | (with_reducible first | exact HB.out | apply below_alloc | apply pw_below_drewN | apply below_drew1) | exact HB.out)⟩⟩
                                    case round =>
                                     as_aux_lemma =>
                                      clear H'
                                      (try clear c1); (try clear c2); (try clear p2); (try clear c3); (try clear p3); (try clear q3); (try clear hx3); (try clear c4); (try clear c5); (try clear c6); (try clear p6); (try clear c7); (try clear c8); (try clear c9); (try clear c10); (try clear c10b0); (try clear c10b1); (try clear c10b2); (try clear c11); (try clear c12); (try clear c13); (try clear c13b0); (try clear c13b1); (try clear c13b2); (try clear c14); (try clear c14b0); (try clear c14b1); (try clear c15); (try clear c15b0); (try clear c15b1); (try clear c15b2); (try clear c16); (try clear c17); (try clear c18); (try clear c19); (try clear c20); (try clear c21); (try clear c22); (try clear c25); (try clear c29); (try clear c31); (try clear c32); (try clear c34); (try clear p34); (try clear q34); (try clear hx34); (try clear c35); (try clear p35); (try clear q35); (try clear hx35); (try clear c36); (try clear c38); (try clear c38b0); (try clear c38b1); (try clear c39); (try clear c39b0); (try clear c39b1); (try clear c39b2); (try clear c45); (try clear c45b0); (try clear c46); (try clear c46b0); (try clear c47); (try clear c47b0); (try clear c48); (try clear c48b0); (try clear c50); (try clear c51); (try clear c51b0); (try clear c51b1); (try clear c52); (try clear c52b0); (try clear c52b1); (try clear c52b2); (try clear p64); (try clear c79); (try clear c79b0); (try clear c79b1); (try clear c79b2); (try clear c81); (try clear c82); (try clear c82b0); (try clear c82b1); (try clear c82b2); (try clear c84); (try clear c85); (try clear c85b0); (try clear c85b1); (try clear c85b2); (try clear c86); (try clear c86b0); (try clear c86b1); (try clear c87); (try clear c87b0); (try clear c87b1); (try clear c87b2); (try clear c88); (try clear c88b0); (try clear c88b1); (try clear c88b2); (try clear c89); (try clear c98); (try clear c100); (try clear c102); (try clear c104); (try clear c106); (try clear c112); (try clear hx346_0); (try clear hx347_0); (try clear hx350_0); (try clear p2); (try clear p3); (try clear p34); (try clear p346); (try clear p347); (try clear p35); (try clear p350); (try clear p6); (try clear p64); (try clear q3); (try clear q34); (try clear q346); (try clear q347); (try clear q35); (try clear q350)
                                      obtain ⟨x56_4, x57_4, rfl, rfl, HA, HK4, HO_48, HO_49, HB⟩ := hrel
                                      cases gk with
                                      | zero => exact absurd HA.out (by simp [laws_FnDialsOpen.l1])
                                      | succ k4 =>
                                       have H := HA.out
                                       clear HA
                                       simp only [laws_FnDialsOpen.l1] at H
                                       by_cases c113 : x57_4 < t372
                                       ·rw [if_pos c113] at H
                                        have c113b0 : decide (x57_4 < t372) = true := decide_eq_true c113
                                        clear c113
                                        (first | rw [c113b0] | (simp only [i64_w, i32_w]; rw [c113b0]) | skip)
                                        replace H := Option.bind_eq_some_iff.mp H
                                        obtain ⟨⟨t400, t401⟩, A1140, H⟩ := H
                                        (try dsimp only at H)
                                        have A114 := Aside0.mk A1140
                                        clear A1140
                                        by_cases c115 : t401 = true
                                        ·subst c115
                                         have H1 : (if (wrap64 (t400 - t376)) > 1 then (none) else (if (wrap64 (t376 - t400)) > 1 then (none) else (laws_FnDialsOpen.l1 k4 t372 t373 t374 t376 t380 t381 t382 t383 t388 t389 (wrap64 (x56_4 + t400)) (wrap64 (x57_4 + 1))))) = some r := by rw [if_pos rfl] at H; exact H
                                         clear H
                                         have H := H1
                                         clear H1
                                         by_cases c116 : (wrap64 (t400 - t376)) > 1
                                         ·rw [if_pos c116] at H
                                          exact absurd H (by simp)
                                         ·rw [if_neg c116] at H
                                          have c116b0 : decide (1 < (wrap64 (t400 - t376))) = false := decide_eq_false c116
                                          clear c116
                                          by_cases c117 : (wrap64 (t376 - t400)) > 1
                                          ·rw [if_pos c117] at H
                                           exact absurd H (by simp)
                                          ·rw [if_neg c117] at H
                                           have c117b0 : decide (1 < (wrap64 (t376 - t400))) = false := decide_eq_false c117
                                           clear c117
                                           have H' := Aside0.mk H
                                           clear H
                                           go_wp2_with (first | ((with_reducible refine gate_callee (f := 15) rfl ?_); refine goesL_ (some 388) rfl rfl Try.func15 (by kernel_rfl) rfl #[.int .i64 t372, .int .i64 t373, .int .i64 t374, .int .i64 x57_4] rfl (by (try simp only [List.map_toArray, List.map_cons, List.map_nil]); first | done | rfl | (simp only [List.length_drop, List.length_take]; rfl)) ?_; (with_reducible refine (impl_PassesOf.calls k4 t372 t373 t374 x57_4 t400 true _ A114.out).mono ?_); rintro e w118 ⟨rfl, hb⟩; refine ⟨_, rfl, ?_⟩; have n0_ := Aside0.mk (Kd.R_below (by (with_reducible repeat (first | apply Kd.R_alloc | apply Kd.R_drewN | apply Kd.R_drew)); exact HO_48.out) hb); have n1_ := Aside0.mk (Kd.R_below (by (with_reducible repeat (first | apply Kd.R_alloc | apply Kd.R_drewN | apply Kd.R_drew)); exact HO_49.out) hb); have n2_ := Aside0.mk (below_step (by repeat (first | (with_reducible first | exact HB.out | apply below_alloc | apply pw_below_drewN | apply below_drew1) | exact HB.out)) hb); clear HO_48; clear HO_49; clear HB; have HO_48 := n0_; have HO_49 := n1_; have HB := n2_; clear n0_ n1_ n2_; (try clear hb); (try clear hb2); (try clear hk); (try clear hi)))
                                           go_roundg k4
                                           case measure => have := HJ15.out; have := HJ64.out; have := HJ98.out; have := HK4.out; omega
                                           case rel => exact ⟨(wrap64 (x56_4 + t400)), (wrap64 (x57_4 + 1)), (by first | rfl | (simp; done) | (simp [*]; done)), (by first | rfl | (simp; done) | (simp [*]; done)), H', ⟨by have := HJ15.out; have := HJ64.out; have := HJ98.out; have := HK4.out; omega⟩, ⟨by (with_reducible repeat (first | apply Kd.R_alloc | apply Kd.R_drewN | apply Kd.R_drew)); exact HO_48.out⟩, ⟨by (with_reducible repeat (first | apply Kd.R_alloc | apply Kd.R_drewN | apply Kd.R_drew)); exact HO_49.out⟩, ⟨by repeat (first | (with_reducible first | exact HB.out | apply below_alloc | apply pw_below_drewN | apply below_drew1) | exact HB.out)⟩⟩
                                        ·replace c115 := Bool.eq_false_iff.mpr c115
                                         subst c115
                                         have H1 : (none) = some r := by rw [if_neg (show ¬ (false = true) by decide)] at H; exact H
                                         clear H
                                         have H := H1
                                         clear H1
                                         exact absurd H (by simp)
                                       ·rw [if_neg c113] at H
                                        have c113b0 : decide (x57_4 < t372) = false := decide_eq_false c113
                                        clear c113
                                        (first | rw [c113b0] | (simp only [i64_w, i32_w]; rw [c113b0]) | skip)
                                        by_cases c119 : t374 < 0
                                        ·rw [if_pos c119] at H
                                         have c119b0 : decide (t374 < 0) = true := decide_eq_true c119
                                         clear c119
                                         by_cases c120 : x56_4 = (wrap64 (-t374))
                                         ·rw [if_pos c120] at H
                                          have c120b0 : (x56_4 == (wrap64 (-t374))) = true := beq_iff_eq.mpr c120
                                          have c120b1 : (x56_4 != (wrap64 (-t374))) = false := bne_eq_false_iff_eq.mpr c120
                                          clear c120
                                          have H' := Aside0.mk H
                                          clear H
                                          go_wp2
                                          go_meet
                                          case rel => exact ⟨_, H', ⟨by have := HJ15.out; have := HJ64.out; have := HJ98.out; have := HK4.out; first | omega | exact Nat.le_refl _⟩, ⟨by (with_reducible repeat (first | apply Kd.R_alloc | apply Kd.R_drewN | apply Kd.R_drew)); exact HO_48.out⟩, ⟨by (with_reducible repeat (first | apply Kd.R_alloc | apply Kd.R_drewN | apply Kd.R_drew)); exact HO_49.out⟩, ⟨by repeat (first | (with_reducible first | exact HB.out | apply below_alloc | apply pw_below_drewN | apply below_drew1) | exact HB.out)⟩⟩
                                         ·rw [if_neg c120] at H
                                          exact absurd H (by simp)
                                        ·rw [if_neg c119] at H
                                         have c119b0 : decide (t374 < 0) = false := decide_eq_false c119
                                         clear c119
                                         by_cases c121 : x56_4 = t374
                                         ·rw [if_pos c121] at H
                                          have c121b0 : (x56_4 == t374) = true := beq_iff_eq.mpr c121
                                          have c121b1 : (x56_4 != t374) = false := bne_eq_false_iff_eq.mpr c121
                                          clear c121
                                          have H' := Aside0.mk H
                                          clear H
                                          go_wp2
                                          go_meet
                                          case rel => exact ⟨_, H', ⟨by have := HJ15.out; have := HJ64.out; have := HJ98.out; have := HK4.out; first | omega | exact Nat.le_refl _⟩, ⟨by (with_reducible repeat (first | apply Kd.R_alloc | apply Kd.R_drewN | apply Kd.R_drew)); exact HO_48.out⟩, ⟨by (with_reducible repeat (first | apply Kd.R_alloc | apply Kd.R_drewN | apply Kd.R_drew)); exact HO_49.out⟩, ⟨by repeat (first | (with_reducible first | exact HB.out | apply below_alloc | apply pw_below_drewN | apply below_drew1) | exact HB.out)⟩⟩
                                         ·rw [if_neg c121] at H
                                          exact absurd H (by simp)
                                  ·replace c112 := Bool.eq_false_iff.mpr c112
                                   subst c112
                                   have H1 : (laws_FnDialsOpen.j5 kj98 t380 t381 t382 t383 t388 t389) = some r := by rw [if_neg (show ¬ (false = true) by decide)] at H; exact H
                                   clear H
                                   have H := H1
                                   clear H1
                                   have H' := Aside0.mk H
                                   clear H
                                   go_wp2
                                   go_meet
                                   case rel => exact ⟨_, H', ⟨by have := HJ15.out; have := HJ64.out; have := HJ98.out; first | omega | exact Nat.le_refl _⟩, ⟨by (with_reducible repeat (first | apply Kd.R_alloc | apply Kd.R_drewN | apply Kd.R_drew)); exact HO_48.out⟩, ⟨by (with_reducible repeat (first | apply Kd.R_alloc | apply Kd.R_drewN | apply Kd.R_drew)); exact HO_49.out⟩, ⟨by repeat (first | (with_reducible first | exact HB.out | apply below_alloc | apply pw_below_drewN | apply below_drew1) | exact HB.out)⟩⟩
                                case rest =>
                                 as_aux_lemma =>
                                  clear HC111
                                  (try clear c1); (try clear c2); (try clear p2); (try clear c3); (try clear p3); (try clear q3); (try clear hx3); (try clear c4); (try clear c5); (try clear c6); (try clear p6); (try clear c7); (try clear c8); (try clear c9); (try clear c10); (try clear c10b0); (try clear c10b1); (try clear c10b2); (try clear c11); (try clear c12); (try clear c13); (try clear c13b0); (try clear c13b1); (try clear c13b2); (try clear c14); (try clear c14b0); (try clear c14b1); (try clear c15); (try clear c15b0); (try clear c15b1); (try clear c15b2); (try clear c16); (try clear c17); (try clear c18); (try clear c19); (try clear c20); (try clear c21); (try clear c22); (try clear c25); (try clear c29); (try clear c31); (try clear c32); (try clear c34); (try clear p34); (try clear q34); (try clear hx34); (try clear c35); (try clear p35); (try clear q35); (try clear hx35); (try clear c36); (try clear c38); (try clear c38b0); (try clear c38b1); (try clear c39); (try clear c39b0); (try clear c39b1); (try clear c39b2); (try clear c45); (try clear c45b0); (try clear c46); (try clear c46b0); (try clear c47); (try clear c47b0); (try clear c48); (try clear c48b0); (try clear c50); (try clear c51); (try clear c51b0); (try clear c51b1); (try clear c52); (try clear c52b0); (try clear c52b1); (try clear c52b2); (try clear p64); (try clear c79); (try clear c79b0); (try clear c79b1); (try clear c79b2); (try clear c81); (try clear c82); (try clear c82b0); (try clear c82b1); (try clear c82b2); (try clear c84); (try clear c85); (try clear c85b0); (try clear c85b1); (try clear c85b2); (try clear c86); (try clear c86b0); (try clear c86b1); (try clear c87); (try clear c87b0); (try clear c87b1); (try clear c87b2); (try clear c88); (try clear c88b0); (try clear c88b1); (try clear c88b2); (try clear c89); (try clear c98); (try clear c100); (try clear c102); (try clear c104); (try clear c106); (try clear c112); (try clear c113); (try clear c113b0); (try clear c115); (try clear c116); (try clear c116b0); (try clear c117); (try clear c117b0); (try clear c119); (try clear c119b0); (try clear c120); (try clear c120b0); (try clear c120b1); (try clear c121); (try clear c121b0); (try clear c121b1); (try clear hx346_0); (try clear hx347_0); (try clear hx350_0); (try clear p2); (try clear p3); (try clear p34); (try clear p346); (try clear p347); (try clear p35); (try clear p350); (try clear p6); (try clear p64); (try clear q3); (try clear q34); (try clear q346); (try clear q347); (try clear q35); (try clear q350)
                                  obtain ⟨kq, HA, HJ110, HO_48, HO_49, HB⟩ := hcut
                                  cases kq with
                                  | zero => exact absurd HA.out (by simp [laws_FnDialsOpen.j5])
                                  | succ kj110 =>
                                   have H := HA.out
                                   clear HA
                                   simp only [laws_FnDialsOpen.j5] at H
                                   have HC122 := Aside0.mk H
                                   clear H
                                   go_upto_region 56 with (fail)
                                   go_cut [419] (fun v419 wc => ∃ (kq : Nat) (x419_121 : Bool), v419 = .bool x419_121 ∧ Aside0 (laws_FnDialsOpen.j6 kq t380 t381 t382 t383 x419_121 = some r) ∧ Aside0 (kq ≤ kj110) ∧ Aside0 (Kd.R (Kd.int .i64) 3 wc w.heap.size (fun k_ => some k_ ≠ ((.slice Ao76 t383.length co76) : Value).ownBlock) (.slice Ao75 t382.length co75) t382) ∧ Aside0 (Kd.R (Kd.int .i64) 3 wc w.heap.size (fun k_ => some k_ ≠ ((.slice Ao75 t382.length co75) : Value).ownBlock) (.slice Ao76 t383.length co76) t383) ∧ Aside0 (Below w.heap.size w wc))
                                   case first =>
                                    as_aux_lemma =>
                                     have H := HC122.out
                                     clear HC122
                                     by_cases c123 : t389 = true
                                     ·subst c123
                                      have H1 : (laws_FnDialsOpen.j6 kj110 t380 t381 t382 t383 t388) = some r := by rw [if_pos rfl] at H; exact H
                                      clear H
                                      have H := H1
                                      clear H1
                                      have H' := Aside0.mk H
                                      clear H
                                      go_wp2
                                      go_meet
                                      case rel => exact ⟨_, (t388), (by first | rfl | (simp; done) | (simp [*]; done)), H', ⟨by have := HJ15.out; have := HJ64.out; have := HJ98.out; have := HJ110.out; first | omega | exact Nat.le_refl _⟩, ⟨by (with_reducible repeat (first | apply Kd.R_alloc | apply Kd.R_drewN | apply Kd.R_drew)); exact HO_48.out⟩, ⟨by (with_reducible repeat (first | apply Kd.R_alloc | apply Kd.R_drewN | apply Kd.R_drew)); exact HO_49.out⟩, ⟨by repeat (first | (with_reducible first | exact HB.out | apply below_alloc | apply pw_below_drewN | apply below_drew1) | exact HB.out)⟩⟩
                                     ·replace c123 := Bool.eq_false_iff.mpr c123
                                      subst c123
                                      have H1 : (laws_FnDialsOpen.j6 kj110 t380 t381 t382 t383 false) = some r := by rw [if_neg (show ¬ (false = true) by decide)] at H; exact H
                                      clear H
                                      have H := H1
                                      clear H1
                                      have H' := Aside0.mk H
                                      clear H
                                      go_wp2
                                      go_meet
                                      case rel => exact ⟨_, (false), (by first | rfl | (simp; done) | (simp [*]; done)), H', ⟨by have := HJ15.out; have := HJ64.out; have := HJ98.out; have := HJ110.out; first | omega | exact Nat.le_refl _⟩, ⟨by (with_reducible repeat (first | apply Kd.R_alloc | apply Kd.R_drewN | apply Kd.R_drew)); exact HO_48.out⟩, ⟨by (with_reducible repeat (first | apply Kd.R_alloc | apply Kd.R_drewN | apply Kd.R_drew)); exact HO_49.out⟩, ⟨by repeat (first | (with_reducible first | exact HB.out | apply below_alloc | apply pw_below_drewN | apply below_drew1) | exact HB.out)⟩⟩
                                   case rest =>
                                    as_aux_lemma =>
                                     clear HC122
                                     (try clear c1); (try clear c2); (try clear p2); (try clear c3); (try clear p3); (try clear q3); (try clear hx3); (try clear c4); (try clear c5); (try clear c6); (try clear p6); (try clear c7); (try clear c8); (try clear c9); (try clear c10); (try clear c10b0); (try clear c10b1); (try clear c10b2); (try clear c11); (try clear c12); (try clear c13); (try clear c13b0); (try clear c13b1); (try clear c13b2); (try clear c14); (try clear c14b0); (try clear c14b1); (try clear c15); (try clear c15b0); (try clear c15b1); (try clear c15b2); (try clear c16); (try clear c17); (try clear c18); (try clear c19); (try clear c20); (try clear c21); (try clear c22); (try clear c25); (try clear c29); (try clear c31); (try clear c32); (try clear c34); (try clear p34); (try clear q34); (try clear hx34); (try clear c35); (try clear p35); (try clear q35); (try clear hx35); (try clear c36); (try clear c38); (try clear c38b0); (try clear c38b1); (try clear c39); (try clear c39b0); (try clear c39b1); (try clear c39b2); (try clear c45); (try clear c45b0); (try clear c46); (try clear c46b0); (try clear c47); (try clear c47b0); (try clear c48); (try clear c48b0); (try clear c50); (try clear c51); (try clear c51b0); (try clear c51b1); (try clear c52); (try clear c52b0); (try clear c52b1); (try clear c52b2); (try clear p64); (try clear c79); (try clear c79b0); (try clear c79b1); (try clear c79b2); (try clear c81); (try clear c82); (try clear c82b0); (try clear c82b1); (try clear c82b2); (try clear c84); (try clear c85); (try clear c85b0); (try clear c85b1); (try clear c85b2); (try clear c86); (try clear c86b0); (try clear c86b1); (try clear c87); (try clear c87b0); (try clear c87b1); (try clear c87b2); (try clear c88); (try clear c88b0); (try clear c88b1); (try clear c88b2); (try clear c89); (try clear c98); (try clear c100); (try clear c102); (try clear c104); (try clear c106); (try clear c112); (try clear c113); (try clear c113b0); (try clear c115); (try clear c116); (try clear c116b0); (try clear c117); (try clear c117b0); (try clear c119); (try clear c119b0); (try clear c120); (try clear c120b0); (try clear c120b1); (try clear c121); (try clear c121b0); (try clear c121b1); (try clear c123); (try clear hx346_0); (try clear hx347_0); (try clear hx350_0); (try clear p2); (try clear p3); (try clear p34); (try clear p346); (try clear p347); (try clear p35); (try clear p350); (try clear p6); (try clear p64); (try clear q3); (try clear q34); (try clear q346); (try clear q347); (try clear q35); (try clear q350)
                                     obtain ⟨kq, x419_121, rfl, HA, HJ121, HO_48, HO_49, HB⟩ := hcut
                                     cases kq with
                                     | zero => exact absurd HA.out (by simp [laws_FnDialsOpen.j6])
                                     | succ kj121 =>
                                      have H := HA.out
                                      clear HA
                                      simp only [laws_FnDialsOpen.j6] at H
                                      by_cases c124 : x419_121 = true
                                      ·subst c124
                                       have H1 : ((impl_OpeningTurns.f kj121 t380 t381 t382).bind fun bt402 => (if bt402.2 = true then ((laws_aSame.f kj121 bt402.1 t383).bind fun t406 => (some t406)) else (none))) = some r := by rw [if_pos rfl] at H; exact H
                                       clear H
                                       have H := H1
                                       clear H1
                                       replace H := Option.bind_eq_some_iff.mp H
                                       obtain ⟨⟨t402, t403⟩, A1250, H⟩ := H
                                       (try dsimp only at H)
                                       have A125 := Aside0.mk A1250
                                       clear A1250
                                       by_cases c126 : t403 = true
                                       ·subst c126
                                        have H1 : ((laws_aSame.f kj121 t402 t383).bind fun t406 => (some t406)) = some r := by rw [if_pos rfl] at H; exact H
                                        clear H
                                        have H := H1
                                        clear H1
                                        replace H := Option.bind_eq_some_iff.mp H
                                        obtain ⟨t406, A1270, H⟩ := H
                                        replace H : (some t406) = some r := H
                                        have A127 := Aside0.mk A1270
                                        clear A1270
                                        obtain rfl := Option.some.inj H
                                        go_wp2_with (first | ((with_reducible refine gate_callee (f := 6) rfl ?_); refine goesL_ (some 424) rfl rfl Try.func6 (by kernel_rfl) rfl #[.int .i64 t380, .int .i64 t381, .slice Ao75 t382.length co75] rfl (by (try simp only [List.map_toArray, List.map_cons, List.map_nil]); first | done | rfl | (simp only [List.length_drop, List.length_take]; rfl)) ?_; (with_reducible refine (impl_OpeningTurns.calls kj121 t380 t381 _ _ t382 t402 true _ ?side1 ?side2 A125.out).mono ?_); (case side1 => repeat (first | exact (Kd.R_reads' HO_48.out).2.2 | (with_reducible refine Kd.C_alloc ?_ _) | (with_reducible refine Kd.C_drewN ?_ _) | (with_reducible refine Kd.C_drew ?_))); (case side2 => exact (Kd.R_reads' HO_48.out).2.1); rintro e w128 ⟨v404, rfl, ho0, hb⟩; refine ⟨_, rfl, ?_⟩; have n0_ := Aside0.mk (Kd.R_elder' (by (with_reducible repeat (first | apply Kd.R_alloc | apply Kd.R_drewN | apply Kd.R_drew)); exact HO_48.out) (Kd.R_base ho0) hb); have n1_ := Aside0.mk (Kd.R_elder' (by (with_reducible repeat (first | apply Kd.R_alloc | apply Kd.R_drewN | apply Kd.R_drew)); exact HO_49.out) (Kd.R_base ho0) hb); have n2_ := Aside0.mk (Kd.R_lower (Kd.R_new' (Kd.R_new' ho0 (Kd.R_lt (by (with_reducible repeat (first | apply Kd.R_alloc | apply Kd.R_drewN | apply Kd.R_drew)); exact HO_48.out))) (Kd.R_lt (by (with_reducible repeat (first | apply Kd.R_alloc | apply Kd.R_drewN | apply Kd.R_drew)); exact HO_49.out))) (below_size (by repeat (first | (with_reducible first | exact HB.out | apply below_alloc | apply pw_below_drewN | apply below_drew1) | exact HB.out)))); have n3_ := Aside0.mk (below_step (by repeat (first | (with_reducible first | exact HB.out | apply below_alloc | apply pw_below_drewN | apply below_drew1) | exact HB.out)) hb); clear HO_48; clear HO_49; clear HB; have HO_48 := n0_; have HO_49 := n1_; have HO405 := n2_; have HB := n3_; clear n0_ n1_ n2_ n3_; (try clear hb); (try clear hb2); (try clear hk); (try clear hi); (try clear ho0); obtain ⟨Ao129, co129, eo129⟩ := Kd.R_slice HO405.out; subst eo129) | (go_at_call 10; (with_reducible refine (laws_aSame.calls kj121 _ _ t402 _ _ t383 t406 _ ?side1 ?side2 ?side3 ?side4 A127.out).mono ?_); (case side1 => repeat (first | exact (Kd.R_reads' HO405.out).2.2 | (with_reducible refine Kd.C_alloc ?_ _) | (with_reducible refine Kd.C_drewN ?_ _) | (with_reducible refine Kd.C_drew ?_))); (case side2 => exact (Kd.R_reads' HO405.out).2.1); (case side3 => repeat (first | exact (Kd.R_reads' HO_49.out).2.2 | (with_reducible refine Kd.C_alloc ?_ _) | (with_reducible refine Kd.C_drewN ?_ _) | (with_reducible refine Kd.C_drew ?_))); (case side4 => exact (Kd.R_reads' HO_49.out).2.1); rintro e w' ⟨rfl, ⟨nd, rfl⟩⟩))
                                        go_ret
                                        exact ⟨by first | rfl | (simp [errW_none, errW_some] <;> rfl) | (simp [*, errW_none, errW_some] <;> rfl), by repeat (first | (with_reducible first | exact HB.out | apply below_alloc | apply pw_below_drewN | apply below_drew1) | exact HB.out)⟩
                                       ·replace c126 := Bool.eq_false_iff.mpr c126
                                        subst c126
                                        have H1 : (none) = some r := by rw [if_neg (show ¬ (false = true) by decide)] at H; exact H
                                        clear H
                                        have H := H1
                                        clear H1
                                        exact absurd H (by simp)
                                      ·replace c124 := Bool.eq_false_iff.mpr c124
                                       subst c124
                                       have H1 : (some true) = some r := by rw [if_neg (show ¬ (false = true) by decide)] at H; exact H
                                       clear H
                                       have H := H1
                                       clear H1
                                       obtain rfl := Option.some.inj H
                                       go_wp2
                                       go_ret
                                       exact ⟨by first | rfl | (simp [errW_none, errW_some] <;> rfl) | (simp [*, errW_none, errW_some] <;> rfl), by repeat (first | (with_reducible first | exact HB.out | apply below_alloc | apply pw_below_drewN | apply below_drew1) | exact HB.out)⟩
     ·rw [if_neg c14] at H
      exact absurd H (by simp)
   ·replace c12 := Bool.eq_false_iff.mpr c12
    subst c12
    have H1 : (none) = some r := by rw [if_neg (show ¬ (false = true) by decide)] at H; exact H
    clear H
    have H := H1
    clear H1
    exact absurd H (by simp)
/-- THE ONE PURE STATEMENT of laws_FnDialsOpen: yours. -/
def laws_FnDialsOpen.Pure : Prop := ∀ (l0 : List Int) (l1 : List Int), l0.length ≤ maxLen → l0.length * 1 ≤ 140737488351232 → (∀ x ∈ l0, (Lit.int .u8 x).wf = true) → l1.length ≤ maxLen → l1.length * 1 ≤ 140737488351232 → (∀ x ∈ l1, (Lit.int .u8 x).wf = true) → ∃ k, laws_FnDialsOpen.f k l0 l1 = some true
theorem laws_FnDialsOpen.walk (P : laws_FnDialsOpen.Pure) (a0 : Option Addr) (len0 cap0 : Nat) (z0 : List Int) (a1 : Option Addr) (len1 cap1 : Nat) (z1 : List Int) (w : World) (w0 : (a0 = none ∧ len0 = 0 ∧ cap0 = 0 ∧ z0 = []) ∨ ∃ x, a0 = some x ∧ len0 ≤ cap0 ∧ cap0 ≤ maxLen ∧ z0.length = cap0 ∧ (∀ i, i < z0.length → w.cell? (x.add i) = some (.int .u8 (z0.getD i 0))) ∧ ∀ n ∈ z0, (Lit.int .u8 n).wf = true) (y0 : len0 * 1 ≤ 140737488351232) (w1 : (a1 = none ∧ len1 = 0 ∧ cap1 = 0 ∧ z1 = []) ∨ ∃ x, a1 = some x ∧ len1 ≤ cap1 ∧ cap1 ≤ maxLen ∧ z1.length = cap1 ∧ (∀ i, i < z1.length → w.cell? (x.add i) = some (.int .u8 (z1.getD i 0))) ∧ ∀ n ∈ z1, (Lit.int .u8 n).wf = true) (y1 : len1 * 1 ≤ 140737488351232) :
  Calls Try.prog 3 #[.slice a0 len0 cap0, .slice a1 len1 cap1] w fun e w' => e = .returned (.bool true) ∧ Below w.heap.size w w' := by
 obtain ⟨l0, rfl, hr0, hm0, hw0, hc0⟩ := ReadsInt.ofRowC w0
 obtain ⟨l1, rfl, hr1, hm1, hw1, hc1⟩ := ReadsInt.ofRowC w1
 obtain ⟨k, h⟩ := P l0 l1 hm0 y0 hw0 hm1 y1 hw1
 refine (laws_FnDialsOpen.calls k _ _ l0 _ _ l1 true w (Kd.C_of_reads (d := (0 : Int)) (h1 := fun _ => rfl) hr0) hc0 (Kd.C_of_reads (d := (0 : Int)) (h1 := fun _ => rfl) hr1) hc1 h).mono ?_
 rintro e w' ⟨rfl, hd⟩
 exact ⟨rfl, hd⟩

end Go.Proofs.YtbncaiombmekhaaR.B
