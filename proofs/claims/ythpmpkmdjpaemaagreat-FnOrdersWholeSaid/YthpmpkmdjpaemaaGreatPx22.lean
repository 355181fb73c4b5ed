-- Printed by hp.py, a program of this session: a machine's side of laws, out of the translation; Lean checks it.
import Derived.Test.YthpmpkmdjpaemaaGreatPx0
import Derived.Test.YthpmpkmdjpaemaaGreatPx2
import Derived.Test.YthpmpkmdjpaemaaGreatPx5
import Derived.Test.YthpmpkmdjpaemaaGreatPx6
import Derived.Test.YthpmpkmdjpaemaaGreatPx9
import Derived.Test.YthpmpkmdjpaemaaGreatPx10
import Derived.Test.YthpmpkmdjpaemaaGreatPx11
import Derived.Test.YthpmpkmdjpaemaaGreatPx12
import Derived.Test.YthpmpkmdjpaemaaGreatPx13
import Derived.Test.YthpmpkmdjpaemaaGreatPx16
import Derived.Test.YthpmpkmdjpaemaaGreatPx20
import Derived.Test.YthpmpkmdjpaemaaGreatPx21
namespace Go.Proofs.YthpmpkmdjpaemaaGreat.P
open Go.RowKit Go.Proofs.YthpmpkmdjpaemaaGreatW.PrintWords Go.Proofs.YthpmpkmdjpaemaaGreatW.PrintLast Go.Proofs.YthpmpkmdjpaemaaGreatW.PrintMore
attribute [local go_sem] max2_int min2_int max_two min_two max_three min_three max_four min_four   -- for this text's walks alone
set_option linter.unusedVariables false
set_option linter.unusedSimpArgs false

/-! ### laws_FnOrdersWhole: function 3 -/
mutual
def laws_FnOrdersWhole.j0 : Nat → List Int → List ByteArray → Bool → Bool → List (S59) → Bool → Bool → Int → Int → Option (Bool)
 | 0, _, _, _, _, _, _, _, _, _ => none
 | k + 1, x1, x6, x8, x11, x19, x20, x173, x600000, x600001 => if x173 = true then (none) else (if x20 = true then (laws_FnOrdersWhole.j1 k x1 x6 x8 x11 x19 (decide ((x6.length : Int) > 0)) x600000 x600001) else (laws_FnOrdersWhole.j1 k x1 x6 x8 x11 x19 false x600000 x600001))
def laws_FnOrdersWhole.j1 : Nat → List Int → List ByteArray → Bool → Bool → List (S59) → Bool → Int → Int → Option (Bool)
 | 0, _, _, _, _, _, _, _, _ => none
 | k + 1, x1, x6, x8, x11, x19, x179, x600000, x600001 => if x179 = true then (if 0 < (x6.length : Int) then ((impl_TurnWheels.f k x600000 x600001 (rdOf ByteArray.empty x6 0) x19).bind fun bt622 => (if (x19.length : Int) ≤ 200 then (if bt622.2 = true then (if 0 ≤ (wrap64 ((x6.length : Int) - 1)) then (if (wrap64 ((x6.length : Int) - 1)) < (x6.length : Int) then (if bt622.1.toList = (rdOf ByteArray.empty x6 (wrap64 ((x6.length : Int) - 1))).toList then (if (x19.length : Int) = (wrap64 ((x6.length : Int) - 1)) then (laws_FnOrdersWhole.j2 k x1 x6 x8 x11 x600000 x600001) else (none)) else (none)) else (none)) else (none)) else (none)) else (if (x19.length : Int) = (wrap64 ((x6.length : Int) - 1)) then (laws_FnOrdersWhole.j2 k x1 x6 x8 x11 x600000 x600001) else (none)))) else (none)) else (laws_FnOrdersWhole.j2 k x1 x6 x8 x11 x600000 x600001)
def laws_FnOrdersWhole.j2 : Nat → List Int → List ByteArray → Bool → Bool → Int → Int → Option (Bool)
 | 0, _, _, _, _, _, _ => none
 | k + 1, x1, x6, x8, x11, x600000, x600001 => if x8 = true then (laws_FnOrdersWhole.j3 k x1 x6 x11 x600000 x600001) else (laws_FnOrdersWhole.j3 k x1 x6 false x600000 x600001)
def laws_FnOrdersWhole.j3 : Nat → List Int → List ByteArray → Bool → Int → Int → Option (Bool)
 | 0, _, _, _, _, _ => none
 | k + 1, x1, x6, x217, x600000, x600001 => if x217 = true then ((impl_CountCodes.f k x600000 x600001).bind fun bt625 => (if bt625.2 = true then (if (x6.length : Int) = bt625.1 then (laws_FnOrdersWhole.j4 k x1) else (none)) else (none))) else (laws_FnOrdersWhole.j4 k x1)
def laws_FnOrdersWhole.j4 : Nat → List Int → Option (Bool)
 | 0, _ => none
 | k + 1, x1 => (spec_DrawFirstWhole.f x1).bind fun bt627 => ((impl_FirstWhole.f k bt627.1 bt627.2).bind fun bt630 => ((spec_FirstWhole.f k bt627.1 bt627.2).bind fun bt634 => ((impl_CountWhole.f k bt627.1 bt627.2).bind fun bt638 => ((spec_CountWhole.f k bt627.1 bt627.2).bind fun bt640 => ((impl_CountClosed.f k bt627.1 bt627.2).bind fun bt642 => ((spec_CountClosed.f k bt627.1 bt627.2).bind fun bt644 => (if (bt630.2 != bt634.2) = true then (none) else ((laws_aTexts.f k bt630.1 bt634.1).bind fun t646 => (if t646 = true then (if (bt638.2 != bt640.2) = true then (none) else (if bt638.1 = bt640.1 then (if (bt642.2 != bt644.2) = true then (none) else (if bt642.1 = bt644.1 then (if (bt638.2 != bt630.2) = true then (none) else (if (bt642.2 != bt630.2) = true then (none) else (if bt630.2 = true then ((impl_IsWholeOrder.f k bt627.1 bt627.2 bt630.1).bind fun bt647 => ((impl_ZeroCode.f k bt627.1 bt627.2).bind fun bt649 => (if bt647.2 = true then (if bt647.1 = true then (if bt649.2 = true then (if 0 < (bt630.1.length : Int) then (if (rdOf ByteArray.empty bt630.1 0).toList = bt649.1.toList then (if bt638.1 < 1 then (none) else (if bt642.1 < 1 then (none) else (if bt642.1 > bt638.1 then (none) else (some true)))) else (none)) else (none)) else (none)) else (none)) else (none)))) else (some true)))) else (none))) else (none))) else (none))))))))))
end
def laws_FnOrdersWhole.f (k : Nat) (l0 : List Int) (l1 : List Int) : Option (Bool) := (laws_big.f l0 l1).bind fun t593 => (if t593 = true then (some true) else ((spec_DrawIsTurnOrder.f k l0).bind fun bt594 => ((impl_IsTurnOrder.f k bt594.1 bt594.2.1 bt594.2.2).bind fun bt600 => ((spec_IsTurnOrder.f k bt594.1 bt594.2.1 bt594.2.2).bind fun bt602 => ((impl_IsWholeOrder.f k bt594.1 bt594.2.1 bt594.2.2).bind fun bt604 => ((spec_IsWholeOrder.f k bt594.1 bt594.2.1 bt594.2.2).bind fun bt606 => ((impl_IsClosedOrder.f k bt594.1 bt594.2.1 bt594.2.2).bind fun bt608 => ((spec_IsClosedOrder.f k bt594.1 bt594.2.1 bt594.2.2).bind fun bt610 => ((impl_TurnsOfOrder.f k bt594.1 bt594.2.1 bt594.2.2).bind fun bt612 => ((spec_TurnsOfOrder.f k bt594.1 bt594.2.1 bt594.2.2).bind fun bt616 => (if (bt600.2 != bt602.2) = true then (none) else (if (bt600.1 != bt602.1) = true then (none) else (if (bt604.2 != bt606.2) = true then (none) else (if (bt604.1 != bt606.1) = true then (none) else (if (bt608.2 != bt610.2) = true then (none) else (if (bt608.1 != bt610.1) = true then (none) else (if (bt612.2 != bt616.2) = true then (none) else ((laws_aTurns.f k bt612.1 bt616.1).bind fun t620 => (if t620 = true then (if (bt604.2 != bt600.2) = true then (none) else (if (bt608.2 != bt600.2) = true then (none) else (if bt600.2 = true then (if (bt612.2 != bt600.1) = true then (none) else (if bt608.1 = true then (if bt604.1 = true then (laws_FnOrdersWhole.j0 k l1 bt594.2.2 bt600.2 bt604.1 bt612.1 bt612.2 (!bt600.1) bt594.1 bt594.2.1) else (none)) else (if bt604.1 = true then (laws_FnOrdersWhole.j0 k l1 bt594.2.2 bt600.2 bt604.1 bt612.1 bt612.2 (!bt600.1) bt594.1 bt594.2.1) else (laws_FnOrdersWhole.j0 k l1 bt594.2.2 bt600.2 bt604.1 bt612.1 bt612.2 false bt594.1 bt594.2.1)))) else (if (bt612.2 != false) = true then (none) else (laws_FnOrdersWhole.j0 k l1 bt594.2.2 bt600.2 bt604.1 bt612.1 bt612.2 false bt594.1 bt594.2.1))))) else (none))))))))))))))))))))
theorem laws_FnOrdersWhole.mono_l : ∀ k, (∀ y0 y1 y2 y3 y4 y5 y6 y7 y8, LeO (laws_FnOrdersWhole.j0 k y0 y1 y2 y3 y4 y5 y6 y7 y8) (laws_FnOrdersWhole.j0 (k + 1) y0 y1 y2 y3 y4 y5 y6 y7 y8)) ∧ (∀ y0 y1 y2 y3 y4 y5 y6 y7, LeO (laws_FnOrdersWhole.j1 k y0 y1 y2 y3 y4 y5 y6 y7) (laws_FnOrdersWhole.j1 (k + 1) y0 y1 y2 y3 y4 y5 y6 y7)) ∧ (∀ y0 y1 y2 y3 y4 y5, LeO (laws_FnOrdersWhole.j2 k y0 y1 y2 y3 y4 y5) (laws_FnOrdersWhole.j2 (k + 1) y0 y1 y2 y3 y4 y5)) ∧ (∀ y0 y1 y2 y3 y4, LeO (laws_FnOrdersWhole.j3 k y0 y1 y2 y3 y4) (laws_FnOrdersWhole.j3 (k + 1) y0 y1 y2 y3 y4)) ∧ (∀ y0, LeO (laws_FnOrdersWhole.j4 k y0) (laws_FnOrdersWhole.j4 (k + 1) y0))
 | 0 => ⟨fun _ _ _ _ _ _ _ _ _ r h => by simp [laws_FnOrdersWhole.j0] at h, fun _ _ _ _ _ _ _ _ r h => by simp [laws_FnOrdersWhole.j1] at h, fun _ _ _ _ _ _ r h => by simp [laws_FnOrdersWhole.j2] at h, fun _ _ _ _ _ r h => by simp [laws_FnOrdersWhole.j3] at h, fun _ r h => by simp [laws_FnOrdersWhole.j4] at h⟩
 | k + 1 => by
  obtain ⟨ih0, ih1, ih2, ih3, ih4⟩ := laws_FnOrdersWhole.mono_l k
  refine ⟨?_, ?_, ?_, ?_, ?_⟩
  intro y0 y1 y2 y3 y4 y5 y6 y7 y8; unfold laws_FnOrdersWhole.j0; rotate_left
  intro y0 y1 y2 y3 y4 y5 y6 y7; unfold laws_FnOrdersWhole.j1; rotate_left
  intro y0 y1 y2 y3 y4 y5; unfold laws_FnOrdersWhole.j2; rotate_left
  intro y0 y1 y2 y3 y4; unfold laws_FnOrdersWhole.j3; rotate_left
  intro y0; unfold laws_FnOrdersWhole.j4; rotate_left
  all_goals repeat' first
  | (with_reducible exact ih0 _ _ _ _ _ _ _ _ _)
  | (with_reducible exact ih1 _ _ _ _ _ _ _ _)
  | (with_reducible exact ih2 _ _ _ _ _ _)
  | (with_reducible exact ih3 _ _ _ _ _)
  | (with_reducible exact ih4 _)
  | (with_reducible exact impl_CountClosed.mono _ _ _)
  | (with_reducible exact impl_CountCodes.mono _ _ _)
  | (with_reducible exact impl_CountWhole.mono _ _ _)
  | (with_reducible exact impl_FirstWhole.mono _ _ _)
  | (with_reducible exact impl_IsClosedOrder.mono _ _ _ _)
  | (with_reducible exact impl_IsTurnOrder.mono _ _ _ _)
  | (with_reducible exact impl_IsWholeOrder.mono _ _ _ _)
  | (with_reducible exact impl_TurnWheels.mono _ _ _ _ _)
  | (with_reducible exact impl_TurnsOfOrder.mono _ _ _ _)
  | (with_reducible exact impl_ZeroCode.mono _ _ _)
  | (with_reducible exact laws_aTexts.mono _ _ _)
  | (with_reducible exact laws_aTurns.mono _ _ _)
  | (with_reducible exact spec_CountClosed.mono _ _ _)
  | (with_reducible exact spec_CountWhole.mono _ _ _)
  | (with_reducible exact spec_DrawIsTurnOrder.mono _ _)
  | (with_reducible exact spec_FirstWhole.mono _ _ _)
  | (with_reducible exact spec_IsClosedOrder.mono _ _ _ _)
  | (with_reducible exact spec_IsTurnOrder.mono _ _ _ _)
  | (with_reducible exact spec_IsWholeOrder.mono _ _ _ _)
  | (with_reducible exact spec_TurnsOfOrder.mono _ _ _ _)
  | (with_reducible exact LeO.refl _)
  | (with_reducible exact LeO.none _)
  | (with_reducible refine LeO.ite ?_ ?_)
  | (with_reducible refine LeO.bind ?_ (fun _ => ?_))
  | exact ih0 _ _ _ _ _ _ _ _ _
  | exact ih1 _ _ _ _ _ _ _ _
  | exact ih2 _ _ _ _ _ _
  | exact ih3 _ _ _ _ _
  | exact ih4 _
  | exact impl_CountClosed.mono _ _ _
  | exact impl_CountCodes.mono _ _ _
  | exact impl_CountWhole.mono _ _ _
  | exact impl_FirstWhole.mono _ _ _
  | exact impl_IsClosedOrder.mono _ _ _ _
  | exact impl_IsTurnOrder.mono _ _ _ _
  | exact impl_IsWholeOrder.mono _ _ _ _
  | exact impl_TurnWheels.mono _ _ _ _ _
  | exact impl_TurnsOfOrder.mono _ _ _ _
  | exact impl_ZeroCode.mono _ _ _
  | exact laws_aTexts.mono _ _ _
  | exact laws_aTurns.mono _ _ _
  | exact spec_CountClosed.mono _ _ _
  | exact spec_CountWhole.mono _ _ _
  | exact spec_DrawIsTurnOrder.mono _ _
  | exact spec_FirstWhole.mono _ _ _
  | exact spec_IsClosedOrder.mono _ _ _ _
  | exact spec_IsTurnOrder.mono _ _ _ _
  | exact spec_IsWholeOrder.mono _ _ _ _
  | exact spec_TurnsOfOrder.mono _ _ _ _
  | exact LeO.none _
  | refine LeO.ite ?_ ?_
  | refine LeO.bind ?_ (fun _ => ?_)
theorem laws_FnOrdersWhole.mono : ∀ a0 a1 k, LeO (laws_FnOrdersWhole.f k a0 a1) (laws_FnOrdersWhole.f (k + 1) a0 a1) := by
 intro a0 a1 k
 obtain ⟨ih0, ih1, ih2, ih3, ih4⟩ := laws_FnOrdersWhole.mono_l k
 unfold laws_FnOrdersWhole.f
 repeat' first
   | (with_reducible exact ih0 _ _ _ _ _ _ _ _ _)
   | (with_reducible exact ih1 _ _ _ _ _ _ _ _)
   | (with_reducible exact ih2 _ _ _ _ _ _)
   | (with_reducible exact ih3 _ _ _ _ _)
   | (with_reducible exact ih4 _)
   | (with_reducible exact impl_CountClosed.mono _ _ _)
   | (with_reducible exact impl_CountCodes.mono _ _ _)
   | (with_reducible exact impl_CountWhole.mono _ _ _)
   | (with_reducible exact impl_FirstWhole.mono _ _ _)
   | (with_reducible exact impl_IsClosedOrder.mono _ _ _ _)
   | (with_reducible exact impl_IsTurnOrder.mono _ _ _ _)
   | (with_reducible exact impl_IsWholeOrder.mono _ _ _ _)
   | (with_reducible exact impl_TurnWheels.mono _ _ _ _ _)
   | (with_reducible exact impl_TurnsOfOrder.mono _ _ _ _)
   | (with_reducible exact impl_ZeroCode.mono _ _ _)
   | (with_reducible exact laws_aTexts.mono _ _ _)
   | (with_reducible exact laws_aTurns.mono _ _ _)
   | (with_reducible exact spec_CountClosed.mono _ _ _)
   | (with_reducible exact spec_CountWhole.mono _ _ _)
   | (with_reducible exact spec_DrawIsTurnOrder.mono _ _)
   | (with_reducible exact spec_FirstWhole.mono _ _ _)
   | (with_reducible exact spec_IsClosedOrder.mono _ _ _ _)
   | (with_reducible exact spec_IsTurnOrder.mono _ _ _ _)
   | (with_reducible exact spec_IsWholeOrder.mono _ _ _ _)
   | (with_reducible exact spec_TurnsOfOrder.mono _ _ _ _)
   | (with_reducible exact LeO.refl _)
   | (with_reducible exact LeO.none _)
   | (with_reducible refine LeO.ite ?_ ?_)
   | (with_reducible refine LeO.bind ?_ (fun _ => ?_))
   | exact ih0 _ _ _ _ _ _ _ _ _
   | exact ih1 _ _ _ _ _ _ _ _
   | exact ih2 _ _ _ _ _ _
   | exact ih3 _ _ _ _ _
   | exact ih4 _
   | exact impl_CountClosed.mono _ _ _
   | exact impl_CountCodes.mono _ _ _
   | exact impl_CountWhole.mono _ _ _
   | exact impl_FirstWhole.mono _ _ _
   | exact impl_IsClosedOrder.mono _ _ _ _
   | exact impl_IsTurnOrder.mono _ _ _ _
   | exact impl_IsWholeOrder.mono _ _ _ _
   | exact impl_TurnWheels.mono _ _ _ _ _
   | exact impl_TurnsOfOrder.mono _ _ _ _
   | exact impl_ZeroCode.mono _ _ _
   | exact laws_aTexts.mono _ _ _
   | exact laws_aTurns.mono _ _ _
   | exact spec_CountClosed.mono _ _ _
   | exact spec_CountWhole.mono _ _ _
   | exact spec_DrawIsTurnOrder.mono _ _
   | exact spec_FirstWhole.mono _ _ _
   | exact spec_IsClosedOrder.mono _ _ _ _
   | exact spec_IsTurnOrder.mono _ _ _ _
   | exact spec_IsWholeOrder.mono _ _ _ _
   | exact spec_TurnsOfOrder.mono _ _ _ _
   | exact LeO.none _
   | refine LeO.ite ?_ ?_
   | refine LeO.bind ?_ (fun _ => ?_)
def laws_FnOrdersWhole.T15 : Bool × List (List Nat × List Nat) := (true, [([], []), ([], []), ([1], [1]), ([2], [2]), ([], []), ([0, 3, 4], [0, 3, 4]), ([5], [5]), ([6], [6]), ([6], [6]), ([7, 5, 0, 1, 2, 3, 4, 5, 6, 7], [7]), ([8, 9, 0, 1, 2, 3, 4, 5, 6, 7, 8, 9], [8])])
def laws_FnOrdersWhole.B15 : List Nat := [0, 0, 2, 6, 0, 31, 63, 127, 127, 255, 1023]
theorem laws_FnOrdersWhole.tab15 : rtab .any (opsOf Tryz.f3 15) = laws_FnOrdersWhole.T15 := by kernel_rfl
theorem laws_FnOrdersWhole.bits15 : waitsOk laws_FnOrdersWhole.T15.2 laws_FnOrdersWhole.B15 = true := by kernel_rfl
set_option maxHeartbeats 8000000 in
set_option maxRecDepth 100000 in
theorem laws_FnOrdersWhole.calls (k : Nat) (A0 : Option Addr) (c0 : Nat) (l0 : List Int) (A1 : Option Addr) (c1 : Nat) (l1 : List Int) (r : Bool) (w : World) (hr0 : Kd.C (Kd.int .u8) w A0 l0.length l0) (hc0 : l0.length ≤ c0) (hr1 : Kd.C (Kd.int .u8) w A1 l1.length l1) (hc1 : l1.length ≤ c1) (h : laws_FnOrdersWhole.f k l0 l1 = some r) :
  Calls Tryz.prog 3 #[.slice A0 l0.length c0, .slice A1 l1.length c1] w fun e w' => e = .returned (.bool r) ∧ Below w.heap.size w w' := by
 have hu25 := Tryz.underlying25
 have HR0 := Aside0.mk hr0
 have HC0 := Aside0.mk hc0
 clear hr0 hc0
 have HR1 := Aside0.mk hr1
 have HC1 := Aside0.mk hc1
 clear hr1 hc1
 have HB := Aside0.mk (Below.refl w.heap.size w)
 have H : ((laws_big.f l0 l1).bind fun t593 => (if t593 = true then (some true) else ((spec_DrawIsTurnOrder.f k l0).bind fun bt594 => ((impl_IsTurnOrder.f k bt594.1 bt594.2.1 bt594.2.2).bind fun bt600 => ((spec_IsTurnOrder.f k bt594.1 bt594.2.1 bt594.2.2).bind fun bt602 => ((impl_IsWholeOrder.f k bt594.1 bt594.2.1 bt594.2.2).bind fun bt604 => ((spec_IsWholeOrder.f k bt594.1 bt594.2.1 bt594.2.2).bind fun bt606 => ((impl_IsClosedOrder.f k bt594.1 bt594.2.1 bt594.2.2).bind fun bt608 => ((spec_IsClosedOrder.f k bt594.1 bt594.2.1 bt594.2.2).bind fun bt610 => ((impl_TurnsOfOrder.f k bt594.1 bt594.2.1 bt594.2.2).bind fun bt612 => ((spec_TurnsOfOrder.f k bt594.1 bt594.2.1 bt594.2.2).bind fun bt616 => (if (bt600.2 != bt602.2) = true then (none) else (if (bt600.1 != bt602.1) = true then (none) else (if (bt604.2 != bt606.2) = true then (none) else (if (bt604.1 != bt606.1) = true then (none) else (if (bt608.2 != bt610.2) = true then (none) else (if (bt608.1 != bt610.1) = true then (none) else (if (bt612.2 != bt616.2) = true then (none) else ((laws_aTurns.f k bt612.1 bt616.1).bind fun t620 => (if t620 = true then (if (bt604.2 != bt600.2) = true then (none) else (if (bt608.2 != bt600.2) = true then (none) else (if bt600.2 = true then (if (bt612.2 != bt600.1) = true then (none) else (if bt608.1 = true then (if bt604.1 = true then (laws_FnOrdersWhole.j0 k l1 bt594.2.2 bt600.2 bt604.1 bt612.1 bt612.2 (!bt600.1) bt594.1 bt594.2.1) else (none)) else (if bt604.1 = true then (laws_FnOrdersWhole.j0 k l1 bt594.2.2 bt600.2 bt604.1 bt612.1 bt612.2 (!bt600.1) bt594.1 bt594.2.1) else (laws_FnOrdersWhole.j0 k l1 bt594.2.2 bt600.2 bt604.1 bt612.1 bt612.2 false bt594.1 bt594.2.1)))) else (if (bt612.2 != false) = true then (none) else (laws_FnOrdersWhole.j0 k l1 bt594.2.2 bt600.2 bt604.1 bt612.1 bt612.2 false bt594.1 bt594.2.1))))) else (none))))))))))))))))))))) = some r := h
 clear h
 replace H := Option.bind_eq_some_iff.mp H
 obtain ⟨t593, A30, H⟩ := H
 (try dsimp only at H)
 have A3 := Aside0.mk A30
 clear A30
 by_cases c4 : t593 = true
 ·subst c4
  replace H := zt H
  obtain rfl := Option.some.inj H
  go_enter Tryz.func3, Tryz.ntmps3
  try go_wp2_with (first | ((with_reducible refine gate_callee (f := 4) rfl ?_); refine goesL_ (some 46) rfl rfl Tryz.func4 (by kernel_rfl) rfl #[.slice A0 l0.length c0, .slice A1 l1.length c1] rfl lM ?_; (with_reducible refine (laws_big.calls _ _ l0 _ _ l1 true _ ?side1 ?side2 ?side3 ?side4 A3.out).mono ?_); (case side1 => exact cS HR0.out); (case side2 => exact HC0.out); (case side3 => exact cS HR1.out); (case side4 => exact HC1.out); rintro e w' ⟨rfl, ⟨nd, rfl⟩⟩; refine ⟨_, rfl, ?_⟩))
  go_ret
  exact ⟨rE, bB⟩
 ·replace c4 := Bool.eq_false_iff.mpr c4
  subst c4
  replace H := zf H
  replace H := Option.bind_eq_some_iff.mp H
  obtain ⟨⟨t594, t595, t596⟩, A50, H⟩ := H
  (try dsimp only at H)
  have A5 := Aside0.mk A50
  clear A50
  replace H := Option.bind_eq_some_iff.mp H
  obtain ⟨⟨t600, t601⟩, A60, H⟩ := H
  (try dsimp only at H)
  have A6 := Aside0.mk A60
  clear A60
  replace H := Option.bind_eq_some_iff.mp H
  obtain ⟨⟨t602, t603⟩, A70, H⟩ := H
  (try dsimp only at H)
  have A7 := Aside0.mk A70
  clear A70
  replace H := Option.bind_eq_some_iff.mp H
  obtain ⟨⟨t604, t605⟩, A80, H⟩ := H
  (try dsimp only at H)
  have A8 := Aside0.mk A80
  clear A80
  replace H := Option.bind_eq_some_iff.mp H
  obtain ⟨⟨t606, t607⟩, A90, H⟩ := H
  (try dsimp only at H)
  have A9 := Aside0.mk A90
  clear A90
  replace H := Option.bind_eq_some_iff.mp H
  obtain ⟨⟨t608, t609⟩, A100, H⟩ := H
  (try dsimp only at H)
  have A10 := Aside0.mk A100
  clear A100
  replace H := Option.bind_eq_some_iff.mp H
  obtain ⟨⟨t610, t611⟩, A110, H⟩ := H
  (try dsimp only at H)
  have A11 := Aside0.mk A110
  clear A110
  replace H := Option.bind_eq_some_iff.mp H
  obtain ⟨⟨t612, t615⟩, A120, H⟩ := H
  (try dsimp only at H)
  have A12 := Aside0.mk A120
  clear A120
  replace H := Option.bind_eq_some_iff.mp H
  obtain ⟨⟨t616, t619⟩, A130, H⟩ := H
  (try dsimp only at H)
  have A13 := Aside0.mk A130
  clear A130
  have HC14 := Aside0.mk H
  clear H
  go_enter Tryz.func3, Tryz.ntmps3
  go_upto_region 3 with (first | ((with_reducible refine gate_callee (f := 4) rfl ?_); refine goesL_ (some 46) rfl rfl Tryz.func4 (by kernel_rfl) rfl #[.slice A0 l0.length c0, .slice A1 l1.length c1] rfl lM ?_; (with_reducible refine (laws_big.calls _ _ l0 _ _ l1 false _ ?side1 ?side2 ?side3 ?side4 A3.out).mono ?_); (case side1 => exact cS HR0.out); (case side2 => exact HC0.out); (case side3 => exact cS HR1.out); (case side4 => exact HC1.out); rintro e w' ⟨rfl, ⟨nd, rfl⟩⟩; refine ⟨_, rfl, ?_⟩))
  as_aux_lemma =>
   go_upto_region 4 with (first | ((with_reducible refine gate_callee (f := 5) rfl ?_); refine goesL_ (some 49) rfl rfl Tryz.func5 (by kernel_rfl) rfl #[.slice A0 l0.length c0] rfl lM ?_; (with_reducible refine (spec_DrawIsTurnOrder.calls k _ _ l0 t594 t595 t596 _ ?side1 ?side2 A5.out).mono ?_); (case side1 => exact cS HR0.out); (case side2 => exact HC0.out); rintro e w15 ⟨v597, rfl, ho0, hb⟩; refine ⟨_, rfl, ?_⟩; have HO598 := Aside0.mk (Kd.R_lower ho0 (below_size bB)); replace HB := Aside0.mk (below_step bB hb); (try clear hb); (try clear ho0)) | ((with_reducible refine gate_dst (N := 5) rfl ?_); (try (refine gate_guard (by rfl) ?_; dsimp only)); refine box_event ?hg (N := 5) ?hd (cs := #[.int .i64 0, .int .i64 0]) (t := 25) ?hr ?_; (case hd => rfl); (case hg => rfl); (case hr => first | (go_simp; done) | (go_simp; rfl)); intro gb599 hg w16 hbox hb; replace HO598 := Aside0.mk (Kd.R_below (kR HO598) hb); have BK599 := Aside0.mk (hbox); have GW599 : Aside0 (w.heap.size ≤ gb599) := gW hg; have GE599 := GW599; replace HB := Aside0.mk (below_step bB hb); clear hb hbox hg; have hcz17_0 := cZ BK599 0 (.int .i64 0); have hcz17_1 := cZ BK599 1 (.int .i64 0); have hfz17_0 := blk_frozen BK599.out 0; have hfz17_1 := blk_frozen BK599.out 1; obtain ⟨Ao18, co18, eo18⟩ := Kd.R_slice HO598.out; subst eo18))
   as_aux_lemma =>
    go_upto_region 5 with (first | ((with_reducible refine gate_callee (f := 6) rfl ?_); refine goesL_ (some 55) rfl rfl Tryz.func6 (by kernel_rfl) rfl #[.agg #[.int .i64 t594, .int .i64 t595], .slice Ao18 t596.length co18] rfl lM ?_; (with_reducible refine (impl_IsTurnOrder.calls k t594 t595 _ _ t596 t600 t601 _ ?side1 ?side2 A6.out).mono ?_); (case side1 => refine (Kd.R_reads' (e := 9) (base := w.heap.size) (ok := fun k_ => True) (n := t596.length) (c := co18) ?_).2.2; exact (by (with_reducible repeat (first | apply Kd.R_alloc | apply Kd.R_drewN | apply Kd.R_drew)); exact (Kd.R_mono (Kd.R_far (p := ⟨gb599, 1, none⟩) (Kd.R_far (p := ⟨gb599, 0, none⟩) (Kd.R_types HO598.out BK599.out (by decide)) (fun _ hk => hk.2) (.int .i64 t594)) (fun _ hk => hk.2) (.int .i64 t595)) (fun _ h_ => h_.1)))); (case side2 => exact (Kd.R_reads' HO598.out).2.1); rintro e w19 ⟨rfl, hb⟩; refine ⟨_, rfl, ?_⟩; replace HO598 := Aside0.mk (Kd.R_below (by (with_reducible repeat (first | apply Kd.R_alloc | apply Kd.R_drewN | apply Kd.R_drew)); exact (Kd.R_mono (Kd.R_far (p := ⟨gb599, 1, none⟩) (Kd.R_far (p := ⟨gb599, 0, none⟩) (Kd.R_types HO598.out BK599.out (by decide)) (fun _ hk => hk.2) (.int .i64 t594)) (fun _ hk => hk.2) (.int .i64 t595)) (fun _ h_ => h_.1))) hb); replace BK599 := Aside0.mk (blk_below (g := gb599) (o := .cells #[.int .i64 t594, .int .i64 t595] 25 (0, 0)) (by (with_reducible repeat (first | refine blk_drewN ?_ _ | refine blk_drew ?_ | refine blk_alloc ?_ _)); refine blk_put (cs := #[.int .i64 t594, .int .i64 0]) ?_ 1 _ rfl; (with_reducible repeat (first | refine blk_drewN ?_ _ | refine blk_drew ?_ | refine blk_alloc ?_ _)); refine blk_put (cs := #[.int .i64 0, .int .i64 0]) ?_ 0 _ rfl; (with_reducible repeat (first | refine blk_drewN ?_ _ | refine blk_drew ?_ | refine blk_alloc ?_ _)); exact BK599.out) hb); replace HB := Aside0.mk (below_step bG hb); (try clear hb); (try clear hk); have hcz20_0 := cZ BK599 0 (.int .i64 t594); have hcz20_1 := cZ BK599 1 (.int .i64 t595); have hfz20_0 := blk_frozen BK599.out 0; have hfz20_1 := blk_frozen BK599.out 1))
    as_aux_lemma =>
     go_upto_region 6 with (first | ((with_reducible refine gate_callee (f := 7) rfl ?_); refine goesL_ (some 61) rfl rfl Tryz.func7 (by kernel_rfl) rfl #[.agg #[.int .i64 t594, .int .i64 t595], .slice Ao18 t596.length co18] rfl lM ?_; (with_reducible refine (spec_IsTurnOrder.calls k t594 t595 _ _ t596 t602 t603 _ ?side1 ?side2 A7.out).mono ?_); (case side1 => exact cS ((Kd.R_reads' HO598.out).2.2)); (case side2 => exact (Kd.R_reads' HO598.out).2.1); rintro e w21 ⟨rfl, hb⟩; refine ⟨_, rfl, ?_⟩; replace HO598 := Aside0.mk (Kd.R_below (kR HO598) hb); replace BK599 := bW BK599 hb; replace HB := Aside0.mk (below_step bG hb); (try clear hb); have hcz22_0 := cZ BK599 0 (.int .i64 t594); have hcz22_1 := cZ BK599 1 (.int .i64 t595); have hfz22_0 := blk_frozen BK599.out 0; have hfz22_1 := blk_frozen BK599.out 1))
     as_aux_lemma =>
      go_upto_region 7 with (first | ((with_reducible refine gate_callee (f := 8) rfl ?_); refine goesL_ (some 67) rfl rfl Tryz.func8 (by kernel_rfl) rfl #[.agg #[.int .i64 t594, .int .i64 t595], .slice Ao18 t596.length co18] rfl lM ?_; (with_reducible refine (impl_IsWholeOrder.calls k t594 t595 _ _ t596 t604 t605 _ ?side1 ?side2 A8.out).mono ?_); (case side1 => exact cS ((Kd.R_reads' HO598.out).2.2)); (case side2 => exact (Kd.R_reads' HO598.out).2.1); rintro e w23 ⟨rfl, hb⟩; refine ⟨_, rfl, ?_⟩; replace HO598 := Aside0.mk (Kd.R_below (kR HO598) hb); replace BK599 := bW BK599 hb; replace HB := Aside0.mk (below_step bG hb); (try clear hb); have hcz24_0 := cZ BK599 0 (.int .i64 t594); have hcz24_1 := cZ BK599 1 (.int .i64 t595); have hfz24_0 := blk_frozen BK599.out 0; have hfz24_1 := blk_frozen BK599.out 1))
      as_aux_lemma =>
       go_upto_region 8 with (first | ((with_reducible refine gate_callee (f := 9) rfl ?_); refine goesL_ (some 73) rfl rfl Tryz.func9 (by kernel_rfl) rfl #[.agg #[.int .i64 t594, .int .i64 t595], .slice Ao18 t596.length co18] rfl lM ?_; (with_reducible refine (spec_IsWholeOrder.calls k t594 t595 _ _ t596 t606 t607 _ ?side1 ?side2 A9.out).mono ?_); (case side1 => exact cS ((Kd.R_reads' HO598.out).2.2)); (case side2 => exact (Kd.R_reads' HO598.out).2.1); rintro e w25 ⟨rfl, hb⟩; refine ⟨_, rfl, ?_⟩; replace HO598 := Aside0.mk (Kd.R_below (kR HO598) hb); replace BK599 := bW BK599 hb; replace HB := Aside0.mk (below_step bG hb); (try clear hb); have hcz26_0 := cZ BK599 0 (.int .i64 t594); have hcz26_1 := cZ BK599 1 (.int .i64 t595); have hfz26_0 := blk_frozen BK599.out 0; have hfz26_1 := blk_frozen BK599.out 1))
       as_aux_lemma =>
        go_upto_region 9 with (first | ((with_reducible refine gate_callee (f := 10) rfl ?_); refine goesL_ (some 79) rfl rfl Tryz.func10 (by kernel_rfl) rfl #[.agg #[.int .i64 t594, .int .i64 t595], .slice Ao18 t596.length co18] rfl lM ?_; (with_reducible refine (impl_IsClosedOrder.calls k t594 t595 _ _ t596 t608 t609 _ ?side1 ?side2 A10.out).mono ?_); (case side1 => exact cS ((Kd.R_reads' HO598.out).2.2)); (case side2 => exact (Kd.R_reads' HO598.out).2.1); rintro e w27 ⟨rfl, hb⟩; refine ⟨_, rfl, ?_⟩; replace HO598 := Aside0.mk (Kd.R_below (kR HO598) hb); replace BK599 := bW BK599 hb; replace HB := Aside0.mk (below_step bG hb); (try clear hb); have hcz28_0 := cZ BK599 0 (.int .i64 t594); have hcz28_1 := cZ BK599 1 (.int .i64 t595); have hfz28_0 := blk_frozen BK599.out 0; have hfz28_1 := blk_frozen BK599.out 1))
        as_aux_lemma =>
         go_upto_region 10 with (first | ((with_reducible refine gate_callee (f := 11) rfl ?_); refine goesL_ (some 85) rfl rfl Tryz.func11 (by kernel_rfl) rfl #[.agg #[.int .i64 t594, .int .i64 t595], .slice Ao18 t596.length co18] rfl lM ?_; (with_reducible refine (spec_IsClosedOrder.calls k t594 t595 _ _ t596 t610 t611 _ ?side1 ?side2 A11.out).mono ?_); (case side1 => exact cS ((Kd.R_reads' HO598.out).2.2)); (case side2 => exact (Kd.R_reads' HO598.out).2.1); rintro e w29 ⟨rfl, hb⟩; refine ⟨_, rfl, ?_⟩; replace HO598 := Aside0.mk (Kd.R_below (kR HO598) hb); replace BK599 := bW BK599 hb; replace HB := Aside0.mk (below_step bG hb); (try clear hb); have hcz30_0 := cZ BK599 0 (.int .i64 t594); have hcz30_1 := cZ BK599 1 (.int .i64 t595); have hfz30_0 := blk_frozen BK599.out 0; have hfz30_1 := blk_frozen BK599.out 1))
         as_aux_lemma =>
          go_upto_region 11 with (first | ((with_reducible refine gate_callee (f := 12) rfl ?_); refine goesL_ (some 91) rfl rfl Tryz.func12 (by kernel_rfl) rfl #[.agg #[.int .i64 t594, .int .i64 t595], .slice Ao18 t596.length co18] rfl lM ?_; (with_reducible refine (impl_TurnsOfOrder.calls k t594 t595 _ _ t596 t612 t615 _ ?side1 ?side2 A12.out).mono ?_); (case side1 => exact cS ((Kd.R_reads' HO598.out).2.2)); (case side2 => exact (Kd.R_reads' HO598.out).2.1); rintro e w31 ⟨v613, rfl, ho0, hb⟩; refine ⟨_, rfl, ?_⟩; replace HO598 := Aside0.mk (Kd.R_below (kR HO598) hb); have HO614 := Aside0.mk (Kd.R_lower ho0 (below_size bG)); replace BK599 := bW BK599 hb; replace HB := Aside0.mk (below_step bG hb); (try clear hb); (try clear ho0); have hcz32_0 := cZ BK599 0 (.int .i64 t594); have hcz32_1 := cZ BK599 1 (.int .i64 t595); have hfz32_0 := blk_frozen BK599.out 0; have hfz32_1 := blk_frozen BK599.out 1))
          as_aux_lemma =>
           go_upto_region 12 with (first | ((with_reducible refine gate_callee (f := 13) rfl ?_); refine goesL_ (some 97) rfl rfl Tryz.func13 (by kernel_rfl) rfl #[.agg #[.int .i64 t594, .int .i64 t595], .slice Ao18 t596.length co18] rfl lM ?_; (with_reducible refine (spec_TurnsOfOrder.calls k t594 t595 _ _ t596 t616 t619 _ ?side1 ?side2 A13.out).mono ?_); (case side1 => exact cS ((Kd.R_reads' HO598.out).2.2)); (case side2 => exact (Kd.R_reads' HO598.out).2.1); rintro e w33 ⟨v617, rfl, ho0, hb⟩; refine ⟨_, rfl, ?_⟩; replace HO598 := Aside0.mk (Kd.R_below (kR HO598) hb); have HO618 := Aside0.mk (Kd.R_lower (Kd.R_new' ho0 (Kd.R_lt (kR HO614))) (below_size bG)); replace HO614 := Aside0.mk (Kd.R_elder' (kR HO614) (Kd.R_base ho0) hb); replace BK599 := bW BK599 hb; replace HB := Aside0.mk (below_step bG hb); (try clear hb); (try clear ho0)))
           (try simp only [Act.put, List.setIfInBounds_toArray, List.set_cons_zero, List.set_cons_succ])
           go_cut [173] (fun v173 wc => ∃ (kq : Nat) (x173_13 : Bool), v173 = .bool x173_13 ∧ Aside0 (laws_FnOrdersWhole.j0 kq l1 t596 t601 t604 t612 t615 x173_13 t594 t595 = some r) ∧ Aside0 (kq ≤ k) ∧ Aside0 (Kd.R Kd.string 9 wc w.heap.size (fun _ => True) (.slice Ao18 t596.length co18) t596) ∧ Aside0 (Kd.R k59 59 wc w.heap.size (fun _ => True) v613 t612) ∧ Aside0 (wc.heap[gb599]? = some (.cells #[.int .i64 t594, .int .i64 t595] 25 (0, 0))) ∧ Aside0 (Below w.heap.size w wc))
           case first =>
            as_aux_lemma =>
             have H := HC14.out
             clear HC14
             replace H := nz' H; obtain ⟨c34, H⟩ := H
             have c34b0 : (t601 != t603) = false := by simpa using c34
             (try (have c34b1 : decide (t601 = t603) = true := by simpa using c34))
             (try (have c34b2 : (t601 == t603) = true := by simpa using c34))
             clear c34
             (first | rw [c34b0] | (simp only [i64_w, i32_w]; rw [c34b0]) | skip)
             replace H := nz' H; obtain ⟨c35, H⟩ := H
             have c35b0 : (t600 != t602) = false := by simpa using c35
             (try (have c35b1 : decide (t600 = t602) = true := by simpa using c35))
             (try (have c35b2 : (t600 == t602) = true := by simpa using c35))
             clear c35
             replace H := nz' H; obtain ⟨c36, H⟩ := H
             have c36b0 : (t605 != t607) = false := by simpa using c36
             (try (have c36b1 : decide (t605 = t607) = true := by simpa using c36))
             (try (have c36b2 : (t605 == t607) = true := by simpa using c36))
             clear c36
             replace H := nz' H; obtain ⟨c37, H⟩ := H
             have c37b0 : (t604 != t606) = false := by simpa using c37
             (try (have c37b1 : decide (t604 = t606) = true := by simpa using c37))
             (try (have c37b2 : (t604 == t606) = true := by simpa using c37))
             clear c37
             replace H := nz' H; obtain ⟨c38, H⟩ := H
             have c38b0 : (t609 != t611) = false := by simpa using c38
             (try (have c38b1 : decide (t609 = t611) = true := by simpa using c38))
             (try (have c38b2 : (t609 == t611) = true := by simpa using c38))
             clear c38
             replace H := nz' H; obtain ⟨c39, H⟩ := H
             have c39b0 : (t608 != t610) = false := by simpa using c39
             (try (have c39b1 : decide (t608 = t610) = true := by simpa using c39))
             (try (have c39b2 : (t608 == t610) = true := by simpa using c39))
             clear c39
             replace H := nz' H; obtain ⟨c40, H⟩ := H
             have c40b0 : (t615 != t619) = false := by simpa using c40
             (try (have c40b1 : decide (t615 = t619) = true := by simpa using c40))
             (try (have c40b2 : (t615 == t619) = true := by simpa using c40))
             clear c40
             replace H := Option.bind_eq_some_iff.mp H
             obtain ⟨t620, A410, H⟩ := H
             (try dsimp only at H)
             have A41 := Aside0.mk A410
             clear A410
             by_cases c42 : t620 = true
             ·subst c42
              replace H := zt H
              replace H := nz' H; obtain ⟨c43, H⟩ := H
              have c43b0 : (t605 != t601) = false := by simpa using c43
              (try (have c43b1 : decide (t605 = t601) = true := by simpa using c43))
              (try (have c43b2 : (t605 == t601) = true := by simpa using c43))
              clear c43
              replace H := nz' H; obtain ⟨c44, H⟩ := H
              have c44b0 : (t609 != t601) = false := by simpa using c44
              (try (have c44b1 : decide (t609 = t601) = true := by simpa using c44))
              (try (have c44b2 : (t609 == t601) = true := by simpa using c44))
              clear c44
              by_cases c45 : t601 = true
              ·subst c45
               replace H := zt H
               replace H := nz' H; obtain ⟨c46, H⟩ := H
               have c46b0 : (t615 != t600) = false := by simpa using c46
               (try (have c46b1 : decide (t615 = t600) = true := by simpa using c46))
               (try (have c46b2 : (t615 == t600) = true := by simpa using c46))
               clear c46
               by_cases c47 : t608 = true
               ·subst c47
                replace H := zt H
                by_cases c48 : t604 = true
                ·subst c48
                 replace H := zt H
                 have H' := Aside0.mk H
                 clear H
                 obtain ⟨Ao49, co49, eo49⟩ := Kd.R_slice HO614.out
                 subst eo49
                 obtain ⟨Ao50, co50, eo50⟩ := Kd.R_slice HO618.out
                 subst eo50
                 (try dsimp only [List.append])
                 try go_wp2_with (first | (go_at_call 14; (with_reducible refine (laws_aTurns.calls k _ _ t612 _ _ t616 true _ ?side1 ?side2 ?side3 ?side4 A41.out).mono ?_); (case side1 => exact cS ((Kd.R_reads' HO614.out).2.2)); (case side2 => exact (Kd.R_reads' HO614.out).2.1); (case side3 => exact cS ((Kd.R_reads' HO618.out).2.2)); (case side4 => exact (Kd.R_reads' HO618.out).2.1); rintro e w' ⟨rfl, ⟨nd, rfl⟩⟩))
                 go_meet
                 case rel => exact ⟨_, (!t600), fR, H', ⟨by first | omega | exact Nat.le_refl _⟩, ⟨kR HO598⟩, ⟨by (with_reducible repeat (first | apply Kd.R_alloc | apply Kd.R_drewN | apply Kd.R_drew)); exact Kd.R_mono HO614.out (fun _ hk => trivial)⟩, ⟨bK⟩, ⟨bG⟩⟩
                ·replace c48 := Bool.eq_false_iff.mpr c48
                 subst c48
                 replace H := zf H
                 exact absurd H (by simp)
               ·replace c47 := Bool.eq_false_iff.mpr c47
                subst c47
                replace H := zf H
                by_cases c51 : t604 = true
                ·subst c51
                 replace H := zt H
                 have H' := Aside0.mk H
                 clear H
                 obtain ⟨Ao52, co52, eo52⟩ := Kd.R_slice HO614.out
                 subst eo52
                 obtain ⟨Ao53, co53, eo53⟩ := Kd.R_slice HO618.out
                 subst eo53
                 (try dsimp only [List.append])
                 try go_wp2_with (first | (go_at_call 14; (with_reducible refine (laws_aTurns.calls k _ _ t612 _ _ t616 true _ ?side1 ?side2 ?side3 ?side4 A41.out).mono ?_); (case side1 => exact cS ((Kd.R_reads' HO614.out).2.2)); (case side2 => exact (Kd.R_reads' HO614.out).2.1); (case side3 => exact cS ((Kd.R_reads' HO618.out).2.2)); (case side4 => exact (Kd.R_reads' HO618.out).2.1); rintro e w' ⟨rfl, ⟨nd, rfl⟩⟩))
                 go_meet
                 case rel => exact ⟨_, (!t600), fR, H', ⟨by first | omega | exact Nat.le_refl _⟩, ⟨kR HO598⟩, ⟨by (with_reducible repeat (first | apply Kd.R_alloc | apply Kd.R_drewN | apply Kd.R_drew)); exact Kd.R_mono HO614.out (fun _ hk => trivial)⟩, ⟨bK⟩, ⟨bG⟩⟩
                ·replace c51 := Bool.eq_false_iff.mpr c51
                 subst c51
                 replace H := zf H
                 have H' := Aside0.mk H
                 clear H
                 obtain ⟨Ao54, co54, eo54⟩ := Kd.R_slice HO614.out
                 subst eo54
                 obtain ⟨Ao55, co55, eo55⟩ := Kd.R_slice HO618.out
                 subst eo55
                 (try dsimp only [List.append])
                 try go_wp2_with (first | (go_at_call 14; (with_reducible refine (laws_aTurns.calls k _ _ t612 _ _ t616 true _ ?side1 ?side2 ?side3 ?side4 A41.out).mono ?_); (case side1 => exact cS ((Kd.R_reads' HO614.out).2.2)); (case side2 => exact (Kd.R_reads' HO614.out).2.1); (case side3 => exact cS ((Kd.R_reads' HO618.out).2.2)); (case side4 => exact (Kd.R_reads' HO618.out).2.1); rintro e w' ⟨rfl, ⟨nd, rfl⟩⟩))
                 go_meet
                 case rel => exact ⟨_, (false), fR, H', ⟨by first | omega | exact Nat.le_refl _⟩, ⟨kR HO598⟩, ⟨by (with_reducible repeat (first | apply Kd.R_alloc | apply Kd.R_drewN | apply Kd.R_drew)); exact Kd.R_mono HO614.out (fun _ hk => trivial)⟩, ⟨bK⟩, ⟨bG⟩⟩
              ·replace c45 := Bool.eq_false_iff.mpr c45
               subst c45
               replace H := zf H
               replace H := nz' H; obtain ⟨c56, H⟩ := H
               have c56b0 : (t615 != false) = false := by simpa using c56
               (try (have c56b1 : decide (t615 = false) = true := by simpa using c56))
               (try (have c56b2 : (t615 == false) = true := by simpa using c56))
               clear c56
               have H' := Aside0.mk H
               clear H
               obtain ⟨Ao57, co57, eo57⟩ := Kd.R_slice HO614.out
               subst eo57
               obtain ⟨Ao58, co58, eo58⟩ := Kd.R_slice HO618.out
               subst eo58
               (try dsimp only [List.append])
               try go_wp2_with (first | (go_at_call 14; (with_reducible refine (laws_aTurns.calls k _ _ t612 _ _ t616 true _ ?side1 ?side2 ?side3 ?side4 A41.out).mono ?_); (case side1 => exact cS ((Kd.R_reads' HO614.out).2.2)); (case side2 => exact (Kd.R_reads' HO614.out).2.1); (case side3 => exact cS ((Kd.R_reads' HO618.out).2.2)); (case side4 => exact (Kd.R_reads' HO618.out).2.1); rintro e w' ⟨rfl, ⟨nd, rfl⟩⟩))
               all_goals (try (first | (rename_i hu; cases hu; done) | (rename_i hu _; cases hu; done) | (rename_i hu _ _; cases hu; done)))
               go_meet
               case rel => exact ⟨_, (false), fR, H', ⟨by first | omega | exact Nat.le_refl _⟩, ⟨kR HO598⟩, ⟨by (with_reducible repeat (first | apply Kd.R_alloc | apply Kd.R_drewN | apply Kd.R_drew)); exact Kd.R_mono HO614.out (fun _ hk => trivial)⟩, ⟨bK⟩, ⟨bG⟩⟩
             ·replace c42 := Bool.eq_false_iff.mpr c42
              subst c42
              replace H := zf H
              exact absurd H (by simp)
           case rest =>
            as_aux_lemma =>
             clear HC14
             (try clear c1); (try clear c4); (try clear hcz17_0); (try clear hcz17_1); (try clear hcz20_0); (try clear hcz20_1); (try clear hcz22_0); (try clear hcz22_1); (try clear hcz24_0); (try clear hcz24_1); (try clear hcz26_0); (try clear hcz26_1); (try clear hcz28_0); (try clear hcz28_1); (try clear hcz30_0); (try clear hcz30_1); (try clear hcz32_0); (try clear hcz32_1); (try clear hfz17_0); (try clear hfz17_1); (try clear hfz20_0); (try clear hfz20_1); (try clear hfz22_0); (try clear hfz22_1); (try clear hfz24_0); (try clear hfz24_1); (try clear hfz26_0); (try clear hfz26_1); (try clear hfz28_0); (try clear hfz28_1); (try clear hfz30_0); (try clear hfz30_1); (try clear hfz32_0); (try clear hfz32_1)
             obtain ⟨kq, x173_13, rfl, HA, HJ13, HO_6, HO_19, BK599, HB⟩ := hcut
             cases kq with
             | zero => exact absurd HA.out (by simp [laws_FnOrdersWhole.j0])
             | succ kj13 =>
              have H := HA.out
              clear HA
              simp only [laws_FnOrdersWhole.j0] at H
              by_cases c59 : x173_13 = true
              ·subst c59
               replace H := zt H
               exact absurd H (by simp)
              ·replace c59 := Bool.eq_false_iff.mpr c59
               subst c59
               replace H := zf H
               have HC60 := Aside0.mk H
               clear H
               go_upto_region 14 with (fail)
               go_cut [179] (fun v179 wc => ∃ (kq : Nat) (x179_59 : Bool), v179 = .bool x179_59 ∧ Aside0 (laws_FnOrdersWhole.j1 kq l1 t596 t601 t604 t612 x179_59 t594 t595 = some r) ∧ Aside0 (kq ≤ kj13) ∧ Aside0 (Kd.R Kd.string 9 wc w.heap.size (fun _ => True) (.slice Ao18 t596.length co18) t596) ∧ Aside0 (Kd.R k59 59 wc w.heap.size (fun _ => True) v613 t612) ∧ Aside0 (wc.heap[gb599]? = some (.cells #[.int .i64 t594, .int .i64 t595] 25 (0, 0))) ∧ Aside0 (Below w.heap.size w wc))
               case first =>
                as_aux_lemma =>
                 have H := HC60.out
                 clear HC60
                 by_cases c61 : t615 = true
                 ·subst c61
                  replace H := zt H
                  have H' := Aside0.mk H
                  clear H
                  try go_wp2
                  repeat (go_quiet (fail); try go_wp2)
                  go_meet
                  case rel => exact ⟨_, (decide ((t596.length : Int) > 0)), fR, H', ⟨by have := HJ13.out; first | omega | exact Nat.le_refl _⟩, ⟨kR HO_6⟩, ⟨kR HO_19⟩, ⟨bK⟩, ⟨bG⟩⟩
                 ·replace c61 := Bool.eq_false_iff.mpr c61
                  subst c61
                  replace H := zf H
                  have H' := Aside0.mk H
                  clear H
                  try go_wp2
                  repeat (go_quiet (fail); try go_wp2)
                  go_meet
                  case rel => exact ⟨_, (false), fR, H', ⟨by have := HJ13.out; first | omega | exact Nat.le_refl _⟩, ⟨kR HO_6⟩, ⟨kR HO_19⟩, ⟨bK⟩, ⟨bG⟩⟩
               case rest =>
                as_aux_lemma =>
                 clear HC60
                 (try clear c59)
                 obtain ⟨kq, x179_59, rfl, HA, HJ59, HO_6, HO_19, BK599, HB⟩ := hcut
                 cases kq with
                 | zero => exact absurd HA.out (by simp [laws_FnOrdersWhole.j1])
                 | succ kj59 =>
                  have H := HA.out
                  clear HA
                  simp only [laws_FnOrdersWhole.j1] at H
                  have HC62 := Aside0.mk H
                  clear H
                  go_upto_if 179 with (fail)
                  go_cut [] (fun wc => ∃ (kq : Nat), Aside0 (laws_FnOrdersWhole.j2 kq l1 t596 t601 t604 t594 t595 = some r) ∧ Aside0 (kq ≤ kj59) ∧ Aside0 (Kd.R Kd.string 9 wc w.heap.size (fun _ => True) (.slice Ao18 t596.length co18) t596) ∧ Aside0 (wc.heap[gb599]? = some (.cells #[.int .i64 t594, .int .i64 t595] 25 (0, 0))) ∧ Aside0 (Below w.heap.size w wc))
                  case first =>
                   as_aux_lemma =>
                    have H := HC62.out
                    clear HC62
                    by_cases c63 : x179_59 = true
                    ·subst c63
                     replace H := zt H
                     replace H := nz H; obtain ⟨c64, H⟩ := H
                     have c64b0 : decide (0 < (t596.length : Int)) = true := decide_eq_true c64
                     have c64b1 : decide (0 < t596.length) = true := decide_eq_true (by omega)
                     clear c64
                     (first | rw [c64b0] | (simp only [i64_w, i32_w]; rw [c64b0]) | skip)
                     replace H := Option.bind_eq_some_iff.mp H
                     obtain ⟨⟨t622, t623⟩, A650, H⟩ := H
                     (try dsimp only at H)
                     have A65 := Aside0.mk A650
                     clear A650
                     by_cases c66 : (t612.length : Int) ≤ 200
                     ·rw [if_pos c66] at H
                      have c66b0 : decide ((t612.length : Int) ≤ 200) = true := decide_eq_true c66
                      have c66b1 : decide (t612.length ≤ 200) = true := decide_eq_true (by omega)
                      clear c66
                      by_cases c67 : t623 = true
                      ·subst c67
                       replace H := zt H
                       obtain ⟨ji68, hji68⟩ : ∃ j_ : Int, (wrap64 ((t596.length : Int) - 1)) = j_ := ⟨_, rfl⟩
                       replace H : (if 0 ≤ (ji68) then (if (ji68) < (t596.length : Int) then (if t622.toList = (rdOf ByteArray.empty t596 (ji68)).toList then (if (t612.length : Int) = (ji68) then (laws_FnOrdersWhole.j2 kj59 l1 t596 t601 t604 t594 t595) else (none)) else (none)) else (none)) else (none)) = some r := by first | (rw [hji68] at H; exact H) | (simp only [hji68] at H ⊢; exact H)
                       (try rw [hji68] at A65)
                       have hji68w : (IntKind.i64.wrap ((t596.length : Int) - 1)) = ji68 := (i64_w _).trans hji68
                       replace H := nz H; obtain ⟨c69, H⟩ := H
                       have c69b0 : decide (0 ≤ (ji68)) = true := decide_eq_true c69
                       clear c69
                       replace H := nz H; obtain ⟨c70, H⟩ := H
                       have c70b0 : decide ((ji68) < (t596.length : Int)) = true := decide_eq_true c70
                       clear c70
                       replace H := nz H; obtain ⟨c71, H⟩ := H
                       have c71b0 : (t622.toList == (rdOf ByteArray.empty t596 (ji68)).toList) = true := beq_iff_eq.mpr c71
                       have c71b1 : (t622.toList != (rdOf ByteArray.empty t596 (ji68)).toList) = false := bne_eq_false_iff_eq.mpr c71
                       clear c71
                       replace H := nz H; obtain ⟨c72, H⟩ := H
                       have c72b0 : ((t612.length : Int) == (ji68)) = true := beq_iff_eq.mpr c72
                       have c72b1 : ((t612.length : Int) != (ji68)) = false := bne_eq_false_iff_eq.mpr c72
                       clear c72
                       have H' := Aside0.mk H
                       clear H
                       try go_wp2
                       repeat (go_quiet (fail); try go_wp2)
                       as_aux_lemma =>
                        replace HO_6 := Aside0.mk (Kd.R_drew HO_6.out); replace HO_19 := Aside0.mk (Kd.R_drew HO_19.out); replace BK599 := Aside0.mk (blk_drew BK599.out); replace HB := Aside0.mk (below_drew1 HB.out)
                        have p621 : 0 ≤ (0 : Int) := (by omega)
                        have q621 : 0 < (t596.length : Int) := oD
                        obtain ⟨ad621, e621, hx621_0⟩ := Kd.at_string (Kd.R_reads' HO_6.out).2.2 0 p621 q621
                        cases e621
                        have qi621 : (0 < t596.length) = True := eq_true (by omega)
                        (try rw [show ((0 : Int)).toNat = 0 from rfl] at hx621_0)
                        (try rw [Addr.add_zero'] at hx621_0)
                        replace p621 := eq_true p621; replace q621 := eq_true q621
                        obtain ⟨Ao74, co74, eo74⟩ := Kd.R_slice HO_19.out
                        (first | subst eo74 | (injection eo74 with f1_ f2_ f3_; have f4_ := f1_.symm; have f5_ := f3_.symm; clear f1_ f2_ f3_; subst f4_; subst f5_))
                        refine start_ (n := 11) (S := fun w' => w'.cell? ⟨gb599, 0, none⟩ = some (.int .i64 t594) ∧ w'.cell? ⟨gb599, 1, none⟩ = some (.int .i64 t595) ∧ w'.cell? ad621 = some (.string (rdOf ByteArray.empty t596 0))) (ds := []) #[false, false, false, false, false, false, false, false, false, false, false] (by kernel_rfl) rfl rfl ⟨(blk_cell BK599.out 0).trans rfl, (blk_cell BK599.out 1).trans rfl, hx621_0⟩ (fun hHeld => ?_); refine with_tabW laws_FnOrdersWhole.tab15 laws_FnOrdersWhole.bits15 (fun HT_ HW_ => ?_)
                        generalize wc.drew = w73 at HO_6 HO_19 BK599 HB hx621_0 hHeld ⊢
                        refine pure_ (i := 1) (N := some 182) (v := ?_) (a' := ?_) #[false, true, false, false, false, false, false, false, false, false, false] rfl rfl (any_of HT_.out (by kernel_rfl)) (fun _ _ _ h => h) (Or.inl ⟨by rfl, ?_⟩) ?_ ?_; rotate_left; (· intro w'; go_simp; with_reducible rfl); rotate_left; (· simp only [Act.put, List.setIfInBounds_toArray, List.set_cons_zero, List.set_cons_succ, i64_w, i32_w]; rfl)
                        refine pure_ (i := 2) (N := some 183) (v := ?_) (a' := ?_) #[false, true, true, false, false, false, false, false, false, false, false] rfl rfl (any_of HT_.out (by kernel_rfl)) (fun _ _ _ h => h) (Or.inl ⟨by rfl, ?_⟩) ?_ ?_; rotate_left; (· intro w'; go_simp; with_reducible rfl); rotate_left; (· simp only [Act.put, List.setIfInBounds_toArray, List.set_cons_zero, List.set_cons_succ, i64_w, i32_w]; rfl)
                        refine pure_ (i := 4) (N := some 185) (v := ?_) (a' := ?_) #[false, true, true, false, true, false, false, false, false, false, false] rfl rfl (any_of HT_.out (by kernel_rfl)) (fun _ _ _ h => h) (Or.inl ⟨by rfl, ?_⟩) ?_ ?_; rotate_left; (· intro w'; go_simp; with_reducible rfl); rotate_left; (· simp only [Act.put, List.setIfInBounds_toArray, List.set_cons_zero, List.set_cons_succ, i64_w, i32_w]; rfl)
                        refine tU3 (i := 0) (N := some 181) ?_
                        refine tU3 (i := 3) (N := some 184) ?_
                        refine oU (i := 5) (N := some 186) (fun K hK => ?_)
                        refine goes_ Tryz.func15 (by kernel_rfl) rfl #[.agg #[.int .i64 t594, .int .i64 t595], .string (rdOf ByteArray.empty t596 0), .slice Ao74 t612.length co74] (by rfl) rfl rfl lM ?_
                        with_reducible refine (impl_TurnWheels.calls kj59 t594 t595 (rdOf ByteArray.empty t596 0) _ _ t612 t622 true _ ?side1 ?side2 A65.out).mono ?_
                        (case side1 => exact cS ((Kd.R_reads' HO_19.out).2.2))
                        (case side2 => exact (Kd.R_reads' HO_19.out).2.1)
                        rintro e w75 ⟨rfl, hb⟩
                        have HS2_ := (hb.cell (World.block_lt_of_cell? _ _ (hHeld.2.2))).trans (hHeld.2.2)
                        refine ⟨_, rfl, ?_⟩
                        replace HO_6 := Aside0.mk (Kd.R_below (kR HO_6) hb); replace HO_19 := Aside0.mk (Kd.R_below (kR HO_19) hb); replace BK599 := bW BK599 hb; replace HB := Aside0.mk (below_step bG hb)
                        (try clear hb)
                        (try clear hb2)
                        (try clear hk)
                        (try clear hi)
                        refine hK.out _ _ ⟨(blk_cell BK599.out 0).trans rfl, (blk_cell BK599.out 1).trans rfl, HS2_⟩ (fun hHeld => ?_)
                        clear hK K
                        refine nU (some 186) ?_
                        refine pure_ (i := 6) (N := some 180) (v := ?_) (a' := ?_) #[true, true, true, true, true, true, true, false, false, false, false] rfl rfl (any_of HT_.out (by kernel_rfl)) (fun _ _ _ h => h) (Or.inl ⟨by rfl, ?_⟩) ?_ ?_; rotate_left; (· intro w'; go_simp; with_reducible rfl); rotate_left; (· simp only [Act.put, List.setIfInBounds_toArray, List.set_cons_zero, List.set_cons_succ, i64_w, i32_w]; rfl)
                        refine pure_ (i := 7) (N := some 187) (v := ?_) (a' := ?_) #[true, true, true, true, true, true, true, true, false, false, false] rfl rfl (any_of HT_.out (by kernel_rfl)) (fun _ _ _ h => h) (Or.inl ⟨by rfl, ?_⟩) ?_ ?_; rotate_left; (· intro w'; go_simp; with_reducible rfl); rotate_left; (· simp only [Act.put, List.setIfInBounds_toArray, List.set_cons_zero, List.set_cons_succ, i64_w, i32_w]; rfl)
                        refine pure_ (i := 8) (N := some 188) (v := ?_) (a' := ?_) #[true, true, true, true, true, true, true, true, true, false, false] rfl rfl (any_of HT_.out (by kernel_rfl)) (fun _ _ _ h => h) (Or.inl ⟨by rfl, ?_⟩) ?_ ?_; rotate_left; (· intro w'; go_simp; with_reducible rfl); rotate_left; (· simp only [Act.put, List.setIfInBounds_toArray, List.set_cons_zero, List.set_cons_succ, i64_w, i32_w]; rfl)
                        refine pure_ (i := 9) (N := some 23) (v := ?_) (a' := ?_) #[true, true, true, true, true, true, true, true, true, true, false] rfl rfl (any_of HT_.out (by kernel_rfl)) (fun _ _ _ h => h) (Or.inl ⟨by rfl, ?_⟩) ?_ ?_; rotate_left; (· intro w'; go_simp; with_reducible rfl); rotate_left; (· simp only [Act.put, List.setIfInBounds_toArray, List.set_cons_zero, List.set_cons_succ, i64_w, i32_w]; rfl)
                        refine pure_ (i := 10) (N := some 24) (v := ?_) (a' := ?_) #[true, true, true, true, true, true, true, true, true, true, true] rfl rfl (any_of HT_.out (by kernel_rfl)) (fun _ _ _ h => h) (Or.inl ⟨by rfl, ?_⟩) ?_ ?_; rotate_left; (· intro w'; go_simp; with_reducible rfl); rotate_left; (· simp only [Act.put, List.setIfInBounds_toArray, List.set_cons_zero, List.set_cons_succ, i64_w, i32_w]; rfl)
                        refine done_ (done_of HT_.out (by kernel_rfl)) ?_
                        as_aux_lemma =>
                         have p624 : 0 ≤ ((ji68) : Int) := oD
                         have q624 : (ji68) < (t596.length : Int) := oD
                         obtain ⟨ad624, e624, hx624_0⟩ := Kd.at_string (Kd.R_reads' HO_6.out).2.2 (ji68) p624 q624
                         obtain rfl : ad621 = ad624 := (by injection e624)
                         replace p624 := eq_true p624; replace q624 := eq_true q624
                         try go_wp2
                         repeat (go_quiet (fail); try go_wp2)
                         go_meet
                         case rel => exact ⟨_, H', ⟨by have := HJ13.out; have := HJ59.out; first | omega | exact Nat.le_refl _⟩, ⟨kR HO_6⟩, ⟨bK⟩, ⟨bG⟩⟩
                      ·replace c67 := Bool.eq_false_iff.mpr c67
                       subst c67
                       replace H := zf H
                       exact absurd H (by simp)
                     ·rw [if_neg c66] at H
                      have c66b0 : decide ((t612.length : Int) ≤ 200) = false := decide_eq_false c66
                      have c66b1 : decide (t612.length ≤ 200) = false := decide_eq_false (by omega)
                      clear c66
                      replace H := nz H; obtain ⟨c76, H⟩ := H
                      have c76b0 : ((t612.length : Int) == (wrap64 ((t596.length : Int) - 1))) = true := beq_iff_eq.mpr c76
                      have c76b1 : ((t612.length : Int) != (wrap64 ((t596.length : Int) - 1))) = false := bne_eq_false_iff_eq.mpr c76
                      clear c76
                      have H' := Aside0.mk H
                      clear H
                      try go_wp2
                      repeat (go_quiet (fail); try go_wp2)
                      as_aux_lemma =>
                       replace HO_6 := Aside0.mk (Kd.R_drew HO_6.out); replace HO_19 := Aside0.mk (Kd.R_drew HO_19.out); replace BK599 := Aside0.mk (blk_drew BK599.out); replace HB := Aside0.mk (below_drew1 HB.out)
                       have p621 : 0 ≤ (0 : Int) := (by omega)
                       have q621 : 0 < (t596.length : Int) := oD
                       obtain ⟨ad621, e621, hx621_0⟩ := Kd.at_string (Kd.R_reads' HO_6.out).2.2 0 p621 q621
                       cases e621
                       have qi621 : (0 < t596.length) = True := eq_true (by omega)
                       (try rw [show ((0 : Int)).toNat = 0 from rfl] at hx621_0)
                       (try rw [Addr.add_zero'] at hx621_0)
                       replace p621 := eq_true p621; replace q621 := eq_true q621
                       obtain ⟨Ao78, co78, eo78⟩ := Kd.R_slice HO_19.out
                       (first | subst eo78 | (injection eo78 with f1_ f2_ f3_; have f4_ := f1_.symm; have f5_ := f3_.symm; clear f1_ f2_ f3_; subst f4_; subst f5_))
                       refine start_ (n := 11) (S := fun w' => w'.cell? ⟨gb599, 0, none⟩ = some (.int .i64 t594) ∧ w'.cell? ⟨gb599, 1, none⟩ = some (.int .i64 t595) ∧ w'.cell? ad621 = some (.string (rdOf ByteArray.empty t596 0))) (ds := []) #[false, false, false, false, false, false, false, false, false, false, false] (by kernel_rfl) rfl rfl ⟨(blk_cell BK599.out 0).trans rfl, (blk_cell BK599.out 1).trans rfl, hx621_0⟩ (fun hHeld => ?_); refine with_tabW laws_FnOrdersWhole.tab15 laws_FnOrdersWhole.bits15 (fun HT_ HW_ => ?_)
                       generalize wc.drew = w77 at HO_6 HO_19 BK599 HB hx621_0 hHeld ⊢
                       refine pure_ (i := 1) (N := some 182) (v := ?_) (a' := ?_) #[false, true, false, false, false, false, false, false, false, false, false] rfl rfl (any_of HT_.out (by kernel_rfl)) (fun _ _ _ h => h) (Or.inl ⟨by rfl, ?_⟩) ?_ ?_; rotate_left; (· intro w'; go_simp; with_reducible rfl); rotate_left; (· simp only [Act.put, List.setIfInBounds_toArray, List.set_cons_zero, List.set_cons_succ, i64_w, i32_w]; rfl)
                       refine pure_ (i := 2) (N := some 183) (v := ?_) (a' := ?_) #[false, true, true, false, false, false, false, false, false, false, false] rfl rfl (any_of HT_.out (by kernel_rfl)) (fun _ _ _ h => h) (Or.inl ⟨by rfl, ?_⟩) ?_ ?_; rotate_left; (· intro w'; go_simp; with_reducible rfl); rotate_left; (· simp only [Act.put, List.setIfInBounds_toArray, List.set_cons_zero, List.set_cons_succ, i64_w, i32_w]; rfl)
                       refine pure_ (i := 4) (N := some 185) (v := ?_) (a' := ?_) #[false, true, true, false, true, false, false, false, false, false, false] rfl rfl (any_of HT_.out (by kernel_rfl)) (fun _ _ _ h => h) (Or.inl ⟨by rfl, ?_⟩) ?_ ?_; rotate_left; (· intro w'; go_simp; with_reducible rfl); rotate_left; (· simp only [Act.put, List.setIfInBounds_toArray, List.set_cons_zero, List.set_cons_succ, i64_w, i32_w]; rfl)
                       refine tU3 (i := 0) (N := some 181) ?_
                       refine tU3 (i := 3) (N := some 184) ?_
                       refine oU (i := 5) (N := some 186) (fun K hK => ?_)
                       refine goes_ Tryz.func15 (by kernel_rfl) rfl #[.agg #[.int .i64 t594, .int .i64 t595], .string (rdOf ByteArray.empty t596 0), .slice Ao78 t612.length co78] (by rfl) rfl rfl lM ?_
                       with_reducible refine (impl_TurnWheels.calls kj59 t594 t595 (rdOf ByteArray.empty t596 0) _ _ t612 t622 t623 _ ?side1 ?side2 A65.out).mono ?_
                       (case side1 => exact cS ((Kd.R_reads' HO_19.out).2.2))
                       (case side2 => exact (Kd.R_reads' HO_19.out).2.1)
                       rintro e w79 ⟨rfl, hb⟩
                       have HS2_ := (hb.cell (World.block_lt_of_cell? _ _ (hHeld.2.2))).trans (hHeld.2.2)
                       refine ⟨_, rfl, ?_⟩
                       replace HO_6 := Aside0.mk (Kd.R_below (kR HO_6) hb); replace HO_19 := Aside0.mk (Kd.R_below (kR HO_19) hb); replace BK599 := bW BK599 hb; replace HB := Aside0.mk (below_step bG hb)
                       (try clear hb)
                       (try clear hb2)
                       (try clear hk)
                       (try clear hi)
                       refine hK.out _ _ ⟨(blk_cell BK599.out 0).trans rfl, (blk_cell BK599.out 1).trans rfl, HS2_⟩ (fun hHeld => ?_)
                       clear hK K
                       refine nU (some 186) ?_
                       refine pure_ (i := 6) (N := some 180) (v := ?_) (a' := ?_) #[true, true, true, true, true, true, true, false, false, false, false] rfl rfl (any_of HT_.out (by kernel_rfl)) (fun _ _ _ h => h) (Or.inl ⟨by rfl, ?_⟩) ?_ ?_; rotate_left; (· intro w'; go_simp; with_reducible rfl); rotate_left; (· simp only [Act.put, List.setIfInBounds_toArray, List.set_cons_zero, List.set_cons_succ, i64_w, i32_w]; rfl)
                       refine pure_ (i := 7) (N := some 187) (v := ?_) (a' := ?_) #[true, true, true, true, true, true, true, true, false, false, false] rfl rfl (any_of HT_.out (by kernel_rfl)) (fun _ _ _ h => h) (Or.inl ⟨by rfl, ?_⟩) ?_ ?_; rotate_left; (· intro w'; go_simp; with_reducible rfl); rotate_left; (· simp only [Act.put, List.setIfInBounds_toArray, List.set_cons_zero, List.set_cons_succ, i64_w, i32_w]; rfl)
                       refine pure_ (i := 8) (N := some 188) (v := ?_) (a' := ?_) #[true, true, true, true, true, true, true, true, true, false, false] rfl rfl (any_of HT_.out (by kernel_rfl)) (fun _ _ _ h => h) (Or.inl ⟨by rfl, ?_⟩) ?_ ?_; rotate_left; (· intro w'; go_simp; with_reducible rfl); rotate_left; (· simp only [Act.put, List.setIfInBounds_toArray, List.set_cons_zero, List.set_cons_succ, i64_w, i32_w]; rfl)
                       refine pure_ (i := 9) (N := some 23) (v := ?_) (a' := ?_) #[true, true, true, true, true, true, true, true, true, true, false] rfl rfl (any_of HT_.out (by kernel_rfl)) (fun _ _ _ h => h) (Or.inl ⟨by rfl, ?_⟩) ?_ ?_; rotate_left; (· intro w'; go_simp; with_reducible rfl); rotate_left; (· simp only [Act.put, List.setIfInBounds_toArray, List.set_cons_zero, List.set_cons_succ, i64_w, i32_w]; rfl)
                       refine pure_ (i := 10) (N := some 24) (v := ?_) (a' := ?_) #[true, true, true, true, true, true, true, true, true, true, true] rfl rfl (any_of HT_.out (by kernel_rfl)) (fun _ _ _ h => h) (Or.inl ⟨by rfl, ?_⟩) ?_ ?_; rotate_left; (· intro w'; go_simp; with_reducible rfl); rotate_left; (· simp only [Act.put, List.setIfInBounds_toArray, List.set_cons_zero, List.set_cons_succ, i64_w, i32_w]; rfl)
                       refine done_ (done_of HT_.out (by kernel_rfl)) ?_
                       try go_wp2
                       repeat (go_quiet (fail); try go_wp2)
                       go_meet
                       case rel => exact ⟨_, H', ⟨by have := HJ13.out; have := HJ59.out; first | omega | exact Nat.le_refl _⟩, ⟨kR HO_6⟩, ⟨bK⟩, ⟨bG⟩⟩
                    ·replace c63 := Bool.eq_false_iff.mpr c63
                     subst c63
                     replace H := zf H
                     have H' := Aside0.mk H
                     clear H
                     try go_wp2
                     repeat (go_quiet (fail); try go_wp2)
                     go_meet
                     case rel => exact ⟨_, H', ⟨by have := HJ13.out; have := HJ59.out; first | omega | exact Nat.le_refl _⟩, ⟨kR HO_6⟩, ⟨bK⟩, ⟨bG⟩⟩
                  case rest =>
                   as_aux_lemma =>
                    clear HC62
                    obtain ⟨kq, HA, HJ61, HO_6, BK599, HB⟩ := hcut
                    cases kq with
                    | zero => exact absurd HA.out (by simp [laws_FnOrdersWhole.j2])
                    | succ kj61 =>
                     have H := HA.out
                     clear HA
                     simp only [laws_FnOrdersWhole.j2] at H
                     have HC80 := Aside0.mk H
                     clear H
                     go_upto_region 18 with (fail)
                     go_cut [217] (fun v217 wc => ∃ (kq : Nat) (x217_79 : Bool), v217 = .bool x217_79 ∧ Aside0 (laws_FnOrdersWhole.j3 kq l1 t596 x217_79 t594 t595 = some r) ∧ Aside0 (kq ≤ kj61) ∧ Aside0 (Kd.R Kd.string 9 wc w.heap.size (fun _ => True) (.slice Ao18 t596.length co18) t596) ∧ Aside0 (wc.heap[gb599]? = some (.cells #[.int .i64 t594, .int .i64 t595] 25 (0, 0))) ∧ Aside0 (Below w.heap.size w wc))
                     case first =>
                      as_aux_lemma =>
                       have H := HC80.out
                       clear HC80
                       by_cases c81 : t601 = true
                       ·subst c81
                        replace H := zt H
                        have H' := Aside0.mk H
                        clear H
                        try go_wp2
                        repeat (go_quiet (fail); try go_wp2)
                        go_meet
                        case rel => exact ⟨_, (t604), fR, H', ⟨by have := HJ13.out; have := HJ59.out; have := HJ61.out; first | omega | exact Nat.le_refl _⟩, ⟨kR HO_6⟩, ⟨bK⟩, ⟨bG⟩⟩
                       ·replace c81 := Bool.eq_false_iff.mpr c81
                        subst c81
                        replace H := zf H
                        have H' := Aside0.mk H
                        clear H
                        try go_wp2
                        repeat (go_quiet (fail); try go_wp2)
                        go_meet
                        case rel => exact ⟨_, (false), fR, H', ⟨by have := HJ13.out; have := HJ59.out; have := HJ61.out; first | omega | exact Nat.le_refl _⟩, ⟨kR HO_6⟩, ⟨bK⟩, ⟨bG⟩⟩
                     case rest =>
                      as_aux_lemma =>
                       clear HC80
                       obtain ⟨kq, x217_79, rfl, HA, HJ79, HO_6, BK599, HB⟩ := hcut
                       cases kq with
                       | zero => exact absurd HA.out (by simp [laws_FnOrdersWhole.j3])
                       | succ kj79 =>
                        have H := HA.out
                        clear HA
                        simp only [laws_FnOrdersWhole.j3] at H
                        have HC82 := Aside0.mk H
                        clear H
                        go_upto_if 217 with (fail)
                        go_cut [] (fun wc => ∃ (kq : Nat), Aside0 (laws_FnOrdersWhole.j4 kq l1 = some r) ∧ Aside0 (kq ≤ kj79) ∧ Aside0 (wc.heap[gb599]? = some (.cells #[.int .i64 t594, .int .i64 t595] 25 (0, 0))) ∧ Aside0 (Below w.heap.size w wc))
                        case first =>
                         as_aux_lemma =>
                          have H := HC82.out
                          clear HC82
                          by_cases c83 : x217_79 = true
                          ·subst c83
                           replace H := zt H
                           replace H := Option.bind_eq_some_iff.mp H
                           obtain ⟨⟨t625, t626⟩, A840, H⟩ := H
                           (try dsimp only at H)
                           have A84 := Aside0.mk A840
                           clear A840
                           by_cases c85 : t626 = true
                           ·subst c85
                            replace H := zt H
                            replace H := nz H; obtain ⟨c86, H⟩ := H
                            have c86b0 : ((t596.length : Int) == t625) = true := beq_iff_eq.mpr c86
                            have c86b1 : ((t596.length : Int) != t625) = false := bne_eq_false_iff_eq.mpr c86
                            clear c86
                            (first | rw [c86b0] | (simp only [i64_w, i32_w]; rw [c86b0]) | skip)
                            have H' := Aside0.mk H
                            clear H
                            have hcz87_0 := cZ BK599 0 (.int .i64 t594)
                            have hcz87_1 := cZ BK599 1 (.int .i64 t595)
                            have hfz87_0 := blk_frozen BK599.out 0
                            have hfz87_1 := blk_frozen BK599.out 1
                            try go_wp2_with (first | ((with_reducible refine gate_callee (f := 16) rfl ?_); refine goesL_ (some 220) rfl rfl Tryz.func16 (by kernel_rfl) rfl #[.agg #[.int .i64 t594, .int .i64 t595]] rfl lM ?_; (with_reducible refine (impl_CountCodes.calls kj79 t594 t595 t625 true _ A84.out).mono ?_); rintro e w88 ⟨rfl, hb⟩; refine ⟨_, rfl, ?_⟩; replace HO_6 := Aside0.mk (Kd.R_below (kR HO_6) hb); replace BK599 := bW BK599 hb; replace HB := Aside0.mk (below_step bG hb); (try clear hb)))
                            go_meet
                            case rel => exact ⟨_, H', ⟨by have := HJ13.out; have := HJ59.out; have := HJ61.out; have := HJ79.out; first | omega | exact Nat.le_refl _⟩, ⟨bK⟩, ⟨bG⟩⟩
                           ·replace c85 := Bool.eq_false_iff.mpr c85
                            subst c85
                            replace H := zf H
                            exact absurd H (by simp)
                          ·replace c83 := Bool.eq_false_iff.mpr c83
                           subst c83
                           replace H := zf H
                           have H' := Aside0.mk H
                           clear H
                           try go_wp2
                           repeat (go_quiet (fail); try go_wp2)
                           go_meet
                           case rel => exact ⟨_, H', ⟨by have := HJ13.out; have := HJ59.out; have := HJ61.out; have := HJ79.out; first | omega | exact Nat.le_refl _⟩, ⟨bK⟩, ⟨bG⟩⟩
                        case rest =>
                         as_aux_lemma =>
                          clear HC82
                          obtain ⟨kq, HA, HJ81, BK599, HB⟩ := hcut
                          cases kq with
                          | zero => exact absurd HA.out (by simp [laws_FnOrdersWhole.j4])
                          | succ kj81 =>
                           have H := HA.out
                           clear HA
                           simp only [laws_FnOrdersWhole.j4] at H
                           replace H := Option.bind_eq_some_iff.mp H
                           obtain ⟨⟨t627, t628⟩, A890, H⟩ := H
                           (try dsimp only at H)
                           have A89 := Aside0.mk A890
                           clear A890
                           replace H := Option.bind_eq_some_iff.mp H
                           obtain ⟨⟨t630, t633⟩, A900, H⟩ := H
                           (try dsimp only at H)
                           have A90 := Aside0.mk A900
                           clear A900
                           replace H := Option.bind_eq_some_iff.mp H
                           obtain ⟨⟨t634, t637⟩, A910, H⟩ := H
                           (try dsimp only at H)
                           have A91 := Aside0.mk A910
                           clear A910
                           replace H := Option.bind_eq_some_iff.mp H
                           obtain ⟨⟨t638, t639⟩, A920, H⟩ := H
                           (try dsimp only at H)
                           have A92 := Aside0.mk A920
                           clear A920
                           replace H := Option.bind_eq_some_iff.mp H
                           obtain ⟨⟨t640, t641⟩, A930, H⟩ := H
                           (try dsimp only at H)
                           have A93 := Aside0.mk A930
                           clear A930
                           replace H := Option.bind_eq_some_iff.mp H
                           obtain ⟨⟨t642, t643⟩, A940, H⟩ := H
                           (try dsimp only at H)
                           have A94 := Aside0.mk A940
                           clear A940
                           replace H := Option.bind_eq_some_iff.mp H
                           obtain ⟨⟨t644, t645⟩, A950, H⟩ := H
                           (try dsimp only at H)
                           have A95 := Aside0.mk A950
                           clear A950
                           replace H := nz' H; obtain ⟨c96, H⟩ := H
                           have c96b0 : (t633 != t637) = false := by simpa using c96
                           (try (have c96b1 : decide (t633 = t637) = true := by simpa using c96))
                           (try (have c96b2 : (t633 == t637) = true := by simpa using c96))
                           clear c96
                           replace H := Option.bind_eq_some_iff.mp H
                           obtain ⟨t646, A970, H⟩ := H
                           (try dsimp only at H)
                           have A97 := Aside0.mk A970
                           clear A970
                           by_cases c98 : t646 = true
                           ·subst c98
                            replace H := zt H
                            replace H := nz' H; obtain ⟨c99, H⟩ := H
                            have c99b0 : (t639 != t641) = false := by simpa using c99
                            (try (have c99b1 : decide (t639 = t641) = true := by simpa using c99))
                            (try (have c99b2 : (t639 == t641) = true := by simpa using c99))
                            clear c99
                            replace H := nz H; obtain ⟨c100, H⟩ := H
                            have c100b0 : (t638 == t640) = true := beq_iff_eq.mpr c100
                            have c100b1 : (t638 != t640) = false := bne_eq_false_iff_eq.mpr c100
                            clear c100
                            replace H := nz' H; obtain ⟨c101, H⟩ := H
                            have c101b0 : (t643 != t645) = false := by simpa using c101
                            (try (have c101b1 : decide (t643 = t645) = true := by simpa using c101))
                            (try (have c101b2 : (t643 == t645) = true := by simpa using c101))
                            clear c101
                            replace H := nz H; obtain ⟨c102, H⟩ := H
                            have c102b0 : (t642 == t644) = true := beq_iff_eq.mpr c102
                            have c102b1 : (t642 != t644) = false := bne_eq_false_iff_eq.mpr c102
                            clear c102
                            replace H := nz' H; obtain ⟨c103, H⟩ := H
                            have c103b0 : (t639 != t633) = false := by simpa using c103
                            (try (have c103b1 : decide (t639 = t633) = true := by simpa using c103))
                            (try (have c103b2 : (t639 == t633) = true := by simpa using c103))
                            clear c103
                            replace H := nz' H; obtain ⟨c104, H⟩ := H
                            have c104b0 : (t643 != t633) = false := by simpa using c104
                            (try (have c104b1 : decide (t643 = t633) = true := by simpa using c104))
                            (try (have c104b2 : (t643 == t633) = true := by simpa using c104))
                            clear c104
                            by_cases c105 : t633 = true
                            ·subst c105
                             replace H := zt H
                             replace H := Option.bind_eq_some_iff.mp H
                             obtain ⟨⟨t647, t648⟩, A1060, H⟩ := H
                             (try dsimp only at H)
                             have A106 := Aside0.mk A1060
                             clear A1060
                             replace H := Option.bind_eq_some_iff.mp H
                             obtain ⟨⟨t649, t650⟩, A1070, H⟩ := H
                             (try dsimp only at H)
                             have A107 := Aside0.mk A1070
                             clear A1070
                             by_cases c108 : t648 = true
                             ·subst c108
                              replace H := zt H
                              by_cases c109 : t647 = true
                              ·subst c109
                               replace H := zt H
                               by_cases c110 : t650 = true
                               ·subst c110
                                replace H := zt H
                                replace H := nz H; obtain ⟨c111, H⟩ := H
                                have c111b0 : decide (0 < (t630.length : Int)) = true := decide_eq_true c111
                                have c111b1 : decide (0 < t630.length) = true := decide_eq_true (by omega)
                                clear c111
                                replace H := nz H; obtain ⟨c112, H⟩ := H
                                have c112b0 : ((rdOf ByteArray.empty t630 0).toList == t649.toList) = true := beq_iff_eq.mpr c112
                                have c112b1 : ((rdOf ByteArray.empty t630 0).toList != t649.toList) = false := bne_eq_false_iff_eq.mpr c112
                                clear c112
                                replace H := nz' H; obtain ⟨c113, H⟩ := H
                                have c113b0 : decide (t638 < 1) = false := decide_eq_false c113
                                clear c113
                                replace H := nz' H; obtain ⟨c114, H⟩ := H
                                have c114b0 : decide (t642 < 1) = false := decide_eq_false c114
                                clear c114
                                replace H := nz' H; obtain ⟨c115, H⟩ := H
                                have c115b0 : decide (t638 < t642) = false := decide_eq_false c115
                                clear c115
                                obtain rfl := Option.some.inj H
                                go_upto_region 23 with (first | ((with_reducible refine gate_callee (f := 17) rfl ?_); refine goesL_ (some 232) rfl rfl Tryz.func17 (by kernel_rfl) rfl #[.slice A1 l1.length c1] rfl lM ?_; (with_reducible refine (spec_DrawFirstWhole.calls _ _ l1 t627 t628 _ ?side1 ?side2 A89.out).mono ?_); (case side1 => exact cS (Kd.C_below HR1.out HB.out)); (case side2 => exact HC1.out); rintro e w116 ⟨rfl, hb⟩; refine ⟨_, rfl, ?_⟩; replace BK599 := bW BK599 hb; replace HB := Aside0.mk (below_step bG hb); (try clear hb)) | ((with_reducible refine gate_dst (N := 27) rfl ?_); (try (refine gate_guard (by rfl) ?_; dsimp only)); refine box_event ?hg (N := 27) ?hd (cs := #[.int .i64 0, .int .i64 0]) (t := 25) ?hr ?_; (case hd => rfl); (case hg => rfl); (case hr => first | (go_simp; done) | (go_simp; rfl)); intro gb629 hg w117 hbox hb; have n0_ := Aside0.mk (blk_below (g := gb599) (o := .cells #[.int .i64 t594, .int .i64 t595] 25 (0, 0)) bK hb); have n1_ := Aside0.mk (below_step bG hb); have n2_ := Aside0.mk (hbox); have n3_ := Aside0.mk ((by rw [hg]; exact (below_size bG) : w.heap.size ≤ gb629)); have n4_ := Aside0.mk ((by rw [hg]; exact (below_size bG) : w.heap.size ≤ gb629)); have n5_ := Aside0.mk ((by rw [hg]; exact Nat.ne_of_lt (blk_lt (g := gb599) (o := .cells #[.int .i64 t594, .int .i64 t595] 25 (0, 0)) bK) : gb599 ≠ gb629)); have n6_ := Aside0.mk ((by rw [hg]; exact Nat.ne_of_gt (blk_lt (g := gb599) (o := .cells #[.int .i64 t594, .int .i64 t595] 25 (0, 0)) bK) : gb629 ≠ gb599)); clear BK599; clear HB; have BK599 := n0_; have HB := n1_; have BK629 := n2_; have GW629 := n3_; have GE629 := n4_; have NB599_629 := n5_; have NB629_599 := n6_; clear n0_ n1_ n2_ n3_ n4_ n5_ n6_; clear hb hbox hg; have hnb118 := NB629_599.out; have hnc118 := NB599_629.out; have hcz119_0 := cZ BK629 0 (.int .i64 0); have hcz119_1 := cZ BK629 1 (.int .i64 0); have hfz119_0 := blk_frozen BK629.out 0; have hfz119_1 := blk_frozen BK629.out 1))
                                as_aux_lemma =>
                                 go_upto_region 24 with (first | ((with_reducible refine gate_callee (f := 18) rfl ?_); refine goesL_ (some 235) rfl rfl Tryz.func18 (by kernel_rfl) rfl #[.agg #[.int .i64 t627, .int .i64 t628]] rfl lM ?_; (with_reducible refine (impl_FirstWhole.calls kj81 t627 t628 t630 true _ A90.out).mono ?_); rintro e w120 ⟨v631, rfl, ho0, hb⟩; refine ⟨_, rfl, ?_⟩; have HO632 := Aside0.mk (Kd.R_lower ho0 (below_size bG)); replace BK599 := Aside0.mk (blk_below (g := gb599) (o := .cells #[.int .i64 t594, .int .i64 t595] 25 (0, 0)) (by (with_reducible repeat (first | refine blk_drewN ?_ _ | refine blk_drew ?_ | refine blk_alloc ?_ _)); refine blk_far ?_ NB599_629.out _; (with_reducible repeat (first | refine blk_drewN ?_ _ | refine blk_drew ?_ | refine blk_alloc ?_ _)); refine blk_far ?_ NB599_629.out _; (with_reducible repeat (first | refine blk_drewN ?_ _ | refine blk_drew ?_ | refine blk_alloc ?_ _)); exact BK599.out) hb); replace BK629 := Aside0.mk (blk_below (g := gb629) (o := .cells #[.int .i64 t627, .int .i64 t628] 25 (0, 0)) (by (with_reducible repeat (first | refine blk_drewN ?_ _ | refine blk_drew ?_ | refine blk_alloc ?_ _)); refine blk_put (cs := #[.int .i64 t627, .int .i64 0]) ?_ 1 _ rfl; (with_reducible repeat (first | refine blk_drewN ?_ _ | refine blk_drew ?_ | refine blk_alloc ?_ _)); refine blk_put (cs := #[.int .i64 0, .int .i64 0]) ?_ 0 _ rfl; (with_reducible repeat (first | refine blk_drewN ?_ _ | refine blk_drew ?_ | refine blk_alloc ?_ _)); exact BK629.out) hb); replace HB := Aside0.mk (below_step bG hb); (try clear hb); (try clear ho0); have hcz121_0 := cZ BK629 0 (.int .i64 t627); have hcz121_1 := cZ BK629 1 (.int .i64 t628); have hfz121_0 := blk_frozen BK629.out 0; have hfz121_1 := blk_frozen BK629.out 1))
                                 as_aux_lemma =>
                                  go_upto_region 25 with (first | ((with_reducible refine gate_callee (f := 19) rfl ?_); refine goesL_ (some 240) rfl rfl Tryz.func19 (by kernel_rfl) rfl #[.agg #[.int .i64 t627, .int .i64 t628]] rfl lM ?_; (with_reducible refine (spec_FirstWhole.calls kj81 t627 t628 t634 t637 _ A91.out).mono ?_); rintro e w122 ⟨v635, rfl, ho0, hb⟩; refine ⟨_, rfl, ?_⟩; have n0_ := Aside0.mk (Kd.R_elder' (kR HO632) (Kd.R_base ho0) hb); have n1_ := Aside0.mk (Kd.R_lower (Kd.R_new' ho0 (Kd.R_lt (kR HO632))) (below_size bG)); have n2_ := Aside0.mk (blk_below (g := gb599) (o := .cells #[.int .i64 t594, .int .i64 t595] 25 (0, 0)) bK hb); have n3_ := Aside0.mk (blk_below (g := gb629) (o := .cells #[.int .i64 t627, .int .i64 t628] 25 (0, 0)) bK hb); have n4_ := Aside0.mk (below_step bG hb); clear HO632; clear BK599; clear BK629; clear HB; have HO632 := n0_; have HO636 := n1_; have BK599 := n2_; have BK629 := n3_; have HB := n4_; clear n0_ n1_ n2_ n3_ n4_; (try clear hb); (try clear ho0); have hcz123_0 := cZ BK629 0 (.int .i64 t627); have hcz123_1 := cZ BK629 1 (.int .i64 t628); have hfz123_0 := blk_frozen BK629.out 0; have hfz123_1 := blk_frozen BK629.out 1))
                                  as_aux_lemma =>
                                   go_upto_region 26 with (first | ((with_reducible refine gate_callee (f := 20) rfl ?_); refine goesL_ (some 245) rfl rfl Tryz.func20 (by kernel_rfl) rfl #[.agg #[.int .i64 t627, .int .i64 t628]] rfl lM ?_; (with_reducible refine (impl_CountWhole.calls kj81 t627 t628 t638 t639 _ A92.out).mono ?_); rintro e w124 ⟨rfl, hb⟩; refine ⟨_, rfl, ?_⟩; have n0_ := Aside0.mk (Kd.R_below (kR HO632) hb); have n1_ := Aside0.mk (Kd.R_below (kR HO636) hb); have n2_ := Aside0.mk (blk_below (g := gb599) (o := .cells #[.int .i64 t594, .int .i64 t595] 25 (0, 0)) bK hb); have n3_ := Aside0.mk (blk_below (g := gb629) (o := .cells #[.int .i64 t627, .int .i64 t628] 25 (0, 0)) bK hb); have n4_ := Aside0.mk (below_step bG hb); clear HO632; clear HO636; clear BK599; clear BK629; clear HB; have HO632 := n0_; have HO636 := n1_; have BK599 := n2_; have BK629 := n3_; have HB := n4_; clear n0_ n1_ n2_ n3_ n4_; (try clear hb); have hcz125_0 := cZ BK629 0 (.int .i64 t627); have hcz125_1 := cZ BK629 1 (.int .i64 t628); have hfz125_0 := blk_frozen BK629.out 0; have hfz125_1 := blk_frozen BK629.out 1))
                                   as_aux_lemma =>
                                    go_upto_region 27 with (first | ((with_reducible refine gate_callee (f := 21) rfl ?_); refine goesL_ (some 250) rfl rfl Tryz.func21 (by kernel_rfl) rfl #[.agg #[.int .i64 t627, .int .i64 t628]] rfl lM ?_; (with_reducible refine (spec_CountWhole.calls kj81 t627 t628 t640 t641 _ A93.out).mono ?_); rintro e w126 ⟨rfl, hb⟩; refine ⟨_, rfl, ?_⟩; have n0_ := Aside0.mk (Kd.R_below (kR HO632) hb); have n1_ := Aside0.mk (Kd.R_below (kR HO636) hb); have n2_ := Aside0.mk (blk_below (g := gb599) (o := .cells #[.int .i64 t594, .int .i64 t595] 25 (0, 0)) bK hb); have n3_ := Aside0.mk (blk_below (g := gb629) (o := .cells #[.int .i64 t627, .int .i64 t628] 25 (0, 0)) bK hb); have n4_ := Aside0.mk (below_step bG hb); clear HO632; clear HO636; clear BK599; clear BK629; clear HB; have HO632 := n0_; have HO636 := n1_; have BK599 := n2_; have BK629 := n3_; have HB := n4_; clear n0_ n1_ n2_ n3_ n4_; (try clear hb); have hcz127_0 := cZ BK629 0 (.int .i64 t627); have hcz127_1 := cZ BK629 1 (.int .i64 t628); have hfz127_0 := blk_frozen BK629.out 0; have hfz127_1 := blk_frozen BK629.out 1))
                                    as_aux_lemma =>
                                     go_upto_region 28 with (first | ((with_reducible refine gate_callee (f := 22) rfl ?_); refine goesL_ (some 255) rfl rfl Tryz.func22 (by kernel_rfl) rfl #[.agg #[.int .i64 t627, .int .i64 t628]] rfl lM ?_; (with_reducible refine (impl_CountClosed.calls kj81 t627 t628 t642 t643 _ A94.out).mono ?_); rintro e w128 ⟨rfl, hb⟩; refine ⟨_, rfl, ?_⟩; have n0_ := Aside0.mk (Kd.R_below (kR HO632) hb); have n1_ := Aside0.mk (Kd.R_below (kR HO636) hb); have n2_ := Aside0.mk (blk_below (g := gb599) (o := .cells #[.int .i64 t594, .int .i64 t595] 25 (0, 0)) bK hb); have n3_ := Aside0.mk (blk_below (g := gb629) (o := .cells #[.int .i64 t627, .int .i64 t628] 25 (0, 0)) bK hb); have n4_ := Aside0.mk (below_step bG hb); clear HO632; clear HO636; clear BK599; clear BK629; clear HB; have HO632 := n0_; have HO636 := n1_; have BK599 := n2_; have BK629 := n3_; have HB := n4_; clear n0_ n1_ n2_ n3_ n4_; (try clear hb); have hcz129_0 := cZ BK629 0 (.int .i64 t627); have hcz129_1 := cZ BK629 1 (.int .i64 t628); have hfz129_0 := blk_frozen BK629.out 0; have hfz129_1 := blk_frozen BK629.out 1))
                                     go_upto_region 29 with (first | ((with_reducible refine gate_callee (f := 23) rfl ?_); refine goesL_ (some 260) rfl rfl Tryz.func23 (by kernel_rfl) rfl #[.agg #[.int .i64 t627, .int .i64 t628]] rfl lM ?_; (with_reducible refine (spec_CountClosed.calls kj81 t627 t628 t644 t645 _ A95.out).mono ?_); rintro e w130 ⟨rfl, hb⟩; refine ⟨_, rfl, ?_⟩; have n0_ := Aside0.mk (Kd.R_below (kR HO632) hb); have n1_ := Aside0.mk (Kd.R_below (kR HO636) hb); have n2_ := Aside0.mk (blk_below (g := gb599) (o := .cells #[.int .i64 t594, .int .i64 t595] 25 (0, 0)) bK hb); have n3_ := Aside0.mk (blk_below (g := gb629) (o := .cells #[.int .i64 t627, .int .i64 t628] 25 (0, 0)) bK hb); have n4_ := Aside0.mk (below_step bG hb); clear HO632; clear HO636; clear BK599; clear BK629; clear HB; have HO632 := n0_; have HO636 := n1_; have BK599 := n2_; have BK629 := n3_; have HB := n4_; clear n0_ n1_ n2_ n3_ n4_; (try clear hb); obtain ⟨Ao131, co131, eo131⟩ := Kd.R_slice HO632.out; subst eo131; obtain ⟨Ao132, co132, eo132⟩ := Kd.R_slice HO636.out; subst eo132))
                                     go_upto_region 32 with (first | (go_at_call 24; (with_reducible refine (laws_aTexts.calls kj81 _ _ t630 _ _ t634 true _ ?side1 ?side2 ?side3 ?side4 A97.out).mono ?_); (case side1 => exact cS ((Kd.R_reads' HO632.out).2.2)); (case side2 => exact (Kd.R_reads' HO632.out).2.1); (case side3 => exact cS ((Kd.R_reads' HO636.out).2.2)); (case side4 => exact (Kd.R_reads' HO636.out).2.1); rintro e w' ⟨rfl, ⟨nd, rfl⟩⟩; have hcz133_0 := cZ BK629 0 (.int .i64 t627); have hcz133_1 := cZ BK629 1 (.int .i64 t628); have hfz133_0 := blk_frozen BK629.out 0; have hfz133_1 := blk_frozen BK629.out 1))
                                     go_upto_region 33 with (first | ((with_reducible refine gate_callee (f := 8) rfl ?_); refine goesL_ (some 306) rfl rfl Tryz.func8 (by kernel_rfl) rfl #[.agg #[.int .i64 t627, .int .i64 t628], .slice Ao131 t630.length co131] rfl lM ?_; (with_reducible refine (impl_IsWholeOrder.calls kj81 t627 t628 _ _ t630 true true _ ?side1 ?side2 A106.out).mono ?_); (case side1 => exact cS ((Kd.R_reads' HO632.out).2.2)); (case side2 => exact (Kd.R_reads' HO632.out).2.1); rintro e w134 ⟨rfl, hb⟩; refine ⟨_, rfl, ?_⟩; have n0_ := Aside0.mk (Kd.R_below (kR HO632) hb); have n1_ := Aside0.mk (Kd.R_below (kR HO636) hb); have n2_ := Aside0.mk (blk_below (g := gb599) (o := .cells #[.int .i64 t594, .int .i64 t595] 25 (0, 0)) bK hb); have n3_ := Aside0.mk (blk_below (g := gb629) (o := .cells #[.int .i64 t627, .int .i64 t628] 25 (0, 0)) bK hb); have n4_ := Aside0.mk (below_step bG hb); clear HO632; clear HO636; clear BK599; clear BK629; clear HB; have HO632 := n0_; have HO636 := n1_; have BK599 := n2_; have BK629 := n3_; have HB := n4_; clear n0_ n1_ n2_ n3_ n4_; (try clear hb); have hcz135_0 := cZ BK629 0 (.int .i64 t627); have hcz135_1 := cZ BK629 1 (.int .i64 t628); have hfz135_0 := blk_frozen BK629.out 0; have hfz135_1 := blk_frozen BK629.out 1))
                                     try go_wp2_with (first | ((with_reducible refine gate_callee (f := 25) rfl ?_); refine goesL_ (some 311) rfl rfl Tryz.func25 (by kernel_rfl) rfl #[.agg #[.int .i64 t627, .int .i64 t628]] rfl lM ?_; (with_reducible refine (impl_ZeroCode.calls kj81 t627 t628 t649 true _ A107.out).mono ?_); rintro e w136 ⟨rfl, hb⟩; refine ⟨_, rfl, ?_⟩; have n0_ := Aside0.mk (Kd.R_below (kR HO632) hb); have n1_ := Aside0.mk (Kd.R_below (kR HO636) hb); have n2_ := Aside0.mk (blk_below (g := gb599) (o := .cells #[.int .i64 t594, .int .i64 t595] 25 (0, 0)) bK hb); have n3_ := Aside0.mk (blk_below (g := gb629) (o := .cells #[.int .i64 t627, .int .i64 t628] 25 (0, 0)) bK hb); have n4_ := Aside0.mk (below_step bG hb); clear HO632; clear HO636; clear BK599; clear BK629; clear HB; have HO632 := n0_; have HO636 := n1_; have BK599 := n2_; have BK629 := n3_; have HB := n4_; clear n0_ n1_ n2_ n3_ n4_; (try clear hb); have p651 : 0 ≤ (0 : Int) := (by omega); have q651 : 0 < (t630.length : Int) := oD; obtain ⟨ad651, e651, hx651_0⟩ := Kd.at_string (Kd.R_reads' HO632.out).2.2 0 p651 q651; cases e651; have qi651 : (0 < t630.length) = True := eq_true (by omega); (try rw [show ((0 : Int)).toNat = 0 from rfl] at hx651_0); (try rw [Addr.add_zero'] at hx651_0); replace p651 := eq_true p651; replace q651 := eq_true q651))
                                     go_ret
                                     exact ⟨rE, bG⟩
                               ·replace c110 := Bool.eq_false_iff.mpr c110
                                subst c110
                                replace H := zf H
                                exact absurd H (by simp)
                              ·replace c109 := Bool.eq_false_iff.mpr c109
                               subst c109
                               replace H := zf H
                               exact absurd H (by simp)
                             ·replace c108 := Bool.eq_false_iff.mpr c108
                              subst c108
                              replace H := zf H
                              exact absurd H (by simp)
                            ·replace c105 := Bool.eq_false_iff.mpr c105
                             subst c105
                             replace H := zf H
                             obtain rfl := Option.some.inj H
                             go_upto_region 23 with (first | ((with_reducible refine gate_callee (f := 17) rfl ?_); refine goesL_ (some 232) rfl rfl Tryz.func17 (by kernel_rfl) rfl #[.slice A1 l1.length c1] rfl lM ?_; (with_reducible refine (spec_DrawFirstWhole.calls _ _ l1 t627 t628 _ ?side1 ?side2 A89.out).mono ?_); (case side1 => exact cS (Kd.C_below HR1.out HB.out)); (case side2 => exact HC1.out); rintro e w137 ⟨rfl, hb⟩; refine ⟨_, rfl, ?_⟩; replace BK599 := bW BK599 hb; replace HB := Aside0.mk (below_step bG hb); (try clear hb)) | ((with_reducible refine gate_dst (N := 27) rfl ?_); (try (refine gate_guard (by rfl) ?_; dsimp only)); refine box_event ?hg (N := 27) ?hd (cs := #[.int .i64 0, .int .i64 0]) (t := 25) ?hr ?_; (case hd => rfl); (case hg => rfl); (case hr => first | (go_simp; done) | (go_simp; rfl)); intro gb629 hg w138 hbox hb; have n0_ := Aside0.mk (blk_below (g := gb599) (o := .cells #[.int .i64 t594, .int .i64 t595] 25 (0, 0)) bK hb); have n1_ := Aside0.mk (below_step bG hb); have n2_ := Aside0.mk (hbox); have n3_ := Aside0.mk ((by rw [hg]; exact (below_size bG) : w.heap.size ≤ gb629)); have n4_ := Aside0.mk ((by rw [hg]; exact (below_size bG) : w.heap.size ≤ gb629)); have n5_ := Aside0.mk ((by rw [hg]; exact Nat.ne_of_lt (blk_lt (g := gb599) (o := .cells #[.int .i64 t594, .int .i64 t595] 25 (0, 0)) bK) : gb599 ≠ gb629)); have n6_ := Aside0.mk ((by rw [hg]; exact Nat.ne_of_gt (blk_lt (g := gb599) (o := .cells #[.int .i64 t594, .int .i64 t595] 25 (0, 0)) bK) : gb629 ≠ gb599)); clear BK599; clear HB; have BK599 := n0_; have HB := n1_; have BK629 := n2_; have GW629 := n3_; have GE629 := n4_; have NB599_629 := n5_; have NB629_599 := n6_; clear n0_ n1_ n2_ n3_ n4_ n5_ n6_; clear hb hbox hg; have hnb139 := NB629_599.out; have hnc139 := NB599_629.out; have hcz140_0 := cZ BK629 0 (.int .i64 0); have hcz140_1 := cZ BK629 1 (.int .i64 0); have hfz140_0 := blk_frozen BK629.out 0; have hfz140_1 := blk_frozen BK629.out 1))
                             as_aux_lemma =>
                              go_upto_region 24 with (first | ((with_reducible refine gate_callee (f := 18) rfl ?_); refine goesL_ (some 235) rfl rfl Tryz.func18 (by kernel_rfl) rfl #[.agg #[.int .i64 t627, .int .i64 t628]] rfl lM ?_; (with_reducible refine (impl_FirstWhole.calls kj81 t627 t628 t630 false _ A90.out).mono ?_); rintro e w141 ⟨v631, rfl, ho0, hb⟩; refine ⟨_, rfl, ?_⟩; have HO632 := Aside0.mk (Kd.R_lower ho0 (below_size bG)); replace BK599 := Aside0.mk (blk_below (g := gb599) (o := .cells #[.int .i64 t594, .int .i64 t595] 25 (0, 0)) (by (with_reducible repeat (first | refine blk_drewN ?_ _ | refine blk_drew ?_ | refine blk_alloc ?_ _)); refine blk_far ?_ NB599_629.out _; (with_reducible repeat (first | refine blk_drewN ?_ _ | refine blk_drew ?_ | refine blk_alloc ?_ _)); refine blk_far ?_ NB599_629.out _; (with_reducible repeat (first | refine blk_drewN ?_ _ | refine blk_drew ?_ | refine blk_alloc ?_ _)); exact BK599.out) hb); replace BK629 := Aside0.mk (blk_below (g := gb629) (o := .cells #[.int .i64 t627, .int .i64 t628] 25 (0, 0)) (by (with_reducible repeat (first | refine blk_drewN ?_ _ | refine blk_drew ?_ | refine blk_alloc ?_ _)); refine blk_put (cs := #[.int .i64 t627, .int .i64 0]) ?_ 1 _ rfl; (with_reducible repeat (first | refine blk_drewN ?_ _ | refine blk_drew ?_ | refine blk_alloc ?_ _)); refine blk_put (cs := #[.int .i64 0, .int .i64 0]) ?_ 0 _ rfl; (with_reducible repeat (first | refine blk_drewN ?_ _ | refine blk_drew ?_ | refine blk_alloc ?_ _)); exact BK629.out) hb); replace HB := Aside0.mk (below_step bG hb); (try clear hb); (try clear ho0); have hcz142_0 := cZ BK629 0 (.int .i64 t627); have hcz142_1 := cZ BK629 1 (.int .i64 t628); have hfz142_0 := blk_frozen BK629.out 0; have hfz142_1 := blk_frozen BK629.out 1))
                              as_aux_lemma =>
                               go_upto_region 25 with (first | ((with_reducible refine gate_callee (f := 19) rfl ?_); refine goesL_ (some 240) rfl rfl Tryz.func19 (by kernel_rfl) rfl #[.agg #[.int .i64 t627, .int .i64 t628]] rfl lM ?_; (with_reducible refine (spec_FirstWhole.calls kj81 t627 t628 t634 t637 _ A91.out).mono ?_); rintro e w143 ⟨v635, rfl, ho0, hb⟩; refine ⟨_, rfl, ?_⟩; have n0_ := Aside0.mk (Kd.R_elder' (kR HO632) (Kd.R_base ho0) hb); have n1_ := Aside0.mk (Kd.R_lower (Kd.R_new' ho0 (Kd.R_lt (kR HO632))) (below_size bG)); have n2_ := Aside0.mk (blk_below (g := gb599) (o := .cells #[.int .i64 t594, .int .i64 t595] 25 (0, 0)) bK hb); have n3_ := Aside0.mk (blk_below (g := gb629) (o := .cells #[.int .i64 t627, .int .i64 t628] 25 (0, 0)) bK hb); have n4_ := Aside0.mk (below_step bG hb); clear HO632; clear BK599; clear BK629; clear HB; have HO632 := n0_; have HO636 := n1_; have BK599 := n2_; have BK629 := n3_; have HB := n4_; clear n0_ n1_ n2_ n3_ n4_; (try clear hb); (try clear ho0); have hcz144_0 := cZ BK629 0 (.int .i64 t627); have hcz144_1 := cZ BK629 1 (.int .i64 t628); have hfz144_0 := blk_frozen BK629.out 0; have hfz144_1 := blk_frozen BK629.out 1))
                               as_aux_lemma =>
                                go_upto_region 26 with (first | ((with_reducible refine gate_callee (f := 20) rfl ?_); refine goesL_ (some 245) rfl rfl Tryz.func20 (by kernel_rfl) rfl #[.agg #[.int .i64 t627, .int .i64 t628]] rfl lM ?_; (with_reducible refine (impl_CountWhole.calls kj81 t627 t628 t638 t639 _ A92.out).mono ?_); rintro e w145 ⟨rfl, hb⟩; refine ⟨_, rfl, ?_⟩; have n0_ := Aside0.mk (Kd.R_below (kR HO632) hb); have n1_ := Aside0.mk (Kd.R_below (kR HO636) hb); have n2_ := Aside0.mk (blk_below (g := gb599) (o := .cells #[.int .i64 t594, .int .i64 t595] 25 (0, 0)) bK hb); have n3_ := Aside0.mk (blk_below (g := gb629) (o := .cells #[.int .i64 t627, .int .i64 t628] 25 (0, 0)) bK hb); have n4_ := Aside0.mk (below_step bG hb); clear HO632; clear HO636; clear BK599; clear BK629; clear HB; have HO632 := n0_; have HO636 := n1_; have BK599 := n2_; have BK629 := n3_; have HB := n4_; clear n0_ n1_ n2_ n3_ n4_; (try clear hb); have hcz146_0 := cZ BK629 0 (.int .i64 t627); have hcz146_1 := cZ BK629 1 (.int .i64 t628); have hfz146_0 := blk_frozen BK629.out 0; have hfz146_1 := blk_frozen BK629.out 1))
                                go_upto_region 27 with (first | ((with_reducible refine gate_callee (f := 21) rfl ?_); refine goesL_ (some 250) rfl rfl Tryz.func21 (by kernel_rfl) rfl #[.agg #[.int .i64 t627, .int .i64 t628]] rfl lM ?_; (with_reducible refine (spec_CountWhole.calls kj81 t627 t628 t640 t641 _ A93.out).mono ?_); rintro e w147 ⟨rfl, hb⟩; refine ⟨_, rfl, ?_⟩; have n0_ := Aside0.mk (Kd.R_below (kR HO632) hb); have n1_ := Aside0.mk (Kd.R_below (kR HO636) hb); have n2_ := Aside0.mk (blk_below (g := gb599) (o := .cells #[.int .i64 t594, .int .i64 t595] 25 (0, 0)) bK hb); have n3_ := Aside0.mk (blk_below (g := gb629) (o := .cells #[.int .i64 t627, .int .i64 t628] 25 (0, 0)) bK hb); have n4_ := Aside0.mk (below_step bG hb); clear HO632; clear HO636; clear BK599; clear BK629; clear HB; have HO632 := n0_; have HO636 := n1_; have BK599 := n2_; have BK629 := n3_; have HB := n4_; clear n0_ n1_ n2_ n3_ n4_; (try clear hb); have hcz148_0 := cZ BK629 0 (.int .i64 t627); have hcz148_1 := cZ BK629 1 (.int .i64 t628); have hfz148_0 := blk_frozen BK629.out 0; have hfz148_1 := blk_frozen BK629.out 1))
                                go_upto_region 28 with (first | ((with_reducible refine gate_callee (f := 22) rfl ?_); refine goesL_ (some 255) rfl rfl Tryz.func22 (by kernel_rfl) rfl #[.agg #[.int .i64 t627, .int .i64 t628]] rfl lM ?_; (with_reducible refine (impl_CountClosed.calls kj81 t627 t628 t642 t643 _ A94.out).mono ?_); rintro e w149 ⟨rfl, hb⟩; refine ⟨_, rfl, ?_⟩; have n0_ := Aside0.mk (Kd.R_below (kR HO632) hb); have n1_ := Aside0.mk (Kd.R_below (kR HO636) hb); have n2_ := Aside0.mk (blk_below (g := gb599) (o := .cells #[.int .i64 t594, .int .i64 t595] 25 (0, 0)) bK hb); have n3_ := Aside0.mk (blk_below (g := gb629) (o := .cells #[.int .i64 t627, .int .i64 t628] 25 (0, 0)) bK hb); have n4_ := Aside0.mk (below_step bG hb); clear HO632; clear HO636; clear BK599; clear BK629; clear HB; have HO632 := n0_; have HO636 := n1_; have BK599 := n2_; have BK629 := n3_; have HB := n4_; clear n0_ n1_ n2_ n3_ n4_; (try clear hb); have hcz150_0 := cZ BK629 0 (.int .i64 t627); have hcz150_1 := cZ BK629 1 (.int .i64 t628); have hfz150_0 := blk_frozen BK629.out 0; have hfz150_1 := blk_frozen BK629.out 1))
                                go_upto_region 29 with (first | ((with_reducible refine gate_callee (f := 23) rfl ?_); refine goesL_ (some 260) rfl rfl Tryz.func23 (by kernel_rfl) rfl #[.agg #[.int .i64 t627, .int .i64 t628]] rfl lM ?_; (with_reducible refine (spec_CountClosed.calls kj81 t627 t628 t644 t645 _ A95.out).mono ?_); rintro e w151 ⟨rfl, hb⟩; refine ⟨_, rfl, ?_⟩; have n0_ := Aside0.mk (Kd.R_below (kR HO632) hb); have n1_ := Aside0.mk (Kd.R_below (kR HO636) hb); have n2_ := Aside0.mk (blk_below (g := gb599) (o := .cells #[.int .i64 t594, .int .i64 t595] 25 (0, 0)) bK hb); have n3_ := Aside0.mk (blk_below (g := gb629) (o := .cells #[.int .i64 t627, .int .i64 t628] 25 (0, 0)) bK hb); have n4_ := Aside0.mk (below_step bG hb); clear HO632; clear HO636; clear BK599; clear BK629; clear HB; have HO632 := n0_; have HO636 := n1_; have BK599 := n2_; have BK629 := n3_; have HB := n4_; clear n0_ n1_ n2_ n3_ n4_; (try clear hb); obtain ⟨Ao152, co152, eo152⟩ := Kd.R_slice HO632.out; subst eo152; obtain ⟨Ao153, co153, eo153⟩ := Kd.R_slice HO636.out; subst eo153))
                                try go_wp2_with (first | (go_at_call 24; (with_reducible refine (laws_aTexts.calls kj81 _ _ t630 _ _ t634 true _ ?side1 ?side2 ?side3 ?side4 A97.out).mono ?_); (case side1 => exact cS ((Kd.R_reads' HO632.out).2.2)); (case side2 => exact (Kd.R_reads' HO632.out).2.1); (case side3 => exact cS ((Kd.R_reads' HO636.out).2.2)); (case side4 => exact (Kd.R_reads' HO636.out).2.1); rintro e w' ⟨rfl, ⟨nd, rfl⟩⟩))
                                go_ret
                                exact ⟨rE, bG⟩
                           ·replace c98 := Bool.eq_false_iff.mpr c98
                            subst c98
                            replace H := zf H
                            exact absurd H (by simp)
/-- THE ONE PURE STATEMENT of laws_FnOrdersWhole: yours. -/
def laws_FnOrdersWhole.Pure : Prop := ∀ (l0 : List Int) (l1 : List Int), l0.length ≤ maxLen → l0.length * 1 ≤ 140737488351232 → (∀ x ∈ l0, (Lit.int .u8 x).wf = true) → l1.length ≤ maxLen → l1.length * 1 ≤ 140737488351232 → (∀ x ∈ l1, (Lit.int .u8 x).wf = true) → ∃ k, laws_FnOrdersWhole.f k l0 l1 = some true
theorem laws_FnOrdersWhole.walk (P : laws_FnOrdersWhole.Pure) (a0 : Option Addr) (len0 cap0 : Nat) (z0 : List Int) (a1 : Option Addr) (len1 cap1 : Nat) (z1 : List Int) (w : World) (w0 : (a0 = none ∧ len0 = 0 ∧ cap0 = 0 ∧ z0 = []) ∨ ∃ x, a0 = some x ∧ len0 ≤ cap0 ∧ cap0 ≤ maxLen ∧ z0.length = cap0 ∧ (∀ i, i < z0.length → w.cell? (x.add i) = some (.int .u8 (z0.getD i 0))) ∧ ∀ n ∈ z0, (Lit.int .u8 n).wf = true) (y0 : len0 * 1 ≤ 140737488351232) (w1 : (a1 = none ∧ len1 = 0 ∧ cap1 = 0 ∧ z1 = []) ∨ ∃ x, a1 = some x ∧ len1 ≤ cap1 ∧ cap1 ≤ maxLen ∧ z1.length = cap1 ∧ (∀ i, i < z1.length → w.cell? (x.add i) = some (.int .u8 (z1.getD i 0))) ∧ ∀ n ∈ z1, (Lit.int .u8 n).wf = true) (y1 : len1 * 1 ≤ 140737488351232) :
  Calls Tryz.prog 3 #[.slice a0 len0 cap0, .slice a1 len1 cap1] w fun e w' => e = .returned (.bool true) ∧ Below w.heap.size w w' := by
 obtain ⟨l0, rfl, hr0, hm0, hw0, hc0⟩ := ReadsInt.ofRowC w0
 obtain ⟨l1, rfl, hr1, hm1, hw1, hc1⟩ := ReadsInt.ofRowC w1
 obtain ⟨k, h⟩ := P l0 l1 hm0 y0 hw0 hm1 y1 hw1
 refine (laws_FnOrdersWhole.calls k _ _ l0 _ _ l1 true w (Kd.C_of_reads (d := (0 : Int)) (h1 := fun _ => rfl) hr0) hc0 (Kd.C_of_reads (d := (0 : Int)) (h1 := fun _ => rfl) hr1) hc1 h).mono ?_
 rintro e w' ⟨rfl, hd⟩
 exact ⟨rfl, hd⟩

end Go.Proofs.YthpmpkmdjpaemaaGreat.P
