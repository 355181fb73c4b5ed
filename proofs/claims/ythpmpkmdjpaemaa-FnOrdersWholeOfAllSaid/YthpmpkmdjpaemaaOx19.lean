-- Printed by hp.py, a program of this session: a machine's side of laws, out of the translation; Lean checks it.
import Derived.Test.YthpmpkmdjpaemaaOx0
import Derived.Test.YthpmpkmdjpaemaaOx3
import Derived.Test.YthpmpkmdjpaemaaOx6
import Derived.Test.YthpmpkmdjpaemaaOx7
import Derived.Test.YthpmpkmdjpaemaaOx8
import Derived.Test.YthpmpkmdjpaemaaOx9
import Derived.Test.YthpmpkmdjpaemaaOx10
import Derived.Test.YthpmpkmdjpaemaaOx13
import Derived.Test.YthpmpkmdjpaemaaOx17
import Derived.Test.YthpmpkmdjpaemaaOx18
namespace Go.Proofs.Ythpmpkmdjpaemaa.O
open Go.RowKit Go.Proofs.YthpmpkmdjpaemaaW.PrintWords Go.Proofs.YthpmpkmdjpaemaaW.PrintLast Go.Proofs.YthpmpkmdjpaemaaW.PrintMore
attribute [local go_sem] max2_int min2_int max_two min_two max_three min_three max_four min_four   -- for this text's walks alone
set_option linter.unusedVariables false
set_option linter.unusedSimpArgs false

/-! ### laws_FnOrdersWholeOfAll: function 3 -/
mutual
def laws_FnOrdersWholeOfAll.j0 : Nat → List ByteArray → Bool → Bool → List (S46) → Bool → Bool → Int → Int → Int → Int → Option (Bool)
 | 0, _, _, _, _, _, _, _, _, _, _ => none
 | k + 1, x1, x8, x11, x19, x20, x167, x509000, x509001, x510000, x510001 => if x167 = true then (none) else (if x20 = true then (laws_FnOrdersWholeOfAll.j1 k x1 x8 x11 x19 (decide ((x1.length : Int) > 0)) x509000 x509001 x510000 x510001) else (laws_FnOrdersWholeOfAll.j1 k x1 x8 x11 x19 false x509000 x509001 x510000 x510001))
def laws_FnOrdersWholeOfAll.j1 : Nat → List ByteArray → Bool → Bool → List (S46) → Bool → Int → Int → Int → Int → Option (Bool)
 | 0, _, _, _, _, _, _, _, _, _ => none
 | k + 1, x1, x8, x11, x19, x173, x509000, x509001, x510000, x510001 => if x173 = true then (if 0 < (x1.length : Int) then ((impl_TurnWheels.f k x509000 x509001 (rdOf ByteArray.empty x1 0) x19).bind fun bt532 => (if (x19.length : Int) ≤ 200 then (if bt532.2 = true then (if 0 ≤ (wrap64 ((x1.length : Int) - 1)) then (if (wrap64 ((x1.length : Int) - 1)) < (x1.length : Int) then (if bt532.1.toList = (rdOf ByteArray.empty x1 (wrap64 ((x1.length : Int) - 1))).toList then (if (x19.length : Int) = (wrap64 ((x1.length : Int) - 1)) then (laws_FnOrdersWholeOfAll.j2 k x1 x8 x11 x509000 x509001 x510000 x510001) else (none)) else (none)) else (none)) else (none)) else (none)) else (if (x19.length : Int) = (wrap64 ((x1.length : Int) - 1)) then (laws_FnOrdersWholeOfAll.j2 k x1 x8 x11 x509000 x509001 x510000 x510001) else (none)))) else (none)) else (laws_FnOrdersWholeOfAll.j2 k x1 x8 x11 x509000 x509001 x510000 x510001)
def laws_FnOrdersWholeOfAll.j2 : Nat → List ByteArray → Bool → Bool → Int → Int → Int → Int → Option (Bool)
 | 0, _, _, _, _, _, _, _ => none
 | k + 1, x1, x8, x11, x509000, x509001, x510000, x510001 => if x8 = true then (laws_FnOrdersWholeOfAll.j3 k x1 x11 x509000 x509001 x510000 x510001) else (laws_FnOrdersWholeOfAll.j3 k x1 false x509000 x509001 x510000 x510001)
def laws_FnOrdersWholeOfAll.j3 : Nat → List ByteArray → Bool → Int → Int → Int → Int → Option (Bool)
 | 0, _, _, _, _, _, _ => none
 | k + 1, x1, x211, x509000, x509001, x510000, x510001 => if x211 = true then ((impl_CountCodes.f k x509000 x509001).bind fun bt535 => (if bt535.2 = true then (if (x1.length : Int) = bt535.1 then (laws_FnOrdersWholeOfAll.j4 k x510000 x510001) else (none)) else (none))) else (laws_FnOrdersWholeOfAll.j4 k x510000 x510001)
def laws_FnOrdersWholeOfAll.j4 : Nat → Int → Int → Option (Bool)
 | 0, _, _ => none
 | k + 1, x510000, x510001 => (impl_FirstWhole.f k x510000 x510001).bind fun bt537 => ((spec_FirstWhole.f k x510000 x510001).bind fun bt541 => ((impl_CountWhole.f k x510000 x510001).bind fun bt545 => ((spec_CountWhole.f k x510000 x510001).bind fun bt547 => ((impl_CountClosed.f k x510000 x510001).bind fun bt549 => ((spec_CountClosed.f k x510000 x510001).bind fun bt551 => (if (bt537.2 != bt541.2) = true then (none) else ((laws_aTexts.f k bt537.1 bt541.1).bind fun t553 => (if t553 = true then (if (bt545.2 != bt547.2) = true then (none) else (if bt545.1 = bt547.1 then (if (bt549.2 != bt551.2) = true then (none) else (if bt549.1 = bt551.1 then (if (bt545.2 != bt537.2) = true then (none) else (if (bt549.2 != bt537.2) = true then (none) else (if bt537.2 = true then ((impl_IsWholeOrder.f k x510000 x510001 bt537.1).bind fun bt554 => ((impl_ZeroCode.f k x510000 x510001).bind fun bt556 => (if bt554.2 = true then (if bt554.1 = true then (if bt556.2 = true then (if 0 < (bt537.1.length : Int) then (if (rdOf ByteArray.empty bt537.1 0).toList = bt556.1.toList then (if bt545.1 < 1 then (none) else (if bt549.1 < 1 then (none) else (if bt549.1 > bt545.1 then (none) else (some true)))) else (none)) else (none)) else (none)) else (none)) else (none)))) else (some true)))) else (none))) else (none))) else (none)))))))))
end
def laws_FnOrdersWholeOfAll.f (k : Nat) (a0_0 : Int) (a0_1 : Int) (l1 : List ByteArray) (a2_0 : Int) (a2_1 : Int) : Option (Bool) := if (l1.length : Int) > 10000 then (some true) else ((impl_IsTurnOrder.f k a0_0 a0_1 l1).bind fun bt510 => ((spec_IsTurnOrder.f k a0_0 a0_1 l1).bind fun bt512 => ((impl_IsWholeOrder.f k a0_0 a0_1 l1).bind fun bt514 => ((spec_IsWholeOrder.f k a0_0 a0_1 l1).bind fun bt516 => ((impl_IsClosedOrder.f k a0_0 a0_1 l1).bind fun bt518 => ((spec_IsClosedOrder.f k a0_0 a0_1 l1).bind fun bt520 => ((impl_TurnsOfOrder.f k a0_0 a0_1 l1).bind fun bt522 => ((spec_TurnsOfOrder.f k a0_0 a0_1 l1).bind fun bt526 => (if (bt510.2 != bt512.2) = true then (none) else (if (bt510.1 != bt512.1) = true then (none) else (if (bt514.2 != bt516.2) = true then (none) else (if (bt514.1 != bt516.1) = true then (none) else (if (bt518.2 != bt520.2) = true then (none) else (if (bt518.1 != bt520.1) = true then (none) else (if (bt522.2 != bt526.2) = true then (none) else ((laws_aTurns.f k bt522.1 bt526.1).bind fun t530 => (if t530 = true then (if (bt514.2 != bt510.2) = true then (none) else (if (bt518.2 != bt510.2) = true then (none) else (if bt510.2 = true then (if (bt522.2 != bt510.1) = true then (none) else (if bt518.1 = true then (if bt514.1 = true then (laws_FnOrdersWholeOfAll.j0 k l1 bt510.2 bt514.1 bt522.1 bt522.2 (!bt510.1) a0_0 a0_1 a2_0 a2_1) else (none)) else (if bt514.1 = true then (laws_FnOrdersWholeOfAll.j0 k l1 bt510.2 bt514.1 bt522.1 bt522.2 (!bt510.1) a0_0 a0_1 a2_0 a2_1) else (laws_FnOrdersWholeOfAll.j0 k l1 bt510.2 bt514.1 bt522.1 bt522.2 false a0_0 a0_1 a2_0 a2_1)))) else (if (bt522.2 != false) = true then (none) else (laws_FnOrdersWholeOfAll.j0 k l1 bt510.2 bt514.1 bt522.1 bt522.2 false a0_0 a0_1 a2_0 a2_1))))) else (none))))))))))))))))))
theorem laws_FnOrdersWholeOfAll.mono_l : ∀ k, (∀ y0 y1 y2 y3 y4 y5 y6 y7 y8 y9, LeO (laws_FnOrdersWholeOfAll.j0 k y0 y1 y2 y3 y4 y5 y6 y7 y8 y9) (laws_FnOrdersWholeOfAll.j0 (k + 1) y0 y1 y2 y3 y4 y5 y6 y7 y8 y9)) ∧ (∀ y0 y1 y2 y3 y4 y5 y6 y7 y8, LeO (laws_FnOrdersWholeOfAll.j1 k y0 y1 y2 y3 y4 y5 y6 y7 y8) (laws_FnOrdersWholeOfAll.j1 (k + 1) y0 y1 y2 y3 y4 y5 y6 y7 y8)) ∧ (∀ y0 y1 y2 y3 y4 y5 y6, LeO (laws_FnOrdersWholeOfAll.j2 k y0 y1 y2 y3 y4 y5 y6) (laws_FnOrdersWholeOfAll.j2 (k + 1) y0 y1 y2 y3 y4 y5 y6)) ∧ (∀ y0 y1 y2 y3 y4 y5, LeO (laws_FnOrdersWholeOfAll.j3 k y0 y1 y2 y3 y4 y5) (laws_FnOrdersWholeOfAll.j3 (k + 1) y0 y1 y2 y3 y4 y5)) ∧ (∀ y0 y1, LeO (laws_FnOrdersWholeOfAll.j4 k y0 y1) (laws_FnOrdersWholeOfAll.j4 (k + 1) y0 y1))
 | 0 => ⟨fun _ _ _ _ _ _ _ _ _ _ r h => by simp [laws_FnOrdersWholeOfAll.j0] at h, fun _ _ _ _ _ _ _ _ _ r h => by simp [laws_FnOrdersWholeOfAll.j1] at h, fun _ _ _ _ _ _ _ r h => by simp [laws_FnOrdersWholeOfAll.j2] at h, fun _ _ _ _ _ _ r h => by simp [laws_FnOrdersWholeOfAll.j3] at h, fun _ _ r h => by simp [laws_FnOrdersWholeOfAll.j4] at h⟩
 | k + 1 => by
  obtain ⟨ih0, ih1, ih2, ih3, ih4⟩ := laws_FnOrdersWholeOfAll.mono_l k
  refine ⟨?_, ?_, ?_, ?_, ?_⟩
  intro y0 y1 y2 y3 y4 y5 y6 y7 y8 y9; unfold laws_FnOrdersWholeOfAll.j0; rotate_left
  intro y0 y1 y2 y3 y4 y5 y6 y7 y8; unfold laws_FnOrdersWholeOfAll.j1; rotate_left
  intro y0 y1 y2 y3 y4 y5 y6; unfold laws_FnOrdersWholeOfAll.j2; rotate_left
  intro y0 y1 y2 y3 y4 y5; unfold laws_FnOrdersWholeOfAll.j3; rotate_left
  intro y0 y1; unfold laws_FnOrdersWholeOfAll.j4; rotate_left
  all_goals repeat' first
  | (with_reducible exact ih0 _ _ _ _ _ _ _ _ _ _)
  | (with_reducible exact ih1 _ _ _ _ _ _ _ _ _)
  | (with_reducible exact ih2 _ _ _ _ _ _ _)
  | (with_reducible exact ih3 _ _ _ _ _ _)
  | (with_reducible exact ih4 _ _)
  | (with_reducible exact impl_CountClosed.mono _ _ _)
  | (with_reducible exact impl_CountCodes.mono _ _ _)
  | (with_reducible exact impl_CountWhole.mono _ _ _)
  | (with_reducible exact impl_FirstWhole.mono _ _ _)
  | (with_reducible exact impl_IsClosedOrder.mono _ _ _ _)
  | (with_reducible exact impl_IsTurnOrder.mono _ _ _ _)
  | (with_reducible exact impl_IsWholeOrder.mono _ _ _ _)
  | (with_reducible exact impl_TurnWheels.mono _ _ _ _ _)
  | (with_reducible exact impl_TurnsOfOrder.mono _ _ _ _)
  | (with_reducible exact impl_ZeroCode.mono _ _ _)
  | (with_reducible exact laws_aTexts.mono _ _ _)
  | (with_reducible exact laws_aTurns.mono _ _ _)
  | (with_reducible exact spec_CountClosed.mono _ _ _)
  | (with_reducible exact spec_CountWhole.mono _ _ _)
  | (with_reducible exact spec_FirstWhole.mono _ _ _)
  | (with_reducible exact spec_IsClosedOrder.mono _ _ _ _)
  | (with_reducible exact spec_IsTurnOrder.mono _ _ _ _)
  | (with_reducible exact spec_IsWholeOrder.mono _ _ _ _)
  | (with_reducible exact spec_TurnsOfOrder.mono _ _ _ _)
  | (with_reducible exact LeO.refl _)
  | (with_reducible exact LeO.none _)
  | (with_reducible refine LeO.ite ?_ ?_)
  | (with_reducible refine LeO.bind ?_ (fun _ => ?_))
  | exact ih0 _ _ _ _ _ _ _ _ _ _
  | exact ih1 _ _ _ _ _ _ _ _ _
  | exact ih2 _ _ _ _ _ _ _
  | exact ih3 _ _ _ _ _ _
  | exact ih4 _ _
  | exact impl_CountClosed.mono _ _ _
  | exact impl_CountCodes.mono _ _ _
  | exact impl_CountWhole.mono _ _ _
  | exact impl_FirstWhole.mono _ _ _
  | exact impl_IsClosedOrder.mono _ _ _ _
  | exact impl_IsTurnOrder.mono _ _ _ _
  | exact impl_IsWholeOrder.mono _ _ _ _
  | exact impl_TurnWheels.mono _ _ _ _ _
  | exact impl_TurnsOfOrder.mono _ _ _ _
  | exact impl_ZeroCode.mono _ _ _
  | exact laws_aTexts.mono _ _ _
  | exact laws_aTurns.mono _ _ _
  | exact spec_CountClosed.mono _ _ _
  | exact spec_CountWhole.mono _ _ _
  | exact spec_FirstWhole.mono _ _ _
  | exact spec_IsClosedOrder.mono _ _ _ _
  | exact spec_IsTurnOrder.mono _ _ _ _
  | exact spec_IsWholeOrder.mono _ _ _ _
  | exact spec_TurnsOfOrder.mono _ _ _ _
  | exact LeO.none _
  | refine LeO.ite ?_ ?_
  | refine LeO.bind ?_ (fun _ => ?_)
theorem laws_FnOrdersWholeOfAll.mono : ∀ a0 a1 a2 a3 a4 k, LeO (laws_FnOrdersWholeOfAll.f k a0 a1 a2 a3 a4) (laws_FnOrdersWholeOfAll.f (k + 1) a0 a1 a2 a3 a4) := by
 intro a0 a1 a2 a3 a4 k
 obtain ⟨ih0, ih1, ih2, ih3, ih4⟩ := laws_FnOrdersWholeOfAll.mono_l k
 unfold laws_FnOrdersWholeOfAll.f
 repeat' first
   | (with_reducible exact ih0 _ _ _ _ _ _ _ _ _ _)
   | (with_reducible exact ih1 _ _ _ _ _ _ _ _ _)
   | (with_reducible exact ih2 _ _ _ _ _ _ _)
   | (with_reducible exact ih3 _ _ _ _ _ _)
   | (with_reducible exact ih4 _ _)
   | (with_reducible exact impl_CountClosed.mono _ _ _)
   | (with_reducible exact impl_CountCodes.mono _ _ _)
   | (with_reducible exact impl_CountWhole.mono _ _ _)
   | (with_reducible exact impl_FirstWhole.mono _ _ _)
   | (with_reducible exact impl_IsClosedOrder.mono _ _ _ _)
   | (with_reducible exact impl_IsTurnOrder.mono _ _ _ _)
   | (with_reducible exact impl_IsWholeOrder.mono _ _ _ _)
   | (with_reducible exact impl_TurnWheels.mono _ _ _ _ _)
   | (with_reducible exact impl_TurnsOfOrder.mono _ _ _ _)
   | (with_reducible exact impl_ZeroCode.mono _ _ _)
   | (with_reducible exact laws_aTexts.mono _ _ _)
   | (with_reducible exact laws_aTurns.mono _ _ _)
   | (with_reducible exact spec_CountClosed.mono _ _ _)
   | (with_reducible exact spec_CountWhole.mono _ _ _)
   | (with_reducible exact spec_FirstWhole.mono _ _ _)
   | (with_reducible exact spec_IsClosedOrder.mono _ _ _ _)
   | (with_reducible exact spec_IsTurnOrder.mono _ _ _ _)
   | (with_reducible exact spec_IsWholeOrder.mono _ _ _ _)
   | (with_reducible exact spec_TurnsOfOrder.mono _ _ _ _)
   | (with_reducible exact LeO.refl _)
   | (with_reducible exact LeO.none _)
   | (with_reducible refine LeO.ite ?_ ?_)
   | (with_reducible refine LeO.bind ?_ (fun _ => ?_))
   | exact ih0 _ _ _ _ _ _ _ _ _ _
   | exact ih1 _ _ _ _ _ _ _ _ _
   | exact ih2 _ _ _ _ _ _ _
   | exact ih3 _ _ _ _ _ _
   | exact ih4 _ _
   | exact impl_CountClosed.mono _ _ _
   | exact impl_CountCodes.mono _ _ _
   | exact impl_CountWhole.mono _ _ _
   | exact impl_FirstWhole.mono _ _ _
   | exact impl_IsClosedOrder.mono _ _ _ _
   | exact impl_IsTurnOrder.mono _ _ _ _
   | exact impl_IsWholeOrder.mono _ _ _ _
   | exact impl_TurnWheels.mono _ _ _ _ _
   | exact impl_TurnsOfOrder.mono _ _ _ _
   | exact impl_ZeroCode.mono _ _ _
   | exact laws_aTexts.mono _ _ _
   | exact laws_aTurns.mono _ _ _
   | exact spec_CountClosed.mono _ _ _
   | exact spec_CountWhole.mono _ _ _
   | exact spec_FirstWhole.mono _ _ _
   | exact spec_IsClosedOrder.mono _ _ _ _
   | exact spec_IsTurnOrder.mono _ _ _ _
   | exact spec_IsWholeOrder.mono _ _ _ _
   | exact spec_TurnsOfOrder.mono _ _ _ _
   | exact LeO.none _
   | refine LeO.ite ?_ ?_
   | refine LeO.bind ?_ (fun _ => ?_)
def laws_FnOrdersWholeOfAll.T14 : Bool × List (List Nat × List Nat) := (true, [([], []), ([], []), ([1], [1]), ([2], [2]), ([], []), ([0, 3, 4], [0, 3, 4]), ([5], [5]), ([6], [6]), ([6], [6]), ([7, 5, 0, 1, 2, 3, 4, 5, 6, 7], [7]), ([8, 9, 0, 1, 2, 3, 4, 5, 6, 7, 8, 9], [8])])
def laws_FnOrdersWholeOfAll.B14 : List Nat := [0, 0, 2, 6, 0, 31, 63, 127, 127, 255, 1023]
theorem laws_FnOrdersWholeOfAll.tab14 : rtab .any (opsOf Try.f3 14) = laws_FnOrdersWholeOfAll.T14 := by kernel_rfl
theorem laws_FnOrdersWholeOfAll.bits14 : waitsOk laws_FnOrdersWholeOfAll.T14.2 laws_FnOrdersWholeOfAll.B14 = true := by kernel_rfl
set_option maxHeartbeats 8000000 in
set_option maxRecDepth 100000 in
theorem laws_FnOrdersWholeOfAll.calls (k : Nat) (a0_0 : Int) (a0_1 : Int) (A1 : Option Addr) (c1 : Nat) (l1 : List ByteArray) (a2_0 : Int) (a2_1 : Int) (r : Bool) (w : World) (hr1 : Kd.C Kd.string w A1 l1.length l1) (hc1 : l1.length ≤ c1) (h : laws_FnOrdersWholeOfAll.f k a0_0 a0_1 l1 a2_0 a2_1 = some r) :
  Calls Try.prog 3 #[.agg #[.int .i64 a0_0, .int .i64 a0_1], .slice A1 l1.length c1, .agg #[.int .i64 a2_0, .int .i64 a2_1]] w fun e w' => e = .returned (.bool r) ∧ Below w.heap.size w w' := by
 have hu23 := Try.underlying23
 have HR1 := Aside0.mk hr1
 have HC1 := Aside0.mk hc1
 clear hr1 hc1
 have HB := Aside0.mk (Below.refl w.heap.size w)
 have H : (if (l1.length : Int) > 10000 then (some true) else ((impl_IsTurnOrder.f k a0_0 a0_1 l1).bind fun bt510 => ((spec_IsTurnOrder.f k a0_0 a0_1 l1).bind fun bt512 => ((impl_IsWholeOrder.f k a0_0 a0_1 l1).bind fun bt514 => ((spec_IsWholeOrder.f k a0_0 a0_1 l1).bind fun bt516 => ((impl_IsClosedOrder.f k a0_0 a0_1 l1).bind fun bt518 => ((spec_IsClosedOrder.f k a0_0 a0_1 l1).bind fun bt520 => ((impl_TurnsOfOrder.f k a0_0 a0_1 l1).bind fun bt522 => ((spec_TurnsOfOrder.f k a0_0 a0_1 l1).bind fun bt526 => (if (bt510.2 != bt512.2) = true then (none) else (if (bt510.1 != bt512.1) = true then (none) else (if (bt514.2 != bt516.2) = true then (none) else (if (bt514.1 != bt516.1) = true then (none) else (if (bt518.2 != bt520.2) = true then (none) else (if (bt518.1 != bt520.1) = true then (none) else (if (bt522.2 != bt526.2) = true then (none) else ((laws_aTurns.f k bt522.1 bt526.1).bind fun t530 => (if t530 = true then (if (bt514.2 != bt510.2) = true then (none) else (if (bt518.2 != bt510.2) = true then (none) else (if bt510.2 = true then (if (bt522.2 != bt510.1) = true then (none) else (if bt518.1 = true then (if bt514.1 = true then (laws_FnOrdersWholeOfAll.j0 k l1 bt510.2 bt514.1 bt522.1 bt522.2 (!bt510.1) a0_0 a0_1 a2_0 a2_1) else (none)) else (if bt514.1 = true then (laws_FnOrdersWholeOfAll.j0 k l1 bt510.2 bt514.1 bt522.1 bt522.2 (!bt510.1) a0_0 a0_1 a2_0 a2_1) else (laws_FnOrdersWholeOfAll.j0 k l1 bt510.2 bt514.1 bt522.1 bt522.2 false a0_0 a0_1 a2_0 a2_1)))) else (if (bt522.2 != false) = true then (none) else (laws_FnOrdersWholeOfAll.j0 k l1 bt510.2 bt514.1 bt522.1 bt522.2 false a0_0 a0_1 a2_0 a2_1))))) else (none))))))))))))))))))) = some r := h
 clear h
 by_cases c4 : (l1.length : Int) > 10000
 ·rw [if_pos c4] at H
  have c4b0 : decide (10000 < (l1.length : Int)) = true := decide_eq_true c4
  have c4b1 : decide (10000 < l1.length) = true := decide_eq_true (by omega)
  clear c4
  obtain rfl := Option.some.inj H
  go_enter Try.func3, Try.ntmps3
  try go_wp2_with (first | ((with_reducible refine gate_dst (N := 3) rfl ?_); (try (refine gate_guard (by rfl) ?_; dsimp only)); refine box_event ?hg (N := 3) ?hd (cs := #[.int .i64 a0_0, .int .i64 a0_1]) (t := 23) ?hr ?_; (case hd => rfl); (case hg => rfl); (case hr => first | (go_simp; done) | (go_simp; rfl)); intro gb508 hg w5 hbox hb; have BK508 := Aside0.mk (hbox); have GW508 : Aside0 (w.heap.size ≤ gb508) := gW hg; have GE508 := GW508; replace HB := Aside0.mk (below_step bB hb); clear hb hbox hg) | ((with_reducible refine gate_dst (N := 5) rfl ?_); (try (refine gate_guard (by rfl) ?_; dsimp only)); refine box_event ?hg (N := 5) ?hd (cs := #[.int .i64 a2_0, .int .i64 a2_1]) (t := 23) ?hr ?_; (case hd => rfl); (case hg => rfl); (case hr => first | (go_simp; done) | (go_simp; rfl)); intro gb509 hg w6 hbox hb; have n0_ := Aside0.mk (blk_below (g := gb508) (o := .cells #[.int .i64 a0_0, .int .i64 a0_1] 23 (0, 0)) bK hb); have n1_ := Aside0.mk (below_step bG hb); have n2_ := Aside0.mk (hbox); have n3_ := Aside0.mk ((by rw [hg]; exact (below_size bG) : w.heap.size ≤ gb509)); have n4_ := Aside0.mk ((by rw [hg]; exact (below_size bG) : w.heap.size ≤ gb509)); have n5_ := Aside0.mk ((by rw [hg]; exact Nat.ne_of_lt (blk_lt (g := gb508) (o := .cells #[.int .i64 a0_0, .int .i64 a0_1] 23 (0, 0)) bK) : gb508 ≠ gb509)); have n6_ := Aside0.mk ((by rw [hg]; exact Nat.ne_of_gt (blk_lt (g := gb508) (o := .cells #[.int .i64 a0_0, .int .i64 a0_1] 23 (0, 0)) bK) : gb509 ≠ gb508)); clear BK508; clear HB; have BK508 := n0_; have HB := n1_; have BK509 := n2_; have GW509 := n3_; have GE509 := n4_; have NB508_509 := n5_; have NB509_508 := n6_; clear n0_ n1_ n2_ n3_ n4_ n5_ n6_; clear hb hbox hg))
  go_ret
  exact ⟨rE, bG⟩
 ·rw [if_neg c4] at H
  have c4b0 : decide (10000 < (l1.length : Int)) = false := decide_eq_false c4
  have c4b1 : decide (10000 < l1.length) = false := decide_eq_false (by omega)
  clear c4
  replace H := Option.bind_eq_some_iff.mp H
  obtain ⟨⟨t510, t511⟩, A70, H⟩ := H
  (try dsimp only at H)
  have A7 := Aside0.mk A70
  clear A70
  replace H := Option.bind_eq_some_iff.mp H
  obtain ⟨⟨t512, t513⟩, A80, H⟩ := H
  (try dsimp only at H)
  have A8 := Aside0.mk A80
  clear A80
  replace H := Option.bind_eq_some_iff.mp H
  obtain ⟨⟨t514, t515⟩, A90, H⟩ := H
  (try dsimp only at H)
  have A9 := Aside0.mk A90
  clear A90
  replace H := Option.bind_eq_some_iff.mp H
  obtain ⟨⟨t516, t517⟩, A100, H⟩ := H
  (try dsimp only at H)
  have A10 := Aside0.mk A100
  clear A100
  replace H := Option.bind_eq_some_iff.mp H
  obtain ⟨⟨t518, t519⟩, A110, H⟩ := H
  (try dsimp only at H)
  have A11 := Aside0.mk A110
  clear A110
  replace H := Option.bind_eq_some_iff.mp H
  obtain ⟨⟨t520, t521⟩, A120, H⟩ := H
  (try dsimp only at H)
  have A12 := Aside0.mk A120
  clear A120
  replace H := Option.bind_eq_some_iff.mp H
  obtain ⟨⟨t522, t525⟩, A130, H⟩ := H
  (try dsimp only at H)
  have A13 := Aside0.mk A130
  clear A130
  replace H := Option.bind_eq_some_iff.mp H
  obtain ⟨⟨t526, t529⟩, A140, H⟩ := H
  (try dsimp only at H)
  have A14 := Aside0.mk A140
  clear A140
  have HC15 := Aside0.mk H
  clear H
  go_enter Try.func3, Try.ntmps3
  go_upto_region 3 with (first | ((with_reducible refine gate_dst (N := 3) rfl ?_); (try (refine gate_guard (by rfl) ?_; dsimp only)); refine box_event ?hg (N := 3) ?hd (cs := #[.int .i64 a0_0, .int .i64 a0_1]) (t := 23) ?hr ?_; (case hd => rfl); (case hg => rfl); (case hr => first | (go_simp; done) | (go_simp; rfl)); intro gb508 hg w16 hbox hb; have BK508 := Aside0.mk (hbox); have GW508 : Aside0 (w.heap.size ≤ gb508) := gW hg; have GE508 := GW508; replace HB := Aside0.mk (below_step bB hb); clear hb hbox hg) | ((with_reducible refine gate_dst (N := 5) rfl ?_); (try (refine gate_guard (by rfl) ?_; dsimp only)); refine box_event ?hg (N := 5) ?hd (cs := #[.int .i64 a2_0, .int .i64 a2_1]) (t := 23) ?hr ?_; (case hd => rfl); (case hg => rfl); (case hr => first | (go_simp; done) | (go_simp; rfl)); intro gb509 hg w17 hbox hb; have n0_ := Aside0.mk (blk_below (g := gb508) (o := .cells #[.int .i64 a0_0, .int .i64 a0_1] 23 (0, 0)) bK hb); have n1_ := Aside0.mk (below_step bG hb); have n2_ := Aside0.mk (hbox); have n3_ := Aside0.mk ((by rw [hg]; exact (below_size bG) : w.heap.size ≤ gb509)); have n4_ := Aside0.mk ((by rw [hg]; exact (below_size bG) : w.heap.size ≤ gb509)); have n5_ := Aside0.mk ((by rw [hg]; exact Nat.ne_of_lt (blk_lt (g := gb508) (o := .cells #[.int .i64 a0_0, .int .i64 a0_1] 23 (0, 0)) bK) : gb508 ≠ gb509)); have n6_ := Aside0.mk ((by rw [hg]; exact Nat.ne_of_gt (blk_lt (g := gb508) (o := .cells #[.int .i64 a0_0, .int .i64 a0_1] 23 (0, 0)) bK) : gb509 ≠ gb508)); clear BK508; clear HB; have BK508 := n0_; have HB := n1_; have BK509 := n2_; have GW509 := n3_; have GE509 := n4_; have NB508_509 := n5_; have NB509_508 := n6_; clear n0_ n1_ n2_ n3_ n4_ n5_ n6_; clear hb hbox hg; have hnb18 := NB508_509.out; have hnc18 := NB509_508.out; have hcz19_0 := cZ BK508 0 (.int .i64 a0_0); have hcz19_1 := cZ BK508 1 (.int .i64 a0_1); have hfz19_0 := blk_frozen BK508.out 0; have hfz19_1 := blk_frozen BK508.out 1))
  as_aux_lemma =>
   go_upto_region 4 with (first | ((with_reducible refine gate_callee (f := 4) rfl ?_); refine goesL_ (some 49) rfl rfl Try.func4 (by kernel_rfl) rfl #[.agg #[.int .i64 a0_0, .int .i64 a0_1], .slice A1 l1.length c1] rfl lM ?_; (with_reducible refine (impl_IsTurnOrder.calls k a0_0 a0_1 _ _ l1 t510 t511 _ ?side1 ?side2 A7.out).mono ?_); (case side1 => exact cS (Kd.C_below HR1.out HB.out)); (case side2 => exact HC1.out); rintro e w20 ⟨rfl, hb⟩; refine ⟨_, rfl, ?_⟩; have n0_ := Aside0.mk (blk_below (g := gb508) (o := .cells #[.int .i64 a0_0, .int .i64 a0_1] 23 (0, 0)) bK hb); have n1_ := Aside0.mk (blk_below (g := gb509) (o := .cells #[.int .i64 a2_0, .int .i64 a2_1] 23 (0, 0)) bK hb); have n2_ := Aside0.mk (below_step bG hb); clear BK508; clear BK509; clear HB; have BK508 := n0_; have BK509 := n1_; have HB := n2_; clear n0_ n1_ n2_; (try clear hb); have hcz21_0 := cZ BK508 0 (.int .i64 a0_0); have hcz21_1 := cZ BK508 1 (.int .i64 a0_1); have hfz21_0 := blk_frozen BK508.out 0; have hfz21_1 := blk_frozen BK508.out 1))
   as_aux_lemma =>
    go_upto_region 5 with (first | ((with_reducible refine gate_callee (f := 5) rfl ?_); refine goesL_ (some 55) rfl rfl Try.func5 (by kernel_rfl) rfl #[.agg #[.int .i64 a0_0, .int .i64 a0_1], .slice A1 l1.length c1] rfl lM ?_; (with_reducible refine (spec_IsTurnOrder.calls k a0_0 a0_1 _ _ l1 t512 t513 _ ?side1 ?side2 A8.out).mono ?_); (case side1 => exact cS (Kd.C_below HR1.out HB.out)); (case side2 => exact HC1.out); rintro e w22 ⟨rfl, hb⟩; refine ⟨_, rfl, ?_⟩; have n0_ := Aside0.mk (blk_below (g := gb508) (o := .cells #[.int .i64 a0_0, .int .i64 a0_1] 23 (0, 0)) bK hb); have n1_ := Aside0.mk (blk_below (g := gb509) (o := .cells #[.int .i64 a2_0, .int .i64 a2_1] 23 (0, 0)) bK hb); have n2_ := Aside0.mk (below_step bG hb); clear BK508; clear BK509; clear HB; have BK508 := n0_; have BK509 := n1_; have HB := n2_; clear n0_ n1_ n2_; (try clear hb); have hcz23_0 := cZ BK508 0 (.int .i64 a0_0); have hcz23_1 := cZ BK508 1 (.int .i64 a0_1); have hfz23_0 := blk_frozen BK508.out 0; have hfz23_1 := blk_frozen BK508.out 1))
    as_aux_lemma =>
     go_upto_region 6 with (first | ((with_reducible refine gate_callee (f := 6) rfl ?_); refine goesL_ (some 61) rfl rfl Try.func6 (by kernel_rfl) rfl #[.agg #[.int .i64 a0_0, .int .i64 a0_1], .slice A1 l1.length c1] rfl lM ?_; (with_reducible refine (impl_IsWholeOrder.calls k a0_0 a0_1 _ _ l1 t514 t515 _ ?side1 ?side2 A9.out).mono ?_); (case side1 => exact cS (Kd.C_below HR1.out HB.out)); (case side2 => exact HC1.out); rintro e w24 ⟨rfl, hb⟩; refine ⟨_, rfl, ?_⟩; have n0_ := Aside0.mk (blk_below (g := gb508) (o := .cells #[.int .i64 a0_0, .int .i64 a0_1] 23 (0, 0)) bK hb); have n1_ := Aside0.mk (blk_below (g := gb509) (o := .cells #[.int .i64 a2_0, .int .i64 a2_1] 23 (0, 0)) bK hb); have n2_ := Aside0.mk (below_step bG hb); clear BK508; clear BK509; clear HB; have BK508 := n0_; have BK509 := n1_; have HB := n2_; clear n0_ n1_ n2_; (try clear hb); have hcz25_0 := cZ BK508 0 (.int .i64 a0_0); have hcz25_1 := cZ BK508 1 (.int .i64 a0_1); have hfz25_0 := blk_frozen BK508.out 0; have hfz25_1 := blk_frozen BK508.out 1))
     as_aux_lemma =>
      go_upto_region 7 with (first | ((with_reducible refine gate_callee (f := 7) rfl ?_); refine goesL_ (some 67) rfl rfl Try.func7 (by kernel_rfl) rfl #[.agg #[.int .i64 a0_0, .int .i64 a0_1], .slice A1 l1.length c1] rfl lM ?_; (with_reducible refine (spec_IsWholeOrder.calls k a0_0 a0_1 _ _ l1 t516 t517 _ ?side1 ?side2 A10.out).mono ?_); (case side1 => exact cS (Kd.C_below HR1.out HB.out)); (case side2 => exact HC1.out); rintro e w26 ⟨rfl, hb⟩; refine ⟨_, rfl, ?_⟩; have n0_ := Aside0.mk (blk_below (g := gb508) (o := .cells #[.int .i64 a0_0, .int .i64 a0_1] 23 (0, 0)) bK hb); have n1_ := Aside0.mk (blk_below (g := gb509) (o := .cells #[.int .i64 a2_0, .int .i64 a2_1] 23 (0, 0)) bK hb); have n2_ := Aside0.mk (below_step bG hb); clear BK508; clear BK509; clear HB; have BK508 := n0_; have BK509 := n1_; have HB := n2_; clear n0_ n1_ n2_; (try clear hb); have hcz27_0 := cZ BK508 0 (.int .i64 a0_0); have hcz27_1 := cZ BK508 1 (.int .i64 a0_1); have hfz27_0 := blk_frozen BK508.out 0; have hfz27_1 := blk_frozen BK508.out 1))
      as_aux_lemma =>
       go_upto_region 8 with (first | ((with_reducible refine gate_callee (f := 8) rfl ?_); refine goesL_ (some 73) rfl rfl Try.func8 (by kernel_rfl) rfl #[.agg #[.int .i64 a0_0, .int .i64 a0_1], .slice A1 l1.length c1] rfl lM ?_; (with_reducible refine (impl_IsClosedOrder.calls k a0_0 a0_1 _ _ l1 t518 t519 _ ?side1 ?side2 A11.out).mono ?_); (case side1 => exact cS (Kd.C_below HR1.out HB.out)); (case side2 => exact HC1.out); rintro e w28 ⟨rfl, hb⟩; refine ⟨_, rfl, ?_⟩; have n0_ := Aside0.mk (blk_below (g := gb508) (o := .cells #[.int .i64 a0_0, .int .i64 a0_1] 23 (0, 0)) bK hb); have n1_ := Aside0.mk (blk_below (g := gb509) (o := .cells #[.int .i64 a2_0, .int .i64 a2_1] 23 (0, 0)) bK hb); have n2_ := Aside0.mk (below_step bG hb); clear BK508; clear BK509; clear HB; have BK508 := n0_; have BK509 := n1_; have HB := n2_; clear n0_ n1_ n2_; (try clear hb); have hcz29_0 := cZ BK508 0 (.int .i64 a0_0); have hcz29_1 := cZ BK508 1 (.int .i64 a0_1); have hfz29_0 := blk_frozen BK508.out 0; have hfz29_1 := blk_frozen BK508.out 1))
       as_aux_lemma =>
        go_upto_region 9 with (first | ((with_reducible refine gate_callee (f := 9) rfl ?_); refine goesL_ (some 79) rfl rfl Try.func9 (by kernel_rfl) rfl #[.agg #[.int .i64 a0_0, .int .i64 a0_1], .slice A1 l1.length c1] rfl lM ?_; (with_reducible refine (spec_IsClosedOrder.calls k a0_0 a0_1 _ _ l1 t520 t521 _ ?side1 ?side2 A12.out).mono ?_); (case side1 => exact cS (Kd.C_below HR1.out HB.out)); (case side2 => exact HC1.out); rintro e w30 ⟨rfl, hb⟩; refine ⟨_, rfl, ?_⟩; have n0_ := Aside0.mk (blk_below (g := gb508) (o := .cells #[.int .i64 a0_0, .int .i64 a0_1] 23 (0, 0)) bK hb); have n1_ := Aside0.mk (blk_below (g := gb509) (o := .cells #[.int .i64 a2_0, .int .i64 a2_1] 23 (0, 0)) bK hb); have n2_ := Aside0.mk (below_step bG hb); clear BK508; clear BK509; clear HB; have BK508 := n0_; have BK509 := n1_; have HB := n2_; clear n0_ n1_ n2_; (try clear hb); have hcz31_0 := cZ BK508 0 (.int .i64 a0_0); have hcz31_1 := cZ BK508 1 (.int .i64 a0_1); have hfz31_0 := blk_frozen BK508.out 0; have hfz31_1 := blk_frozen BK508.out 1))
        as_aux_lemma =>
         go_upto_region 10 with (first | ((with_reducible refine gate_callee (f := 10) rfl ?_); refine goesL_ (some 85) rfl rfl Try.func10 (by kernel_rfl) rfl #[.agg #[.int .i64 a0_0, .int .i64 a0_1], .slice A1 l1.length c1] rfl lM ?_; (with_reducible refine (impl_TurnsOfOrder.calls k a0_0 a0_1 _ _ l1 t522 t525 _ ?side1 ?side2 A13.out).mono ?_); (case side1 => exact cS (Kd.C_below HR1.out HB.out)); (case side2 => exact HC1.out); rintro e w32 ⟨v523, rfl, ho0, hb⟩; refine ⟨_, rfl, ?_⟩; have n0_ := Aside0.mk (Kd.R_lower ho0 (below_size bG)); have n1_ := Aside0.mk (blk_below (g := gb508) (o := .cells #[.int .i64 a0_0, .int .i64 a0_1] 23 (0, 0)) bK hb); have n2_ := Aside0.mk (blk_below (g := gb509) (o := .cells #[.int .i64 a2_0, .int .i64 a2_1] 23 (0, 0)) bK hb); have n3_ := Aside0.mk (below_step bG hb); clear BK508; clear BK509; clear HB; have HO524 := n0_; have BK508 := n1_; have BK509 := n2_; have HB := n3_; clear n0_ n1_ n2_ n3_; (try clear hb); (try clear ho0); have hcz33_0 := cZ BK508 0 (.int .i64 a0_0); have hcz33_1 := cZ BK508 1 (.int .i64 a0_1); have hfz33_0 := blk_frozen BK508.out 0; have hfz33_1 := blk_frozen BK508.out 1))
         as_aux_lemma =>
          go_upto_region 11 with (first | ((with_reducible refine gate_callee (f := 11) rfl ?_); refine goesL_ (some 91) rfl rfl Try.func11 (by kernel_rfl) rfl #[.agg #[.int .i64 a0_0, .int .i64 a0_1], .slice A1 l1.length c1] rfl lM ?_; (with_reducible refine (spec_TurnsOfOrder.calls k a0_0 a0_1 _ _ l1 t526 t529 _ ?side1 ?side2 A14.out).mono ?_); (case side1 => exact cS (Kd.C_below HR1.out HB.out)); (case side2 => exact HC1.out); rintro e w34 ⟨v527, rfl, ho0, hb⟩; refine ⟨_, rfl, ?_⟩; have n0_ := Aside0.mk (Kd.R_elder' (kR HO524) (Kd.R_base ho0) hb); have n1_ := Aside0.mk (Kd.R_lower (Kd.R_new' ho0 (Kd.R_lt (kR HO524))) (below_size bG)); have n2_ := Aside0.mk (blk_below (g := gb508) (o := .cells #[.int .i64 a0_0, .int .i64 a0_1] 23 (0, 0)) bK hb); have n3_ := Aside0.mk (blk_below (g := gb509) (o := .cells #[.int .i64 a2_0, .int .i64 a2_1] 23 (0, 0)) bK hb); have n4_ := Aside0.mk (below_step bG hb); clear HO524; clear BK508; clear BK509; clear HB; have HO524 := n0_; have HO528 := n1_; have BK508 := n2_; have BK509 := n3_; have HB := n4_; clear n0_ n1_ n2_ n3_ n4_; (try clear hb); (try clear ho0)))
          (try simp only [Act.put, List.setIfInBounds_toArray, List.set_cons_zero, List.set_cons_succ])
          go_cut [167] (fun v167 wc => ∃ (kq : Nat) (x167_14 : Bool), v167 = .bool x167_14 ∧ Aside0 (laws_FnOrdersWholeOfAll.j0 kq l1 t511 t514 t522 t525 x167_14 a0_0 a0_1 a2_0 a2_1 = some r) ∧ Aside0 (kq ≤ k) ∧ Aside0 (Kd.R k46 46 wc w.heap.size (fun _ => True) v523 t522) ∧ Aside0 (wc.heap[gb508]? = some (.cells #[.int .i64 a0_0, .int .i64 a0_1] 23 (0, 0))) ∧ Aside0 (wc.heap[gb509]? = some (.cells #[.int .i64 a2_0, .int .i64 a2_1] 23 (0, 0))) ∧ Aside0 (Below w.heap.size w wc))
          case first =>
           as_aux_lemma =>
            have H := HC15.out
            clear HC15
            replace H := nz' H; obtain ⟨c35, H⟩ := H
            have c35b0 : (t511 != t513) = false := by simpa using c35
            (try (have c35b1 : decide (t511 = t513) = true := by simpa using c35))
            (try (have c35b2 : (t511 == t513) = true := by simpa using c35))
            clear c35
            (first | rw [c35b0] | (simp only [i64_w, i32_w]; rw [c35b0]) | skip)
            replace H := nz' H; obtain ⟨c36, H⟩ := H
            have c36b0 : (t510 != t512) = false := by simpa using c36
            (try (have c36b1 : decide (t510 = t512) = true := by simpa using c36))
            (try (have c36b2 : (t510 == t512) = true := by simpa using c36))
            clear c36
            replace H := nz' H; obtain ⟨c37, H⟩ := H
            have c37b0 : (t515 != t517) = false := by simpa using c37
            (try (have c37b1 : decide (t515 = t517) = true := by simpa using c37))
            (try (have c37b2 : (t515 == t517) = true := by simpa using c37))
            clear c37
            replace H := nz' H; obtain ⟨c38, H⟩ := H
            have c38b0 : (t514 != t516) = false := by simpa using c38
            (try (have c38b1 : decide (t514 = t516) = true := by simpa using c38))
            (try (have c38b2 : (t514 == t516) = true := by simpa using c38))
            clear c38
            replace H := nz' H; obtain ⟨c39, H⟩ := H
            have c39b0 : (t519 != t521) = false := by simpa using c39
            (try (have c39b1 : decide (t519 = t521) = true := by simpa using c39))
            (try (have c39b2 : (t519 == t521) = true := by simpa using c39))
            clear c39
            replace H := nz' H; obtain ⟨c40, H⟩ := H
            have c40b0 : (t518 != t520) = false := by simpa using c40
            (try (have c40b1 : decide (t518 = t520) = true := by simpa using c40))
            (try (have c40b2 : (t518 == t520) = true := by simpa using c40))
            clear c40
            replace H := nz' H; obtain ⟨c41, H⟩ := H
            have c41b0 : (t525 != t529) = false := by simpa using c41
            (try (have c41b1 : decide (t525 = t529) = true := by simpa using c41))
            (try (have c41b2 : (t525 == t529) = true := by simpa using c41))
            clear c41
            replace H := Option.bind_eq_some_iff.mp H
            obtain ⟨t530, A420, H⟩ := H
            (try dsimp only at H)
            have A42 := Aside0.mk A420
            clear A420
            by_cases c43 : t530 = true
            ·subst c43
             replace H := zt H
             replace H := nz' H; obtain ⟨c44, H⟩ := H
             have c44b0 : (t515 != t511) = false := by simpa using c44
             (try (have c44b1 : decide (t515 = t511) = true := by simpa using c44))
             (try (have c44b2 : (t515 == t511) = true := by simpa using c44))
             clear c44
             replace H := nz' H; obtain ⟨c45, H⟩ := H
             have c45b0 : (t519 != t511) = false := by simpa using c45
             (try (have c45b1 : decide (t519 = t511) = true := by simpa using c45))
             (try (have c45b2 : (t519 == t511) = true := by simpa using c45))
             clear c45
             by_cases c46 : t511 = true
             ·subst c46
              replace H := zt H
              replace H := nz' H; obtain ⟨c47, H⟩ := H
              have c47b0 : (t525 != t510) = false := by simpa using c47
              (try (have c47b1 : decide (t525 = t510) = true := by simpa using c47))
              (try (have c47b2 : (t525 == t510) = true := by simpa using c47))
              clear c47
              by_cases c48 : t518 = true
              ·subst c48
               replace H := zt H
               by_cases c49 : t514 = true
               ·subst c49
                replace H := zt H
                have H' := Aside0.mk H
                clear H
                obtain ⟨Ao50, co50, eo50⟩ := Kd.R_slice HO524.out
                subst eo50
                obtain ⟨Ao51, co51, eo51⟩ := Kd.R_slice HO528.out
                subst eo51
                (try dsimp only [List.append])
                try go_wp2_with (first | (go_at_call 12; (with_reducible refine (laws_aTurns.calls k _ _ t522 _ _ t526 true _ ?side1 ?side2 ?side3 ?side4 A42.out).mono ?_); (case side1 => exact cS ((Kd.R_reads' HO524.out).2.2)); (case side2 => exact (Kd.R_reads' HO524.out).2.1); (case side3 => exact cS ((Kd.R_reads' HO528.out).2.2)); (case side4 => exact (Kd.R_reads' HO528.out).2.1); rintro e w' ⟨rfl, ⟨nd, rfl⟩⟩))
                go_meet
                case rel => exact ⟨_, (!t510), fR, H', ⟨by first | omega | exact Nat.le_refl _⟩, ⟨by (with_reducible repeat (first | apply Kd.R_alloc | apply Kd.R_drewN | apply Kd.R_drew)); exact Kd.R_mono HO524.out (fun _ hk => trivial)⟩, ⟨bK⟩, ⟨bK⟩, ⟨bG⟩⟩
               ·replace c49 := Bool.eq_false_iff.mpr c49
                subst c49
                replace H := zf H
                exact absurd H (by simp)
              ·replace c48 := Bool.eq_false_iff.mpr c48
               subst c48
               replace H := zf H
               by_cases c52 : t514 = true
               ·subst c52
                replace H := zt H
                have H' := Aside0.mk H
                clear H
                obtain ⟨Ao53, co53, eo53⟩ := Kd.R_slice HO524.out
                subst eo53
                obtain ⟨Ao54, co54, eo54⟩ := Kd.R_slice HO528.out
                subst eo54
                (try dsimp only [List.append])
                try go_wp2_with (first | (go_at_call 12; (with_reducible refine (laws_aTurns.calls k _ _ t522 _ _ t526 true _ ?side1 ?side2 ?side3 ?side4 A42.out).mono ?_); (case side1 => exact cS ((Kd.R_reads' HO524.out).2.2)); (case side2 => exact (Kd.R_reads' HO524.out).2.1); (case side3 => exact cS ((Kd.R_reads' HO528.out).2.2)); (case side4 => exact (Kd.R_reads' HO528.out).2.1); rintro e w' ⟨rfl, ⟨nd, rfl⟩⟩))
                go_meet
                case rel => exact ⟨_, (!t510), fR, H', ⟨by first | omega | exact Nat.le_refl _⟩, ⟨by (with_reducible repeat (first | apply Kd.R_alloc | apply Kd.R_drewN | apply Kd.R_drew)); exact Kd.R_mono HO524.out (fun _ hk => trivial)⟩, ⟨bK⟩, ⟨bK⟩, ⟨bG⟩⟩
               ·replace c52 := Bool.eq_false_iff.mpr c52
                subst c52
                replace H := zf H
                have H' := Aside0.mk H
                clear H
                obtain ⟨Ao55, co55, eo55⟩ := Kd.R_slice HO524.out
                subst eo55
                obtain ⟨Ao56, co56, eo56⟩ := Kd.R_slice HO528.out
                subst eo56
                (try dsimp only [List.append])
                try go_wp2_with (first | (go_at_call 12; (with_reducible refine (laws_aTurns.calls k _ _ t522 _ _ t526 true _ ?side1 ?side2 ?side3 ?side4 A42.out).mono ?_); (case side1 => exact cS ((Kd.R_reads' HO524.out).2.2)); (case side2 => exact (Kd.R_reads' HO524.out).2.1); (case side3 => exact cS ((Kd.R_reads' HO528.out).2.2)); (case side4 => exact (Kd.R_reads' HO528.out).2.1); rintro e w' ⟨rfl, ⟨nd, rfl⟩⟩))
                go_meet
                case rel => exact ⟨_, (false), fR, H', ⟨by first | omega | exact Nat.le_refl _⟩, ⟨by (with_reducible repeat (first | apply Kd.R_alloc | apply Kd.R_drewN | apply Kd.R_drew)); exact Kd.R_mono HO524.out (fun _ hk => trivial)⟩, ⟨bK⟩, ⟨bK⟩, ⟨bG⟩⟩
             ·replace c46 := Bool.eq_false_iff.mpr c46
              subst c46
              replace H := zf H
              replace H := nz' H; obtain ⟨c57, H⟩ := H
              have c57b0 : (t525 != false) = false := by simpa using c57
              (try (have c57b1 : decide (t525 = false) = true := by simpa using c57))
              (try (have c57b2 : (t525 == false) = true := by simpa using c57))
              clear c57
              have H' := Aside0.mk H
              clear H
              obtain ⟨Ao58, co58, eo58⟩ := Kd.R_slice HO524.out
              subst eo58
              obtain ⟨Ao59, co59, eo59⟩ := Kd.R_slice HO528.out
              subst eo59
              (try dsimp only [List.append])
              try go_wp2_with (first | (go_at_call 12; (with_reducible refine (laws_aTurns.calls k _ _ t522 _ _ t526 true _ ?side1 ?side2 ?side3 ?side4 A42.out).mono ?_); (case side1 => exact cS ((Kd.R_reads' HO524.out).2.2)); (case side2 => exact (Kd.R_reads' HO524.out).2.1); (case side3 => exact cS ((Kd.R_reads' HO528.out).2.2)); (case side4 => exact (Kd.R_reads' HO528.out).2.1); rintro e w' ⟨rfl, ⟨nd, rfl⟩⟩))
              all_goals (try (first | (rename_i hu; cases hu; done) | (rename_i hu _; cases hu; done) | (rename_i hu _ _; cases hu; done)))
              go_meet
              case rel => exact ⟨_, (false), fR, H', ⟨by first | omega | exact Nat.le_refl _⟩, ⟨by (with_reducible repeat (first | apply Kd.R_alloc | apply Kd.R_drewN | apply Kd.R_drew)); exact Kd.R_mono HO524.out (fun _ hk => trivial)⟩, ⟨bK⟩, ⟨bK⟩, ⟨bG⟩⟩
            ·replace c43 := Bool.eq_false_iff.mpr c43
             subst c43
             replace H := zf H
             exact absurd H (by simp)
          case rest =>
           as_aux_lemma =>
            clear HC15
            (try clear c1); (try clear c4); (try clear c4b0); (try clear c4b1); (try clear hcz19_0); (try clear hcz19_1); (try clear hcz21_0); (try clear hcz21_1); (try clear hcz23_0); (try clear hcz23_1); (try clear hcz25_0); (try clear hcz25_1); (try clear hcz27_0); (try clear hcz27_1); (try clear hcz29_0); (try clear hcz29_1); (try clear hcz31_0); (try clear hcz31_1); (try clear hcz33_0); (try clear hcz33_1); (try clear hfz19_0); (try clear hfz19_1); (try clear hfz21_0); (try clear hfz21_1); (try clear hfz23_0); (try clear hfz23_1); (try clear hfz25_0); (try clear hfz25_1); (try clear hfz27_0); (try clear hfz27_1); (try clear hfz29_0); (try clear hfz29_1); (try clear hfz31_0); (try clear hfz31_1); (try clear hfz33_0); (try clear hfz33_1)
            obtain ⟨kq, x167_14, rfl, HA, HJ14, HO_19, BK508, BK509, HB⟩ := hcut
            cases kq with
            | zero => exact absurd HA.out (by simp [laws_FnOrdersWholeOfAll.j0])
            | succ kj14 =>
             have H := HA.out
             clear HA
             simp only [laws_FnOrdersWholeOfAll.j0] at H
             by_cases c60 : x167_14 = true
             ·subst c60
              replace H := zt H
              exact absurd H (by simp)
             ·replace c60 := Bool.eq_false_iff.mpr c60
              subst c60
              replace H := zf H
              have HC61 := Aside0.mk H
              clear H
              go_upto_region 13 with (fail)
              go_cut [173] (fun v173 wc => ∃ (kq : Nat) (x173_60 : Bool), v173 = .bool x173_60 ∧ Aside0 (laws_FnOrdersWholeOfAll.j1 kq l1 t511 t514 t522 x173_60 a0_0 a0_1 a2_0 a2_1 = some r) ∧ Aside0 (kq ≤ kj14) ∧ Aside0 (Kd.R k46 46 wc w.heap.size (fun _ => True) v523 t522) ∧ Aside0 (wc.heap[gb508]? = some (.cells #[.int .i64 a0_0, .int .i64 a0_1] 23 (0, 0))) ∧ Aside0 (wc.heap[gb509]? = some (.cells #[.int .i64 a2_0, .int .i64 a2_1] 23 (0, 0))) ∧ Aside0 (Below w.heap.size w wc))
              case first =>
               as_aux_lemma =>
                have H := HC61.out
                clear HC61
                by_cases c62 : t525 = true
                ·subst c62
                 replace H := zt H
                 have H' := Aside0.mk H
                 clear H
                 try go_wp2
                 repeat (go_quiet (fail); try go_wp2)
                 go_meet
                 case rel => exact ⟨_, (decide ((l1.length : Int) > 0)), fR, H', ⟨by have := HJ14.out; first | omega | exact Nat.le_refl _⟩, ⟨kR HO_19⟩, ⟨bK⟩, ⟨bK⟩, ⟨bG⟩⟩
                ·replace c62 := Bool.eq_false_iff.mpr c62
                 subst c62
                 replace H := zf H
                 have H' := Aside0.mk H
                 clear H
                 try go_wp2
                 repeat (go_quiet (fail); try go_wp2)
                 go_meet
                 case rel => exact ⟨_, (false), fR, H', ⟨by have := HJ14.out; first | omega | exact Nat.le_refl _⟩, ⟨kR HO_19⟩, ⟨bK⟩, ⟨bK⟩, ⟨bG⟩⟩
              case rest =>
               as_aux_lemma =>
                clear HC61
                (try clear c60)
                obtain ⟨kq, x173_60, rfl, HA, HJ60, HO_19, BK508, BK509, HB⟩ := hcut
                cases kq with
                | zero => exact absurd HA.out (by simp [laws_FnOrdersWholeOfAll.j1])
                | succ kj60 =>
                 have H := HA.out
                 clear HA
                 simp only [laws_FnOrdersWholeOfAll.j1] at H
                 have HC63 := Aside0.mk H
                 clear H
                 go_upto_if 173 with (fail)
                 go_cut [] (fun wc => ∃ (kq : Nat), Aside0 (laws_FnOrdersWholeOfAll.j2 kq l1 t511 t514 a0_0 a0_1 a2_0 a2_1 = some r) ∧ Aside0 (kq ≤ kj60) ∧ Aside0 (wc.heap[gb508]? = some (.cells #[.int .i64 a0_0, .int .i64 a0_1] 23 (0, 0))) ∧ Aside0 (wc.heap[gb509]? = some (.cells #[.int .i64 a2_0, .int .i64 a2_1] 23 (0, 0))) ∧ Aside0 (Below w.heap.size w wc))
                 case first =>
                  as_aux_lemma =>
                   have H := HC63.out
                   clear HC63
                   by_cases c64 : x173_60 = true
                   ·subst c64
                    replace H := zt H
                    replace H := nz H; obtain ⟨c65, H⟩ := H
                    have c65b0 : decide (0 < (l1.length : Int)) = true := decide_eq_true c65
                    have c65b1 : decide (0 < l1.length) = true := decide_eq_true (by omega)
                    clear c65
                    (first | rw [c65b0] | (simp only [i64_w, i32_w]; rw [c65b0]) | skip)
                    replace H := Option.bind_eq_some_iff.mp H
                    obtain ⟨⟨t532, t533⟩, A660, H⟩ := H
                    (try dsimp only at H)
                    have A66 := Aside0.mk A660
                    clear A660
                    by_cases c67 : (t522.length : Int) ≤ 200
                    ·rw [if_pos c67] at H
                     have c67b0 : decide ((t522.length : Int) ≤ 200) = true := decide_eq_true c67
                     have c67b1 : decide (t522.length ≤ 200) = true := decide_eq_true (by omega)
                     clear c67
                     by_cases c68 : t533 = true
                     ·subst c68
                      replace H := zt H
                      obtain ⟨ji69, hji69⟩ : ∃ j_ : Int, (wrap64 ((l1.length : Int) - 1)) = j_ := ⟨_, rfl⟩
                      replace H : (if 0 ≤ (ji69) then (if (ji69) < (l1.length : Int) then (if t532.toList = (rdOf ByteArray.empty l1 (ji69)).toList then (if (t522.length : Int) = (ji69) then (laws_FnOrdersWholeOfAll.j2 kj60 l1 t511 t514 a0_0 a0_1 a2_0 a2_1) else (none)) else (none)) else (none)) else (none)) = some r := by first | (rw [hji69] at H; exact H) | (simp only [hji69] at H ⊢; exact H)
                      (try rw [hji69] at A66)
                      have hji69w : (IntKind.i64.wrap ((l1.length : Int) - 1)) = ji69 := (i64_w _).trans hji69
                      replace H := nz H; obtain ⟨c70, H⟩ := H
                      have c70b0 : decide (0 ≤ (ji69)) = true := decide_eq_true c70
                      clear c70
                      replace H := nz H; obtain ⟨c71, H⟩ := H
                      have c71b0 : decide ((ji69) < (l1.length : Int)) = true := decide_eq_true c71
                      clear c71
                      replace H := nz H; obtain ⟨c72, H⟩ := H
                      have c72b0 : (t532.toList == (rdOf ByteArray.empty l1 (ji69)).toList) = true := beq_iff_eq.mpr c72
                      have c72b1 : (t532.toList != (rdOf ByteArray.empty l1 (ji69)).toList) = false := bne_eq_false_iff_eq.mpr c72
                      clear c72
                      replace H := nz H; obtain ⟨c73, H⟩ := H
                      have c73b0 : ((t522.length : Int) == (ji69)) = true := beq_iff_eq.mpr c73
                      have c73b1 : ((t522.length : Int) != (ji69)) = false := bne_eq_false_iff_eq.mpr c73
                      clear c73
                      have H' := Aside0.mk H
                      clear H
                      try go_wp2
                      repeat (go_quiet (fail); try go_wp2)
                      as_aux_lemma =>
                       replace HO_19 := Aside0.mk (Kd.R_drew HO_19.out); replace BK508 := Aside0.mk (blk_drew BK508.out); replace BK509 := Aside0.mk (blk_drew BK509.out); replace HB := Aside0.mk (below_drew1 HB.out)
                       have p531 : 0 ≤ (0 : Int) := (by omega)
                       have q531 : 0 < (l1.length : Int) := oD
                       obtain ⟨ad531, e531, hx531_0⟩ := Kd.at_string HR1.out 0 p531 q531
                       have hw531_0 := hx531_0
                       (try rw [show ((0 : Int)).toNat = 0 from rfl] at hw531_0)
                       (try rw [show 0 * 1 = 0 from rfl] at hw531_0)
                       (try rw [Addr.add_zero'] at hw531_0)
                       cases e531
                       have qi531 : (0 < l1.length) = True := eq_true (by omega)
                       (try rw [show ((0 : Int)).toNat = 0 from rfl] at hx531_0)
                       (try rw [Addr.add_zero'] at hx531_0)
                       replace hx531_0 := (HB.out.cell (World.block_lt_of_cell? w _ hx531_0)).trans hx531_0
                       replace p531 := eq_true p531; replace q531 := eq_true q531
                       obtain ⟨Ao75, co75, eo75⟩ := Kd.R_slice HO_19.out
                       (first | subst eo75 | (injection eo75 with f1_ f2_ f3_; have f4_ := f1_.symm; have f5_ := f3_.symm; clear f1_ f2_ f3_; subst f4_; subst f5_))
                       refine start_ (n := 11) (S := fun w' => w'.cell? ⟨gb508, 0, none⟩ = some (.int .i64 a0_0) ∧ w'.cell? ⟨gb508, 1, none⟩ = some (.int .i64 a0_1) ∧ w'.cell? ad531 = some (.string (rdOf ByteArray.empty l1 0))) (ds := []) #[false, false, false, false, false, false, false, false, false, false, false] (by kernel_rfl) rfl rfl ⟨(blk_cell BK508.out 0).trans rfl, (blk_cell BK508.out 1).trans rfl, ((HB.out.cell (World.block_lt_of_cell? w _ hw531_0)).trans hw531_0)⟩ (fun hHeld => ?_); refine with_tabW laws_FnOrdersWholeOfAll.tab14 laws_FnOrdersWholeOfAll.bits14 (fun HT_ HW_ => ?_)
                       generalize wc.drew = w74 at HO_19 BK508 BK509 HB hx531_0 hHeld ⊢
                       refine pure_ (i := 1) (N := some 176) (v := ?_) (a' := ?_) #[false, true, false, false, false, false, false, false, false, false, false] rfl rfl (any_of HT_.out (by kernel_rfl)) (fun _ _ _ h => h) (Or.inl ⟨by rfl, ?_⟩) ?_ ?_; rotate_left; (· intro w'; go_simp; with_reducible rfl); rotate_left; (· simp only [Act.put, List.setIfInBounds_toArray, List.set_cons_zero, List.set_cons_succ, i64_w, i32_w]; rfl)
                       refine pure_ (i := 2) (N := some 177) (v := ?_) (a' := ?_) #[false, true, true, false, false, false, false, false, false, false, false] rfl rfl (any_of HT_.out (by kernel_rfl)) (fun _ _ _ h => h) (Or.inl ⟨by rfl, ?_⟩) ?_ ?_; rotate_left; (· intro w'; go_simp; with_reducible rfl); rotate_left; (· simp only [Act.put, List.setIfInBounds_toArray, List.set_cons_zero, List.set_cons_succ, i64_w, i32_w]; rfl)
                       refine pure_ (i := 4) (N := some 179) (v := ?_) (a' := ?_) #[false, true, true, false, true, false, false, false, false, false, false] rfl rfl (any_of HT_.out (by kernel_rfl)) (fun _ _ _ h => h) (Or.inl ⟨by rfl, ?_⟩) ?_ ?_; rotate_left; (· intro w'; go_simp; with_reducible rfl); rotate_left; (· simp only [Act.put, List.setIfInBounds_toArray, List.set_cons_zero, List.set_cons_succ, i64_w, i32_w]; rfl)
                       refine take_ (i := 0) (N := some 175) (v := ?_) (a' := ?_) #[true, true, true, false, true, false, false, false, false, false, false] rfl rfl (take_ofW HT_.out HW_.out (by kernel_rfl)) (fun _ _ _ h => h) (Or.inl ⟨by rfl, ?_⟩) hHeld ?_ ?_
                       rotate_left
                       ·rintro w' ⟨s0, s1, s2⟩
                        go_simp
                        with_reducible rfl
                       rotate_left
                       ·simp only [Act.put, List.setIfInBounds_toArray, List.set_cons_zero, List.set_cons_succ, i64_w, i32_w]
                        rfl
                       refine take_ (i := 3) (N := some 178) (v := ?_) (a' := ?_) #[true, true, true, true, true, false, false, false, false, false, false] rfl rfl (take_ofW HT_.out HW_.out (by kernel_rfl)) (fun _ _ _ h => h) (Or.inl ⟨by rfl, ?_⟩) hHeld ?_ ?_
                       rotate_left
                       ·rintro w' ⟨s0, s1, s2⟩
                        go_simp
                        with_reducible rfl
                       rotate_left
                       ·simp only [Act.put, List.setIfInBounds_toArray, List.set_cons_zero, List.set_cons_succ, i64_w, i32_w]
                        rfl
                       refine one_ (i := 5) (N := some 180) #[true, true, true, true, true, true, false, false, false, false, false] rfl rfl (one_of HT_.out (by kernel_rfl)) (by decide) (fun K hK => ?_)
                       refine goes_ Try.func13 (by kernel_rfl) rfl #[.agg #[.int .i64 a0_0, .int .i64 a0_1], .string (rdOf ByteArray.empty l1 0), .slice Ao75 t522.length co75] (by rfl) rfl rfl lM ?_
                       with_reducible refine (impl_TurnWheels.calls kj60 a0_0 a0_1 (rdOf ByteArray.empty l1 0) _ _ t522 t532 true _ ?side1 ?side2 A66.out).mono ?_
                       (case side1 => exact cS ((Kd.R_reads' HO_19.out).2.2))
                       (case side2 => exact (Kd.R_reads' HO_19.out).2.1)
                       rintro e w76 ⟨rfl, hb⟩
                       refine ⟨_, rfl, ?_⟩
                       have n0_ := Aside0.mk (Kd.R_below (kR HO_19) hb); have n1_ := Aside0.mk (blk_below (g := gb508) (o := .cells #[.int .i64 a0_0, .int .i64 a0_1] 23 (0, 0)) bK hb); have n2_ := Aside0.mk (blk_below (g := gb509) (o := .cells #[.int .i64 a2_0, .int .i64 a2_1] 23 (0, 0)) bK hb); have n3_ := Aside0.mk (below_step bG hb); clear HO_19; clear BK508; clear BK509; clear HB; have HO_19 := n0_; have BK508 := n1_; have BK509 := n2_; have HB := n3_; clear n0_ n1_ n2_ n3_
                       (try clear hb)
                       (try clear hb2)
                       (try clear hk)
                       (try clear hi)
                       refine hK.out _ _ ⟨(blk_cell BK508.out 0).trans rfl, (blk_cell BK508.out 1).trans rfl, ((HB.out.cell (World.block_lt_of_cell? w _ hw531_0)).trans hw531_0)⟩ (fun hHeld => ?_)
                       clear hK K
                       refine norm_ (a' := ?_) ?_ ?_
                       rotate_left
                       ·show Act.put _ (some 180) _ = _
                        simp only [Act.put, List.setIfInBounds_toArray, List.set_cons_zero, List.set_cons_succ, i64_w, i32_w]
                        rfl
                       refine pure_ (i := 6) (N := some 174) (v := ?_) (a' := ?_) #[true, true, true, true, true, true, true, false, false, false, false] rfl rfl (any_of HT_.out (by kernel_rfl)) (fun _ _ _ h => h) (Or.inl ⟨by rfl, ?_⟩) ?_ ?_; rotate_left; (· intro w'; go_simp; with_reducible rfl); rotate_left; (· simp only [Act.put, List.setIfInBounds_toArray, List.set_cons_zero, List.set_cons_succ, i64_w, i32_w]; rfl)
                       refine pure_ (i := 7) (N := some 181) (v := ?_) (a' := ?_) #[true, true, true, true, true, true, true, true, false, false, false] rfl rfl (any_of HT_.out (by kernel_rfl)) (fun _ _ _ h => h) (Or.inl ⟨by rfl, ?_⟩) ?_ ?_; rotate_left; (· intro w'; go_simp; with_reducible rfl); rotate_left; (· simp only [Act.put, List.setIfInBounds_toArray, List.set_cons_zero, List.set_cons_succ, i64_w, i32_w]; rfl)
                       refine pure_ (i := 8) (N := some 182) (v := ?_) (a' := ?_) #[true, true, true, true, true, true, true, true, true, false, false] rfl rfl (any_of HT_.out (by kernel_rfl)) (fun _ _ _ h => h) (Or.inl ⟨by rfl, ?_⟩) ?_ ?_; rotate_left; (· intro w'; go_simp; with_reducible rfl); rotate_left; (· simp only [Act.put, List.setIfInBounds_toArray, List.set_cons_zero, List.set_cons_succ, i64_w, i32_w]; rfl)
                       refine pure_ (i := 9) (N := some 23) (v := ?_) (a' := ?_) #[true, true, true, true, true, true, true, true, true, true, false] rfl rfl (any_of HT_.out (by kernel_rfl)) (fun _ _ _ h => h) (Or.inl ⟨by rfl, ?_⟩) ?_ ?_; rotate_left; (· intro w'; go_simp; with_reducible rfl); rotate_left; (· simp only [Act.put, List.setIfInBounds_toArray, List.set_cons_zero, List.set_cons_succ, i64_w, i32_w]; rfl)
                       refine pure_ (i := 10) (N := some 24) (v := ?_) (a' := ?_) #[true, true, true, true, true, true, true, true, true, true, true] rfl rfl (any_of HT_.out (by kernel_rfl)) (fun _ _ _ h => h) (Or.inl ⟨by rfl, ?_⟩) ?_ ?_; rotate_left; (· intro w'; go_simp; with_reducible rfl); rotate_left; (· simp only [Act.put, List.setIfInBounds_toArray, List.set_cons_zero, List.set_cons_succ, i64_w, i32_w]; rfl)
                       refine done_ (done_of HT_.out (by kernel_rfl)) ?_
                       as_aux_lemma =>
                        have p534 : 0 ≤ ((ji69) : Int) := oD
                        have q534 : (ji69) < (l1.length : Int) := oD
                        obtain ⟨ad534, e534, hx534_0⟩ := Kd.at_string HR1.out (ji69) p534 q534
                        obtain rfl : ad531 = ad534 := (by injection e534)
                        replace hx534_0 := (HB.out.cell (World.block_lt_of_cell? w _ hx534_0)).trans hx534_0
                        replace p534 := eq_true p534; replace q534 := eq_true q534
                        try go_wp2
                        repeat (go_quiet (fail); try go_wp2)
                        go_meet
                        case rel => exact ⟨_, H', ⟨by have := HJ14.out; have := HJ60.out; first | omega | exact Nat.le_refl _⟩, ⟨bK⟩, ⟨bK⟩, ⟨bG⟩⟩
                     ·replace c68 := Bool.eq_false_iff.mpr c68
                      subst c68
                      replace H := zf H
                      exact absurd H (by simp)
                    ·rw [if_neg c67] at H
                     have c67b0 : decide ((t522.length : Int) ≤ 200) = false := decide_eq_false c67
                     have c67b1 : decide (t522.length ≤ 200) = false := decide_eq_false (by omega)
                     clear c67
                     replace H := nz H; obtain ⟨c77, H⟩ := H
                     have c77b0 : ((t522.length : Int) == (wrap64 ((l1.length : Int) - 1))) = true := beq_iff_eq.mpr c77
                     have c77b1 : ((t522.length : Int) != (wrap64 ((l1.length : Int) - 1))) = false := bne_eq_false_iff_eq.mpr c77
                     clear c77
                     have H' := Aside0.mk H
                     clear H
                     try go_wp2
                     repeat (go_quiet (fail); try go_wp2)
                     as_aux_lemma =>
                      replace HO_19 := Aside0.mk (Kd.R_drew HO_19.out); replace BK508 := Aside0.mk (blk_drew BK508.out); replace BK509 := Aside0.mk (blk_drew BK509.out); replace HB := Aside0.mk (below_drew1 HB.out)
                      have p531 : 0 ≤ (0 : Int) := (by omega)
                      have q531 : 0 < (l1.length : Int) := oD
                      obtain ⟨ad531, e531, hx531_0⟩ := Kd.at_string HR1.out 0 p531 q531
                      have hw531_0 := hx531_0
                      (try rw [show ((0 : Int)).toNat = 0 from rfl] at hw531_0)
                      (try rw [show 0 * 1 = 0 from rfl] at hw531_0)
                      (try rw [Addr.add_zero'] at hw531_0)
                      cases e531
                      have qi531 : (0 < l1.length) = True := eq_true (by omega)
                      (try rw [show ((0 : Int)).toNat = 0 from rfl] at hx531_0)
                      (try rw [Addr.add_zero'] at hx531_0)
                      replace hx531_0 := (HB.out.cell (World.block_lt_of_cell? w _ hx531_0)).trans hx531_0
                      replace p531 := eq_true p531; replace q531 := eq_true q531
                      obtain ⟨Ao79, co79, eo79⟩ := Kd.R_slice HO_19.out
                      (first | subst eo79 | (injection eo79 with f1_ f2_ f3_; have f4_ := f1_.symm; have f5_ := f3_.symm; clear f1_ f2_ f3_; subst f4_; subst f5_))
                      refine start_ (n := 11) (S := fun w' => w'.cell? ⟨gb508, 0, none⟩ = some (.int .i64 a0_0) ∧ w'.cell? ⟨gb508, 1, none⟩ = some (.int .i64 a0_1) ∧ w'.cell? ad531 = some (.string (rdOf ByteArray.empty l1 0))) (ds := []) #[false, false, false, false, false, false, false, false, false, false, false] (by kernel_rfl) rfl rfl ⟨(blk_cell BK508.out 0).trans rfl, (blk_cell BK508.out 1).trans rfl, ((HB.out.cell (World.block_lt_of_cell? w _ hw531_0)).trans hw531_0)⟩ (fun hHeld => ?_); refine with_tabW laws_FnOrdersWholeOfAll.tab14 laws_FnOrdersWholeOfAll.bits14 (fun HT_ HW_ => ?_)
                      generalize wc.drew = w78 at HO_19 BK508 BK509 HB hx531_0 hHeld ⊢
                      refine pure_ (i := 1) (N := some 176) (v := ?_) (a' := ?_) #[false, true, false, false, false, false, false, false, false, false, false] rfl rfl (any_of HT_.out (by kernel_rfl)) (fun _ _ _ h => h) (Or.inl ⟨by rfl, ?_⟩) ?_ ?_; rotate_left; (· intro w'; go_simp; with_reducible rfl); rotate_left; (· simp only [Act.put, List.setIfInBounds_toArray, List.set_cons_zero, List.set_cons_succ, i64_w, i32_w]; rfl)
                      refine pure_ (i := 2) (N := some 177) (v := ?_) (a' := ?_) #[false, true, true, false, false, false, false, false, false, false, false] rfl rfl (any_of HT_.out (by kernel_rfl)) (fun _ _ _ h => h) (Or.inl ⟨by rfl, ?_⟩) ?_ ?_; rotate_left; (· intro w'; go_simp; with_reducible rfl); rotate_left; (· simp only [Act.put, List.setIfInBounds_toArray, List.set_cons_zero, List.set_cons_succ, i64_w, i32_w]; rfl)
                      refine pure_ (i := 4) (N := some 179) (v := ?_) (a' := ?_) #[false, true, true, false, true, false, false, false, false, false, false] rfl rfl (any_of HT_.out (by kernel_rfl)) (fun _ _ _ h => h) (Or.inl ⟨by rfl, ?_⟩) ?_ ?_; rotate_left; (· intro w'; go_simp; with_reducible rfl); rotate_left; (· simp only [Act.put, List.setIfInBounds_toArray, List.set_cons_zero, List.set_cons_succ, i64_w, i32_w]; rfl)
                      refine take_ (i := 0) (N := some 175) (v := ?_) (a' := ?_) #[true, true, true, false, true, false, false, false, false, false, false] rfl rfl (take_ofW HT_.out HW_.out (by kernel_rfl)) (fun _ _ _ h => h) (Or.inl ⟨by rfl, ?_⟩) hHeld ?_ ?_
                      rotate_left
                      ·rintro w' ⟨s0, s1, s2⟩
                       go_simp
                       with_reducible rfl
                      rotate_left
                      ·simp only [Act.put, List.setIfInBounds_toArray, List.set_cons_zero, List.set_cons_succ, i64_w, i32_w]
                       rfl
                      refine take_ (i := 3) (N := some 178) (v := ?_) (a' := ?_) #[true, true, true, true, true, false, false, false, false, false, false] rfl rfl (take_ofW HT_.out HW_.out (by kernel_rfl)) (fun _ _ _ h => h) (Or.inl ⟨by rfl, ?_⟩) hHeld ?_ ?_
                      rotate_left
                      ·rintro w' ⟨s0, s1, s2⟩
                       go_simp
                       with_reducible rfl
                      rotate_left
                      ·simp only [Act.put, List.setIfInBounds_toArray, List.set_cons_zero, List.set_cons_succ, i64_w, i32_w]
                       rfl
                      refine one_ (i := 5) (N := some 180) #[true, true, true, true, true, true, false, false, false, false, false] rfl rfl (one_of HT_.out (by kernel_rfl)) (by decide) (fun K hK => ?_)
                      refine goes_ Try.func13 (by kernel_rfl) rfl #[.agg #[.int .i64 a0_0, .int .i64 a0_1], .string (rdOf ByteArray.empty l1 0), .slice Ao79 t522.length co79] (by rfl) rfl rfl lM ?_
                      with_reducible refine (impl_TurnWheels.calls kj60 a0_0 a0_1 (rdOf ByteArray.empty l1 0) _ _ t522 t532 t533 _ ?side1 ?side2 A66.out).mono ?_
                      (case side1 => exact cS ((Kd.R_reads' HO_19.out).2.2))
                      (case side2 => exact (Kd.R_reads' HO_19.out).2.1)
                      rintro e w80 ⟨rfl, hb⟩
                      refine ⟨_, rfl, ?_⟩
                      have n0_ := Aside0.mk (Kd.R_below (kR HO_19) hb); have n1_ := Aside0.mk (blk_below (g := gb508) (o := .cells #[.int .i64 a0_0, .int .i64 a0_1] 23 (0, 0)) bK hb); have n2_ := Aside0.mk (blk_below (g := gb509) (o := .cells #[.int .i64 a2_0, .int .i64 a2_1] 23 (0, 0)) bK hb); have n3_ := Aside0.mk (below_step bG hb); clear HO_19; clear BK508; clear BK509; clear HB; have HO_19 := n0_; have BK508 := n1_; have BK509 := n2_; have HB := n3_; clear n0_ n1_ n2_ n3_
                      (try clear hb)
                      (try clear hb2)
                      (try clear hk)
                      (try clear hi)
                      refine hK.out _ _ ⟨(blk_cell BK508.out 0).trans rfl, (blk_cell BK508.out 1).trans rfl, ((HB.out.cell (World.block_lt_of_cell? w _ hw531_0)).trans hw531_0)⟩ (fun hHeld => ?_)
                      clear hK K
                      refine norm_ (a' := ?_) ?_ ?_
                      rotate_left
                      ·show Act.put _ (some 180) _ = _
                       simp only [Act.put, List.setIfInBounds_toArray, List.set_cons_zero, List.set_cons_succ, i64_w, i32_w]
                       rfl
                      refine pure_ (i := 6) (N := some 174) (v := ?_) (a' := ?_) #[true, true, true, true, true, true, true, false, false, false, false] rfl rfl (any_of HT_.out (by kernel_rfl)) (fun _ _ _ h => h) (Or.inl ⟨by rfl, ?_⟩) ?_ ?_; rotate_left; (· intro w'; go_simp; with_reducible rfl); rotate_left; (· simp only [Act.put, List.setIfInBounds_toArray, List.set_cons_zero, List.set_cons_succ, i64_w, i32_w]; rfl)
                      refine pure_ (i := 7) (N := some 181) (v := ?_) (a' := ?_) #[true, true, true, true, true, true, true, true, false, false, false] rfl rfl (any_of HT_.out (by kernel_rfl)) (fun _ _ _ h => h) (Or.inl ⟨by rfl, ?_⟩) ?_ ?_; rotate_left; (· intro w'; go_simp; with_reducible rfl); rotate_left; (· simp only [Act.put, List.setIfInBounds_toArray, List.set_cons_zero, List.set_cons_succ, i64_w, i32_w]; rfl)
                      refine pure_ (i := 8) (N := some 182) (v := ?_) (a' := ?_) #[true, true, true, true, true, true, true, true, true, false, false] rfl rfl (any_of HT_.out (by kernel_rfl)) (fun _ _ _ h => h) (Or.inl ⟨by rfl, ?_⟩) ?_ ?_; rotate_left; (· intro w'; go_simp; with_reducible rfl); rotate_left; (· simp only [Act.put, List.setIfInBounds_toArray, List.set_cons_zero, List.set_cons_succ, i64_w, i32_w]; rfl)
                      refine pure_ (i := 9) (N := some 23) (v := ?_) (a' := ?_) #[true, true, true, true, true, true, true, true, true, true, false] rfl rfl (any_of HT_.out (by kernel_rfl)) (fun _ _ _ h => h) (Or.inl ⟨by rfl, ?_⟩) ?_ ?_; rotate_left; (· intro w'; go_simp; with_reducible rfl); rotate_left; (· simp only [Act.put, List.setIfInBounds_toArray, List.set_cons_zero, List.set_cons_succ, i64_w, i32_w]; rfl)
                      refine pure_ (i := 10) (N := some 24) (v := ?_) (a' := ?_) #[true, true, true, true, true, true, true, true, true, true, true] rfl rfl (any_of HT_.out (by kernel_rfl)) (fun _ _ _ h => h) (Or.inl ⟨by rfl, ?_⟩) ?_ ?_; rotate_left; (· intro w'; go_simp; with_reducible rfl); rotate_left; (· simp only [Act.put, List.setIfInBounds_toArray, List.set_cons_zero, List.set_cons_succ, i64_w, i32_w]; rfl)
                      refine done_ (done_of HT_.out (by kernel_rfl)) ?_
                      try go_wp2
                      repeat (go_quiet (fail); try go_wp2)
                      go_meet
                      case rel => exact ⟨_, H', ⟨by have := HJ14.out; have := HJ60.out; first | omega | exact Nat.le_refl _⟩, ⟨bK⟩, ⟨bK⟩, ⟨bG⟩⟩
                   ·replace c64 := Bool.eq_false_iff.mpr c64
                    subst c64
                    replace H := zf H
                    have H' := Aside0.mk H
                    clear H
                    try go_wp2
                    repeat (go_quiet (fail); try go_wp2)
                    go_meet
                    case rel => exact ⟨_, H', ⟨by have := HJ14.out; have := HJ60.out; first | omega | exact Nat.le_refl _⟩, ⟨bK⟩, ⟨bK⟩, ⟨bG⟩⟩
                 case rest =>
                  as_aux_lemma =>
                   clear HC63
                   obtain ⟨kq, HA, HJ62, BK508, BK509, HB⟩ := hcut
                   cases kq with
                   | zero => exact absurd HA.out (by simp [laws_FnOrdersWholeOfAll.j2])
                   | succ kj62 =>
                    have H := HA.out
                    clear HA
                    simp only [laws_FnOrdersWholeOfAll.j2] at H
                    have HC81 := Aside0.mk H
                    clear H
                    go_upto_region 17 with (fail)
                    go_cut [211] (fun v211 wc => ∃ (kq : Nat) (x211_80 : Bool), v211 = .bool x211_80 ∧ Aside0 (laws_FnOrdersWholeOfAll.j3 kq l1 x211_80 a0_0 a0_1 a2_0 a2_1 = some r) ∧ Aside0 (kq ≤ kj62) ∧ Aside0 (wc.heap[gb508]? = some (.cells #[.int .i64 a0_0, .int .i64 a0_1] 23 (0, 0))) ∧ Aside0 (wc.heap[gb509]? = some (.cells #[.int .i64 a2_0, .int .i64 a2_1] 23 (0, 0))) ∧ Aside0 (Below w.heap.size w wc))
                    case first =>
                     as_aux_lemma =>
                      have H := HC81.out
                      clear HC81
                      by_cases c82 : t511 = true
                      ·subst c82
                       replace H := zt H
                       have H' := Aside0.mk H
                       clear H
                       try go_wp2
                       repeat (go_quiet (fail); try go_wp2)
                       go_meet
                       case rel => exact ⟨_, (t514), fR, H', ⟨by have := HJ14.out; have := HJ60.out; have := HJ62.out; first | omega | exact Nat.le_refl _⟩, ⟨bK⟩, ⟨bK⟩, ⟨bG⟩⟩
                      ·replace c82 := Bool.eq_false_iff.mpr c82
                       subst c82
                       replace H := zf H
                       have H' := Aside0.mk H
                       clear H
                       try go_wp2
                       repeat (go_quiet (fail); try go_wp2)
                       go_meet
                       case rel => exact ⟨_, (false), fR, H', ⟨by have := HJ14.out; have := HJ60.out; have := HJ62.out; first | omega | exact Nat.le_refl _⟩, ⟨bK⟩, ⟨bK⟩, ⟨bG⟩⟩
                    case rest =>
                     as_aux_lemma =>
                      clear HC81
                      obtain ⟨kq, x211_80, rfl, HA, HJ80, BK508, BK509, HB⟩ := hcut
                      cases kq with
                      | zero => exact absurd HA.out (by simp [laws_FnOrdersWholeOfAll.j3])
                      | succ kj80 =>
                       have H := HA.out
                       clear HA
                       simp only [laws_FnOrdersWholeOfAll.j3] at H
                       have HC83 := Aside0.mk H
                       clear H
                       go_upto_if 211 with (fail)
                       go_cut [] (fun wc => ∃ (kq : Nat), Aside0 (laws_FnOrdersWholeOfAll.j4 kq a2_0 a2_1 = some r) ∧ Aside0 (kq ≤ kj80) ∧ Aside0 (wc.heap[gb508]? = some (.cells #[.int .i64 a0_0, .int .i64 a0_1] 23 (0, 0))) ∧ Aside0 (wc.heap[gb509]? = some (.cells #[.int .i64 a2_0, .int .i64 a2_1] 23 (0, 0))) ∧ Aside0 (Below w.heap.size w wc))
                       case first =>
                        as_aux_lemma =>
                         have H := HC83.out
                         clear HC83
                         by_cases c84 : x211_80 = true
                         ·subst c84
                          replace H := zt H
                          replace H := Option.bind_eq_some_iff.mp H
                          obtain ⟨⟨t535, t536⟩, A850, H⟩ := H
                          (try dsimp only at H)
                          have A85 := Aside0.mk A850
                          clear A850
                          by_cases c86 : t536 = true
                          ·subst c86
                           replace H := zt H
                           replace H := nz H; obtain ⟨c87, H⟩ := H
                           have c87b0 : ((l1.length : Int) == t535) = true := beq_iff_eq.mpr c87
                           have c87b1 : ((l1.length : Int) != t535) = false := bne_eq_false_iff_eq.mpr c87
                           clear c87
                           (first | rw [c87b0] | (simp only [i64_w, i32_w]; rw [c87b0]) | skip)
                           have H' := Aside0.mk H
                           clear H
                           have hnb88 := NB508_509.out
                           have hnc88 := NB509_508.out
                           have hcz89_0 := cZ BK508 0 (.int .i64 a0_0)
                           have hcz89_1 := cZ BK508 1 (.int .i64 a0_1)
                           have hfz89_0 := blk_frozen BK508.out 0
                           have hfz89_1 := blk_frozen BK508.out 1
                           try go_wp2_with (first | ((with_reducible refine gate_callee (f := 14) rfl ?_); refine goesL_ (some 214) rfl rfl Try.func14 (by kernel_rfl) rfl #[.agg #[.int .i64 a0_0, .int .i64 a0_1]] rfl lM ?_; (with_reducible refine (impl_CountCodes.calls kj80 a0_0 a0_1 t535 true _ A85.out).mono ?_); rintro e w90 ⟨rfl, hb⟩; refine ⟨_, rfl, ?_⟩; have n0_ := Aside0.mk (blk_below (g := gb508) (o := .cells #[.int .i64 a0_0, .int .i64 a0_1] 23 (0, 0)) bK hb); have n1_ := Aside0.mk (blk_below (g := gb509) (o := .cells #[.int .i64 a2_0, .int .i64 a2_1] 23 (0, 0)) bK hb); have n2_ := Aside0.mk (below_step bG hb); clear BK508; clear BK509; clear HB; have BK508 := n0_; have BK509 := n1_; have HB := n2_; clear n0_ n1_ n2_; (try clear hb)))
                           go_meet
                           case rel => exact ⟨_, H', ⟨by have := HJ14.out; have := HJ60.out; have := HJ62.out; have := HJ80.out; first | omega | exact Nat.le_refl _⟩, ⟨bK⟩, ⟨bK⟩, ⟨bG⟩⟩
                          ·replace c86 := Bool.eq_false_iff.mpr c86
                           subst c86
                           replace H := zf H
                           exact absurd H (by simp)
                         ·replace c84 := Bool.eq_false_iff.mpr c84
                          subst c84
                          replace H := zf H
                          have H' := Aside0.mk H
                          clear H
                          try go_wp2
                          repeat (go_quiet (fail); try go_wp2)
                          go_meet
                          case rel => exact ⟨_, H', ⟨by have := HJ14.out; have := HJ60.out; have := HJ62.out; have := HJ80.out; first | omega | exact Nat.le_refl _⟩, ⟨bK⟩, ⟨bK⟩, ⟨bG⟩⟩
                       case rest =>
                        as_aux_lemma =>
                         clear HC83
                         obtain ⟨kq, HA, HJ82, BK508, BK509, HB⟩ := hcut
                         cases kq with
                         | zero => exact absurd HA.out (by simp [laws_FnOrdersWholeOfAll.j4])
                         | succ kj82 =>
                          have H := HA.out
                          clear HA
                          simp only [laws_FnOrdersWholeOfAll.j4] at H
                          replace H := Option.bind_eq_some_iff.mp H
                          obtain ⟨⟨t537, t540⟩, A910, H⟩ := H
                          (try dsimp only at H)
                          have A91 := Aside0.mk A910
                          clear A910
                          replace H := Option.bind_eq_some_iff.mp H
                          obtain ⟨⟨t541, t544⟩, A920, H⟩ := H
                          (try dsimp only at H)
                          have A92 := Aside0.mk A920
                          clear A920
                          replace H := Option.bind_eq_some_iff.mp H
                          obtain ⟨⟨t545, t546⟩, A930, H⟩ := H
                          (try dsimp only at H)
                          have A93 := Aside0.mk A930
                          clear A930
                          replace H := Option.bind_eq_some_iff.mp H
                          obtain ⟨⟨t547, t548⟩, A940, H⟩ := H
                          (try dsimp only at H)
                          have A94 := Aside0.mk A940
                          clear A940
                          replace H := Option.bind_eq_some_iff.mp H
                          obtain ⟨⟨t549, t550⟩, A950, H⟩ := H
                          (try dsimp only at H)
                          have A95 := Aside0.mk A950
                          clear A950
                          replace H := Option.bind_eq_some_iff.mp H
                          obtain ⟨⟨t551, t552⟩, A960, H⟩ := H
                          (try dsimp only at H)
                          have A96 := Aside0.mk A960
                          clear A960
                          replace H := nz' H; obtain ⟨c97, H⟩ := H
                          have c97b0 : (t540 != t544) = false := by simpa using c97
                          (try (have c97b1 : decide (t540 = t544) = true := by simpa using c97))
                          (try (have c97b2 : (t540 == t544) = true := by simpa using c97))
                          clear c97
                          replace H := Option.bind_eq_some_iff.mp H
                          obtain ⟨t553, A980, H⟩ := H
                          (try dsimp only at H)
                          have A98 := Aside0.mk A980
                          clear A980
                          by_cases c99 : t553 = true
                          ·subst c99
                           replace H := zt H
                           replace H := nz' H; obtain ⟨c100, H⟩ := H
                           have c100b0 : (t546 != t548) = false := by simpa using c100
                           (try (have c100b1 : decide (t546 = t548) = true := by simpa using c100))
                           (try (have c100b2 : (t546 == t548) = true := by simpa using c100))
                           clear c100
                           replace H := nz H; obtain ⟨c101, H⟩ := H
                           have c101b0 : (t545 == t547) = true := beq_iff_eq.mpr c101
                           have c101b1 : (t545 != t547) = false := bne_eq_false_iff_eq.mpr c101
                           clear c101
                           replace H := nz' H; obtain ⟨c102, H⟩ := H
                           have c102b0 : (t550 != t552) = false := by simpa using c102
                           (try (have c102b1 : decide (t550 = t552) = true := by simpa using c102))
                           (try (have c102b2 : (t550 == t552) = true := by simpa using c102))
                           clear c102
                           replace H := nz H; obtain ⟨c103, H⟩ := H
                           have c103b0 : (t549 == t551) = true := beq_iff_eq.mpr c103
                           have c103b1 : (t549 != t551) = false := bne_eq_false_iff_eq.mpr c103
                           clear c103
                           replace H := nz' H; obtain ⟨c104, H⟩ := H
                           have c104b0 : (t546 != t540) = false := by simpa using c104
                           (try (have c104b1 : decide (t546 = t540) = true := by simpa using c104))
                           (try (have c104b2 : (t546 == t540) = true := by simpa using c104))
                           clear c104
                           replace H := nz' H; obtain ⟨c105, H⟩ := H
                           have c105b0 : (t550 != t540) = false := by simpa using c105
                           (try (have c105b1 : decide (t550 = t540) = true := by simpa using c105))
                           (try (have c105b2 : (t550 == t540) = true := by simpa using c105))
                           clear c105
                           by_cases c106 : t540 = true
                           ·subst c106
                            replace H := zt H
                            replace H := Option.bind_eq_some_iff.mp H
                            obtain ⟨⟨t554, t555⟩, A1070, H⟩ := H
                            (try dsimp only at H)
                            have A107 := Aside0.mk A1070
                            clear A1070
                            replace H := Option.bind_eq_some_iff.mp H
                            obtain ⟨⟨t556, t557⟩, A1080, H⟩ := H
                            (try dsimp only at H)
                            have A108 := Aside0.mk A1080
                            clear A1080
                            by_cases c109 : t555 = true
                            ·subst c109
                             replace H := zt H
                             by_cases c110 : t554 = true
                             ·subst c110
                              replace H := zt H
                              by_cases c111 : t557 = true
                              ·subst c111
                               replace H := zt H
                               replace H := nz H; obtain ⟨c112, H⟩ := H
                               have c112b0 : decide (0 < (t537.length : Int)) = true := decide_eq_true c112
                               have c112b1 : decide (0 < t537.length) = true := decide_eq_true (by omega)
                               clear c112
                               replace H := nz H; obtain ⟨c113, H⟩ := H
                               have c113b0 : ((rdOf ByteArray.empty t537 0).toList == t556.toList) = true := beq_iff_eq.mpr c113
                               have c113b1 : ((rdOf ByteArray.empty t537 0).toList != t556.toList) = false := bne_eq_false_iff_eq.mpr c113
                               clear c113
                               replace H := nz' H; obtain ⟨c114, H⟩ := H
                               have c114b0 : decide (t545 < 1) = false := decide_eq_false c114
                               clear c114
                               replace H := nz' H; obtain ⟨c115, H⟩ := H
                               have c115b0 : decide (t549 < 1) = false := decide_eq_false c115
                               clear c115
                               replace H := nz' H; obtain ⟨c116, H⟩ := H
                               have c116b0 : decide (t545 < t549) = false := decide_eq_false c116
                               clear c116
                               obtain rfl := Option.some.inj H
                               have hnb117 := NB509_508.out
                               have hnc117 := NB508_509.out
                               have hcz118_0 := cZ BK509 0 (.int .i64 a2_0)
                               have hcz118_1 := cZ BK509 1 (.int .i64 a2_1)
                               have hfz118_0 := blk_frozen BK509.out 0
                               have hfz118_1 := blk_frozen BK509.out 1
                               go_upto_region 22 with (first | ((with_reducible refine gate_callee (f := 15) rfl ?_); refine goesL_ (some 227) rfl rfl Try.func15 (by kernel_rfl) rfl #[.agg #[.int .i64 a2_0, .int .i64 a2_1]] rfl lM ?_; (with_reducible refine (impl_FirstWhole.calls kj82 a2_0 a2_1 t537 true _ A91.out).mono ?_); rintro e w119 ⟨v538, rfl, ho0, hb⟩; refine ⟨_, rfl, ?_⟩; have n0_ := Aside0.mk (Kd.R_lower ho0 (below_size bG)); have n1_ := Aside0.mk (blk_below (g := gb508) (o := .cells #[.int .i64 a0_0, .int .i64 a0_1] 23 (0, 0)) bK hb); have n2_ := Aside0.mk (blk_below (g := gb509) (o := .cells #[.int .i64 a2_0, .int .i64 a2_1] 23 (0, 0)) bK hb); have n3_ := Aside0.mk (below_step bG hb); clear BK508; clear BK509; clear HB; have HO539 := n0_; have BK508 := n1_; have BK509 := n2_; have HB := n3_; clear n0_ n1_ n2_ n3_; (try clear hb); (try clear ho0); have hcz120_0 := cZ BK509 0 (.int .i64 a2_0); have hcz120_1 := cZ BK509 1 (.int .i64 a2_1); have hfz120_0 := blk_frozen BK509.out 0; have hfz120_1 := blk_frozen BK509.out 1))
                               as_aux_lemma =>
                                go_upto_region 23 with (first | ((with_reducible refine gate_callee (f := 16) rfl ?_); refine goesL_ (some 232) rfl rfl Try.func16 (by kernel_rfl) rfl #[.agg #[.int .i64 a2_0, .int .i64 a2_1]] rfl lM ?_; (with_reducible refine (spec_FirstWhole.calls kj82 a2_0 a2_1 t541 t544 _ A92.out).mono ?_); rintro e w121 ⟨v542, rfl, ho0, hb⟩; refine ⟨_, rfl, ?_⟩; have n0_ := Aside0.mk (Kd.R_elder' (kR HO539) (Kd.R_base ho0) hb); have n1_ := Aside0.mk (Kd.R_lower (Kd.R_new' ho0 (Kd.R_lt (kR HO539))) (below_size bG)); have n2_ := Aside0.mk (blk_below (g := gb508) (o := .cells #[.int .i64 a0_0, .int .i64 a0_1] 23 (0, 0)) bK hb); have n3_ := Aside0.mk (blk_below (g := gb509) (o := .cells #[.int .i64 a2_0, .int .i64 a2_1] 23 (0, 0)) bK hb); have n4_ := Aside0.mk (below_step bG hb); clear HO539; clear BK508; clear BK509; clear HB; have HO539 := n0_; have HO543 := n1_; have BK508 := n2_; have BK509 := n3_; have HB := n4_; clear n0_ n1_ n2_ n3_ n4_; (try clear hb); (try clear ho0); have hcz122_0 := cZ BK509 0 (.int .i64 a2_0); have hcz122_1 := cZ BK509 1 (.int .i64 a2_1); have hfz122_0 := blk_frozen BK509.out 0; have hfz122_1 := blk_frozen BK509.out 1))
                                as_aux_lemma =>
                                 go_upto_region 24 with (first | ((with_reducible refine gate_callee (f := 17) rfl ?_); refine goesL_ (some 237) rfl rfl Try.func17 (by kernel_rfl) rfl #[.agg #[.int .i64 a2_0, .int .i64 a2_1]] rfl lM ?_; (with_reducible refine (impl_CountWhole.calls kj82 a2_0 a2_1 t545 t546 _ A93.out).mono ?_); rintro e w123 ⟨rfl, hb⟩; refine ⟨_, rfl, ?_⟩; have n0_ := Aside0.mk (Kd.R_below (kR HO539) hb); have n1_ := Aside0.mk (Kd.R_below (kR HO543) hb); have n2_ := Aside0.mk (blk_below (g := gb508) (o := .cells #[.int .i64 a0_0, .int .i64 a0_1] 23 (0, 0)) bK hb); have n3_ := Aside0.mk (blk_below (g := gb509) (o := .cells #[.int .i64 a2_0, .int .i64 a2_1] 23 (0, 0)) bK hb); have n4_ := Aside0.mk (below_step bG hb); clear HO539; clear HO543; clear BK508; clear BK509; clear HB; have HO539 := n0_; have HO543 := n1_; have BK508 := n2_; have BK509 := n3_; have HB := n4_; clear n0_ n1_ n2_ n3_ n4_; (try clear hb); have hcz124_0 := cZ BK509 0 (.int .i64 a2_0); have hcz124_1 := cZ BK509 1 (.int .i64 a2_1); have hfz124_0 := blk_frozen BK509.out 0; have hfz124_1 := blk_frozen BK509.out 1))
                                 as_aux_lemma =>
                                  go_upto_region 25 with (first | ((with_reducible refine gate_callee (f := 18) rfl ?_); refine goesL_ (some 242) rfl rfl Try.func18 (by kernel_rfl) rfl #[.agg #[.int .i64 a2_0, .int .i64 a2_1]] rfl lM ?_; (with_reducible refine (spec_CountWhole.calls kj82 a2_0 a2_1 t547 t548 _ A94.out).mono ?_); rintro e w125 ⟨rfl, hb⟩; refine ⟨_, rfl, ?_⟩; have n0_ := Aside0.mk (Kd.R_below (kR HO539) hb); have n1_ := Aside0.mk (Kd.R_below (kR HO543) hb); have n2_ := Aside0.mk (blk_below (g := gb508) (o := .cells #[.int .i64 a0_0, .int .i64 a0_1] 23 (0, 0)) bK hb); have n3_ := Aside0.mk (blk_below (g := gb509) (o := .cells #[.int .i64 a2_0, .int .i64 a2_1] 23 (0, 0)) bK hb); have n4_ := Aside0.mk (below_step bG hb); clear HO539; clear HO543; clear BK508; clear BK509; clear HB; have HO539 := n0_; have HO543 := n1_; have BK508 := n2_; have BK509 := n3_; have HB := n4_; clear n0_ n1_ n2_ n3_ n4_; (try clear hb); have hcz126_0 := cZ BK509 0 (.int .i64 a2_0); have hcz126_1 := cZ BK509 1 (.int .i64 a2_1); have hfz126_0 := blk_frozen BK509.out 0; have hfz126_1 := blk_frozen BK509.out 1))
                                  as_aux_lemma =>
                                   go_upto_region 26 with (first | ((with_reducible refine gate_callee (f := 19) rfl ?_); refine goesL_ (some 247) rfl rfl Try.func19 (by kernel_rfl) rfl #[.agg #[.int .i64 a2_0, .int .i64 a2_1]] rfl lM ?_; (with_reducible refine (impl_CountClosed.calls kj82 a2_0 a2_1 t549 t550 _ A95.out).mono ?_); rintro e w127 ⟨rfl, hb⟩; refine ⟨_, rfl, ?_⟩; have n0_ := Aside0.mk (Kd.R_below (kR HO539) hb); have n1_ := Aside0.mk (Kd.R_below (kR HO543) hb); have n2_ := Aside0.mk (blk_below (g := gb508) (o := .cells #[.int .i64 a0_0, .int .i64 a0_1] 23 (0, 0)) bK hb); have n3_ := Aside0.mk (blk_below (g := gb509) (o := .cells #[.int .i64 a2_0, .int .i64 a2_1] 23 (0, 0)) bK hb); have n4_ := Aside0.mk (below_step bG hb); clear HO539; clear HO543; clear BK508; clear BK509; clear HB; have HO539 := n0_; have HO543 := n1_; have BK508 := n2_; have BK509 := n3_; have HB := n4_; clear n0_ n1_ n2_ n3_ n4_; (try clear hb); have hcz128_0 := cZ BK509 0 (.int .i64 a2_0); have hcz128_1 := cZ BK509 1 (.int .i64 a2_1); have hfz128_0 := blk_frozen BK509.out 0; have hfz128_1 := blk_frozen BK509.out 1))
                                   go_upto_region 27 with (first | ((with_reducible refine gate_callee (f := 20) rfl ?_); refine goesL_ (some 252) rfl rfl Try.func20 (by kernel_rfl) rfl #[.agg #[.int .i64 a2_0, .int .i64 a2_1]] rfl lM ?_; (with_reducible refine (spec_CountClosed.calls kj82 a2_0 a2_1 t551 t552 _ A96.out).mono ?_); rintro e w129 ⟨rfl, hb⟩; refine ⟨_, rfl, ?_⟩; have n0_ := Aside0.mk (Kd.R_below (kR HO539) hb); have n1_ := Aside0.mk (Kd.R_below (kR HO543) hb); have n2_ := Aside0.mk (blk_below (g := gb508) (o := .cells #[.int .i64 a0_0, .int .i64 a0_1] 23 (0, 0)) bK hb); have n3_ := Aside0.mk (blk_below (g := gb509) (o := .cells #[.int .i64 a2_0, .int .i64 a2_1] 23 (0, 0)) bK hb); have n4_ := Aside0.mk (below_step bG hb); clear HO539; clear HO543; clear BK508; clear BK509; clear HB; have HO539 := n0_; have HO543 := n1_; have BK508 := n2_; have BK509 := n3_; have HB := n4_; clear n0_ n1_ n2_ n3_ n4_; (try clear hb); obtain ⟨Ao130, co130, eo130⟩ := Kd.R_slice HO539.out; subst eo130; obtain ⟨Ao131, co131, eo131⟩ := Kd.R_slice HO543.out; subst eo131))
                                   go_upto_region 30 with (first | (go_at_call 21; (with_reducible refine (laws_aTexts.calls kj82 _ _ t537 _ _ t541 true _ ?side1 ?side2 ?side3 ?side4 A98.out).mono ?_); (case side1 => exact cS ((Kd.R_reads' HO539.out).2.2)); (case side2 => exact (Kd.R_reads' HO539.out).2.1); (case side3 => exact cS ((Kd.R_reads' HO543.out).2.2)); (case side4 => exact (Kd.R_reads' HO543.out).2.1); rintro e w' ⟨rfl, ⟨nd, rfl⟩⟩; have hcz132_0 := cZ BK509 0 (.int .i64 a2_0); have hcz132_1 := cZ BK509 1 (.int .i64 a2_1); have hfz132_0 := blk_frozen BK509.out 0; have hfz132_1 := blk_frozen BK509.out 1))
                                   go_upto_region 31 with (first | ((with_reducible refine gate_callee (f := 6) rfl ?_); refine goesL_ (some 298) rfl rfl Try.func6 (by kernel_rfl) rfl #[.agg #[.int .i64 a2_0, .int .i64 a2_1], .slice Ao130 t537.length co130] rfl lM ?_; (with_reducible refine (impl_IsWholeOrder.calls kj82 a2_0 a2_1 _ _ t537 true true _ ?side1 ?side2 A107.out).mono ?_); (case side1 => exact cS ((Kd.R_reads' HO539.out).2.2)); (case side2 => exact (Kd.R_reads' HO539.out).2.1); rintro e w133 ⟨rfl, hb⟩; refine ⟨_, rfl, ?_⟩; have n0_ := Aside0.mk (Kd.R_below (kR HO539) hb); have n1_ := Aside0.mk (Kd.R_below (kR HO543) hb); have n2_ := Aside0.mk (blk_below (g := gb508) (o := .cells #[.int .i64 a0_0, .int .i64 a0_1] 23 (0, 0)) bK hb); have n3_ := Aside0.mk (blk_below (g := gb509) (o := .cells #[.int .i64 a2_0, .int .i64 a2_1] 23 (0, 0)) bK hb); have n4_ := Aside0.mk (below_step bG hb); clear HO539; clear HO543; clear BK508; clear BK509; clear HB; have HO539 := n0_; have HO543 := n1_; have BK508 := n2_; have BK509 := n3_; have HB := n4_; clear n0_ n1_ n2_ n3_ n4_; (try clear hb); have hcz134_0 := cZ BK509 0 (.int .i64 a2_0); have hcz134_1 := cZ BK509 1 (.int .i64 a2_1); have hfz134_0 := blk_frozen BK509.out 0; have hfz134_1 := blk_frozen BK509.out 1))
                                   try go_wp2_with (first | ((with_reducible refine gate_callee (f := 22) rfl ?_); refine goesL_ (some 303) rfl rfl Try.func22 (by kernel_rfl) rfl #[.agg #[.int .i64 a2_0, .int .i64 a2_1]] rfl lM ?_; (with_reducible refine (impl_ZeroCode.calls kj82 a2_0 a2_1 t556 true _ A108.out).mono ?_); rintro e w135 ⟨rfl, hb⟩; refine ⟨_, rfl, ?_⟩; have n0_ := Aside0.mk (Kd.R_below (kR HO539) hb); have n1_ := Aside0.mk (Kd.R_below (kR HO543) hb); have n2_ := Aside0.mk (blk_below (g := gb508) (o := .cells #[.int .i64 a0_0, .int .i64 a0_1] 23 (0, 0)) bK hb); have n3_ := Aside0.mk (blk_below (g := gb509) (o := .cells #[.int .i64 a2_0, .int .i64 a2_1] 23 (0, 0)) bK hb); have n4_ := Aside0.mk (below_step bG hb); clear HO539; clear HO543; clear BK508; clear BK509; clear HB; have HO539 := n0_; have HO543 := n1_; have BK508 := n2_; have BK509 := n3_; have HB := n4_; clear n0_ n1_ n2_ n3_ n4_; (try clear hb); have p558 : 0 ≤ (0 : Int) := (by omega); have q558 : 0 < (t537.length : Int) := oD; obtain ⟨ad558, e558, hx558_0⟩ := Kd.at_string (Kd.R_reads' HO539.out).2.2 0 p558 q558; cases e558; have qi558 : (0 < t537.length) = True := eq_true (by omega); (try rw [show ((0 : Int)).toNat = 0 from rfl] at hx558_0); (try rw [Addr.add_zero'] at hx558_0); replace p558 := eq_true p558; replace q558 := eq_true q558))
                                   go_ret
                                   exact ⟨rE, bG⟩
                              ·replace c111 := Bool.eq_false_iff.mpr c111
                               subst c111
                               replace H := zf H
                               exact absurd H (by simp)
                             ·replace c110 := Bool.eq_false_iff.mpr c110
                              subst c110
                              replace H := zf H
                              exact absurd H (by simp)
                            ·replace c109 := Bool.eq_false_iff.mpr c109
                             subst c109
                             replace H := zf H
                             exact absurd H (by simp)
                           ·replace c106 := Bool.eq_false_iff.mpr c106
                            subst c106
                            replace H := zf H
                            obtain rfl := Option.some.inj H
                            have hnb136 := NB509_508.out
                            have hnc136 := NB508_509.out
                            have hcz137_0 := cZ BK509 0 (.int .i64 a2_0)
                            have hcz137_1 := cZ BK509 1 (.int .i64 a2_1)
                            have hfz137_0 := blk_frozen BK509.out 0
                            have hfz137_1 := blk_frozen BK509.out 1
                            go_upto_region 22 with (first | ((with_reducible refine gate_callee (f := 15) rfl ?_); refine goesL_ (some 227) rfl rfl Try.func15 (by kernel_rfl) rfl #[.agg #[.int .i64 a2_0, .int .i64 a2_1]] rfl lM ?_; (with_reducible refine (impl_FirstWhole.calls kj82 a2_0 a2_1 t537 false _ A91.out).mono ?_); rintro e w138 ⟨v538, rfl, ho0, hb⟩; refine ⟨_, rfl, ?_⟩; have n0_ := Aside0.mk (Kd.R_lower ho0 (below_size bG)); have n1_ := Aside0.mk (blk_below (g := gb508) (o := .cells #[.int .i64 a0_0, .int .i64 a0_1] 23 (0, 0)) bK hb); have n2_ := Aside0.mk (blk_below (g := gb509) (o := .cells #[.int .i64 a2_0, .int .i64 a2_1] 23 (0, 0)) bK hb); have n3_ := Aside0.mk (below_step bG hb); clear BK508; clear BK509; clear HB; have HO539 := n0_; have BK508 := n1_; have BK509 := n2_; have HB := n3_; clear n0_ n1_ n2_ n3_; (try clear hb); (try clear ho0); have hcz139_0 := cZ BK509 0 (.int .i64 a2_0); have hcz139_1 := cZ BK509 1 (.int .i64 a2_1); have hfz139_0 := blk_frozen BK509.out 0; have hfz139_1 := blk_frozen BK509.out 1))
                            as_aux_lemma =>
                             go_upto_region 23 with (first | ((with_reducible refine gate_callee (f := 16) rfl ?_); refine goesL_ (some 232) rfl rfl Try.func16 (by kernel_rfl) rfl #[.agg #[.int .i64 a2_0, .int .i64 a2_1]] rfl lM ?_; (with_reducible refine (spec_FirstWhole.calls kj82 a2_0 a2_1 t541 t544 _ A92.out).mono ?_); rintro e w140 ⟨v542, rfl, ho0, hb⟩; refine ⟨_, rfl, ?_⟩; have n0_ := Aside0.mk (Kd.R_elder' (kR HO539) (Kd.R_base ho0) hb); have n1_ := Aside0.mk (Kd.R_lower (Kd.R_new' ho0 (Kd.R_lt (kR HO539))) (below_size bG)); have n2_ := Aside0.mk (blk_below (g := gb508) (o := .cells #[.int .i64 a0_0, .int .i64 a0_1] 23 (0, 0)) bK hb); have n3_ := Aside0.mk (blk_below (g := gb509) (o := .cells #[.int .i64 a2_0, .int .i64 a2_1] 23 (0, 0)) bK hb); have n4_ := Aside0.mk (below_step bG hb); clear HO539; clear BK508; clear BK509; clear HB; have HO539 := n0_; have HO543 := n1_; have BK508 := n2_; have BK509 := n3_; have HB := n4_; clear n0_ n1_ n2_ n3_ n4_; (try clear hb); (try clear ho0); have hcz141_0 := cZ BK509 0 (.int .i64 a2_0); have hcz141_1 := cZ BK509 1 (.int .i64 a2_1); have hfz141_0 := blk_frozen BK509.out 0; have hfz141_1 := blk_frozen BK509.out 1))
                             as_aux_lemma =>
                              go_upto_region 24 with (first | ((with_reducible refine gate_callee (f := 17) rfl ?_); refine goesL_ (some 237) rfl rfl Try.func17 (by kernel_rfl) rfl #[.agg #[.int .i64 a2_0, .int .i64 a2_1]] rfl lM ?_; (with_reducible refine (impl_CountWhole.calls kj82 a2_0 a2_1 t545 t546 _ A93.out).mono ?_); rintro e w142 ⟨rfl, hb⟩; refine ⟨_, rfl, ?_⟩; have n0_ := Aside0.mk (Kd.R_below (kR HO539) hb); have n1_ := Aside0.mk (Kd.R_below (kR HO543) hb); have n2_ := Aside0.mk (blk_below (g := gb508) (o := .cells #[.int .i64 a0_0, .int .i64 a0_1] 23 (0, 0)) bK hb); have n3_ := Aside0.mk (blk_below (g := gb509) (o := .cells #[.int .i64 a2_0, .int .i64 a2_1] 23 (0, 0)) bK hb); have n4_ := Aside0.mk (below_step bG hb); clear HO539; clear HO543; clear BK508; clear BK509; clear HB; have HO539 := n0_; have HO543 := n1_; have BK508 := n2_; have BK509 := n3_; have HB := n4_; clear n0_ n1_ n2_ n3_ n4_; (try clear hb); have hcz143_0 := cZ BK509 0 (.int .i64 a2_0); have hcz143_1 := cZ BK509 1 (.int .i64 a2_1); have hfz143_0 := blk_frozen BK509.out 0; have hfz143_1 := blk_frozen BK509.out 1))
                              go_upto_region 25 with (first | ((with_reducible refine gate_callee (f := 18) rfl ?_); refine goesL_ (some 242) rfl rfl Try.func18 (by kernel_rfl) rfl #[.agg #[.int .i64 a2_0, .int .i64 a2_1]] rfl lM ?_; (with_reducible refine (spec_CountWhole.calls kj82 a2_0 a2_1 t547 t548 _ A94.out).mono ?_); rintro e w144 ⟨rfl, hb⟩; refine ⟨_, rfl, ?_⟩; have n0_ := Aside0.mk (Kd.R_below (kR HO539) hb); have n1_ := Aside0.mk (Kd.R_below (kR HO543) hb); have n2_ := Aside0.mk (blk_below (g := gb508) (o := .cells #[.int .i64 a0_0, .int .i64 a0_1] 23 (0, 0)) bK hb); have n3_ := Aside0.mk (blk_below (g := gb509) (o := .cells #[.int .i64 a2_0, .int .i64 a2_1] 23 (0, 0)) bK hb); have n4_ := Aside0.mk (below_step bG hb); clear HO539; clear HO543; clear BK508; clear BK509; clear HB; have HO539 := n0_; have HO543 := n1_; have BK508 := n2_; have BK509 := n3_; have HB := n4_; clear n0_ n1_ n2_ n3_ n4_; (try clear hb); have hcz145_0 := cZ BK509 0 (.int .i64 a2_0); have hcz145_1 := cZ BK509 1 (.int .i64 a2_1); have hfz145_0 := blk_frozen BK509.out 0; have hfz145_1 := blk_frozen BK509.out 1))
                              go_upto_region 26 with (first | ((with_reducible refine gate_callee (f := 19) rfl ?_); refine goesL_ (some 247) rfl rfl Try.func19 (by kernel_rfl) rfl #[.agg #[.int .i64 a2_0, .int .i64 a2_1]] rfl lM ?_; (with_reducible refine (impl_CountClosed.calls kj82 a2_0 a2_1 t549 t550 _ A95.out).mono ?_); rintro e w146 ⟨rfl, hb⟩; refine ⟨_, rfl, ?_⟩; have n0_ := Aside0.mk (Kd.R_below (kR HO539) hb); have n1_ := Aside0.mk (Kd.R_below (kR HO543) hb); have n2_ := Aside0.mk (blk_below (g := gb508) (o := .cells #[.int .i64 a0_0, .int .i64 a0_1] 23 (0, 0)) bK hb); have n3_ := Aside0.mk (blk_below (g := gb509) (o := .cells #[.int .i64 a2_0, .int .i64 a2_1] 23 (0, 0)) bK hb); have n4_ := Aside0.mk (below_step bG hb); clear HO539; clear HO543; clear BK508; clear BK509; clear HB; have HO539 := n0_; have HO543 := n1_; have BK508 := n2_; have BK509 := n3_; have HB := n4_; clear n0_ n1_ n2_ n3_ n4_; (try clear hb); have hcz147_0 := cZ BK509 0 (.int .i64 a2_0); have hcz147_1 := cZ BK509 1 (.int .i64 a2_1); have hfz147_0 := blk_frozen BK509.out 0; have hfz147_1 := blk_frozen BK509.out 1))
                              go_upto_region 27 with (first | ((with_reducible refine gate_callee (f := 20) rfl ?_); refine goesL_ (some 252) rfl rfl Try.func20 (by kernel_rfl) rfl #[.agg #[.int .i64 a2_0, .int .i64 a2_1]] rfl lM ?_; (with_reducible refine (spec_CountClosed.calls kj82 a2_0 a2_1 t551 t552 _ A96.out).mono ?_); rintro e w148 ⟨rfl, hb⟩; refine ⟨_, rfl, ?_⟩; have n0_ := Aside0.mk (Kd.R_below (kR HO539) hb); have n1_ := Aside0.mk (Kd.R_below (kR HO543) hb); have n2_ := Aside0.mk (blk_below (g := gb508) (o := .cells #[.int .i64 a0_0, .int .i64 a0_1] 23 (0, 0)) bK hb); have n3_ := Aside0.mk (blk_below (g := gb509) (o := .cells #[.int .i64 a2_0, .int .i64 a2_1] 23 (0, 0)) bK hb); have n4_ := Aside0.mk (below_step bG hb); clear HO539; clear HO543; clear BK508; clear BK509; clear HB; have HO539 := n0_; have HO543 := n1_; have BK508 := n2_; have BK509 := n3_; have HB := n4_; clear n0_ n1_ n2_ n3_ n4_; (try clear hb); obtain ⟨Ao149, co149, eo149⟩ := Kd.R_slice HO539.out; subst eo149; obtain ⟨Ao150, co150, eo150⟩ := Kd.R_slice HO543.out; subst eo150))
                              try go_wp2_with (first | (go_at_call 21; (with_reducible refine (laws_aTexts.calls kj82 _ _ t537 _ _ t541 true _ ?side1 ?side2 ?side3 ?side4 A98.out).mono ?_); (case side1 => exact cS ((Kd.R_reads' HO539.out).2.2)); (case side2 => exact (Kd.R_reads' HO539.out).2.1); (case side3 => exact cS ((Kd.R_reads' HO543.out).2.2)); (case side4 => exact (Kd.R_reads' HO543.out).2.1); rintro e w' ⟨rfl, ⟨nd, rfl⟩⟩))
                              go_ret
                              exact ⟨rE, bG⟩
                          ·replace c99 := Bool.eq_false_iff.mpr c99
                           subst c99
                           replace H := zf H
                           exact absurd H (by simp)
end Go.Proofs.Ythpmpkmdjpaemaa.O
