-- Printed by hp.py, a program of this session: a machine's side of laws, out of the translation; Lean checks it.
import Derived.Test.YtcpnmiempaofdaaAx0
import Derived.Test.YtcpnmiempaofdaaAx4
import Derived.Test.YtcpnmiempaofdaaAx6
import Derived.Test.YtcpnmiempaofdaaAx7
import Derived.Test.YtcpnmiempaofdaaAx8
import Derived.Test.YtcpnmiempaofdaaAx9
import Derived.Test.YtcpnmiempaofdaaAx10
import Derived.Test.YtcpnmiempaofdaaAx11
namespace Go.Proofs.Ytcpnmiempaofdaa.A
open Go.RowKit Go.Proofs.YtcpnmiempaofdaaW.PrintWords Go.Proofs.YtcpnmiempaofdaaW.PrintLast Go.Proofs.YtcpnmiempaofdaaW.PrintMore
attribute [local go_sem] max2_int min2_int max_two min_two max_three min_three max_four min_four   -- for this text's walks alone
set_option linter.unusedVariables false
set_option linter.unusedSimpArgs false

/-! ### laws_FnHintsPlayedOfAll: function 3 -/
mutual
def laws_FnHintsPlayedOfAll.j2 : Nat → Int → Int → Int → Int → Int → Int → Option (Bool)
 | 0, _, _, _, _, _, _ => none
 | k + 1, x4, x5, x371000, x371001, x372000, x372001 => (impl_MostGuesses.f k x371000 x371001).bind fun bt402 => ((spec_MostGuesses.f k x371000 x371001).bind fun bt404 => ((impl_HardestCodes.f k x371000 x371001).bind fun bt406 => ((spec_HardestCodes.f k x371000 x371001).bind fun bt410 => ((impl_PossibleHints.f k x371000 x371001).bind fun bt414 => ((spec_PossibleHints.f k x371000 x371001).bind fun bt418 => ((impl_CountWithHint.f k x372000 x372001 x4 x5).bind fun bt422 => ((spec_CountWithHint.f k x372000 x372001 x4 x5).bind fun bt424 => (if (bt402.2 != bt404.2) = true then (none) else (if bt402.1 = bt404.1 then (if (bt406.2 != bt410.2) = true then (none) else ((laws_eTexts.f k bt406.1 bt410.1).bind fun t426 => (if t426 = true then (if (bt414.2 != bt418.2) = true then (none) else ((laws_eRows.f k bt414.1 bt418.1).bind fun t427 => (if t427 = true then (if (bt422.2 != bt424.2) = true then (none) else (if bt422.1 = bt424.1 then (if (bt406.2 != bt402.2) = true then (none) else (if (bt414.2 != bt402.2) = true then (none) else (if bt402.2 = true then (if (bt406.1.length : Int) < 1 then (none) else ((laws_eSorted.f k bt406.1).bind fun t428 => (if t428 = true then (if bt402.1 < 1 then (none) else (laws_FnHintsPlayedOfAll.l1 k x4 x5 bt402.1 bt414.1 bt422.1 bt422.2 bt406.1 (bt406.1.length : Int) 0 x371000 x371001 x372000 x372001)) else (none)))) else (laws_FnHintsPlayedOfAll.j5 k x4 x5 bt422.1 bt422.2 x372000 x372001)))) else (none))) else (none)))) else (none)))) else (none))))))))))
def laws_FnHintsPlayedOfAll.j5 : Nat → Int → Int → Int → Bool → Int → Int → Option (Bool)
 | 0, _, _, _, _, _, _ => none
 | k + 1, x4, x5, x41, x42, x372000, x372001 => if x42 = true then ((impl_ZeroCode.f k x372000 x372001).bind fun bt443 => ((impl_CountFitting.f k x372000 x372001 (([(⟨bt443.1, x4, x5⟩ : S31)] : List (S31)))).bind fun bt448 => (if bt443.2 = true then (if bt448.2 = true then (if bt448.1 = x41 then (if x5 = 0 then (some true) else (some (x41 == 0))) else (none)) else (none)) else (none)))) else (some true)
def laws_FnHintsPlayedOfAll.l1 : Nat → Int → Int → Int → List (List Int) → Int → Bool → List ByteArray → Int → Int → Int → Int → Int → Int → Option (Bool)
 | 0, _, _, _, _, _, _, _, _, _, _, _, _, _ => none
 | k + 1, x4, x5, x29, x37, x41, x42, x319, x320, x321, x371000, x371001, x372000, x372001 => if x321 < x320 then (if 0 ≤ x321 then (if x321 < (x319.length : Int) then ((impl_CountGuesses.f k x371000 x371001 (rdOf ByteArray.empty x319 x321)).bind fun bt430 => (if x321 < 5 then (if bt430.2 = true then (if bt430.1 = x29 then (laws_FnHintsPlayedOfAll.l1 k x4 x5 x29 x37 x41 x42 x319 x320 (wrap64 (x321 + 1)) x371000 x371001 x372000 x372001) else (none)) else (none)) else (laws_FnHintsPlayedOfAll.l1 k x4 x5 x29 x37 x41 x42 x319 x320 (wrap64 (x321 + 1)) x371000 x371001 x372000 x372001))) else (none)) else (none)) else ((impl_ZeroCode.f k x371000 x371001).bind fun bt432 => ((impl_CountGuesses.f k x371000 x371001 bt432.1).bind fun bt434 => (if bt432.2 = true then (if bt434.2 = true then (if bt434.1 > x29 then (none) else (laws_FnHintsPlayedOfAll.l2 k x4 x5 x41 x42 x37 (x37.length : Int) 0 x371000 x371001 x372000 x372001)) else (none)) else (none))))
def laws_FnHintsPlayedOfAll.l2 : Nat → Int → Int → Int → Bool → List (List Int) → Int → Int → Int → Int → Int → Int → Option (Bool)
 | 0, _, _, _, _, _, _, _, _, _, _, _ => none
 | k + 1, x4, x5, x41, x42, x366, x367, x368, x371000, x371001, x372000, x372001 => if x368 < x367 then (if 0 ≤ x368 then (if x368 < (x366.length : Int) then (if ((rd_L7 x366 x368).length : Int) = 2 then (if 0 < ((rd_L7 x366 x368).length : Int) then (if (rd (rd_L7 x366 x368) 0) < 0 then (none) else (if 1 < ((rd_L7 x366 x368).length : Int) then (if (rd (rd_L7 x366 x368) 1) < 0 then (none) else (if (wrap64 ((rd (rd_L7 x366 x368) 0) + (rd (rd_L7 x366 x368) 1))) > x371000 then (none) else (if (rd (rd_L7 x366 x368) 0) = (wrap64 (x371000 - 1)) then (if (rd (rd_L7 x366 x368) 1) = 1 then (none) else (laws_FnHintsPlayedOfAll.l2 k x4 x5 x41 x42 x366 x367 (wrap64 (x368 + 1)) x371000 x371001 x372000 x372001)) else (laws_FnHintsPlayedOfAll.l2 k x4 x5 x41 x42 x366 x367 (wrap64 (x368 + 1)) x371000 x371001 x372000 x372001)))) else (none))) else (none)) else (none)) else (none)) else (none)) else (laws_FnHintsPlayedOfAll.j5 k x4 x5 x41 x42 x372000 x372001)
def laws_FnHintsPlayedOfAll.l0 : Nat → ByteArray → Int → Int → List (S31) → List (S31) → Int → Int → Int → Int → Int → Int → Int → Int → Option (Bool)
 | 0, _, _, _, _, _, _, _, _, _, _, _, _, _ => none
 | k + 1, x1, x4, x5, x13, x141, x142, x143, x370000, x370001, x371000, x371001, x372000, x372001 => if x143 < x142 then (if 0 ≤ x143 then (if x143 < (x141.length : Int) then ((impl_HintOf.f k x370000 x370001 ((rd_T31 x141 x143).f0) x1).bind fun bt389 => (if bt389.2.2 = true then (if bt389.1 = ((rd_T31 x141 x143).f1) then (if bt389.2.1 = ((rd_T31 x141 x143).f2) then (if x143 > 0 then (if 0 ≤ (wrap64 (x143 - 1)) then (if (wrap64 (x143 - 1)) < (x13.length : Int) then (laws_FnHintsPlayedOfAll.j1 k x1 x4 x5 x13 x143 x141 x142 x143 (!(Op.bytesLess (((rd_T31 x13 (wrap64 (x143 - 1))).f0).toList) (((rd_T31 x141 x143).f0).toList))) x370000 x370001 x371000 x371001 x372000 x372001 ((rd_T31 x141 x143).f0) ((rd_T31 x141 x143).f1) ((rd_T31 x141 x143).f2)) else (none)) else (none)) else (laws_FnHintsPlayedOfAll.j1 k x1 x4 x5 x13 x143 x141 x142 x143 false x370000 x370001 x371000 x371001 x372000 x372001 ((rd_T31 x141 x143).f0) ((rd_T31 x141 x143).f1) ((rd_T31 x141 x143).f2))) else (none)) else (none)) else (none))) else (none)) else (none)) else (laws_FnHintsPlayedOfAll.j2 k x4 x5 x371000 x371001 x372000 x372001)
def laws_FnHintsPlayedOfAll.j1 : Nat → ByteArray → Int → Int → List (S31) → Int → List (S31) → Int → Int → Bool → Int → Int → Int → Int → Int → Int → ByteArray → Int → Int → Option (Bool)
 | 0, _, _, _, _, _, _, _, _, _, _, _, _, _, _, _, _, _, _ => none
 | k + 1, x1, x4, x5, x13, x22, x141, x142, x143, x185, x370000, x370001, x371000, x371001, x372000, x372001, x389000, x389001, x389002 => if x185 = true then (none) else (if x22 ≤ 10 then (if 0 ≤ x22 then (if x22 ≤ (x13.length : Int) then ((impl_FittingCodes.f k x370000 x370001 (x13.take (x22 : Int).toNat)).bind fun bt397 => (if bt397.2 = true then (if (bt397.1.length : Int) < 1 then (none) else (if 0 < (bt397.1.length : Int) then (if (rdOf ByteArray.empty bt397.1 0).toList = x389000.toList then (laws_FnHintsPlayedOfAll.l0 k x1 x4 x5 x13 x141 x142 (wrap64 (x143 + 1)) x370000 x370001 x371000 x371001 x372000 x372001) else (none)) else (none))) else (none))) else (none)) else (none)) else (laws_FnHintsPlayedOfAll.l0 k x1 x4 x5 x13 x141 x142 (wrap64 (x143 + 1)) x370000 x370001 x371000 x371001 x372000 x372001))
end
def laws_FnHintsPlayedOfAll.f (k : Nat) (a0_0 : Int) (a0_1 : Int) (a1 : ByteArray) (a2_0 : Int) (a2_1 : Int) (a3_0 : Int) (a3_1 : Int) (a4 : Int) (a5 : Int) : Option (Bool) := if (a1.size : Int) > 1048576 then (some true) else ((impl_PlayFirst.f k a0_0 a0_1 a1).bind fun bt372 => ((spec_PlayFirst.f k a0_0 a0_1 a1).bind fun bt376 => ((impl_CountGuesses.f k a0_0 a0_1 a1).bind fun bt380 => ((spec_CountGuesses.f k a0_0 a0_1 a1).bind fun bt382 => (if (bt372.2 != bt376.2) = true then (none) else ((laws_eHints.f k bt372.1 bt376.1).bind fun t384 => (if t384 = true then (if (bt380.2 != bt382.2) = true then (none) else (if bt380.1 = bt382.1 then (if (bt380.2 != bt372.2) = true then (none) else (if bt372.2 = true then (if (bt372.1.length : Int) = bt380.1 then (if (bt372.1.length : Int) < 1 then (none) else (if 0 ≤ (wrap64 ((bt372.1.length : Int) - 1)) then (if (wrap64 ((bt372.1.length : Int) - 1)) < (bt372.1.length : Int) then (if ((rd_T31 bt372.1 (wrap64 ((bt372.1.length : Int) - 1))).f0).toList = a1.toList then (if ((rd_T31 bt372.1 (wrap64 ((bt372.1.length : Int) - 1))).f1) = a0_0 then (laws_FnHintsPlayedOfAll.l0 k a1 a4 a5 bt372.1 bt372.1 (bt372.1.length : Int) 0 a0_0 a0_1 a2_0 a2_1 a3_0 a3_1) else (none)) else (none)) else (none)) else (none))) else (none)) else (laws_FnHintsPlayedOfAll.j2 k a4 a5 a2_0 a2_1 a3_0 a3_1))) else (none))) else (none))))))))
theorem laws_FnHintsPlayedOfAll.mono_l : ∀ k, (∀ y0 y1 y2 y3 y4 y5, LeO (laws_FnHintsPlayedOfAll.j2 k y0 y1 y2 y3 y4 y5) (laws_FnHintsPlayedOfAll.j2 (k + 1) y0 y1 y2 y3 y4 y5)) ∧ (∀ y0 y1 y2 y3 y4 y5, LeO (laws_FnHintsPlayedOfAll.j5 k y0 y1 y2 y3 y4 y5) (laws_FnHintsPlayedOfAll.j5 (k + 1) y0 y1 y2 y3 y4 y5)) ∧ (∀ y0 y1 y2 y3 y4 y5 y6 y7 y8 y9 y10 y11 y12, LeO (laws_FnHintsPlayedOfAll.l1 k y0 y1 y2 y3 y4 y5 y6 y7 y8 y9 y10 y11 y12) (laws_FnHintsPlayedOfAll.l1 (k + 1) y0 y1 y2 y3 y4 y5 y6 y7 y8 y9 y10 y11 y12)) ∧ (∀ y0 y1 y2 y3 y4 y5 y6 y7 y8 y9 y10, LeO (laws_FnHintsPlayedOfAll.l2 k y0 y1 y2 y3 y4 y5 y6 y7 y8 y9 y10) (laws_FnHintsPlayedOfAll.l2 (k + 1) y0 y1 y2 y3 y4 y5 y6 y7 y8 y9 y10)) ∧ (∀ y0 y1 y2 y3 y4 y5 y6 y7 y8 y9 y10 y11 y12, LeO (laws_FnHintsPlayedOfAll.l0 k y0 y1 y2 y3 y4 y5 y6 y7 y8 y9 y10 y11 y12) (laws_FnHintsPlayedOfAll.l0 (k + 1) y0 y1 y2 y3 y4 y5 y6 y7 y8 y9 y10 y11 y12)) ∧ (∀ y0 y1 y2 y3 y4 y5 y6 y7 y8 y9 y10 y11 y12 y13 y14 y15 y16 y17, LeO (laws_FnHintsPlayedOfAll.j1 k y0 y1 y2 y3 y4 y5 y6 y7 y8 y9 y10 y11 y12 y13 y14 y15 y16 y17) (laws_FnHintsPlayedOfAll.j1 (k + 1) y0 y1 y2 y3 y4 y5 y6 y7 y8 y9 y10 y11 y12 y13 y14 y15 y16 y17))
 | 0 => ⟨fun _ _ _ _ _ _ r h => by simp [laws_FnHintsPlayedOfAll.j2] at h, fun _ _ _ _ _ _ r h => by simp [laws_FnHintsPlayedOfAll.j5] at h, fun _ _ _ _ _ _ _ _ _ _ _ _ _ r h => by simp [laws_FnHintsPlayedOfAll.l1] at h, fun _ _ _ _ _ _ _ _ _ _ _ r h => by simp [laws_FnHintsPlayedOfAll.l2] at h, fun _ _ _ _ _ _ _ _ _ _ _ _ _ r h => by simp [laws_FnHintsPlayedOfAll.l0] at h, fun _ _ _ _ _ _ _ _ _ _ _ _ _ _ _ _ _ _ r h => by simp [laws_FnHintsPlayedOfAll.j1] at h⟩
 | k + 1 => by
  obtain ⟨ih0, ih1, ih2, ih3, ih4, ih5⟩ := laws_FnHintsPlayedOfAll.mono_l k
  refine ⟨?_, ?_, ?_, ?_, ?_, ?_⟩
  ·intro y0 y1 y2 y3 y4 y5
   unfold laws_FnHintsPlayedOfAll.j2
   repeat' first
   | (with_reducible exact ih0 _ _ _ _ _ _)
   | (with_reducible exact ih1 _ _ _ _ _ _)
   | (with_reducible exact ih2 _ _ _ _ _ _ _ _ _ _ _ _ _)
   | (with_reducible exact ih3 _ _ _ _ _ _ _ _ _ _ _)
   | (with_reducible exact ih4 _ _ _ _ _ _ _ _ _ _ _ _ _)
   | (with_reducible exact ih5 _ _ _ _ _ _ _ _ _ _ _ _ _ _ _ _ _ _)
   | (with_reducible exact impl_CountFitting.mono _ _ _ _)
   | (with_reducible exact impl_CountGuesses.mono _ _ _ _)
   | (with_reducible exact impl_CountWithHint.mono _ _ _ _ _)
   | (with_reducible exact impl_FittingCodes.mono _ _ _ _)
   | (with_reducible exact impl_HardestCodes.mono _ _ _)
   | (with_reducible exact impl_HintOf.mono _ _ _ _ _)
   | (with_reducible exact impl_MostGuesses.mono _ _ _)
   | (with_reducible exact impl_PlayFirst.mono _ _ _ _)
   | (with_reducible exact impl_PossibleHints.mono _ _ _)
   | (with_reducible exact impl_ZeroCode.mono _ _ _)
   | (with_reducible exact laws_eHints.mono _ _ _)
   | (with_reducible exact laws_eRows.mono _ _ _)
   | (with_reducible exact laws_eSorted.mono _ _)
   | (with_reducible exact laws_eTexts.mono _ _ _)
   | (with_reducible exact spec_CountGuesses.mono _ _ _ _)
   | (with_reducible exact spec_CountWithHint.mono _ _ _ _ _)
   | (with_reducible exact spec_HardestCodes.mono _ _ _)
   | (with_reducible exact spec_MostGuesses.mono _ _ _)
   | (with_reducible exact spec_PlayFirst.mono _ _ _ _)
   | (with_reducible exact spec_PossibleHints.mono _ _ _)
   | (with_reducible exact LeO.refl _)
   | (with_reducible exact LeO.none _)
   | (with_reducible refine LeO.ite ?_ ?_)
   | (with_reducible refine LeO.bind ?_ (fun _ => ?_))
   | exact ih0 _ _ _ _ _ _
   | exact ih1 _ _ _ _ _ _
   | exact ih2 _ _ _ _ _ _ _ _ _ _ _ _ _
   | exact ih3 _ _ _ _ _ _ _ _ _ _ _
   | exact ih4 _ _ _ _ _ _ _ _ _ _ _ _ _
   | exact ih5 _ _ _ _ _ _ _ _ _ _ _ _ _ _ _ _ _ _
   | exact impl_CountFitting.mono _ _ _ _
   | exact impl_CountGuesses.mono _ _ _ _
   | exact impl_CountWithHint.mono _ _ _ _ _
   | exact impl_FittingCodes.mono _ _ _ _
   | exact impl_HardestCodes.mono _ _ _
   | exact impl_HintOf.mono _ _ _ _ _
   | exact impl_MostGuesses.mono _ _ _
   | exact impl_PlayFirst.mono _ _ _ _
   | exact impl_PossibleHints.mono _ _ _
   | exact impl_ZeroCode.mono _ _ _
   | exact laws_eHints.mono _ _ _
   | exact laws_eRows.mono _ _ _
   | exact laws_eSorted.mono _ _
   | exact laws_eTexts.mono _ _ _
   | exact spec_CountGuesses.mono _ _ _ _
   | exact spec_CountWithHint.mono _ _ _ _ _
   | exact spec_HardestCodes.mono _ _ _
   | exact spec_MostGuesses.mono _ _ _
   | exact spec_PlayFirst.mono _ _ _ _
   | exact spec_PossibleHints.mono _ _ _
   | exact LeO.none _
   | refine LeO.ite ?_ ?_
   | refine LeO.bind ?_ (fun _ => ?_)
  ·intro y0 y1 y2 y3 y4 y5
   unfold laws_FnHintsPlayedOfAll.j5
   repeat' first
   | (with_reducible exact ih0 _ _ _ _ _ _)
   | (with_reducible exact ih1 _ _ _ _ _ _)
   | (with_reducible exact ih2 _ _ _ _ _ _ _ _ _ _ _ _ _)
   | (with_reducible exact ih3 _ _ _ _ _ _ _ _ _ _ _)
   | (with_reducible exact ih4 _ _ _ _ _ _ _ _ _ _ _ _ _)
   | (with_reducible exact ih5 _ _ _ _ _ _ _ _ _ _ _ _ _ _ _ _ _ _)
   | (with_reducible exact impl_CountFitting.mono _ _ _ _)
   | (with_reducible exact impl_CountGuesses.mono _ _ _ _)
   | (with_reducible exact impl_CountWithHint.mono _ _ _ _ _)
   | (with_reducible exact impl_FittingCodes.mono _ _ _ _)
   | (with_reducible exact impl_HardestCodes.mono _ _ _)
   | (with_reducible exact impl_HintOf.mono _ _ _ _ _)
   | (with_reducible exact impl_MostGuesses.mono _ _ _)
   | (with_reducible exact impl_PlayFirst.mono _ _ _ _)
   | (with_reducible exact impl_PossibleHints.mono _ _ _)
   | (with_reducible exact impl_ZeroCode.mono _ _ _)
   | (with_reducible exact laws_eHints.mono _ _ _)
   | (with_reducible exact laws_eRows.mono _ _ _)
   | (with_reducible exact laws_eSorted.mono _ _)
   | (with_reducible exact laws_eTexts.mono _ _ _)
   | (with_reducible exact spec_CountGuesses.mono _ _ _ _)
   | (with_reducible exact spec_CountWithHint.mono _ _ _ _ _)
   | (with_reducible exact spec_HardestCodes.mono _ _ _)
   | (with_reducible exact spec_MostGuesses.mono _ _ _)
   | (with_reducible exact spec_PlayFirst.mono _ _ _ _)
   | (with_reducible exact spec_PossibleHints.mono _ _ _)
   | (with_reducible exact LeO.refl _)
   | (with_reducible exact LeO.none _)
   | (with_reducible refine LeO.ite ?_ ?_)
   | (with_reducible refine LeO.bind ?_ (fun _ => ?_))
   | exact ih0 _ _ _ _ _ _
   | exact ih1 _ _ _ _ _ _
   | exact ih2 _ _ _ _ _ _ _ _ _ _ _ _ _
   | exact ih3 _ _ _ _ _ _ _ _ _ _ _
   | exact ih4 _ _ _ _ _ _ _ _ _ _ _ _ _
   | exact ih5 _ _ _ _ _ _ _ _ _ _ _ _ _ _ _ _ _ _
   | exact impl_CountFitting.mono _ _ _ _
   | exact impl_CountGuesses.mono _ _ _ _
   | exact impl_CountWithHint.mono _ _ _ _ _
   | exact impl_FittingCodes.mono _ _ _ _
   | exact impl_HardestCodes.mono _ _ _
   | exact impl_HintOf.mono _ _ _ _ _
   | exact impl_MostGuesses.mono _ _ _
   | exact impl_PlayFirst.mono _ _ _ _
   | exact impl_PossibleHints.mono _ _ _
   | exact impl_ZeroCode.mono _ _ _
   | exact laws_eHints.mono _ _ _
   | exact laws_eRows.mono _ _ _
   | exact laws_eSorted.mono _ _
   | exact laws_eTexts.mono _ _ _
   | exact spec_CountGuesses.mono _ _ _ _
   | exact spec_CountWithHint.mono _ _ _ _ _
   | exact spec_HardestCodes.mono _ _ _
   | exact spec_MostGuesses.mono _ _ _
   | exact spec_PlayFirst.mono _ _ _ _
   | exact spec_PossibleHints.mono _ _ _
   | exact LeO.none _
   | refine LeO.ite ?_ ?_
   | refine LeO.bind ?_ (fun _ => ?_)
  ·intro y0 y1 y2 y3 y4 y5 y6 y7 y8 y9 y10 y11 y12
   unfold laws_FnHintsPlayedOfAll.l1
   repeat' first
   | (with_reducible exact ih0 _ _ _ _ _ _)
   | (with_reducible exact ih1 _ _ _ _ _ _)
   | (with_reducible exact ih2 _ _ _ _ _ _ _ _ _ _ _ _ _)
   | (with_reducible exact ih3 _ _ _ _ _ _ _ _ _ _ _)
   | (with_reducible exact ih4 _ _ _ _ _ _ _ _ _ _ _ _ _)
   | (with_reducible exact ih5 _ _ _ _ _ _ _ _ _ _ _ _ _ _ _ _ _ _)
   | (with_reducible exact impl_CountFitting.mono _ _ _ _)
   | (with_reducible exact impl_CountGuesses.mono _ _ _ _)
   | (with_reducible exact impl_CountWithHint.mono _ _ _ _ _)
   | (with_reducible exact impl_FittingCodes.mono _ _ _ _)
   | (with_reducible exact impl_HardestCodes.mono _ _ _)
   | (with_reducible exact impl_HintOf.mono _ _ _ _ _)
   | (with_reducible exact impl_MostGuesses.mono _ _ _)
   | (with_reducible exact impl_PlayFirst.mono _ _ _ _)
   | (with_reducible exact impl_PossibleHints.mono _ _ _)
   | (with_reducible exact impl_ZeroCode.mono _ _ _)
   | (with_reducible exact laws_eHints.mono _ _ _)
   | (with_reducible exact laws_eRows.mono _ _ _)
   | (with_reducible exact laws_eSorted.mono _ _)
   | (with_reducible exact laws_eTexts.mono _ _ _)
   | (with_reducible exact spec_CountGuesses.mono _ _ _ _)
   | (with_reducible exact spec_CountWithHint.mono _ _ _ _ _)
   | (with_reducible exact spec_HardestCodes.mono _ _ _)
   | (with_reducible exact spec_MostGuesses.mono _ _ _)
   | (with_reducible exact spec_PlayFirst.mono _ _ _ _)
   | (with_reducible exact spec_PossibleHints.mono _ _ _)
   | (with_reducible exact LeO.refl _)
   | (with_reducible exact LeO.none _)
   | (with_reducible refine LeO.ite ?_ ?_)
   | (with_reducible refine LeO.bind ?_ (fun _ => ?_))
   | exact ih0 _ _ _ _ _ _
   | exact ih1 _ _ _ _ _ _
   | exact ih2 _ _ _ _ _ _ _ _ _ _ _ _ _
   | exact ih3 _ _ _ _ _ _ _ _ _ _ _
   | exact ih4 _ _ _ _ _ _ _ _ _ _ _ _ _
   | exact ih5 _ _ _ _ _ _ _ _ _ _ _ _ _ _ _ _ _ _
   | exact impl_CountFitting.mono _ _ _ _
   | exact impl_CountGuesses.mono _ _ _ _
   | exact impl_CountWithHint.mono _ _ _ _ _
   | exact impl_FittingCodes.mono _ _ _ _
   | exact impl_HardestCodes.mono _ _ _
   | exact impl_HintOf.mono _ _ _ _ _
   | exact impl_MostGuesses.mono _ _ _
   | exact impl_PlayFirst.mono _ _ _ _
   | exact impl_PossibleHints.mono _ _ _
   | exact impl_ZeroCode.mono _ _ _
   | exact laws_eHints.mono _ _ _
   | exact laws_eRows.mono _ _ _
   | exact laws_eSorted.mono _ _
   | exact laws_eTexts.mono _ _ _
   | exact spec_CountGuesses.mono _ _ _ _
   | exact spec_CountWithHint.mono _ _ _ _ _
   | exact spec_HardestCodes.mono _ _ _
   | exact spec_MostGuesses.mono _ _ _
   | exact spec_PlayFirst.mono _ _ _ _
   | exact spec_PossibleHints.mono _ _ _
   | exact LeO.none _
   | refine LeO.ite ?_ ?_
   | refine LeO.bind ?_ (fun _ => ?_)
  ·intro y0 y1 y2 y3 y4 y5 y6 y7 y8 y9 y10
   unfold laws_FnHintsPlayedOfAll.l2
   repeat' first
   | (with_reducible exact ih0 _ _ _ _ _ _)
   | (with_reducible exact ih1 _ _ _ _ _ _)
   | (with_reducible exact ih2 _ _ _ _ _ _ _ _ _ _ _ _ _)
   | (with_reducible exact ih3 _ _ _ _ _ _ _ _ _ _ _)
   | (with_reducible exact ih4 _ _ _ _ _ _ _ _ _ _ _ _ _)
   | (with_reducible exact ih5 _ _ _ _ _ _ _ _ _ _ _ _ _ _ _ _ _ _)
   | (with_reducible exact impl_CountFitting.mono _ _ _ _)
   | (with_reducible exact impl_CountGuesses.mono _ _ _ _)
   | (with_reducible exact impl_CountWithHint.mono _ _ _ _ _)
   | (with_reducible exact impl_FittingCodes.mono _ _ _ _)
   | (with_reducible exact impl_HardestCodes.mono _ _ _)
   | (with_reducible exact impl_HintOf.mono _ _ _ _ _)
   | (with_reducible exact impl_MostGuesses.mono _ _ _)
   | (with_reducible exact impl_PlayFirst.mono _ _ _ _)
   | (with_reducible exact impl_PossibleHints.mono _ _ _)
   | (with_reducible exact impl_ZeroCode.mono _ _ _)
   | (with_reducible exact laws_eHints.mono _ _ _)
   | (with_reducible exact laws_eRows.mono _ _ _)
   | (with_reducible exact laws_eSorted.mono _ _)
   | (with_reducible exact laws_eTexts.mono _ _ _)
   | (with_reducible exact spec_CountGuesses.mono _ _ _ _)
   | (with_reducible exact spec_CountWithHint.mono _ _ _ _ _)
   | (with_reducible exact spec_HardestCodes.mono _ _ _)
   | (with_reducible exact spec_MostGuesses.mono _ _ _)
   | (with_reducible exact spec_PlayFirst.mono _ _ _ _)
   | (with_reducible exact spec_PossibleHints.mono _ _ _)
   | (with_reducible exact LeO.refl _)
   | (with_reducible exact LeO.none _)
   | (with_reducible refine LeO.ite ?_ ?_)
   | (with_reducible refine LeO.bind ?_ (fun _ => ?_))
   | exact ih0 _ _ _ _ _ _
   | exact ih1 _ _ _ _ _ _
   | exact ih2 _ _ _ _ _ _ _ _ _ _ _ _ _
   | exact ih3 _ _ _ _ _ _ _ _ _ _ _
   | exact ih4 _ _ _ _ _ _ _ _ _ _ _ _ _
   | exact ih5 _ _ _ _ _ _ _ _ _ _ _ _ _ _ _ _ _ _
   | exact impl_CountFitting.mono _ _ _ _
   | exact impl_CountGuesses.mono _ _ _ _
   | exact impl_CountWithHint.mono _ _ _ _ _
   | exact impl_FittingCodes.mono _ _ _ _
   | exact impl_HardestCodes.mono _ _ _
   | exact impl_HintOf.mono _ _ _ _ _
   | exact impl_MostGuesses.mono _ _ _
   | exact impl_PlayFirst.mono _ _ _ _
   | exact impl_PossibleHints.mono _ _ _
   | exact impl_ZeroCode.mono _ _ _
   | exact laws_eHints.mono _ _ _
   | exact laws_eRows.mono _ _ _
   | exact laws_eSorted.mono _ _
   | exact laws_eTexts.mono _ _ _
   | exact spec_CountGuesses.mono _ _ _ _
   | exact spec_CountWithHint.mono _ _ _ _ _
   | exact spec_HardestCodes.mono _ _ _
   | exact spec_MostGuesses.mono _ _ _
   | exact spec_PlayFirst.mono _ _ _ _
   | exact spec_PossibleHints.mono _ _ _
   | exact LeO.none _
   | refine LeO.ite ?_ ?_
   | refine LeO.bind ?_ (fun _ => ?_)
  ·intro y0 y1 y2 y3 y4 y5 y6 y7 y8 y9 y10 y11 y12
   unfold laws_FnHintsPlayedOfAll.l0
   repeat' first
   | (with_reducible exact ih0 _ _ _ _ _ _)
   | (with_reducible exact ih1 _ _ _ _ _ _)
   | (with_reducible exact ih2 _ _ _ _ _ _ _ _ _ _ _ _ _)
   | (with_reducible exact ih3 _ _ _ _ _ _ _ _ _ _ _)
   | (with_reducible exact ih4 _ _ _ _ _ _ _ _ _ _ _ _ _)
   | (with_reducible exact ih5 _ _ _ _ _ _ _ _ _ _ _ _ _ _ _ _ _ _)
   | (with_reducible exact impl_CountFitting.mono _ _ _ _)
   | (with_reducible exact impl_CountGuesses.mono _ _ _ _)
   | (with_reducible exact impl_CountWithHint.mono _ _ _ _ _)
   | (with_reducible exact impl_FittingCodes.mono _ _ _ _)
   | (with_reducible exact impl_HardestCodes.mono _ _ _)
   | (with_reducible exact impl_HintOf.mono _ _ _ _ _)
   | (with_reducible exact impl_MostGuesses.mono _ _ _)
   | (with_reducible exact impl_PlayFirst.mono _ _ _ _)
   | (with_reducible exact impl_PossibleHints.mono _ _ _)
   | (with_reducible exact impl_ZeroCode.mono _ _ _)
   | (with_reducible exact laws_eHints.mono _ _ _)
   | (with_reducible exact laws_eRows.mono _ _ _)
   | (with_reducible exact laws_eSorted.mono _ _)
   | (with_reducible exact laws_eTexts.mono _ _ _)
   | (with_reducible exact spec_CountGuesses.mono _ _ _ _)
   | (with_reducible exact spec_CountWithHint.mono _ _ _ _ _)
   | (with_reducible exact spec_HardestCodes.mono _ _ _)
   | (with_reducible exact spec_MostGuesses.mono _ _ _)
   | (with_reducible exact spec_PlayFirst.mono _ _ _ _)
   | (with_reducible exact spec_PossibleHints.mono _ _ _)
   | (with_reducible exact LeO.refl _)
   | (with_reducible exact LeO.none _)
   | (with_reducible refine LeO.ite ?_ ?_)
   | (with_reducible refine LeO.bind ?_ (fun _ => ?_))
   | exact ih0 _ _ _ _ _ _
   | exact ih1 _ _ _ _ _ _
   | exact ih2 _ _ _ _ _ _ _ _ _ _ _ _ _
   | exact ih3 _ _ _ _ _ _ _ _ _ _ _
   | exact ih4 _ _ _ _ _ _ _ _ _ _ _ _ _
   | exact ih5 _ _ _ _ _ _ _ _ _ _ _ _ _ _ _ _ _ _
   | exact impl_CountFitting.mono _ _ _ _
   | exact impl_CountGuesses.mono _ _ _ _
   | exact impl_CountWithHint.mono _ _ _ _ _
   | exact impl_FittingCodes.mono _ _ _ _
   | exact impl_HardestCodes.mono _ _ _
   | exact impl_HintOf.mono _ _ _ _ _
   | exact impl_MostGuesses.mono _ _ _
   | exact impl_PlayFirst.mono _ _ _ _
   | exact impl_PossibleHints.mono _ _ _
   | exact impl_ZeroCode.mono _ _ _
   | exact laws_eHints.mono _ _ _
   | exact laws_eRows.mono _ _ _
   | exact laws_eSorted.mono _ _
   | exact laws_eTexts.mono _ _ _
   | exact spec_CountGuesses.mono _ _ _ _
   | exact spec_CountWithHint.mono _ _ _ _ _
   | exact spec_HardestCodes.mono _ _ _
   | exact spec_MostGuesses.mono _ _ _
   | exact spec_PlayFirst.mono _ _ _ _
   | exact spec_PossibleHints.mono _ _ _
   | exact LeO.none _
   | refine LeO.ite ?_ ?_
   | refine LeO.bind ?_ (fun _ => ?_)
  ·intro y0 y1 y2 y3 y4 y5 y6 y7 y8 y9 y10 y11 y12 y13 y14 y15 y16 y17
   unfold laws_FnHintsPlayedOfAll.j1
   repeat' first
   | (with_reducible exact ih0 _ _ _ _ _ _)
   | (with_reducible exact ih1 _ _ _ _ _ _)
   | (with_reducible exact ih2 _ _ _ _ _ _ _ _ _ _ _ _ _)
   | (with_reducible exact ih3 _ _ _ _ _ _ _ _ _ _ _)
   | (with_reducible exact ih4 _ _ _ _ _ _ _ _ _ _ _ _ _)
   | (with_reducible exact ih5 _ _ _ _ _ _ _ _ _ _ _ _ _ _ _ _ _ _)
   | (with_reducible exact impl_CountFitting.mono _ _ _ _)
   | (with_reducible exact impl_CountGuesses.mono _ _ _ _)
   | (with_reducible exact impl_CountWithHint.mono _ _ _ _ _)
   | (with_reducible exact impl_FittingCodes.mono _ _ _ _)
   | (with_reducible exact impl_HardestCodes.mono _ _ _)
   | (with_reducible exact impl_HintOf.mono _ _ _ _ _)
   | (with_reducible exact impl_MostGuesses.mono _ _ _)
   | (with_reducible exact impl_PlayFirst.mono _ _ _ _)
   | (with_reducible exact impl_PossibleHints.mono _ _ _)
   | (with_reducible exact impl_ZeroCode.mono _ _ _)
   | (with_reducible exact laws_eHints.mono _ _ _)
   | (with_reducible exact laws_eRows.mono _ _ _)
   | (with_reducible exact laws_eSorted.mono _ _)
   | (with_reducible exact laws_eTexts.mono _ _ _)
   | (with_reducible exact spec_CountGuesses.mono _ _ _ _)
   | (with_reducible exact spec_CountWithHint.mono _ _ _ _ _)
   | (with_reducible exact spec_HardestCodes.mono _ _ _)
   | (with_reducible exact spec_MostGuesses.mono _ _ _)
   | (with_reducible exact spec_PlayFirst.mono _ _ _ _)
   | (with_reducible exact spec_PossibleHints.mono _ _ _)
   | (with_reducible exact LeO.refl _)
   | (with_reducible exact LeO.none _)
   | (with_reducible refine LeO.ite ?_ ?_)
   | (with_reducible refine LeO.bind ?_ (fun _ => ?_))
   | exact ih0 _ _ _ _ _ _
   | exact ih1 _ _ _ _ _ _
   | exact ih2 _ _ _ _ _ _ _ _ _ _ _ _ _
   | exact ih3 _ _ _ _ _ _ _ _ _ _ _
   | exact ih4 _ _ _ _ _ _ _ _ _ _ _ _ _
   | exact ih5 _ _ _ _ _ _ _ _ _ _ _ _ _ _ _ _ _ _
   | exact impl_CountFitting.mono _ _ _ _
   | exact impl_CountGuesses.mono _ _ _ _
   | exact impl_CountWithHint.mono _ _ _ _ _
   | exact impl_FittingCodes.mono _ _ _ _
   | exact impl_HardestCodes.mono _ _ _
   | exact impl_HintOf.mono _ _ _ _ _
   | exact impl_MostGuesses.mono _ _ _
   | exact impl_PlayFirst.mono _ _ _ _
   | exact impl_PossibleHints.mono _ _ _
   | exact impl_ZeroCode.mono _ _ _
   | exact laws_eHints.mono _ _ _
   | exact laws_eRows.mono _ _ _
   | exact laws_eSorted.mono _ _
   | exact laws_eTexts.mono _ _ _
   | exact spec_CountGuesses.mono _ _ _ _
   | exact spec_CountWithHint.mono _ _ _ _ _
   | exact spec_HardestCodes.mono _ _ _
   | exact spec_MostGuesses.mono _ _ _
   | exact spec_PlayFirst.mono _ _ _ _
   | exact spec_PossibleHints.mono _ _ _
   | exact LeO.none _
   | refine LeO.ite ?_ ?_
   | refine LeO.bind ?_ (fun _ => ?_)
theorem laws_FnHintsPlayedOfAll.mono : ∀ a0 a1 a2 a3 a4 a5 a6 a7 a8 k, LeO (laws_FnHintsPlayedOfAll.f k a0 a1 a2 a3 a4 a5 a6 a7 a8) (laws_FnHintsPlayedOfAll.f (k + 1) a0 a1 a2 a3 a4 a5 a6 a7 a8) := by
 intro a0 a1 a2 a3 a4 a5 a6 a7 a8 k
 obtain ⟨ih0, ih1, ih2, ih3, ih4, ih5⟩ := laws_FnHintsPlayedOfAll.mono_l k
 unfold laws_FnHintsPlayedOfAll.f
 repeat' first
   | (with_reducible exact ih0 _ _ _ _ _ _)
   | (with_reducible exact ih1 _ _ _ _ _ _)
   | (with_reducible exact ih2 _ _ _ _ _ _ _ _ _ _ _ _ _)
   | (with_reducible exact ih3 _ _ _ _ _ _ _ _ _ _ _)
   | (with_reducible exact ih4 _ _ _ _ _ _ _ _ _ _ _ _ _)
   | (with_reducible exact ih5 _ _ _ _ _ _ _ _ _ _ _ _ _ _ _ _ _ _)
   | (with_reducible exact impl_CountFitting.mono _ _ _ _)
   | (with_reducible exact impl_CountGuesses.mono _ _ _ _)
   | (with_reducible exact impl_CountWithHint.mono _ _ _ _ _)
   | (with_reducible exact impl_FittingCodes.mono _ _ _ _)
   | (with_reducible exact impl_HardestCodes.mono _ _ _)
   | (with_reducible exact impl_HintOf.mono _ _ _ _ _)
   | (with_reducible exact impl_MostGuesses.mono _ _ _)
   | (with_reducible exact impl_PlayFirst.mono _ _ _ _)
   | (with_reducible exact impl_PossibleHints.mono _ _ _)
   | (with_reducible exact impl_ZeroCode.mono _ _ _)
   | (with_reducible exact laws_eHints.mono _ _ _)
   | (with_reducible exact laws_eRows.mono _ _ _)
   | (with_reducible exact laws_eSorted.mono _ _)
   | (with_reducible exact laws_eTexts.mono _ _ _)
   | (with_reducible exact spec_CountGuesses.mono _ _ _ _)
   | (with_reducible exact spec_CountWithHint.mono _ _ _ _ _)
   | (with_reducible exact spec_HardestCodes.mono _ _ _)
   | (with_reducible exact spec_MostGuesses.mono _ _ _)
   | (with_reducible exact spec_PlayFirst.mono _ _ _ _)
   | (with_reducible exact spec_PossibleHints.mono _ _ _)
   | (with_reducible exact LeO.refl _)
   | (with_reducible exact LeO.none _)
   | (with_reducible refine LeO.ite ?_ ?_)
   | (with_reducible refine LeO.bind ?_ (fun _ => ?_))
   | exact ih0 _ _ _ _ _ _
   | exact ih1 _ _ _ _ _ _
   | exact ih2 _ _ _ _ _ _ _ _ _ _ _ _ _
   | exact ih3 _ _ _ _ _ _ _ _ _ _ _
   | exact ih4 _ _ _ _ _ _ _ _ _ _ _ _ _
   | exact ih5 _ _ _ _ _ _ _ _ _ _ _ _ _ _ _ _ _ _
   | exact impl_CountFitting.mono _ _ _ _
   | exact impl_CountGuesses.mono _ _ _ _
   | exact impl_CountWithHint.mono _ _ _ _ _
   | exact impl_FittingCodes.mono _ _ _ _
   | exact impl_HardestCodes.mono _ _ _
   | exact impl_HintOf.mono _ _ _ _ _
   | exact impl_MostGuesses.mono _ _ _
   | exact impl_PlayFirst.mono _ _ _ _
   | exact impl_PossibleHints.mono _ _ _
   | exact impl_ZeroCode.mono _ _ _
   | exact laws_eHints.mono _ _ _
   | exact laws_eRows.mono _ _ _
   | exact laws_eSorted.mono _ _
   | exact laws_eTexts.mono _ _ _
   | exact spec_CountGuesses.mono _ _ _ _
   | exact spec_CountWithHint.mono _ _ _ _ _
   | exact spec_HardestCodes.mono _ _ _
   | exact spec_MostGuesses.mono _ _ _
   | exact spec_PlayFirst.mono _ _ _ _
   | exact spec_PossibleHints.mono _ _ _
   | exact LeO.none _
   | refine LeO.ite ?_ ?_
   | refine LeO.bind ?_ (fun _ => ?_)
def laws_FnHintsPlayedOfAll.T20 : Bool × List (List Nat × List Nat) := (true, [([], []), ([], []), ([], []), ([1, 2], [1, 2]), ([0, 3], [0, 3]), ([4], [4]), ([5], [5]), ([5], [5]), ([6, 4, 0, 1, 2, 3, 4, 5, 6], [6]), ([7, 8, 0, 1, 2, 3, 4, 5, 6, 7, 8], [7])])
def laws_FnHintsPlayedOfAll.B20 : List Nat := [0, 0, 0, 6, 15, 31, 63, 63, 127, 511]
theorem laws_FnHintsPlayedOfAll.tab20 : rtab .any (opsOf Try.f3 20) = laws_FnHintsPlayedOfAll.T20 := by kernel_rfl
theorem laws_FnHintsPlayedOfAll.bits20 : waitsOk laws_FnHintsPlayedOfAll.T20.2 laws_FnHintsPlayedOfAll.B20 = true := by kernel_rfl
set_option maxHeartbeats 8000000 in
set_option maxRecDepth 100000 in
theorem laws_FnHintsPlayedOfAll.calls (k : Nat) (a0_0 : Int) (a0_1 : Int) (a1 : ByteArray) (a2_0 : Int) (a2_1 : Int) (a3_0 : Int) (a3_1 : Int) (a4 : Int) (a5 : Int) (r : Bool) (w : World) (h : laws_FnHintsPlayedOfAll.f k a0_0 a0_1 a1 a2_0 a2_1 a3_0 a3_1 a4 a5 = some r) :
  Calls Try.prog 3 #[.agg #[.int .i64 a0_0, .int .i64 a0_1], .string a1, .agg #[.int .i64 a2_0, .int .i64 a2_1], .agg #[.int .i64 a3_0, .int .i64 a3_1], .int .i64 a4, .int .i64 a5] w fun e w' => e = .returned (.bool r) ∧ Below w.heap.size w w' := by
 have hu23 := Try.underlying23
 have hu31 := Try.underlying31
 have HB := Aside0.mk (Below.refl w.heap.size w)
 have H : (if (a1.size : Int) > 1048576 then (some true) else ((impl_PlayFirst.f k a0_0 a0_1 a1).bind fun bt372 => ((spec_PlayFirst.f k a0_0 a0_1 a1).bind fun bt376 => ((impl_CountGuesses.f k a0_0 a0_1 a1).bind fun bt380 => ((spec_CountGuesses.f k a0_0 a0_1 a1).bind fun bt382 => (if (bt372.2 != bt376.2) = true then (none) else ((laws_eHints.f k bt372.1 bt376.1).bind fun t384 => (if t384 = true then (if (bt380.2 != bt382.2) = true then (none) else (if bt380.1 = bt382.1 then (if (bt380.2 != bt372.2) = true then (none) else (if bt372.2 = true then (if (bt372.1.length : Int) = bt380.1 then (if (bt372.1.length : Int) < 1 then (none) else (if 0 ≤ (wrap64 ((bt372.1.length : Int) - 1)) then (if (wrap64 ((bt372.1.length : Int) - 1)) < (bt372.1.length : Int) then (if ((rd_T31 bt372.1 (wrap64 ((bt372.1.length : Int) - 1))).f0).toList = a1.toList then (if ((rd_T31 bt372.1 (wrap64 ((bt372.1.length : Int) - 1))).f1) = a0_0 then (laws_FnHintsPlayedOfAll.l0 k a1 a4 a5 bt372.1 bt372.1 (bt372.1.length : Int) 0 a0_0 a0_1 a2_0 a2_1 a3_0 a3_1) else (none)) else (none)) else (none)) else (none))) else (none)) else (laws_FnHintsPlayedOfAll.j2 k a4 a5 a2_0 a2_1 a3_0 a3_1))) else (none))) else (none))))))))) = some r := h
 clear h
 by_cases c7 : (a1.size : Int) > 1048576
 ·rw [if_pos c7] at H
  have c7b0 : decide (1048576 < (a1.size : Int)) = true := decide_eq_true c7
  have c7b1 : decide (1048576 < a1.size) = true := decide_eq_true (by omega)
  clear c7
  obtain rfl := Option.some.inj H
  go_enter Try.func3, Try.ntmps3
  try go_wp2_with (first | ((with_reducible refine gate_dst (N := 6) rfl ?_); (try (refine gate_guard (by rfl) ?_; dsimp only)); refine box_event ?hg (N := 6) ?hd (cs := #[.int .i64 a0_0, .int .i64 a0_1]) (t := 23) ?hr ?_; (case hd => rfl); (case hg => rfl); (case hr => first | (go_simp; done) | (go_simp; rfl)); intro gb369 hg w8 hbox hb; have n0_ := Aside0.mk (below_step (by repeat (first | (with_reducible first | exact HB.out | apply below_alloc | apply pw_below_drewN | apply below_drew1) | exact HB.out)) hb); have n1_ := Aside0.mk (hbox); have n2_ := Aside0.mk ((by rw [hg]; exact (below_size (by repeat (first | (with_reducible first | exact HB.out | apply below_alloc | apply pw_below_drewN | apply below_drew1) | exact HB.out))) : w.heap.size ≤ gb369)); have n3_ := Aside0.mk ((by rw [hg]; exact (below_size (by repeat (first | (with_reducible first | exact HB.out | apply below_alloc | apply pw_below_drewN | apply below_drew1) | exact HB.out))) : w.heap.size ≤ gb369)); clear HB; have HB := n0_; have BK369 := n1_; have GW369 := n2_; have GE369 := n3_; clear n0_ n1_ n2_ n3_; clear hb hbox hg) | ((with_reducible refine gate_dst (N := 8) rfl ?_); (try (refine gate_guard (by rfl) ?_; dsimp only)); refine box_event ?hg (N := 8) ?hd (cs := #[.int .i64 a2_0, .int .i64 a2_1]) (t := 23) ?hr ?_; (case hd => rfl); (case hg => rfl); (case hr => first | (go_simp; done) | (go_simp; rfl)); intro gb370 hg w9 hbox hb; have n0_ := Aside0.mk (blk_below (g := gb369) (o := .cells #[.int .i64 a0_0, .int .i64 a0_1] 23 (0, 0)) (by (with_reducible repeat (first | refine blk_drewN ?_ _ | refine blk_drew ?_ | refine blk_alloc ?_ _)); exact BK369.out) hb); have n1_ := Aside0.mk (below_step (by repeat (first | (with_reducible first | exact HB.out | apply below_alloc | apply pw_below_drewN | apply below_drew1 | refine below_set ?_ GE369.out) | exact HB.out)) hb); have n2_ := Aside0.mk (hbox); have n3_ := Aside0.mk ((by rw [hg]; exact (below_size (by repeat (first | (with_reducible first | exact HB.out | apply below_alloc | apply pw_below_drewN | apply below_drew1 | refine below_set ?_ GE369.out) | exact HB.out))) : w.heap.size ≤ gb370)); have n4_ := Aside0.mk ((by rw [hg]; exact (below_size (by repeat (first | (with_reducible first | exact HB.out | apply below_alloc | apply pw_below_drewN | apply below_drew1 | refine below_set ?_ GE369.out) | exact HB.out))) : w.heap.size ≤ gb370)); have n5_ := Aside0.mk ((by rw [hg]; exact Nat.ne_of_lt (blk_lt (g := gb369) (o := .cells #[.int .i64 a0_0, .int .i64 a0_1] 23 (0, 0)) (by (with_reducible repeat (first | refine blk_drewN ?_ _ | refine blk_drew ?_ | refine blk_alloc ?_ _)); exact BK369.out)) : gb369 ≠ gb370)); have n6_ := Aside0.mk ((by rw [hg]; exact Nat.ne_of_gt (blk_lt (g := gb369) (o := .cells #[.int .i64 a0_0, .int .i64 a0_1] 23 (0, 0)) (by (with_reducible repeat (first | refine blk_drewN ?_ _ | refine blk_drew ?_ | refine blk_alloc ?_ _)); exact BK369.out)) : gb370 ≠ gb369)); clear BK369; clear HB; have BK369 := n0_; have HB := n1_; have BK370 := n2_; have GW370 := n3_; have GE370 := n4_; have NB369_370 := n5_; have NB370_369 := n6_; clear n0_ n1_ n2_ n3_ n4_ n5_ n6_; clear hb hbox hg) | ((with_reducible refine gate_dst (N := 9) rfl ?_); (try (refine gate_guard (by rfl) ?_; dsimp only)); refine box_event ?hg (N := 9) ?hd (cs := #[.int .i64 a3_0, .int .i64 a3_1]) (t := 23) ?hr ?_; (case hd => rfl); (case hg => rfl); (case hr => first | (go_simp; done) | (go_simp; rfl)); intro gb371 hg w10 hbox hb; have n0_ := Aside0.mk (blk_below (g := gb369) (o := .cells #[.int .i64 a0_0, .int .i64 a0_1] 23 (0, 0)) (by (with_reducible repeat (first | refine blk_drewN ?_ _ | refine blk_drew ?_ | refine blk_alloc ?_ _)); exact BK369.out) hb); have n1_ := Aside0.mk (blk_below (g := gb370) (o := .cells #[.int .i64 a2_0, .int .i64 a2_1] 23 (0, 0)) (by (with_reducible repeat (first | refine blk_drewN ?_ _ | refine blk_drew ?_ | refine blk_alloc ?_ _)); exact BK370.out) hb); have n2_ := Aside0.mk (below_step (by repeat (first | (with_reducible first | exact HB.out | apply below_alloc | apply pw_below_drewN | apply below_drew1 | refine below_set ?_ GE369.out | refine below_set ?_ GE370.out) | exact HB.out)) hb); have n3_ := Aside0.mk (hbox); have n4_ := Aside0.mk ((by rw [hg]; exact (below_size (by repeat (first | (with_reducible first | exact HB.out | apply below_alloc | apply pw_below_drewN | apply below_drew1 | refine below_set ?_ GE369.out | refine below_set ?_ GE370.out) | exact HB.out))) : w.heap.size ≤ gb371)); have n5_ := Aside0.mk ((by rw [hg]; exact (below_size (by repeat (first | (with_reducible first | exact HB.out | apply below_alloc | apply pw_below_drewN | apply below_drew1 | refine below_set ?_ GE369.out | refine below_set ?_ GE370.out) | exact HB.out))) : w.heap.size ≤ gb371)); have n6_ := Aside0.mk ((by rw [hg]; exact Nat.ne_of_lt (blk_lt (g := gb369) (o := .cells #[.int .i64 a0_0, .int .i64 a0_1] 23 (0, 0)) (by (with_reducible repeat (first | refine blk_drewN ?_ _ | refine blk_drew ?_ | refine blk_alloc ?_ _)); exact BK369.out)) : gb369 ≠ gb371)); have n7_ := Aside0.mk ((by rw [hg]; exact Nat.ne_of_gt (blk_lt (g := gb369) (o := .cells #[.int .i64 a0_0, .int .i64 a0_1] 23 (0, 0)) (by (with_reducible repeat (first | refine blk_drewN ?_ _ | refine blk_drew ?_ | refine blk_alloc ?_ _)); exact BK369.out)) : gb371 ≠ gb369)); have n8_ := Aside0.mk ((by rw [hg]; exact Nat.ne_of_lt (blk_lt (g := gb370) (o := .cells #[.int .i64 a2_0, .int .i64 a2_1] 23 (0, 0)) (by (with_reducible repeat (first | refine blk_drewN ?_ _ | refine blk_drew ?_ | refine blk_alloc ?_ _)); exact BK370.out)) : gb370 ≠ gb371)); have n9_ := Aside0.mk ((by rw [hg]; exact Nat.ne_of_gt (blk_lt (g := gb370) (o := .cells #[.int .i64 a2_0, .int .i64 a2_1] 23 (0, 0)) (by (with_reducible repeat (first | refine blk_drewN ?_ _ | refine blk_drew ?_ | refine blk_alloc ?_ _)); exact BK370.out)) : gb371 ≠ gb370)); clear BK369; clear BK370; clear HB; have BK369 := n0_; have BK370 := n1_; have HB := n2_; have BK371 := n3_; have GW371 := n4_; have GE371 := n5_; have NB369_371 := n6_; have NB371_369 := n7_; have NB370_371 := n8_; have NB371_370 := n9_; clear n0_ n1_ n2_ n3_ n4_ n5_ n6_ n7_ n8_ n9_; clear hb hbox hg))
  go_ret
  exact ⟨by first | rfl | (simp [errW_none, errW_some] <;> rfl) | (simp [*, errW_none, errW_some] <;> rfl), by repeat (first | (with_reducible first | exact HB.out | apply below_alloc | apply pw_below_drewN | apply below_drew1 | refine below_set ?_ GE369.out | refine below_set ?_ GE370.out | refine below_set ?_ GE371.out) | exact HB.out)⟩
 ·rw [if_neg c7] at H
  have c7b0 : decide (1048576 < (a1.size : Int)) = false := decide_eq_false c7
  have c7b1 : decide (1048576 < a1.size) = false := decide_eq_false (by omega)
  clear c7
  replace H := Option.bind_eq_some_iff.mp H
  obtain ⟨⟨t372, t375⟩, A110, H⟩ := H
  (try dsimp only at H)
  have A11 := Aside0.mk A110
  clear A110
  replace H := Option.bind_eq_some_iff.mp H
  obtain ⟨⟨t376, t379⟩, A120, H⟩ := H
  (try dsimp only at H)
  have A12 := Aside0.mk A120
  clear A120
  replace H := Option.bind_eq_some_iff.mp H
  obtain ⟨⟨t380, t381⟩, A130, H⟩ := H
  (try dsimp only at H)
  have A13 := Aside0.mk A130
  clear A130
  replace H := Option.bind_eq_some_iff.mp H
  obtain ⟨⟨t382, t383⟩, A140, H⟩ := H
  (try dsimp only at H)
  have A14 := Aside0.mk A140
  clear A140
  by_cases c15 : (t375 != t379) = true
  ·rw [if_pos c15] at H
   exact absurd H (by simp)
  ·rw [if_neg c15] at H
   have c15b0 : (t375 != t379) = false := by simpa using c15
   (try (have c15b1 : decide (t375 = t379) = true := by simpa using c15))
   (try (have c15b2 : (t375 == t379) = true := by simpa using c15))
   clear c15
   replace H := Option.bind_eq_some_iff.mp H
   obtain ⟨t384, A160, H⟩ := H
   (try dsimp only at H)
   have A16 := Aside0.mk A160
   clear A160
   by_cases c17 : t384 = true
   ·subst c17
    have H1 : (if (t381 != t383) = true then (none) else (if t380 = t382 then (if (t381 != t375) = true then (none) else (if t375 = true then (if (t372.length : Int) = t380 then (if (t372.length : Int) < 1 then (none) else (if 0 ≤ (wrap64 ((t372.length : Int) - 1)) then (if (wrap64 ((t372.length : Int) - 1)) < (t372.length : Int) then (if ((rd_T31 t372 (wrap64 ((t372.length : Int) - 1))).f0).toList = a1.toList then (if ((rd_T31 t372 (wrap64 ((t372.length : Int) - 1))).f1) = a0_0 then (laws_FnHintsPlayedOfAll.l0 k a1 a4 a5 t372 t372 (t372.length : Int) 0 a0_0 a0_1 a2_0 a2_1 a3_0 a3_1) else (none)) else (none)) else (none)) else (none))) else (none)) else (laws_FnHintsPlayedOfAll.j2 k a4 a5 a2_0 a2_1 a3_0 a3_1))) else (none))) = some r := by rw [if_pos rfl] at H; exact H
    clear H
    have H := H1
    clear H1
    by_cases c18 : (t381 != t383) = true
    ·rw [if_pos c18] at H
     exact absurd H (by simp)
    ·rw [if_neg c18] at H
     have c18b0 : (t381 != t383) = false := by simpa using c18
     (try (have c18b1 : decide (t381 = t383) = true := by simpa using c18))
     (try (have c18b2 : (t381 == t383) = true := by simpa using c18))
     clear c18
     by_cases c19 : t380 = t382
     ·rw [if_pos c19] at H
      have c19b0 : (t380 == t382) = true := beq_iff_eq.mpr c19
      have c19b1 : (t380 != t382) = false := bne_eq_false_iff_eq.mpr c19
      clear c19
      by_cases c20 : (t381 != t375) = true
      ·rw [if_pos c20] at H
       exact absurd H (by simp)
      ·rw [if_neg c20] at H
       have c20b0 : (t381 != t375) = false := by simpa using c20
       (try (have c20b1 : decide (t381 = t375) = true := by simpa using c20))
       (try (have c20b2 : (t381 == t375) = true := by simpa using c20))
       clear c20
       have HC21 := Aside0.mk H
       clear H
       go_enter Try.func3, Try.ntmps3
       go_upto_region 3 with (first | ((with_reducible refine gate_dst (N := 6) rfl ?_); (try (refine gate_guard (by rfl) ?_; dsimp only)); refine box_event ?hg (N := 6) ?hd (cs := #[.int .i64 a0_0, .int .i64 a0_1]) (t := 23) ?hr ?_; (case hd => rfl); (case hg => rfl); (case hr => first | (go_simp; done) | (go_simp; rfl)); intro gb369 hg w22 hbox hb; have n0_ := Aside0.mk (below_step (by repeat (first | (with_reducible first | exact HB.out | apply below_alloc | apply pw_below_drewN | apply below_drew1) | exact HB.out)) hb); have n1_ := Aside0.mk (hbox); have n2_ := Aside0.mk ((by rw [hg]; exact (below_size (by repeat (first | (with_reducible first | exact HB.out | apply below_alloc | apply pw_below_drewN | apply below_drew1) | exact HB.out))) : w.heap.size ≤ gb369)); have n3_ := Aside0.mk ((by rw [hg]; exact (below_size (by repeat (first | (with_reducible first | exact HB.out | apply below_alloc | apply pw_below_drewN | apply below_drew1) | exact HB.out))) : w.heap.size ≤ gb369)); clear HB; have HB := n0_; have BK369 := n1_; have GW369 := n2_; have GE369 := n3_; clear n0_ n1_ n2_ n3_; clear hb hbox hg) | ((with_reducible refine gate_dst (N := 8) rfl ?_); (try (refine gate_guard (by rfl) ?_; dsimp only)); refine box_event ?hg (N := 8) ?hd (cs := #[.int .i64 a2_0, .int .i64 a2_1]) (t := 23) ?hr ?_; (case hd => rfl); (case hg => rfl); (case hr => first | (go_simp; done) | (go_simp; rfl)); intro gb370 hg w23 hbox hb; have n0_ := Aside0.mk (blk_below (g := gb369) (o := .cells #[.int .i64 a0_0, .int .i64 a0_1] 23 (0, 0)) (by (with_reducible repeat (first | refine blk_drewN ?_ _ | refine blk_drew ?_ | refine blk_alloc ?_ _)); exact BK369.out) hb); have n1_ := Aside0.mk (below_step (by repeat (first | (with_reducible first | exact HB.out | apply below_alloc | apply pw_below_drewN | apply below_drew1 | refine below_set ?_ GE369.out) | exact HB.out)) hb); have n2_ := Aside0.mk (hbox); have n3_ := Aside0.mk ((by rw [hg]; exact (below_size (by repeat (first | (with_reducible first | exact HB.out | apply below_alloc | apply pw_below_drewN | apply below_drew1 | refine below_set ?_ GE369.out) | exact HB.out))) : w.heap.size ≤ gb370)); have n4_ := Aside0.mk ((by rw [hg]; exact (below_size (by repeat (first | (with_reducible first | exact HB.out | apply below_alloc | apply pw_below_drewN | apply below_drew1 | refine below_set ?_ GE369.out) | exact HB.out))) : w.heap.size ≤ gb370)); have n5_ := Aside0.mk ((by rw [hg]; exact Nat.ne_of_lt (blk_lt (g := gb369) (o := .cells #[.int .i64 a0_0, .int .i64 a0_1] 23 (0, 0)) (by (with_reducible repeat (first | refine blk_drewN ?_ _ | refine blk_drew ?_ | refine blk_alloc ?_ _)); exact BK369.out)) : gb369 ≠ gb370)); have n6_ := Aside0.mk ((by rw [hg]; exact Nat.ne_of_gt (blk_lt (g := gb369) (o := .cells #[.int .i64 a0_0, .int .i64 a0_1] 23 (0, 0)) (by (with_reducible repeat (first | refine blk_drewN ?_ _ | refine blk_drew ?_ | refine blk_alloc ?_ _)); exact BK369.out)) : gb370 ≠ gb369)); clear BK369; clear HB; have BK369 := n0_; have HB := n1_; have BK370 := n2_; have GW370 := n3_; have GE370 := n4_; have NB369_370 := n5_; have NB370_369 := n6_; clear n0_ n1_ n2_ n3_ n4_ n5_ n6_; clear hb hbox hg) | ((with_reducible refine gate_dst (N := 9) rfl ?_); (try (refine gate_guard (by rfl) ?_; dsimp only)); refine box_event ?hg (N := 9) ?hd (cs := #[.int .i64 a3_0, .int .i64 a3_1]) (t := 23) ?hr ?_; (case hd => rfl); (case hg => rfl); (case hr => first | (go_simp; done) | (go_simp; rfl)); intro gb371 hg w24 hbox hb; have n0_ := Aside0.mk (blk_below (g := gb369) (o := .cells #[.int .i64 a0_0, .int .i64 a0_1] 23 (0, 0)) (by (with_reducible repeat (first | refine blk_drewN ?_ _ | refine blk_drew ?_ | refine blk_alloc ?_ _)); exact BK369.out) hb); have n1_ := Aside0.mk (blk_below (g := gb370) (o := .cells #[.int .i64 a2_0, .int .i64 a2_1] 23 (0, 0)) (by (with_reducible repeat (first | refine blk_drewN ?_ _ | refine blk_drew ?_ | refine blk_alloc ?_ _)); exact BK370.out) hb); have n2_ := Aside0.mk (below_step (by repeat (first | (with_reducible first | exact HB.out | apply below_alloc | apply pw_below_drewN | apply below_drew1 | refine below_set ?_ GE369.out | refine below_set ?_ GE370.out) | exact HB.out)) hb); have n3_ := Aside0.mk (hbox); have n4_ := Aside0.mk ((by rw [hg]; exact (below_size (by repeat (first | (with_reducible first | exact HB.out | apply below_alloc | apply pw_below_drewN | apply below_drew1 | refine below_set ?_ GE369.out | refine below_set ?_ GE370.out) | exact HB.out))) : w.heap.size ≤ gb371)); have n5_ := Aside0.mk ((by rw [hg]; exact (below_size (by repeat (first | (with_reducible first | exact HB.out | apply below_alloc | apply pw_below_drewN | apply below_drew1 | refine below_set ?_ GE369.out | refine below_set ?_ GE370.out) | exact HB.out))) : w.heap.size ≤ gb371)); have n6_ := Aside0.mk ((by rw [hg]; exact Nat.ne_of_lt (blk_lt (g := gb369) (o := .cells #[.int .i64 a0_0, .int .i64 a0_1] 23 (0, 0)) (by (with_reducible repeat (first | refine blk_drewN ?_ _ | refine blk_drew ?_ | refine blk_alloc ?_ _)); exact BK369.out)) : gb369 ≠ gb371)); have n7_ := Aside0.mk ((by rw [hg]; exact Nat.ne_of_gt (blk_lt (g := gb369) (o := .cells #[.int .i64 a0_0, .int .i64 a0_1] 23 (0, 0)) (by (with_reducible repeat (first | refine blk_drewN ?_ _ | refine blk_drew ?_ | refine blk_alloc ?_ _)); exact BK369.out)) : gb371 ≠ gb369)); have n8_ := Aside0.mk ((by rw [hg]; exact Nat.ne_of_lt (blk_lt (g := gb370) (o := .cells #[.int .i64 a2_0, .int .i64 a2_1] 23 (0, 0)) (by (with_reducible repeat (first | refine blk_drewN ?_ _ | refine blk_drew ?_ | refine blk_alloc ?_ _)); exact BK370.out)) : gb370 ≠ gb371)); have n9_ := Aside0.mk ((by rw [hg]; exact Nat.ne_of_gt (blk_lt (g := gb370) (o := .cells #[.int .i64 a2_0, .int .i64 a2_1] 23 (0, 0)) (by (with_reducible repeat (first | refine blk_drewN ?_ _ | refine blk_drew ?_ | refine blk_alloc ?_ _)); exact BK370.out)) : gb371 ≠ gb370)); clear BK369; clear BK370; clear HB; have BK369 := n0_; have BK370 := n1_; have HB := n2_; have BK371 := n3_; have GW371 := n4_; have GE371 := n5_; have NB369_371 := n6_; have NB371_369 := n7_; have NB370_371 := n8_; have NB371_370 := n9_; clear n0_ n1_ n2_ n3_ n4_ n5_ n6_ n7_ n8_ n9_; clear hb hbox hg; have hnb25 := NB369_370.out; have hnc25 := NB370_369.out; have hnb26 := NB369_371.out; have hnc26 := NB371_369.out; have hcz27_0 : w24.cell? ⟨gb369, 0, none⟩ = some (.int .i64 a0_0) := (blk_cell BK369.out 0).trans rfl; have hcz27_1 : w24.cell? ⟨gb369, 1, none⟩ = some (.int .i64 a0_1) := (blk_cell BK369.out 1).trans rfl; have hfz27_0 := blk_frozen BK369.out 0; have hfz27_1 := blk_frozen BK369.out 1))
       as_aux_lemma =>
        go_upto_region 4 with (first | ((with_reducible refine gate_callee (f := 5) rfl ?_); refine goesL_ (some 65) rfl rfl Try.func5 (by kernel_rfl) rfl #[.agg #[.int .i64 a0_0, .int .i64 a0_1], .string a1] rfl (by (try simp only [List.map_toArray, List.map_cons, List.map_nil]); first | done | rfl | (simp only [List.length_drop, List.length_take]; rfl)) ?_; (with_reducible refine (impl_PlayFirst.calls k a0_0 a0_1 a1 t372 t375 _ A11.out).mono ?_); rintro e w28 ⟨v373, rfl, ho0, hb⟩; refine ⟨_, rfl, ?_⟩; have n0_ := Aside0.mk (Kd.R_lower ho0 (below_size (by repeat (first | (with_reducible first | exact HB.out | apply below_alloc | apply pw_below_drewN | apply below_drew1 | refine below_set ?_ GE369.out | refine below_set ?_ GE370.out | refine below_set ?_ GE371.out) | exact HB.out)))); have n1_ := Aside0.mk (blk_below (g := gb369) (o := .cells #[.int .i64 a0_0, .int .i64 a0_1] 23 (0, 0)) (by (with_reducible repeat (first | refine blk_drewN ?_ _ | refine blk_drew ?_ | refine blk_alloc ?_ _)); exact BK369.out) hb); have n2_ := Aside0.mk (blk_below (g := gb370) (o := .cells #[.int .i64 a2_0, .int .i64 a2_1] 23 (0, 0)) (by (with_reducible repeat (first | refine blk_drewN ?_ _ | refine blk_drew ?_ | refine blk_alloc ?_ _)); exact BK370.out) hb); have n3_ := Aside0.mk (blk_below (g := gb371) (o := .cells #[.int .i64 a3_0, .int .i64 a3_1] 23 (0, 0)) (by (with_reducible repeat (first | refine blk_drewN ?_ _ | refine blk_drew ?_ | refine blk_alloc ?_ _)); exact BK371.out) hb); have n4_ := Aside0.mk (below_step (by repeat (first | (with_reducible first | exact HB.out | apply below_alloc | apply pw_below_drewN | apply below_drew1 | refine below_set ?_ GE369.out | refine below_set ?_ GE370.out | refine below_set ?_ GE371.out) | exact HB.out)) hb); clear BK369; clear BK370; clear BK371; clear HB; have HO374 := n0_; have BK369 := n1_; have BK370 := n2_; have BK371 := n3_; have HB := n4_; clear n0_ n1_ n2_ n3_ n4_; (try clear hb); (try clear hb2); (try clear hk); (try clear hi); (try clear ho0); have hcz29_0 : w28.cell? ⟨gb369, 0, none⟩ = some (.int .i64 a0_0) := (blk_cell BK369.out 0).trans rfl; have hcz29_1 : w28.cell? ⟨gb369, 1, none⟩ = some (.int .i64 a0_1) := (blk_cell BK369.out 1).trans rfl; have hfz29_0 := blk_frozen BK369.out 0; have hfz29_1 := blk_frozen BK369.out 1))
        as_aux_lemma =>
         go_upto_region 5 with (first | ((with_reducible refine gate_callee (f := 6) rfl ?_); refine goesL_ (some 71) rfl rfl Try.func6 (by kernel_rfl) rfl #[.agg #[.int .i64 a0_0, .int .i64 a0_1], .string a1] rfl (by (try simp only [List.map_toArray, List.map_cons, List.map_nil]); first | done | rfl | (simp only [List.length_drop, List.length_take]; rfl)) ?_; (with_reducible refine (spec_PlayFirst.calls k a0_0 a0_1 a1 t376 t379 _ A12.out).mono ?_); rintro e w30 ⟨v377, rfl, ho0, hb⟩; refine ⟨_, rfl, ?_⟩; have n0_ := Aside0.mk (Kd.R_elder' (by (with_reducible repeat (first | apply Kd.R_alloc | apply Kd.R_drewN | apply Kd.R_drew)); exact HO374.out) (Kd.R_base ho0) hb); have n1_ := Aside0.mk (Kd.R_lower (Kd.R_new' ho0 (Kd.R_lt (by (with_reducible repeat (first | apply Kd.R_alloc | apply Kd.R_drewN | apply Kd.R_drew)); exact HO374.out))) (below_size (by repeat (first | (with_reducible first | exact HB.out | apply below_alloc | apply pw_below_drewN | apply below_drew1 | refine below_set ?_ GE369.out | refine below_set ?_ GE370.out | refine below_set ?_ GE371.out) | exact HB.out)))); have n2_ := Aside0.mk (blk_below (g := gb369) (o := .cells #[.int .i64 a0_0, .int .i64 a0_1] 23 (0, 0)) (by (with_reducible repeat (first | refine blk_drewN ?_ _ | refine blk_drew ?_ | refine blk_alloc ?_ _)); exact BK369.out) hb); have n3_ := Aside0.mk (blk_below (g := gb370) (o := .cells #[.int .i64 a2_0, .int .i64 a2_1] 23 (0, 0)) (by (with_reducible repeat (first | refine blk_drewN ?_ _ | refine blk_drew ?_ | refine blk_alloc ?_ _)); exact BK370.out) hb); have n4_ := Aside0.mk (blk_below (g := gb371) (o := .cells #[.int .i64 a3_0, .int .i64 a3_1] 23 (0, 0)) (by (with_reducible repeat (first | refine blk_drewN ?_ _ | refine blk_drew ?_ | refine blk_alloc ?_ _)); exact BK371.out) hb); have n5_ := Aside0.mk (below_step (by repeat (first | (with_reducible first | exact HB.out | apply below_alloc | apply pw_below_drewN | apply below_drew1 | refine below_set ?_ GE369.out | refine below_set ?_ GE370.out | refine below_set ?_ GE371.out) | exact HB.out)) hb); clear HO374; clear BK369; clear BK370; clear BK371; clear HB; have HO374 := n0_; have HO378 := n1_; have BK369 := n2_; have BK370 := n3_; have BK371 := n4_; have HB := n5_; clear n0_ n1_ n2_ n3_ n4_ n5_; (try clear hb); (try clear hb2); (try clear hk); (try clear hi); (try clear ho0); have hcz31_0 : w30.cell? ⟨gb369, 0, none⟩ = some (.int .i64 a0_0) := (blk_cell BK369.out 0).trans rfl; have hcz31_1 : w30.cell? ⟨gb369, 1, none⟩ = some (.int .i64 a0_1) := (blk_cell BK369.out 1).trans rfl; have hfz31_0 := blk_frozen BK369.out 0; have hfz31_1 := blk_frozen BK369.out 1))
         as_aux_lemma =>
          go_upto_region 6 with (first | ((with_reducible refine gate_callee (f := 7) rfl ?_); refine goesL_ (some 77) rfl rfl Try.func7 (by kernel_rfl) rfl #[.agg #[.int .i64 a0_0, .int .i64 a0_1], .string a1] rfl (by (try simp only [List.map_toArray, List.map_cons, List.map_nil]); first | done | rfl | (simp only [List.length_drop, List.length_take]; rfl)) ?_; (with_reducible refine (impl_CountGuesses.calls k a0_0 a0_1 a1 t380 t381 _ A13.out).mono ?_); rintro e w32 ⟨rfl, hb⟩; refine ⟨_, rfl, ?_⟩; have n0_ := Aside0.mk (Kd.R_below (by (with_reducible repeat (first | apply Kd.R_alloc | apply Kd.R_drewN | apply Kd.R_drew)); exact HO374.out) hb); have n1_ := Aside0.mk (Kd.R_below (by (with_reducible repeat (first | apply Kd.R_alloc | apply Kd.R_drewN | apply Kd.R_drew)); exact HO378.out) hb); have n2_ := Aside0.mk (blk_below (g := gb369) (o := .cells #[.int .i64 a0_0, .int .i64 a0_1] 23 (0, 0)) (by (with_reducible repeat (first | refine blk_drewN ?_ _ | refine blk_drew ?_ | refine blk_alloc ?_ _)); exact BK369.out) hb); have n3_ := Aside0.mk (blk_below (g := gb370) (o := .cells #[.int .i64 a2_0, .int .i64 a2_1] 23 (0, 0)) (by (with_reducible repeat (first | refine blk_drewN ?_ _ | refine blk_drew ?_ | refine blk_alloc ?_ _)); exact BK370.out) hb); have n4_ := Aside0.mk (blk_below (g := gb371) (o := .cells #[.int .i64 a3_0, .int .i64 a3_1] 23 (0, 0)) (by (with_reducible repeat (first | refine blk_drewN ?_ _ | refine blk_drew ?_ | refine blk_alloc ?_ _)); exact BK371.out) hb); have n5_ := Aside0.mk (below_step (by repeat (first | (with_reducible first | exact HB.out | apply below_alloc | apply pw_below_drewN | apply below_drew1 | refine below_set ?_ GE369.out | refine below_set ?_ GE370.out | refine below_set ?_ GE371.out) | exact HB.out)) hb); clear HO374; clear HO378; clear BK369; clear BK370; clear BK371; clear HB; have HO374 := n0_; have HO378 := n1_; have BK369 := n2_; have BK370 := n3_; have BK371 := n4_; have HB := n5_; clear n0_ n1_ n2_ n3_ n4_ n5_; (try clear hb); (try clear hb2); (try clear hk); (try clear hi); have hcz33_0 : w32.cell? ⟨gb369, 0, none⟩ = some (.int .i64 a0_0) := (blk_cell BK369.out 0).trans rfl; have hcz33_1 : w32.cell? ⟨gb369, 1, none⟩ = some (.int .i64 a0_1) := (blk_cell BK369.out 1).trans rfl; have hfz33_0 := blk_frozen BK369.out 0; have hfz33_1 := blk_frozen BK369.out 1))
          as_aux_lemma =>
           go_upto_region 7 with (first | ((with_reducible refine gate_callee (f := 8) rfl ?_); refine goesL_ (some 83) rfl rfl Try.func8 (by kernel_rfl) rfl #[.agg #[.int .i64 a0_0, .int .i64 a0_1], .string a1] rfl (by (try simp only [List.map_toArray, List.map_cons, List.map_nil]); first | done | rfl | (simp only [List.length_drop, List.length_take]; rfl)) ?_; (with_reducible refine (spec_CountGuesses.calls k a0_0 a0_1 a1 t382 t383 _ A14.out).mono ?_); rintro e w34 ⟨rfl, hb⟩; refine ⟨_, rfl, ?_⟩; have n0_ := Aside0.mk (Kd.R_below (by (with_reducible repeat (first | apply Kd.R_alloc | apply Kd.R_drewN | apply Kd.R_drew)); exact HO374.out) hb); have n1_ := Aside0.mk (Kd.R_below (by (with_reducible repeat (first | apply Kd.R_alloc | apply Kd.R_drewN | apply Kd.R_drew)); exact HO378.out) hb); have n2_ := Aside0.mk (blk_below (g := gb369) (o := .cells #[.int .i64 a0_0, .int .i64 a0_1] 23 (0, 0)) (by (with_reducible repeat (first | refine blk_drewN ?_ _ | refine blk_drew ?_ | refine blk_alloc ?_ _)); exact BK369.out) hb); have n3_ := Aside0.mk (blk_below (g := gb370) (o := .cells #[.int .i64 a2_0, .int .i64 a2_1] 23 (0, 0)) (by (with_reducible repeat (first | refine blk_drewN ?_ _ | refine blk_drew ?_ | refine blk_alloc ?_ _)); exact BK370.out) hb); have n4_ := Aside0.mk (blk_below (g := gb371) (o := .cells #[.int .i64 a3_0, .int .i64 a3_1] 23 (0, 0)) (by (with_reducible repeat (first | refine blk_drewN ?_ _ | refine blk_drew ?_ | refine blk_alloc ?_ _)); exact BK371.out) hb); have n5_ := Aside0.mk (below_step (by repeat (first | (with_reducible first | exact HB.out | apply below_alloc | apply pw_below_drewN | apply below_drew1 | refine below_set ?_ GE369.out | refine below_set ?_ GE370.out | refine below_set ?_ GE371.out) | exact HB.out)) hb); clear HO374; clear HO378; clear BK369; clear BK370; clear BK371; clear HB; have HO374 := n0_; have HO378 := n1_; have BK369 := n2_; have BK370 := n3_; have BK371 := n4_; have HB := n5_; clear n0_ n1_ n2_ n3_ n4_ n5_; (try clear hb); (try clear hb2); (try clear hk); (try clear hi); obtain ⟨Ao35, co35, eo35⟩ := Kd.R_slice HO374.out; subst eo35; obtain ⟨Ao36, co36, eo36⟩ := Kd.R_slice HO378.out; subst eo36))
           as_aux_lemma =>
            go_upto_if 110 with (first | (go_at_call 9; (with_reducible refine (laws_eHints.calls k _ _ t372 _ _ t376 true _ ?side1 ?side2 ?side3 ?side4 A16.out).mono ?_); (case side1 => repeat (first | exact (Kd.R_reads' HO374.out).2.2 | (with_reducible refine Kd.C_alloc ?_ _) | (with_reducible refine Kd.C_drewN ?_ _) | (with_reducible refine Kd.C_drew ?_))); (case side2 => exact (Kd.R_reads' HO374.out).2.1); (case side3 => repeat (first | exact (Kd.R_reads' HO378.out).2.2 | (with_reducible refine Kd.C_alloc ?_ _) | (with_reducible refine Kd.C_drewN ?_ _) | (with_reducible refine Kd.C_drew ?_))); (case side4 => exact (Kd.R_reads' HO378.out).2.1); rintro e w' ⟨rfl, ⟨nd, rfl⟩⟩))
            (try simp only [Act.put, List.setIfInBounds_toArray, List.set_cons_zero, List.set_cons_succ])
            go_cut [] (fun wc => ∃ (kq : Nat), Aside0 (laws_FnHintsPlayedOfAll.j2 kq a4 a5 a2_0 a2_1 a3_0 a3_1 = some r) ∧ Aside0 (kq ≤ k) ∧ Aside0 (wc.heap[gb369]? = some (.cells #[.int .i64 a0_0, .int .i64 a0_1] 23 (0, 0))) ∧ Aside0 (wc.heap[gb370]? = some (.cells #[.int .i64 a2_0, .int .i64 a2_1] 23 (0, 0))) ∧ Aside0 (wc.heap[gb371]? = some (.cells #[.int .i64 a3_0, .int .i64 a3_1] 23 (0, 0))) ∧ Aside0 (Below w.heap.size w wc))
            case first =>
             as_aux_lemma =>
              have H := HC21.out
              clear HC21
              by_cases c37 : t375 = true
              ·subst c37
               have H1 : (if (t372.length : Int) = t380 then (if (t372.length : Int) < 1 then (none) else (if 0 ≤ (wrap64 ((t372.length : Int) - 1)) then (if (wrap64 ((t372.length : Int) - 1)) < (t372.length : Int) then (if ((rd_T31 t372 (wrap64 ((t372.length : Int) - 1))).f0).toList = a1.toList then (if ((rd_T31 t372 (wrap64 ((t372.length : Int) - 1))).f1) = a0_0 then (laws_FnHintsPlayedOfAll.l0 k a1 a4 a5 t372 t372 (t372.length : Int) 0 a0_0 a0_1 a2_0 a2_1 a3_0 a3_1) else (none)) else (none)) else (none)) else (none))) else (none)) = some r := by rw [if_pos rfl] at H; exact H
               clear H
               have H := H1
               clear H1
               by_cases c38 : (t372.length : Int) = t380
               ·rw [if_pos c38] at H
                have c38b0 : ((t372.length : Int) == t380) = true := beq_iff_eq.mpr c38
                have c38b1 : ((t372.length : Int) != t380) = false := bne_eq_false_iff_eq.mpr c38
                clear c38
                (first | rw [c38b0] | (simp only [i64_w, i32_w]; rw [c38b0]) | skip)
                by_cases c39 : (t372.length : Int) < 1
                ·rw [if_pos c39] at H
                 exact absurd H (by simp)
                ·rw [if_neg c39] at H
                 have c39b0 : decide ((t372.length : Int) < 1) = false := decide_eq_false c39
                 have c39b1 : decide (t372.length < 1) = false := decide_eq_false (by omega)
                 clear c39
                 obtain ⟨ji40, hji40⟩ : ∃ j_ : Int, (wrap64 ((t372.length : Int) - 1)) = j_ := ⟨_, rfl⟩
                 replace H : (if 0 ≤ (ji40) then (if (ji40) < (t372.length : Int) then (if ((rd_T31 t372 (ji40)).f0).toList = a1.toList then (if ((rd_T31 t372 (ji40)).f1) = a0_0 then (laws_FnHintsPlayedOfAll.l0 k a1 a4 a5 t372 t372 (t372.length : Int) 0 a0_0 a0_1 a2_0 a2_1 a3_0 a3_1) else (none)) else (none)) else (none)) else (none)) = some r := by first | (rw [hji40] at H; exact H) | (simp only [hji40] at H ⊢; exact H)
                 have hji40w : (IntKind.i64.wrap ((t372.length : Int) - 1)) = ji40 := (i64_w _).trans hji40
                 by_cases c41 : 0 ≤ (ji40)
                 ·rw [if_pos c41] at H
                  have c41b0 : decide (0 ≤ (ji40)) = true := decide_eq_true c41
                  clear c41
                  by_cases c42 : (ji40) < (t372.length : Int)
                  ·rw [if_pos c42] at H
                   have c42b0 : decide ((ji40) < (t372.length : Int)) = true := decide_eq_true c42
                   clear c42
                   by_cases c43 : ((rd_T31 t372 (ji40)).f0).toList = a1.toList
                   ·rw [if_pos c43] at H
                    have c43b0 : (((rd_T31 t372 (ji40)).f0).toList == a1.toList) = true := beq_iff_eq.mpr c43
                    have c43b1 : (((rd_T31 t372 (ji40)).f0).toList != a1.toList) = false := bne_eq_false_iff_eq.mpr c43
                    clear c43
                    by_cases c44 : ((rd_T31 t372 (ji40)).f1) = a0_0
                    ·rw [if_pos c44] at H
                     have c44b0 : (((rd_T31 t372 (ji40)).f1) == a0_0) = true := beq_iff_eq.mpr c44
                     have c44b1 : (((rd_T31 t372 (ji40)).f1) != a0_0) = false := bne_eq_false_iff_eq.mpr c44
                     clear c44
                     have H' := Aside0.mk H
                     clear H
                     have p385 : 0 ≤ ((ji40) : Int) := of_decide_eq_true (by first | (with_reducible assumption) | assumption)
                     have q385 : (ji40) < (t372.length : Int) := of_decide_eq_true (by first | (with_reducible assumption) | assumption)
                     obtain ⟨ad385, e385, hx385_0, hx385_1, hx385_2⟩ := at_T31 (Kd.R_reads' HO374.out).2.2 (ji40) p385 q385
                     cases e385
                     replace p385 := eq_true p385; replace q385 := eq_true q385
                     have p386 : 0 ≤ ((ji40) : Int) := of_decide_eq_true (by first | (with_reducible assumption) | assumption)
                     have q386 : (ji40) < (t372.length : Int) := of_decide_eq_true (by first | (with_reducible assumption) | assumption)
                     obtain ⟨ad386, e386, hx386_0, hx386_1, hx386_2⟩ := at_T31 (Kd.R_reads' HO374.out).2.2 (ji40) p386 q386
                     obtain rfl : ad385 = ad386 := (by injection e386)
                     replace p386 := eq_true p386; replace q386 := eq_true q386
                     have hnb45 := NB369_370.out
                     have hnc45 := NB370_369.out
                     have hnb46 := NB369_371.out
                     have hnc46 := NB371_369.out
                     have hcz47_0 : w34.cell? ⟨gb369, 0, none⟩ = some (.int .i64 a0_0) := (blk_cell BK369.out 0).trans rfl
                     have hcz47_1 : w34.cell? ⟨gb369, 1, none⟩ = some (.int .i64 a0_1) := (blk_cell BK369.out 1).trans rfl
                     have hfz47_0 := blk_frozen BK369.out 0
                     have hfz47_1 := blk_frozen BK369.out 1
                     try go_wp2
                     repeat (go_quiet (fail); try go_wp2)
                     as_aux_lemma =>
                      go_loopg [143] k (fun kq v143 w' => ∃ (x143_1 : Int), v143 = .int .i64 x143_1 ∧ Aside0 (laws_FnHintsPlayedOfAll.l0 kq a1 a4 a5 t372 t372 (t372.length : Int) x143_1 a0_0 a0_1 a2_0 a2_1 a3_0 a3_1 = some r) ∧ Aside0 (kq ≤ k) ∧ Aside0 (Kd.R k31 31 w' w.heap.size (fun _ => True) (.slice (some ad385) t372.length co35) t372) ∧ Aside0 (Kd.R k31 31 w' w.heap.size (fun _ => True) (.slice (some ad385) t372.length co35) t372) ∧ Aside0 (w'.heap[gb369]? = some (.cells #[.int .i64 a0_0, .int .i64 a0_1] 23 (0, 0))) ∧ Aside0 (w'.heap[gb370]? = some (.cells #[.int .i64 a2_0, .int .i64 a2_1] 23 (0, 0))) ∧ Aside0 (w'.heap[gb371]? = some (.cells #[.int .i64 a3_0, .int .i64 a3_1] 23 (0, 0))) ∧ Aside0 (Below w.heap.size w w'))
                      case atStart => exact ⟨(0), (by first | rfl | (simp; done) | (simp [*]; done)), H', ⟨Nat.le_refl _⟩, ⟨by (with_reducible repeat (first | apply Kd.R_alloc | apply Kd.R_drewN | apply Kd.R_drew)); exact Kd.R_mono HO374.out (fun _ hk => trivial)⟩, ⟨by (with_reducible repeat (first | apply Kd.R_alloc | apply Kd.R_drewN | apply Kd.R_drew)); exact Kd.R_mono HO374.out (fun _ hk => trivial)⟩, ⟨by (with_reducible repeat (first | refine blk_drewN ?_ _ | refine blk_drew ?_ | refine blk_alloc ?_ _)); exact BK369.out⟩, ⟨by (with_reducible repeat (first | refine blk_drewN ?_ _ | refine blk_drew ?_ | refine blk_alloc ?_ _)); exact BK370.out⟩, ⟨by (with_reducible repeat (first | refine blk_drewN ?_ _ | refine blk_drew ?_ | refine blk_alloc ?_ _)); exact BK371.out⟩, ⟨by repeat (first | (with_reducible first | exact HB.out | apply below_alloc | apply pw_below_drewN | apply below_drew1 | refine below_set ?_ GE369.out | refine below_set ?_ GE370.out | refine below_set ?_ GE371.out) | exact HB.out)⟩⟩
                      case round =>
                       as_aux_lemma =>
                        clear H'
                        (try clear c1); (try clear c2); (try clear p2); (try clear c3); (try clear p3); (try clear q3); (try clear hx3); (try clear c4); (try clear c5); (try clear c6); (try clear p6); (try clear c7); (try clear c7b0); (try clear c7b1); (try clear c8); (try clear c15); (try clear c15b0); (try clear c15b1); (try clear c15b2); (try clear c17); (try clear c18); (try clear c18b0); (try clear c18b1); (try clear c18b2); (try clear c19); (try clear c19b0); (try clear c19b1); (try clear c20); (try clear c20b0); (try clear c20b1); (try clear c20b2); (try clear c25); (try clear c26); (try clear c37); (try clear c38); (try clear c38b0); (try clear c38b1); (try clear p38); (try clear q38); (try clear hx38); (try clear c39); (try clear c39b0); (try clear c39b1); (try clear c41); (try clear c41b0); (try clear c42); (try clear c42b0); (try clear c43); (try clear c43b0); (try clear c43b1); (try clear c44); (try clear c44b0); (try clear c44b1); (try clear c45); (try clear c46); (try clear hcz27_0); (try clear hcz27_1); (try clear hcz29_0); (try clear hcz29_1); (try clear hcz31_0); (try clear hcz31_1); (try clear hcz33_0); (try clear hcz33_1); (try clear hcz47_0); (try clear hcz47_1); (try clear hfz27_0); (try clear hfz27_1); (try clear hfz29_0); (try clear hfz29_1); (try clear hfz31_0); (try clear hfz31_1); (try clear hfz33_0); (try clear hfz33_1); (try clear hfz47_0); (try clear hfz47_1); (try clear hx385_0); (try clear hx385_1); (try clear hx385_2); (try clear hx386_0); (try clear hx386_1); (try clear hx386_2); (try clear p385); (try clear p386); (try clear q385); (try clear q386)
                        obtain ⟨x143_1, rfl, HA, HK1, HO_13, HO_141, BK369, BK370, BK371, HB⟩ := hrel
                        cases gk with
                        | zero => exact absurd HA.out (by simp [laws_FnHintsPlayedOfAll.l0])
                        | succ k1 =>
                         have H := HA.out
                         clear HA
                         simp only [laws_FnHintsPlayedOfAll.l0] at H
                         by_cases c48 : x143_1 < (t372.length : Int)
                         ·rw [if_pos c48] at H
                          have c48b0 : decide (x143_1 < (t372.length : Int)) = true := decide_eq_true c48
                          clear c48
                          by_cases c49 : 0 ≤ x143_1
                          ·rw [if_pos c49] at H
                           have c49b0 : decide (0 ≤ x143_1) = true := decide_eq_true c49
                           clear c49
                           by_cases c50 : x143_1 < (t372.length : Int)
                           ·rw [if_pos c50] at H
                            have c50b0 : decide (x143_1 < (t372.length : Int)) = true := decide_eq_true c50
                            clear c50
                            replace H := Option.bind_eq_some_iff.mp H
                            obtain ⟨⟨t389, t390, t391⟩, A510, H⟩ := H
                            (try dsimp only at H)
                            have A51 := Aside0.mk A510
                            clear A510
                            have HC52 := Aside0.mk H
                            clear H
                            have p387 : 0 ≤ (x143_1 : Int) := of_decide_eq_true (by first | (with_reducible assumption) | assumption)
                            have q387 : x143_1 < (t372.length : Int) := of_decide_eq_true (by first | (with_reducible assumption) | assumption)
                            obtain ⟨ad387, e387, hx387_0, hx387_1, hx387_2⟩ := at_T31 (Kd.R_reads' HO_141.out).2.2 x143_1 p387 q387
                            obtain rfl : ad385 = ad387 := (by injection e387)
                            replace p387 := eq_true p387; replace q387 := eq_true q387
                            go_upto_region 16 with (first | ((with_reducible refine gate_dst (N := 23) rfl ?_); (try (refine gate_guard (by rfl) ?_; dsimp only)); refine box_event ?hg (N := 23) ?hd (cs := #[.string (⟨#[]⟩ : ByteArray), .int .i64 0, .int .i64 0]) (t := 31) ?hr ?_; (case hd => rfl); (case hg => rfl); (case hr => first | (go_simp; done) | (go_simp; rfl)); intro gb388 hg w53 hbox hb; have n0_ := Aside0.mk (Kd.R_below (Kd.R_elderB (by (with_reducible repeat (first | apply Kd.R_alloc | apply Kd.R_drewN | apply Kd.R_drew)); exact HO_13.out) gb388 (Nat.le_of_eq hg.symm)) hb); have n1_ := Aside0.mk (Kd.R_below (Kd.R_elderB (by (with_reducible repeat (first | apply Kd.R_alloc | apply Kd.R_drewN | apply Kd.R_drew)); exact HO_141.out) gb388 (Nat.le_of_eq hg.symm)) hb); have n2_ := Aside0.mk (blk_below (g := gb369) (o := .cells #[.int .i64 a0_0, .int .i64 a0_1] 23 (0, 0)) (by (with_reducible repeat (first | refine blk_drewN ?_ _ | refine blk_drew ?_ | refine blk_alloc ?_ _)); exact BK369.out) hb); have n3_ := Aside0.mk (blk_below (g := gb370) (o := .cells #[.int .i64 a2_0, .int .i64 a2_1] 23 (0, 0)) (by (with_reducible repeat (first | refine blk_drewN ?_ _ | refine blk_drew ?_ | refine blk_alloc ?_ _)); exact BK370.out) hb); have n4_ := Aside0.mk (blk_below (g := gb371) (o := .cells #[.int .i64 a3_0, .int .i64 a3_1] 23 (0, 0)) (by (with_reducible repeat (first | refine blk_drewN ?_ _ | refine blk_drew ?_ | refine blk_alloc ?_ _)); exact BK371.out) hb); have n5_ := Aside0.mk (below_step (by repeat (first | (with_reducible first | exact HB.out | apply below_alloc | apply pw_below_drewN | apply below_drew1 | refine below_set ?_ GE369.out | refine below_set ?_ GE370.out | refine below_set ?_ GE371.out) | exact HB.out)) hb); have n6_ := Aside0.mk (hbox); have n7_ := Aside0.mk ((by rw [hg]; exact (below_size (by repeat (first | (with_reducible first | exact HB.out | apply below_alloc | apply pw_below_drewN | apply below_drew1 | refine below_set ?_ GE369.out | refine below_set ?_ GE370.out | refine below_set ?_ GE371.out) | exact HB.out))) : w.heap.size ≤ gb388)); have n8_ := Aside0.mk ((by rw [hg]; exact (below_size (by repeat (first | (with_reducible first | exact HB.out | apply below_alloc | apply pw_below_drewN | apply below_drew1 | refine below_set ?_ GE369.out | refine below_set ?_ GE370.out | refine below_set ?_ GE371.out) | exact HB.out))) : w.heap.size ≤ gb388)); have n9_ := Aside0.mk ((by rw [hg]; exact Nat.ne_of_lt (blk_lt (g := gb369) (o := .cells #[.int .i64 a0_0, .int .i64 a0_1] 23 (0, 0)) (by (with_reducible repeat (first | refine blk_drewN ?_ _ | refine blk_drew ?_ | refine blk_alloc ?_ _)); exact BK369.out)) : gb369 ≠ gb388)); have n10_ := Aside0.mk ((by rw [hg]; exact Nat.ne_of_gt (blk_lt (g := gb369) (o := .cells #[.int .i64 a0_0, .int .i64 a0_1] 23 (0, 0)) (by (with_reducible repeat (first | refine blk_drewN ?_ _ | refine blk_drew ?_ | refine blk_alloc ?_ _)); exact BK369.out)) : gb388 ≠ gb369)); have n11_ := Aside0.mk ((by rw [hg]; exact Nat.ne_of_lt (blk_lt (g := gb370) (o := .cells #[.int .i64 a2_0, .int .i64 a2_1] 23 (0, 0)) (by (with_reducible repeat (first | refine blk_drewN ?_ _ | refine blk_drew ?_ | refine blk_alloc ?_ _)); exact BK370.out)) : gb370 ≠ gb388)); have n12_ := Aside0.mk ((by rw [hg]; exact Nat.ne_of_gt (blk_lt (g := gb370) (o := .cells #[.int .i64 a2_0, .int .i64 a2_1] 23 (0, 0)) (by (with_reducible repeat (first | refine blk_drewN ?_ _ | refine blk_drew ?_ | refine blk_alloc ?_ _)); exact BK370.out)) : gb388 ≠ gb370)); have n13_ := Aside0.mk ((by rw [hg]; exact Nat.ne_of_lt (blk_lt (g := gb371) (o := .cells #[.int .i64 a3_0, .int .i64 a3_1] 23 (0, 0)) (by (with_reducible repeat (first | refine blk_drewN ?_ _ | refine blk_drew ?_ | refine blk_alloc ?_ _)); exact BK371.out)) : gb371 ≠ gb388)); have n14_ := Aside0.mk ((by rw [hg]; exact Nat.ne_of_gt (blk_lt (g := gb371) (o := .cells #[.int .i64 a3_0, .int .i64 a3_1] 23 (0, 0)) (by (with_reducible repeat (first | refine blk_drewN ?_ _ | refine blk_drew ?_ | refine blk_alloc ?_ _)); exact BK371.out)) : gb388 ≠ gb371)); clear HO_13; clear HO_141; clear BK369; clear BK370; clear BK371; clear HB; have HO_13 := n0_; have HO_141 := n1_; have BK369 := n2_; have BK370 := n3_; have BK371 := n4_; have HB := n5_; have BK388 := n6_; have GW388 := n7_; have GE388 := n8_; have NB369_388 := n9_; have NB388_369 := n10_; have NB370_388 := n11_; have NB388_370 := n12_; have NB371_388 := n13_; have NB388_371 := n14_; clear n0_ n1_ n2_ n3_ n4_ n5_ n6_ n7_ n8_ n9_ n10_ n11_ n12_ n13_ n14_; clear hb hbox hg; have hnb54 := NB388_369.out; have hnc54 := NB369_388.out; have hnb55 := NB388_370.out; have hnc55 := NB370_388.out; have hnb56 := NB388_371.out; have hnc56 := NB371_388.out; have hcz57_0 : w53.cell? ⟨gb388, 0, none⟩ = some (.string (⟨#[]⟩ : ByteArray)) := (blk_cell BK388.out 0).trans rfl; have hcz57_1 : w53.cell? ⟨gb388, 1, none⟩ = some (.int .i64 0) := (blk_cell BK388.out 1).trans rfl; have hcz57_2 : w53.cell? ⟨gb388, 2, none⟩ = some (.int .i64 0) := (blk_cell BK388.out 2).trans rfl; have hfz57_0 := blk_frozen BK388.out 0; have hfz57_1 := blk_frozen BK388.out 1; have hfz57_2 := blk_frozen BK388.out 2; have hnb58 := NB369_370.out; have hnc58 := NB370_369.out; have hnb59 := NB369_371.out; have hnc59 := NB371_369.out; have hcz60_0 : w53.cell? ⟨gb369, 0, none⟩ = some (.int .i64 a0_0) := (blk_cell BK369.out 0).trans rfl; have hcz60_1 : w53.cell? ⟨gb369, 1, none⟩ = some (.int .i64 a0_1) := (blk_cell BK369.out 1).trans rfl; have hfz60_0 := blk_frozen BK369.out 0; have hfz60_1 := blk_frozen BK369.out 1))
                            as_aux_lemma =>
                             go_upto_region 17 with (first | ((with_reducible refine gate_callee (f := 10) rfl ?_); refine goesL_ (some 153) rfl rfl Try.func10 (by kernel_rfl) rfl #[.agg #[.int .i64 a0_0, .int .i64 a0_1], .string ((rd_T31 t372 x143_1).f0), .string a1] rfl (by (try simp only [List.map_toArray, List.map_cons, List.map_nil]); first | done | rfl | (simp only [List.length_drop, List.length_take]; rfl)) ?_; (with_reducible refine (impl_HintOf.calls k1 a0_0 a0_1 ((rd_T31 t372 x143_1).f0) a1 t389 t390 t391 _ A51.out).mono ?_); rintro e w61 ⟨rfl, hb⟩; refine ⟨_, rfl, ?_⟩; have n0_ := Aside0.mk (Kd.R_below (by (with_reducible repeat (first | apply Kd.R_alloc | apply Kd.R_drewN | apply Kd.R_drew)); exact (Kd.R_mono (Kd.R_far (p := ⟨gb388, 2, none⟩) (Kd.R_far (p := ⟨gb388, 1, none⟩) (Kd.R_far (p := ⟨gb388, 0, none⟩) (Kd.R_mono HO_13.out (fun k_ hk => (⟨hk, hk.2⟩ : _ ∧ k_ ≠ gb388))) (fun _ hk => hk.2) (.string ((rd_T31 t372 x143_1).f0))) (fun _ hk => hk.2) (.int .i64 ((rd_T31 t372 x143_1).f1))) (fun _ hk => hk.2) (.int .i64 ((rd_T31 t372 x143_1).f2))) (fun _ h_ => h_.1))) hb); have n1_ := Aside0.mk (Kd.R_below (by (with_reducible repeat (first | apply Kd.R_alloc | apply Kd.R_drewN | apply Kd.R_drew)); exact (Kd.R_mono (Kd.R_far (p := ⟨gb388, 2, none⟩) (Kd.R_far (p := ⟨gb388, 1, none⟩) (Kd.R_far (p := ⟨gb388, 0, none⟩) (Kd.R_mono HO_141.out (fun k_ hk => (⟨hk, hk.2⟩ : _ ∧ k_ ≠ gb388))) (fun _ hk => hk.2) (.string ((rd_T31 t372 x143_1).f0))) (fun _ hk => hk.2) (.int .i64 ((rd_T31 t372 x143_1).f1))) (fun _ hk => hk.2) (.int .i64 ((rd_T31 t372 x143_1).f2))) (fun _ h_ => h_.1))) hb); have n2_ := Aside0.mk (blk_below (g := gb369) (o := .cells #[.int .i64 a0_0, .int .i64 a0_1] 23 (0, 0)) (by (with_reducible repeat (first | refine blk_drewN ?_ _ | refine blk_drew ?_ | refine blk_alloc ?_ _)); refine blk_far ?_ NB369_388.out _; (with_reducible repeat (first | refine blk_drewN ?_ _ | refine blk_drew ?_ | refine blk_alloc ?_ _)); refine blk_far ?_ NB369_388.out _; (with_reducible repeat (first | refine blk_drewN ?_ _ | refine blk_drew ?_ | refine blk_alloc ?_ _)); refine blk_far ?_ NB369_388.out _; (with_reducible repeat (first | refine blk_drewN ?_ _ | refine blk_drew ?_ | refine blk_alloc ?_ _)); exact BK369.out) hb); have n3_ := Aside0.mk (blk_below (g := gb370) (o := .cells #[.int .i64 a2_0, .int .i64 a2_1] 23 (0, 0)) (by (with_reducible repeat (first | refine blk_drewN ?_ _ | refine blk_drew ?_ | refine blk_alloc ?_ _)); refine blk_far ?_ NB370_388.out _; (with_reducible repeat (first | refine blk_drewN ?_ _ | refine blk_drew ?_ | refine blk_alloc ?_ _)); refine blk_far ?_ NB370_388.out _; (with_reducible repeat (first | refine blk_drewN ?_ _ | refine blk_drew ?_ | refine blk_alloc ?_ _)); refine blk_far ?_ NB370_388.out _; (with_reducible repeat (first | refine blk_drewN ?_ _ | refine blk_drew ?_ | refine blk_alloc ?_ _)); exact BK370.out) hb); have n4_ := Aside0.mk (blk_below (g := gb371) (o := .cells #[.int .i64 a3_0, .int .i64 a3_1] 23 (0, 0)) (by (with_reducible repeat (first | refine blk_drewN ?_ _ | refine blk_drew ?_ | refine blk_alloc ?_ _)); refine blk_far ?_ NB371_388.out _; (with_reducible repeat (first | refine blk_drewN ?_ _ | refine blk_drew ?_ | refine blk_alloc ?_ _)); refine blk_far ?_ NB371_388.out _; (with_reducible repeat (first | refine blk_drewN ?_ _ | refine blk_drew ?_ | refine blk_alloc ?_ _)); refine blk_far ?_ NB371_388.out _; (with_reducible repeat (first | refine blk_drewN ?_ _ | refine blk_drew ?_ | refine blk_alloc ?_ _)); exact BK371.out) hb); have n5_ := Aside0.mk (blk_below (g := gb388) (o := .cells #[.string ((rd_T31 t372 x143_1).f0), .int .i64 ((rd_T31 t372 x143_1).f1), .int .i64 ((rd_T31 t372 x143_1).f2)] 31 (0, 0)) (by (with_reducible repeat (first | refine blk_drewN ?_ _ | refine blk_drew ?_ | refine blk_alloc ?_ _)); refine blk_put (cs := #[.string ((rd_T31 t372 x143_1).f0), .int .i64 ((rd_T31 t372 x143_1).f1), .int .i64 0]) ?_ 2 _ rfl; (with_reducible repeat (first | refine blk_drewN ?_ _ | refine blk_drew ?_ | refine blk_alloc ?_ _)); refine blk_put (cs := #[.string ((rd_T31 t372 x143_1).f0), .int .i64 0, .int .i64 0]) ?_ 1 _ rfl; (with_reducible repeat (first | refine blk_drewN ?_ _ | refine blk_drew ?_ | refine blk_alloc ?_ _)); refine blk_put (cs := #[.string (⟨#[]⟩ : ByteArray), .int .i64 0, .int .i64 0]) ?_ 0 _ rfl; (with_reducible repeat (first | refine blk_drewN ?_ _ | refine blk_drew ?_ | refine blk_alloc ?_ _)); exact BK388.out) hb); have n6_ := Aside0.mk (below_step (by repeat (first | (with_reducible first | exact HB.out | apply below_alloc | apply pw_below_drewN | apply below_drew1 | refine below_set ?_ GE369.out | refine below_set ?_ GE370.out | refine below_set ?_ GE371.out | refine below_set ?_ GE388.out) | exact HB.out)) hb); clear HO_13; clear HO_141; clear BK369; clear BK370; clear BK371; clear BK388; clear HB; have HO_13 := n0_; have HO_141 := n1_; have BK369 := n2_; have BK370 := n3_; have BK371 := n4_; have BK388 := n5_; have HB := n6_; clear n0_ n1_ n2_ n3_ n4_ n5_ n6_; (try clear hb); (try clear hb2); (try clear hk); (try clear hi)))
                             (try simp only [Act.put, List.setIfInBounds_toArray, List.set_cons_zero, List.set_cons_succ])
                             go_cut [185] (fun v185 wc => ∃ (kq : Nat) (x185_51 : Bool), v185 = .bool x185_51 ∧ Aside0 (laws_FnHintsPlayedOfAll.j1 kq a1 a4 a5 t372 x143_1 t372 (t372.length : Int) x143_1 x185_51 a0_0 a0_1 a2_0 a2_1 a3_0 a3_1 ((rd_T31 t372 x143_1).f0) ((rd_T31 t372 x143_1).f1) ((rd_T31 t372 x143_1).f2) = some r) ∧ Aside0 (kq ≤ k1) ∧ Aside0 (Kd.R k31 31 wc w.heap.size (fun k_ => k_ ≠ gb388) (.slice (some ad385) t372.length co35) t372) ∧ Aside0 (Kd.R k31 31 wc w.heap.size (fun k_ => k_ ≠ gb388) (.slice (some ad385) t372.length co35) t372) ∧ Aside0 (wc.heap[gb369]? = some (.cells #[.int .i64 a0_0, .int .i64 a0_1] 23 (0, 0))) ∧ Aside0 (wc.heap[gb370]? = some (.cells #[.int .i64 a2_0, .int .i64 a2_1] 23 (0, 0))) ∧ Aside0 (wc.heap[gb371]? = some (.cells #[.int .i64 a3_0, .int .i64 a3_1] 23 (0, 0))) ∧ Aside0 (wc.heap[gb388]? = some (.cells #[.string ((rd_T31 t372 x143_1).f0), .int .i64 ((rd_T31 t372 x143_1).f1), .int .i64 ((rd_T31 t372 x143_1).f2)] 31 (0, 0))) ∧ Aside0 (Below w.heap.size w wc))
                             case first =>
                              as_aux_lemma =>
                               have H := HC52.out
                               clear HC52
                               by_cases c62 : t391 = true
                               ·subst c62
                                have H1 : (if t389 = ((rd_T31 t372 x143_1).f1) then (if t390 = ((rd_T31 t372 x143_1).f2) then (if x143_1 > 0 then (if 0 ≤ (wrap64 (x143_1 - 1)) then (if (wrap64 (x143_1 - 1)) < (t372.length : Int) then (laws_FnHintsPlayedOfAll.j1 k1 a1 a4 a5 t372 x143_1 t372 (t372.length : Int) x143_1 (!(Op.bytesLess (((rd_T31 t372 (wrap64 (x143_1 - 1))).f0).toList) (((rd_T31 t372 x143_1).f0).toList))) a0_0 a0_1 a2_0 a2_1 a3_0 a3_1 ((rd_T31 t372 x143_1).f0) ((rd_T31 t372 x143_1).f1) ((rd_T31 t372 x143_1).f2)) else (none)) else (none)) else (laws_FnHintsPlayedOfAll.j1 k1 a1 a4 a5 t372 x143_1 t372 (t372.length : Int) x143_1 false a0_0 a0_1 a2_0 a2_1 a3_0 a3_1 ((rd_T31 t372 x143_1).f0) ((rd_T31 t372 x143_1).f1) ((rd_T31 t372 x143_1).f2))) else (none)) else (none)) = some r := by rw [if_pos rfl] at H; exact H
                                clear H
                                have H := H1
                                clear H1
                                by_cases c63 : t389 = ((rd_T31 t372 x143_1).f1)
                                ·rw [if_pos c63] at H
                                 have c63b0 : (t389 == ((rd_T31 t372 x143_1).f1)) = true := beq_iff_eq.mpr c63
                                 have c63b1 : (t389 != ((rd_T31 t372 x143_1).f1)) = false := bne_eq_false_iff_eq.mpr c63
                                 clear c63
                                 (first | rw [c63b0] | (simp only [i64_w, i32_w]; rw [c63b0]) | skip)
                                 by_cases c64 : t390 = ((rd_T31 t372 x143_1).f2)
                                 ·rw [if_pos c64] at H
                                  have c64b0 : (t390 == ((rd_T31 t372 x143_1).f2)) = true := beq_iff_eq.mpr c64
                                  have c64b1 : (t390 != ((rd_T31 t372 x143_1).f2)) = false := bne_eq_false_iff_eq.mpr c64
                                  clear c64
                                  by_cases c65 : x143_1 > 0
                                  ·rw [if_pos c65] at H
                                   have c65b0 : decide (0 < x143_1) = true := decide_eq_true c65
                                   clear c65
                                   obtain ⟨ji66, hji66⟩ : ∃ j_ : Int, (wrap64 (x143_1 - 1)) = j_ := ⟨_, rfl⟩
                                   replace H : (if 0 ≤ (ji66) then (if (ji66) < (t372.length : Int) then (laws_FnHintsPlayedOfAll.j1 k1 a1 a4 a5 t372 x143_1 t372 (t372.length : Int) x143_1 (!(Op.bytesLess (((rd_T31 t372 (ji66)).f0).toList) (((rd_T31 t372 x143_1).f0).toList))) a0_0 a0_1 a2_0 a2_1 a3_0 a3_1 ((rd_T31 t372 x143_1).f0) ((rd_T31 t372 x143_1).f1) ((rd_T31 t372 x143_1).f2)) else (none)) else (none)) = some r := by first | (rw [hji66] at H; exact H) | (simp only [hji66] at H ⊢; exact H)
                                   have hji66w : (IntKind.i64.wrap (x143_1 - 1)) = ji66 := (i64_w _).trans hji66
                                   by_cases c67 : 0 ≤ (ji66)
                                   ·rw [if_pos c67] at H
                                    have c67b0 : decide (0 ≤ (ji66)) = true := decide_eq_true c67
                                    clear c67
                                    by_cases c68 : (ji66) < (t372.length : Int)
                                    ·rw [if_pos c68] at H
                                     have c68b0 : decide ((ji66) < (t372.length : Int)) = true := decide_eq_true c68
                                     clear c68
                                     have H' := Aside0.mk H
                                     clear H
                                     have hnb69 := NB388_369.out
                                     have hnc69 := NB369_388.out
                                     have hnb70 := NB388_370.out
                                     have hnc70 := NB370_388.out
                                     have hnb71 := NB388_371.out
                                     have hnc71 := NB371_388.out
                                     have hcz72_0 : w61.cell? ⟨gb388, 0, none⟩ = some (.string ((rd_T31 t372 x143_1).f0)) := (blk_cell BK388.out 0).trans rfl
                                     have hcz72_1 : w61.cell? ⟨gb388, 1, none⟩ = some (.int .i64 ((rd_T31 t372 x143_1).f1)) := (blk_cell BK388.out 1).trans rfl
                                     have hcz72_2 : w61.cell? ⟨gb388, 2, none⟩ = some (.int .i64 ((rd_T31 t372 x143_1).f2)) := (blk_cell BK388.out 2).trans rfl
                                     have hfz72_0 := blk_frozen BK388.out 0
                                     have hfz72_1 := blk_frozen BK388.out 1
                                     have hfz72_2 := blk_frozen BK388.out 2
                                     have p392 : 0 ≤ ((ji66) : Int) := of_decide_eq_true (by first | (with_reducible assumption) | assumption)
                                     have q392 : (ji66) < (t372.length : Int) := of_decide_eq_true (by first | (with_reducible assumption) | assumption)
                                     obtain ⟨ad392, e392, hx392_0, hx392_1, hx392_2⟩ := at_T31 (Kd.R_reads' HO_13.out).2.2 (ji66) p392 q392
                                     obtain rfl : ad385 = ad392 := (by injection e392)
                                     replace p392 := eq_true p392; replace q392 := eq_true q392
                                     try go_wp2
                                     repeat (go_quiet (fail); try go_wp2)
                                     go_meet
                                     case rel => exact ⟨_, (!(Op.bytesLess (((rd_T31 t372 (ji66)).f0).toList) (((rd_T31 t372 x143_1).f0).toList))), (by first | rfl | (simp; done) | (simp only [← hji66] <;> (first | rfl | simp)) | (simp [*]; done)), H', ⟨by have := HK1.out; first | omega | exact Nat.le_refl _⟩, ⟨by (with_reducible repeat (first | apply Kd.R_alloc | apply Kd.R_drewN | apply Kd.R_drew)); exact Kd.R_mono HO_13.out (fun _ hk => hk.2)⟩, ⟨by (with_reducible repeat (first | apply Kd.R_alloc | apply Kd.R_drewN | apply Kd.R_drew)); exact Kd.R_mono HO_141.out (fun _ hk => hk.2)⟩, ⟨by (with_reducible repeat (first | refine blk_drewN ?_ _ | refine blk_drew ?_ | refine blk_alloc ?_ _)); exact BK369.out⟩, ⟨by (with_reducible repeat (first | refine blk_drewN ?_ _ | refine blk_drew ?_ | refine blk_alloc ?_ _)); exact BK370.out⟩, ⟨by (with_reducible repeat (first | refine blk_drewN ?_ _ | refine blk_drew ?_ | refine blk_alloc ?_ _)); exact BK371.out⟩, ⟨by (with_reducible repeat (first | refine blk_drewN ?_ _ | refine blk_drew ?_ | refine blk_alloc ?_ _)); exact BK388.out⟩, ⟨by repeat (first | (with_reducible first | exact HB.out | apply below_alloc | apply pw_below_drewN | apply below_drew1 | refine below_set ?_ GE369.out | refine below_set ?_ GE370.out | refine below_set ?_ GE371.out | refine below_set ?_ GE388.out) | exact HB.out)⟩⟩
                                    ·rw [if_neg c68] at H
                                     exact absurd H (by simp)
                                   ·rw [if_neg c67] at H
                                    exact absurd H (by simp)
                                  ·rw [if_neg c65] at H
                                   have c65b0 : decide (0 < x143_1) = false := decide_eq_false c65
                                   clear c65
                                   have H' := Aside0.mk H
                                   clear H
                                   have hnb73 := NB388_369.out
                                   have hnc73 := NB369_388.out
                                   have hnb74 := NB388_370.out
                                   have hnc74 := NB370_388.out
                                   have hnb75 := NB388_371.out
                                   have hnc75 := NB371_388.out
                                   have hcz76_0 : w61.cell? ⟨gb388, 0, none⟩ = some (.string ((rd_T31 t372 x143_1).f0)) := (blk_cell BK388.out 0).trans rfl
                                   have hcz76_1 : w61.cell? ⟨gb388, 1, none⟩ = some (.int .i64 ((rd_T31 t372 x143_1).f1)) := (blk_cell BK388.out 1).trans rfl
                                   have hcz76_2 : w61.cell? ⟨gb388, 2, none⟩ = some (.int .i64 ((rd_T31 t372 x143_1).f2)) := (blk_cell BK388.out 2).trans rfl
                                   have hfz76_0 := blk_frozen BK388.out 0
                                   have hfz76_1 := blk_frozen BK388.out 1
                                   have hfz76_2 := blk_frozen BK388.out 2
                                   try go_wp2
                                   repeat (go_quiet (fail); try go_wp2)
                                   go_meet
                                   case rel => exact ⟨_, (false), (by first | rfl | (simp; done) | (simp [*]; done)), H', ⟨by have := HK1.out; first | omega | exact Nat.le_refl _⟩, ⟨by (with_reducible repeat (first | apply Kd.R_alloc | apply Kd.R_drewN | apply Kd.R_drew)); exact Kd.R_mono HO_13.out (fun _ hk => hk.2)⟩, ⟨by (with_reducible repeat (first | apply Kd.R_alloc | apply Kd.R_drewN | apply Kd.R_drew)); exact Kd.R_mono HO_141.out (fun _ hk => hk.2)⟩, ⟨by (with_reducible repeat (first | refine blk_drewN ?_ _ | refine blk_drew ?_ | refine blk_alloc ?_ _)); exact BK369.out⟩, ⟨by (with_reducible repeat (first | refine blk_drewN ?_ _ | refine blk_drew ?_ | refine blk_alloc ?_ _)); exact BK370.out⟩, ⟨by (with_reducible repeat (first | refine blk_drewN ?_ _ | refine blk_drew ?_ | refine blk_alloc ?_ _)); exact BK371.out⟩, ⟨by (with_reducible repeat (first | refine blk_drewN ?_ _ | refine blk_drew ?_ | refine blk_alloc ?_ _)); exact BK388.out⟩, ⟨by repeat (first | (with_reducible first | exact HB.out | apply below_alloc | apply pw_below_drewN | apply below_drew1 | refine below_set ?_ GE369.out | refine below_set ?_ GE370.out | refine below_set ?_ GE371.out | refine below_set ?_ GE388.out) | exact HB.out)⟩⟩
                                 ·rw [if_neg c64] at H
                                  exact absurd H (by simp)
                                ·rw [if_neg c63] at H
                                 exact absurd H (by simp)
                               ·replace c62 := Bool.eq_false_iff.mpr c62
                                subst c62
                                have H1 : (none) = some r := by rw [if_neg (show ¬ (false = true) by decide)] at H; exact H
                                clear H
                                have H := H1
                                clear H1
                                exact absurd H (by simp)
                             case rest =>
                              as_aux_lemma =>
                               clear HC52
                               (try clear c1); (try clear c2); (try clear p2); (try clear c3); (try clear p3); (try clear q3); (try clear hx3); (try clear c4); (try clear c5); (try clear c6); (try clear p6); (try clear c7); (try clear c7b0); (try clear c7b1); (try clear c8); (try clear c10); (try clear c15); (try clear c15b0); (try clear c15b1); (try clear c15b2); (try clear c17); (try clear c18); (try clear c18b0); (try clear c18b1); (try clear c18b2); (try clear c19); (try clear c19b0); (try clear c19b1); (try clear c20); (try clear c20b0); (try clear c20b1); (try clear c20b2); (try clear c25); (try clear c26); (try clear c37); (try clear c38); (try clear c38b0); (try clear c38b1); (try clear p38); (try clear q38); (try clear hx38); (try clear c39); (try clear c39b0); (try clear c39b1); (try clear p39); (try clear q39); (try clear hx39); (try clear c41); (try clear c41b0); (try clear c42); (try clear c42b0); (try clear c43); (try clear c43b0); (try clear c43b1); (try clear c44); (try clear c44b0); (try clear c44b1); (try clear c45); (try clear c46); (try clear c48); (try clear c48b0); (try clear c49); (try clear c49b0); (try clear c50); (try clear c50b0); (try clear c54); (try clear c55); (try clear c56); (try clear c58); (try clear c59); (try clear c62); (try clear c63); (try clear c63b0); (try clear c63b1); (try clear c64); (try clear c64b0); (try clear c64b1); (try clear p64); (try clear c65); (try clear c65b0); (try clear c67); (try clear c67b0); (try clear c68); (try clear c68b0); (try clear c69); (try clear c70); (try clear c71); (try clear c73); (try clear c74); (try clear c75); (try clear hcz27_0); (try clear hcz27_1); (try clear hcz29_0); (try clear hcz29_1); (try clear hcz31_0); (try clear hcz31_1); (try clear hcz33_0); (try clear hcz33_1); (try clear hcz47_0); (try clear hcz47_1); (try clear hcz57_0); (try clear hcz57_1); (try clear hcz57_2); (try clear hcz60_0); (try clear hcz60_1); (try clear hcz72_0); (try clear hcz72_1); (try clear hcz72_2); (try clear hcz76_0); (try clear hcz76_1); (try clear hcz76_2); (try clear hfz27_0); (try clear hfz27_1); (try clear hfz29_0); (try clear hfz29_1); (try clear hfz31_0); (try clear hfz31_1); (try clear hfz33_0); (try clear hfz33_1); (try clear hfz47_0); (try clear hfz47_1); (try clear hfz57_0); (try clear hfz57_1); (try clear hfz57_2); (try clear hfz60_0); (try clear hfz60_1); (try clear hfz72_0); (try clear hfz72_1); (try clear hfz72_2); (try clear hfz76_0); (try clear hfz76_1); (try clear hfz76_2); (try clear hx385_0); (try clear hx385_1); (try clear hx385_2); (try clear hx386_0); (try clear hx386_1); (try clear hx386_2); (try clear hx387_0); (try clear hx387_1); (try clear hx387_2); (try clear hx392_0); (try clear hx392_1); (try clear hx392_2); (try clear p2); (try clear p3); (try clear p38); (try clear p385); (try clear p386); (try clear p387); (try clear p392); (try clear p6); (try clear q3); (try clear q38); (try clear q385); (try clear q386); (try clear q387); (try clear q392)
                               obtain ⟨kq, x185_51, rfl, HA, HJ51, HO_13, HO_141, BK369, BK370, BK371, BK388, HB⟩ := hcut
                               cases kq with
                               | zero => exact absurd HA.out (by simp [laws_FnHintsPlayedOfAll.j1])
                               | succ kj51 =>
                                have H := HA.out
                                clear HA
                                simp only [laws_FnHintsPlayedOfAll.j1] at H
                                by_cases c77 : x185_51 = true
                                ·subst c77
                                 have H1 : (none) = some r := by rw [if_pos rfl] at H; exact H
                                 clear H
                                 have H := H1
                                 clear H1
                                 exact absurd H (by simp)
                                ·replace c77 := Bool.eq_false_iff.mpr c77
                                 subst c77
                                 have H1 : (if x143_1 ≤ 10 then (if 0 ≤ x143_1 then (if x143_1 ≤ (t372.length : Int) then ((impl_FittingCodes.f kj51 a0_0 a0_1 (t372.take (x143_1 : Int).toNat)).bind fun bt397 => (if bt397.2 = true then (if (bt397.1.length : Int) < 1 then (none) else (if 0 < (bt397.1.length : Int) then (if (rdOf ByteArray.empty bt397.1 0).toList = ((rd_T31 t372 x143_1).f0).toList then (laws_FnHintsPlayedOfAll.l0 kj51 a1 a4 a5 t372 t372 (t372.length : Int) (wrap64 (x143_1 + 1)) a0_0 a0_1 a2_0 a2_1 a3_0 a3_1) else (none)) else (none))) else (none))) else (none)) else (none)) else (laws_FnHintsPlayedOfAll.l0 kj51 a1 a4 a5 t372 t372 (t372.length : Int) (wrap64 (x143_1 + 1)) a0_0 a0_1 a2_0 a2_1 a3_0 a3_1)) = some r := by rw [if_neg (show ¬ (false = true) by decide)] at H; exact H
                                 clear H
                                 have H := H1
                                 clear H1
                                 by_cases c78 : x143_1 ≤ 10
                                 ·rw [if_pos c78] at H
                                  have c78b0 : decide (x143_1 ≤ 10) = true := decide_eq_true c78
                                  clear c78
                                  by_cases c79 : 0 ≤ x143_1
                                  ·rw [if_pos c79] at H
                                   have c79b0 := eq_true c79
                                   have c79b1 : decide (0 ≤ x143_1) = true := decide_eq_true c79
                                   clear c79
                                   by_cases c80 : x143_1 ≤ (t372.length : Int)
                                   ·rw [if_pos c80] at H
                                    have c80b0 := eq_true c80
                                    have c80b1 : decide (x143_1 ≤ (t372.length : Int)) = true := decide_eq_true c80
                                    clear c80
                                    obtain ⟨y393, hy393⟩ : ∃ y_ : List (S31), y_ = (t372.take (x143_1 : Int).toNat) := ⟨_, rfl⟩
                                    replace H : ((impl_FittingCodes.f kj51 a0_0 a0_1 y393).bind fun bt397 => (if bt397.2 = true then (if (bt397.1.length : Int) < 1 then (none) else (if 0 < (bt397.1.length : Int) then (if (rdOf ByteArray.empty bt397.1 0).toList = ((rd_T31 t372 x143_1).f0).toList then (laws_FnHintsPlayedOfAll.l0 kj51 a1 a4 a5 t372 t372 (t372.length : Int) (wrap64 (x143_1 + 1)) a0_0 a0_1 a2_0 a2_1 a3_0 a3_1) else (none)) else (none))) else (none))) = some r := by first | (rw [hy393]; with_reducible exact H) | (have H2_ := (Option.bind_some _ _).symm.trans H; rw [hy393]; with_reducible exact H2_) | (have H2_ := (Option.bind_some _ _).symm.trans H; with_reducible exact H2_) | with_reducible exact H | (rw [hy393]; exact H) | exact H
                                    have Ny393 := Aside0.mk hy393
                                    clear hy393
                                    replace H := Option.bind_eq_some_iff.mp H
                                    obtain ⟨⟨t397, t400⟩, A810, H⟩ := H
                                    (try dsimp only at H)
                                    have A81 := Aside0.mk A810
                                    clear A810
                                    by_cases c82 : t400 = true
                                    ·subst c82
                                     have H1 : (if (t397.length : Int) < 1 then (none) else (if 0 < (t397.length : Int) then (if (rdOf ByteArray.empty t397 0).toList = ((rd_T31 t372 x143_1).f0).toList then (laws_FnHintsPlayedOfAll.l0 kj51 a1 a4 a5 t372 t372 (t372.length : Int) (wrap64 (x143_1 + 1)) a0_0 a0_1 a2_0 a2_1 a3_0 a3_1) else (none)) else (none))) = some r := by rw [if_pos rfl] at H; exact H
                                     clear H
                                     have H := H1
                                     clear H1
                                     by_cases c83 : (t397.length : Int) < 1
                                     ·rw [if_pos c83] at H
                                      exact absurd H (by simp)
                                     ·rw [if_neg c83] at H
                                      have c83b0 : decide ((t397.length : Int) < 1) = false := decide_eq_false c83
                                      have c83b1 : decide (t397.length < 1) = false := decide_eq_false (by omega)
                                      clear c83
                                      by_cases c84 : 0 < (t397.length : Int)
                                      ·rw [if_pos c84] at H
                                       have c84b0 : decide (0 < (t397.length : Int)) = true := decide_eq_true c84
                                       have c84b1 : decide (0 < t397.length) = true := decide_eq_true (by omega)
                                       clear c84
                                       by_cases c85 : (rdOf ByteArray.empty t397 0).toList = ((rd_T31 t372 x143_1).f0).toList
                                       ·rw [if_pos c85] at H
                                        have c85b0 : ((rdOf ByteArray.empty t397 0).toList == ((rd_T31 t372 x143_1).f0).toList) = true := beq_iff_eq.mpr c85
                                        have c85b1 : ((rdOf ByteArray.empty t397 0).toList != ((rd_T31 t372 x143_1).f0).toList) = false := bne_eq_false_iff_eq.mpr c85
                                        clear c85
                                        have H' := Aside0.mk H
                                        clear H
                                        try go_wp2
                                        repeat (go_quiet (fail); try go_wp2)
                                        as_aux_lemma =>
                                         have n0_ := Aside0.mk (Kd.R_drew HO_13.out); have n1_ := Aside0.mk (Kd.R_drew HO_141.out); have n2_ := Aside0.mk (blk_drew BK369.out); have n3_ := Aside0.mk (blk_drew BK370.out); have n4_ := Aside0.mk (blk_drew BK371.out); have n5_ := Aside0.mk (blk_drew BK388.out); have n6_ := Aside0.mk (below_drew1 HB.out); clear HO_13; clear HO_141; clear BK369; clear BK370; clear BK371; clear BK388; clear HB; have HO_13 := n0_; have HO_141 := n1_; have BK369 := n2_; have BK370 := n3_; have BK371 := n4_; have BK388 := n5_; have HB := n6_; clear n0_ n1_ n2_ n3_ n4_ n5_ n6_
                                         have q87 : (x143_1 : Int) ≤ ((t372.length : Int) : Int) := of_decide_eq_true (by first | (with_reducible assumption) | assumption)
                                         obtain ⟨i087, hi087, _, hsz87, _⟩ := info_parts info31
                                         have hroom87 : t372.length ≤ co35 := (Kd.R_reads' HO_13.out).2.1
                                         have hC87 : Kd.C k31 _ (some ad385) t372.length t372 := (Kd.R_reads' HO_13.out).2.2
                                         have hcut87 := cut_to (P := Try.prog) 24 31 .i64 Try.underlying24 hi087 (some ad385) t372.length co35 x143_1 (of_decide_eq_true (by first | (with_reducible assumption) | assumption)) q87 hroom87
                                         have hr87 := Kd.C_take (m := (x143_1 : Int).toNat) hC87 (by omega)
                                         have hy87 : y393.length = (x143_1 : Int).toNat := (by rw [Ny393.out, List.length_take]; omega)
                                         rw [← Ny393.out] at hr87
                                         rw [← hy87] at hcut87
                                         have HR396 := Aside0.mk hr87
                                         have HC396 := Aside0.mk (show y393.length ≤ co35 from by omega)
                                         clear hr87 hC87 hroom87 hi087 hsz87
                                         have KY87 := Aside0.mk hy87
                                         clear hy87
                                         have KL87 := Aside0.mk (show (x143_1 : Int).toNat ≤ t372.length from by omega)
                                         replace q87 := eq_true q87
                                         refine start_ (n := 10) (S := fun w' => w'.cell? ⟨gb369, 0, none⟩ = some (.int .i64 a0_0) ∧ w'.cell? ⟨gb369, 1, none⟩ = some (.int .i64 a0_1)) (ds := []) #[false, false, false, false, false, false, false, false, false, false] (by kernel_rfl) rfl rfl ⟨(blk_cell BK369.out 0).trans rfl, (blk_cell BK369.out 1).trans rfl⟩ (fun hHeld => ?_); refine with_tabW laws_FnHintsPlayedOfAll.tab20 laws_FnHintsPlayedOfAll.bits20 (fun HT_ HW_ => ?_)
                                         generalize wc.drew = w86 at HO_13 HO_141 BK369 BK370 BK371 BK388 HB HR396 hHeld ⊢
                                         refine pure_ (i := 1) (N := some 190) (v := ?_) (a' := ?_) #[false, true, false, false, false, false, false, false, false, false] rfl rfl (any_of HT_.out (by kernel_rfl)) (fun _ _ _ h => h) (Or.inl ⟨by rfl, ?_⟩) ?_ ?_; rotate_left; (· intro w'; go_simp; with_reducible rfl); rotate_left; (· simp only [Act.put, List.setIfInBounds_toArray, List.set_cons_zero, List.set_cons_succ, i64_w, i32_w]; rfl)
                                         refine pure_ (i := 2) (N := some 191) (v := ?_) (a' := ?_) #[false, true, true, false, false, false, false, false, false, false] rfl rfl (any_of HT_.out (by kernel_rfl)) (fun _ _ _ h => h) (Or.inl ⟨by rfl, ?_⟩) ?_ ?_; rotate_left; (· intro w'; go_simp; with_reducible rfl); rotate_left; (· simp only [Act.put, List.setIfInBounds_toArray, List.set_cons_zero, List.set_cons_succ, i64_w, i32_w]; rfl)
                                         refine pure_ (i := 3) (N := some 192) (v := ?_) (a' := ?_) #[false, true, true, true, false, false, false, false, false, false] rfl rfl (any_of HT_.out (by kernel_rfl)) (fun _ _ _ h => h) (Or.inl ⟨by rfl, ?_⟩) ?_ ?_; rotate_left; (· intro w'; go_simp; with_reducible rfl); rotate_left; (· simp only [Act.put, List.setIfInBounds_toArray, List.set_cons_zero, List.set_cons_succ, i64_w, i32_w]; rfl)
                                         refine take_ (i := 0) (N := some 189) (v := ?_) (a' := ?_) #[true, true, true, true, false, false, false, false, false, false] rfl rfl (take_ofW HT_.out HW_.out (by kernel_rfl)) (fun _ _ _ h => h) (Or.inl ⟨by rfl, ?_⟩) hHeld ?_ ?_
                                         rotate_left
                                         ·rintro w' ⟨s0, s1⟩
                                          go_simp
                                          with_reducible rfl
                                         rotate_left
                                         ·simp only [Act.put, List.setIfInBounds_toArray, List.set_cons_zero, List.set_cons_succ, i64_w, i32_w]
                                          rfl
                                         refine one_ (i := 4) (N := some 193) #[true, true, true, true, true, false, false, false, false, false] rfl rfl (one_of HT_.out (by kernel_rfl)) (by decide) (fun K hK => ?_)
                                         refine goes_ Try.func11 (by kernel_rfl) rfl #[.agg #[.int .i64 a0_0, .int .i64 a0_1], .slice (some ad385) y393.length co35] (by rfl) rfl rfl (by (try simp only [List.map_toArray, List.map_cons, List.map_nil]); first | done | rfl | (simp only [List.length_drop, List.length_take]; rfl)) ?_
                                         with_reducible refine (impl_FittingCodes.calls kj51 a0_0 a0_1 _ _ y393 t397 true _ ?side1 ?side2 A81.out).mono ?_
                                         (case side1 => repeat (first | exact (by repeat (first | (with_reducible exact HR396.out) | (with_reducible refine Kd.C_alloc ?_ _) | (with_reducible refine Kd.C_drewN ?_ _) | (with_reducible refine Kd.C_drew ?_) | exact HR396.out)) | (with_reducible refine Kd.C_alloc ?_ _) | (with_reducible refine Kd.C_drewN ?_ _) | (with_reducible refine Kd.C_drew ?_)))
                                         (case side2 => exact HC396.out)
                                         rintro e w88 ⟨v398, rfl, ho0, hb⟩
                                         refine ⟨_, rfl, ?_⟩
                                         have n0_ := Aside0.mk (Kd.R_below (by (with_reducible repeat (first | apply Kd.R_alloc | apply Kd.R_drewN | apply Kd.R_drew)); exact HO_13.out) hb); have n1_ := Aside0.mk (Kd.R_below (by (with_reducible repeat (first | apply Kd.R_alloc | apply Kd.R_drewN | apply Kd.R_drew)); exact HO_141.out) hb); have n2_ := Aside0.mk (Kd.R_lower ho0 (below_size (by repeat (first | (with_reducible first | exact HB.out | apply below_alloc | apply pw_below_drewN | apply below_drew1 | refine below_set ?_ GE369.out | refine below_set ?_ GE370.out | refine below_set ?_ GE371.out | refine below_set ?_ GE388.out) | exact HB.out)))); have n3_ := Aside0.mk (blk_below (g := gb369) (o := .cells #[.int .i64 a0_0, .int .i64 a0_1] 23 (0, 0)) (by (with_reducible repeat (first | refine blk_drewN ?_ _ | refine blk_drew ?_ | refine blk_alloc ?_ _)); exact BK369.out) hb); have n4_ := Aside0.mk (blk_below (g := gb370) (o := .cells #[.int .i64 a2_0, .int .i64 a2_1] 23 (0, 0)) (by (with_reducible repeat (first | refine blk_drewN ?_ _ | refine blk_drew ?_ | refine blk_alloc ?_ _)); exact BK370.out) hb); have n5_ := Aside0.mk (blk_below (g := gb371) (o := .cells #[.int .i64 a3_0, .int .i64 a3_1] 23 (0, 0)) (by (with_reducible repeat (first | refine blk_drewN ?_ _ | refine blk_drew ?_ | refine blk_alloc ?_ _)); exact BK371.out) hb); have n6_ := Aside0.mk (blk_below (g := gb388) (o := .cells #[.string ((rd_T31 t372 x143_1).f0), .int .i64 ((rd_T31 t372 x143_1).f1), .int .i64 ((rd_T31 t372 x143_1).f2)] 31 (0, 0)) (by (with_reducible repeat (first | refine blk_drewN ?_ _ | refine blk_drew ?_ | refine blk_alloc ?_ _)); exact BK388.out) hb); have n7_ := Aside0.mk (Kd.C_below (by repeat (first | (with_reducible exact HR396.out) | (with_reducible refine Kd.C_alloc ?_ _) | (with_reducible refine Kd.C_drewN ?_ _) | (with_reducible refine Kd.C_drew ?_) | exact HR396.out)) hb); have n8_ := Aside0.mk (below_step (by repeat (first | (with_reducible first | exact HB.out | apply below_alloc | apply pw_below_drewN | apply below_drew1 | refine below_set ?_ GE369.out | refine below_set ?_ GE370.out | refine below_set ?_ GE371.out | refine below_set ?_ GE388.out) | exact HB.out)) hb); clear HO_13; clear HO_141; clear BK369; clear BK370; clear BK371; clear BK388; clear HR396; clear HB; have HO_13 := n0_; have HO_141 := n1_; have HO399 := n2_; have BK369 := n3_; have BK370 := n4_; have BK371 := n5_; have BK388 := n6_; have HR396 := n7_; have HB := n8_; clear n0_ n1_ n2_ n3_ n4_ n5_ n6_ n7_ n8_
                                         (try clear hb)
                                         (try clear hb2)
                                         (try clear hk)
                                         (try clear hi)
                                         (try clear ho0)
                                         refine hK.out _ _ ⟨(blk_cell BK369.out 0).trans rfl, (blk_cell BK369.out 1).trans rfl⟩ (fun hHeld => ?_)
                                         clear hK K
                                         refine norm_ (a' := ?_) ?_ ?_
                                         rotate_left
                                         ·show Act.put _ (some 193) _ = _
                                          simp only [Act.put, List.setIfInBounds_toArray, List.set_cons_zero, List.set_cons_succ, i64_w, i32_w]
                                          rfl
                                         refine pure_ (i := 5) (N := some 188) (v := ?_) (a' := ?_) #[true, true, true, true, true, true, false, false, false, false] rfl rfl (any_of HT_.out (by kernel_rfl)) (fun _ _ _ h => h) (Or.inl ⟨by rfl, ?_⟩) ?_ ?_; rotate_left; (· intro w'; go_simp; with_reducible rfl); rotate_left; (· simp only [Act.put, List.setIfInBounds_toArray, List.set_cons_zero, List.set_cons_succ, i64_w, i32_w]; rfl)
                                         refine pure_ (i := 6) (N := some 194) (v := ?_) (a' := ?_) #[true, true, true, true, true, true, true, false, false, false] rfl rfl (any_of HT_.out (by kernel_rfl)) (fun _ _ _ h => h) (Or.inl ⟨by rfl, ?_⟩) ?_ ?_; rotate_left; (· intro w'; go_simp; with_reducible rfl); rotate_left; (· simp only [Act.put, List.setIfInBounds_toArray, List.set_cons_zero, List.set_cons_succ, i64_w, i32_w]; rfl)
                                         refine pure_ (i := 7) (N := some 195) (v := ?_) (a' := ?_) #[true, true, true, true, true, true, true, true, false, false] rfl rfl (any_of HT_.out (by kernel_rfl)) (fun _ _ _ h => h) (Or.inl ⟨by rfl, ?_⟩) ?_ ?_; rotate_left; (· intro w'; go_simp; with_reducible rfl); rotate_left; (· simp only [Act.put, List.setIfInBounds_toArray, List.set_cons_zero, List.set_cons_succ, i64_w, i32_w]; rfl)
                                         refine pure_ (i := 8) (N := some 27) (v := ?_) (a' := ?_) #[true, true, true, true, true, true, true, true, true, false] rfl rfl (any_of HT_.out (by kernel_rfl)) (fun _ _ _ h => h) (Or.inl ⟨by rfl, ?_⟩) ?_ ?_; rotate_left; (· intro w'; go_simp; with_reducible rfl); rotate_left; (· simp only [Act.put, List.setIfInBounds_toArray, List.set_cons_zero, List.set_cons_succ, i64_w, i32_w]; rfl)
                                         refine pure_ (i := 9) (N := some 28) (v := ?_) (a' := ?_) #[true, true, true, true, true, true, true, true, true, true] rfl rfl (any_of HT_.out (by kernel_rfl)) (fun _ _ _ h => h) (Or.inl ⟨by rfl, ?_⟩) ?_ ?_; rotate_left; (· intro w'; go_simp; with_reducible rfl); rotate_left; (· simp only [Act.put, List.setIfInBounds_toArray, List.set_cons_zero, List.set_cons_succ, i64_w, i32_w]; rfl)
                                         refine done_ (done_of HT_.out (by kernel_rfl)) ?_
                                         as_aux_lemma =>
                                          obtain ⟨Ao89, co89, eo89⟩ := Kd.R_slice HO399.out
                                          subst eo89
                                          have p401 : 0 ≤ (0 : Int) := (by omega)
                                          have q401 : 0 < (t397.length : Int) := of_decide_eq_true (by first | (with_reducible assumption) | assumption)
                                          obtain ⟨ad401, e401, hx401_0⟩ := Kd.at_string (Kd.R_reads' HO399.out).2.2 0 p401 q401
                                          cases e401
                                          have qi401 : (0 < t397.length) = True := eq_true (by omega)
                                          (try rw [show ((0 : Int)).toNat = 0 from rfl] at hx401_0)
                                          (try rw [Addr.add_zero'] at hx401_0)
                                          replace p401 := eq_true p401; replace q401 := eq_true q401
                                          have hnb90 := NB388_369.out
                                          have hnc90 := NB369_388.out
                                          have hnb91 := NB388_370.out
                                          have hnc91 := NB370_388.out
                                          have hnb92 := NB388_371.out
                                          have hnc92 := NB371_388.out
                                          have hcz93_0 : w88.cell? ⟨gb388, 0, none⟩ = some (.string ((rd_T31 t372 x143_1).f0)) := (blk_cell BK388.out 0).trans rfl
                                          have hcz93_1 : w88.cell? ⟨gb388, 1, none⟩ = some (.int .i64 ((rd_T31 t372 x143_1).f1)) := (blk_cell BK388.out 1).trans rfl
                                          have hcz93_2 : w88.cell? ⟨gb388, 2, none⟩ = some (.int .i64 ((rd_T31 t372 x143_1).f2)) := (blk_cell BK388.out 2).trans rfl
                                          have hfz93_0 := blk_frozen BK388.out 0
                                          have hfz93_1 := blk_frozen BK388.out 1
                                          have hfz93_2 := blk_frozen BK388.out 2
                                          try go_wp2
                                          repeat (go_quiet (fail); try go_wp2)
                                          go_roundg kj51
                                          case measure => have := HK1.out; have := HJ51.out; omega
                                          case rel => exact ⟨(wrap64 (x143_1 + 1)), (by first | rfl | (simp; done) | (simp [*]; done)), H', ⟨by have := HK1.out; have := HJ51.out; omega⟩, ⟨by (with_reducible repeat (first | apply Kd.R_alloc | apply Kd.R_drewN | apply Kd.R_drew)); exact Kd.R_mono HO_13.out (fun _ hk => trivial)⟩, ⟨by (with_reducible repeat (first | apply Kd.R_alloc | apply Kd.R_drewN | apply Kd.R_drew)); exact Kd.R_mono HO_141.out (fun _ hk => trivial)⟩, ⟨by (with_reducible repeat (first | refine blk_drewN ?_ _ | refine blk_drew ?_ | refine blk_alloc ?_ _)); exact BK369.out⟩, ⟨by (with_reducible repeat (first | refine blk_drewN ?_ _ | refine blk_drew ?_ | refine blk_alloc ?_ _)); exact BK370.out⟩, ⟨by (with_reducible repeat (first | refine blk_drewN ?_ _ | refine blk_drew ?_ | refine blk_alloc ?_ _)); exact BK371.out⟩, ⟨by repeat (first | (with_reducible first | exact HB.out | apply below_alloc | apply pw_below_drewN | apply below_drew1 | refine below_set ?_ GE369.out | refine below_set ?_ GE370.out | refine below_set ?_ GE371.out | refine below_set ?_ GE388.out) | exact HB.out)⟩⟩
                                       ·rw [if_neg c85] at H
                                        exact absurd H (by simp)
                                      ·rw [if_neg c84] at H
                                       exact absurd H (by simp)
                                    ·replace c82 := Bool.eq_false_iff.mpr c82
                                     subst c82
                                     have H1 : (none) = some r := by rw [if_neg (show ¬ (false = true) by decide)] at H; exact H
                                     clear H
                                     have H := H1
                                     clear H1
                                     exact absurd H (by simp)
                                   ·rw [if_neg c80] at H
                                    exact absurd H (by simp)
                                  ·rw [if_neg c79] at H
                                   exact absurd H (by simp)
                                 ·rw [if_neg c78] at H
                                  have c78b0 : decide (x143_1 ≤ 10) = false := decide_eq_false c78
                                  clear c78
                                  have H' := Aside0.mk H
                                  clear H
                                  try go_wp2
                                  repeat (go_quiet (fail); try go_wp2)
                                  go_roundg kj51
                                  case measure => have := HK1.out; have := HJ51.out; omega
                                  case rel => exact ⟨(wrap64 (x143_1 + 1)), (by first | rfl | (simp; done) | (simp [*]; done)), H', ⟨by have := HK1.out; have := HJ51.out; omega⟩, ⟨by (with_reducible repeat (first | apply Kd.R_alloc | apply Kd.R_drewN | apply Kd.R_drew)); exact Kd.R_mono HO_13.out (fun _ hk => trivial)⟩, ⟨by (with_reducible repeat (first | apply Kd.R_alloc | apply Kd.R_drewN | apply Kd.R_drew)); exact Kd.R_mono HO_141.out (fun _ hk => trivial)⟩, ⟨by (with_reducible repeat (first | refine blk_drewN ?_ _ | refine blk_drew ?_ | refine blk_alloc ?_ _)); exact BK369.out⟩, ⟨by (with_reducible repeat (first | refine blk_drewN ?_ _ | refine blk_drew ?_ | refine blk_alloc ?_ _)); exact BK370.out⟩, ⟨by (with_reducible repeat (first | refine blk_drewN ?_ _ | refine blk_drew ?_ | refine blk_alloc ?_ _)); exact BK371.out⟩, ⟨by repeat (first | (with_reducible first | exact HB.out | apply below_alloc | apply pw_below_drewN | apply below_drew1 | refine below_set ?_ GE369.out | refine below_set ?_ GE370.out | refine below_set ?_ GE371.out | refine below_set ?_ GE388.out) | exact HB.out)⟩⟩
                           ·rw [if_neg c50] at H
                            exact absurd H (by simp)
                          ·rw [if_neg c49] at H
                           exact absurd H (by simp)
                         ·rw [if_neg c48] at H
                          have c48b0 : decide (x143_1 < (t372.length : Int)) = false := decide_eq_false c48
                          clear c48
                          have H' := Aside0.mk H
                          clear H
                          try go_wp2
                          repeat (go_quiet (fail); try go_wp2)
                          go_meet
                          case rel => exact ⟨_, H', ⟨by have := HK1.out; first | omega | exact Nat.le_refl _⟩, ⟨by (with_reducible repeat (first | refine blk_drewN ?_ _ | refine blk_drew ?_ | refine blk_alloc ?_ _)); exact BK369.out⟩, ⟨by (with_reducible repeat (first | refine blk_drewN ?_ _ | refine blk_drew ?_ | refine blk_alloc ?_ _)); exact BK370.out⟩, ⟨by (with_reducible repeat (first | refine blk_drewN ?_ _ | refine blk_drew ?_ | refine blk_alloc ?_ _)); exact BK371.out⟩, ⟨by repeat (first | (with_reducible first | exact HB.out | apply below_alloc | apply pw_below_drewN | apply below_drew1 | refine below_set ?_ GE369.out | refine below_set ?_ GE370.out | refine below_set ?_ GE371.out) | exact HB.out)⟩⟩
                    ·rw [if_neg c44] at H
                     exact absurd H (by simp)
                   ·rw [if_neg c43] at H
                    exact absurd H (by simp)
                  ·rw [if_neg c42] at H
                   exact absurd H (by simp)
                 ·rw [if_neg c41] at H
                  exact absurd H (by simp)
               ·rw [if_neg c38] at H
                exact absurd H (by simp)
              ·replace c37 := Bool.eq_false_iff.mpr c37
               subst c37
               have H1 : (laws_FnHintsPlayedOfAll.j2 k a4 a5 a2_0 a2_1 a3_0 a3_1) = some r := by rw [if_neg (show ¬ (false = true) by decide)] at H; exact H
               clear H
               have H := H1
               clear H1
               have H' := Aside0.mk H
               clear H
               try go_wp2
               repeat (go_quiet (fail); try go_wp2)
               go_meet
               case rel => exact ⟨_, H', ⟨by first | omega | exact Nat.le_refl _⟩, ⟨by (with_reducible repeat (first | refine blk_drewN ?_ _ | refine blk_drew ?_ | refine blk_alloc ?_ _)); exact BK369.out⟩, ⟨by (with_reducible repeat (first | refine blk_drewN ?_ _ | refine blk_drew ?_ | refine blk_alloc ?_ _)); exact BK370.out⟩, ⟨by (with_reducible repeat (first | refine blk_drewN ?_ _ | refine blk_drew ?_ | refine blk_alloc ?_ _)); exact BK371.out⟩, ⟨by repeat (first | (with_reducible first | exact HB.out | apply below_alloc | apply pw_below_drewN | apply below_drew1 | refine below_set ?_ GE369.out | refine below_set ?_ GE370.out | refine below_set ?_ GE371.out) | exact HB.out)⟩⟩
            case rest =>
             as_aux_lemma =>
              clear HC21
              (try clear c1); (try clear c2); (try clear p2); (try clear c3); (try clear p3); (try clear q3); (try clear hx3); (try clear c4); (try clear p4); (try clear q4); (try clear hx4); (try clear qi4); (try clear c5); (try clear c6); (try clear p6); (try clear c7); (try clear c7b0); (try clear c7b1); (try clear c8); (try clear q8); (try clear c9); (try clear c10); (try clear c11); (try clear c15); (try clear c15b0); (try clear c15b1); (try clear c15b2); (try clear c17); (try clear c18); (try clear c18b0); (try clear c18b1); (try clear c18b2); (try clear c19); (try clear c19b0); (try clear c19b1); (try clear c20); (try clear c20b0); (try clear c20b1); (try clear c20b2); (try clear c25); (try clear c26); (try clear c37); (try clear c38); (try clear c38b0); (try clear c38b1); (try clear p38); (try clear q38); (try clear hx38); (try clear c39); (try clear c39b0); (try clear c39b1); (try clear p39); (try clear q39); (try clear hx39); (try clear p40); (try clear q40); (try clear hx40); (try clear qi40); (try clear c41); (try clear c41b0); (try clear c42); (try clear c42b0); (try clear c43); (try clear c43b0); (try clear c43b1); (try clear c44); (try clear c44b0); (try clear c44b1); (try clear c45); (try clear c46); (try clear c48); (try clear c48b0); (try clear c49); (try clear c49b0); (try clear c50); (try clear c50b0); (try clear c54); (try clear c55); (try clear c56); (try clear c58); (try clear c59); (try clear c62); (try clear c63); (try clear c63b0); (try clear c63b1); (try clear c64); (try clear c64b0); (try clear c64b1); (try clear p64); (try clear c65); (try clear c65b0); (try clear c67); (try clear c67b0); (try clear c68); (try clear c68b0); (try clear c69); (try clear c70); (try clear c71); (try clear c73); (try clear c74); (try clear c75); (try clear c77); (try clear c78); (try clear c78b0); (try clear c79); (try clear c79b0); (try clear c79b1); (try clear c80); (try clear c80b0); (try clear c80b1); (try clear c82); (try clear c83); (try clear c83b0); (try clear c83b1); (try clear c84); (try clear c84b0); (try clear c84b1); (try clear c85); (try clear c85b0); (try clear c85b1); (try clear q87); (try clear c90); (try clear c91); (try clear c92); (try clear hcz27_0); (try clear hcz27_1); (try clear hcz29_0); (try clear hcz29_1); (try clear hcz31_0); (try clear hcz31_1); (try clear hcz33_0); (try clear hcz33_1); (try clear hcz47_0); (try clear hcz47_1); (try clear hcz57_0); (try clear hcz57_1); (try clear hcz57_2); (try clear hcz60_0); (try clear hcz60_1); (try clear hcz72_0); (try clear hcz72_1); (try clear hcz72_2); (try clear hcz76_0); (try clear hcz76_1); (try clear hcz76_2); (try clear hcz93_0); (try clear hcz93_1); (try clear hcz93_2); (try clear hfz27_0); (try clear hfz27_1); (try clear hfz29_0); (try clear hfz29_1); (try clear hfz31_0); (try clear hfz31_1); (try clear hfz33_0); (try clear hfz33_1); (try clear hfz47_0); (try clear hfz47_1); (try clear hfz57_0); (try clear hfz57_1); (try clear hfz57_2); (try clear hfz60_0); (try clear hfz60_1); (try clear hfz72_0); (try clear hfz72_1); (try clear hfz72_2); (try clear hfz76_0); (try clear hfz76_1); (try clear hfz76_2); (try clear hfz93_0); (try clear hfz93_1); (try clear hfz93_2); (try clear hx385_0); (try clear hx385_1); (try clear hx385_2); (try clear hx386_0); (try clear hx386_1); (try clear hx386_2); (try clear hx387_0); (try clear hx387_1); (try clear hx387_2); (try clear hx392_0); (try clear hx392_1); (try clear hx392_2); (try clear hx401_0); (try clear p2); (try clear p3); (try clear p38); (try clear p385); (try clear p386); (try clear p387); (try clear p39); (try clear p392); (try clear p401); (try clear p6); (try clear p64); (try clear q3); (try clear q38); (try clear q385); (try clear q386); (try clear q387); (try clear q39); (try clear q392); (try clear q401); (try clear q87)
              obtain ⟨kq, HA, HJ20, BK369, BK370, BK371, HB⟩ := hcut
              cases kq with
              | zero => exact absurd HA.out (by simp [laws_FnHintsPlayedOfAll.j2])
              | succ kj20 =>
               have H := HA.out
               clear HA
               simp only [laws_FnHintsPlayedOfAll.j2] at H
               replace H := Option.bind_eq_some_iff.mp H
               obtain ⟨⟨t402, t403⟩, A940, H⟩ := H
               (try dsimp only at H)
               have A94 := Aside0.mk A940
               clear A940
               replace H := Option.bind_eq_some_iff.mp H
               obtain ⟨⟨t404, t405⟩, A950, H⟩ := H
               (try dsimp only at H)
               have A95 := Aside0.mk A950
               clear A950
               replace H := Option.bind_eq_some_iff.mp H
               obtain ⟨⟨t406, t409⟩, A960, H⟩ := H
               (try dsimp only at H)
               have A96 := Aside0.mk A960
               clear A960
               replace H := Option.bind_eq_some_iff.mp H
               obtain ⟨⟨t410, t413⟩, A970, H⟩ := H
               (try dsimp only at H)
               have A97 := Aside0.mk A970
               clear A970
               replace H := Option.bind_eq_some_iff.mp H
               obtain ⟨⟨t414, t417⟩, A980, H⟩ := H
               (try dsimp only at H)
               have A98 := Aside0.mk A980
               clear A980
               replace H := Option.bind_eq_some_iff.mp H
               obtain ⟨⟨t418, t421⟩, A990, H⟩ := H
               (try dsimp only at H)
               have A99 := Aside0.mk A990
               clear A990
               replace H := Option.bind_eq_some_iff.mp H
               obtain ⟨⟨t422, t423⟩, A1000, H⟩ := H
               (try dsimp only at H)
               have A100 := Aside0.mk A1000
               clear A1000
               replace H := Option.bind_eq_some_iff.mp H
               obtain ⟨⟨t424, t425⟩, A1010, H⟩ := H
               (try dsimp only at H)
               have A101 := Aside0.mk A1010
               clear A1010
               by_cases c102 : (t403 != t405) = true
               ·rw [if_pos c102] at H
                exact absurd H (by simp)
               ·rw [if_neg c102] at H
                have c102b0 : (t403 != t405) = false := by simpa using c102
                (try (have c102b1 : decide (t403 = t405) = true := by simpa using c102))
                (try (have c102b2 : (t403 == t405) = true := by simpa using c102))
                clear c102
                by_cases c103 : t402 = t404
                ·rw [if_pos c103] at H
                 have c103b0 : (t402 == t404) = true := beq_iff_eq.mpr c103
                 have c103b1 : (t402 != t404) = false := bne_eq_false_iff_eq.mpr c103
                 clear c103
                 by_cases c104 : (t409 != t413) = true
                 ·rw [if_pos c104] at H
                  exact absurd H (by simp)
                 ·rw [if_neg c104] at H
                  have c104b0 : (t409 != t413) = false := by simpa using c104
                  (try (have c104b1 : decide (t409 = t413) = true := by simpa using c104))
                  (try (have c104b2 : (t409 == t413) = true := by simpa using c104))
                  clear c104
                  replace H := Option.bind_eq_some_iff.mp H
                  obtain ⟨t426, A1050, H⟩ := H
                  (try dsimp only at H)
                  have A105 := Aside0.mk A1050
                  clear A1050
                  by_cases c106 : t426 = true
                  ·subst c106
                   have H1 : (if (t417 != t421) = true then (none) else ((laws_eRows.f kj20 t414 t418).bind fun t427 => (if t427 = true then (if (t423 != t425) = true then (none) else (if t422 = t424 then (if (t409 != t403) = true then (none) else (if (t417 != t403) = true then (none) else (if t403 = true then (if (t406.length : Int) < 1 then (none) else ((laws_eSorted.f kj20 t406).bind fun t428 => (if t428 = true then (if t402 < 1 then (none) else (laws_FnHintsPlayedOfAll.l1 kj20 a4 a5 t402 t414 t422 t423 t406 (t406.length : Int) 0 a2_0 a2_1 a3_0 a3_1)) else (none)))) else (laws_FnHintsPlayedOfAll.j5 kj20 a4 a5 t422 t423 a3_0 a3_1)))) else (none))) else (none)))) = some r := by rw [if_pos rfl] at H; exact H
                   clear H
                   have H := H1
                   clear H1
                   by_cases c107 : (t417 != t421) = true
                   ·rw [if_pos c107] at H
                    exact absurd H (by simp)
                   ·rw [if_neg c107] at H
                    have c107b0 : (t417 != t421) = false := by simpa using c107
                    (try (have c107b1 : decide (t417 = t421) = true := by simpa using c107))
                    (try (have c107b2 : (t417 == t421) = true := by simpa using c107))
                    clear c107
                    replace H := Option.bind_eq_some_iff.mp H
                    obtain ⟨t427, A1080, H⟩ := H
                    (try dsimp only at H)
                    have A108 := Aside0.mk A1080
                    clear A1080
                    by_cases c109 : t427 = true
                    ·subst c109
                     have H1 : (if (t423 != t425) = true then (none) else (if t422 = t424 then (if (t409 != t403) = true then (none) else (if (t417 != t403) = true then (none) else (if t403 = true then (if (t406.length : Int) < 1 then (none) else ((laws_eSorted.f kj20 t406).bind fun t428 => (if t428 = true then (if t402 < 1 then (none) else (laws_FnHintsPlayedOfAll.l1 kj20 a4 a5 t402 t414 t422 t423 t406 (t406.length : Int) 0 a2_0 a2_1 a3_0 a3_1)) else (none)))) else (laws_FnHintsPlayedOfAll.j5 kj20 a4 a5 t422 t423 a3_0 a3_1)))) else (none))) = some r := by rw [if_pos rfl] at H; exact H
                     clear H
                     have H := H1
                     clear H1
                     by_cases c110 : (t423 != t425) = true
                     ·rw [if_pos c110] at H
                      exact absurd H (by simp)
                     ·rw [if_neg c110] at H
                      have c110b0 : (t423 != t425) = false := by simpa using c110
                      (try (have c110b1 : decide (t423 = t425) = true := by simpa using c110))
                      (try (have c110b2 : (t423 == t425) = true := by simpa using c110))
                      clear c110
                      by_cases c111 : t422 = t424
                      ·rw [if_pos c111] at H
                       have c111b0 : (t422 == t424) = true := beq_iff_eq.mpr c111
                       have c111b1 : (t422 != t424) = false := bne_eq_false_iff_eq.mpr c111
                       clear c111
                       by_cases c112 : (t409 != t403) = true
                       ·rw [if_pos c112] at H
                        exact absurd H (by simp)
                       ·rw [if_neg c112] at H
                        have c112b0 : (t409 != t403) = false := by simpa using c112
                        (try (have c112b1 : decide (t409 = t403) = true := by simpa using c112))
                        (try (have c112b2 : (t409 == t403) = true := by simpa using c112))
                        clear c112
                        by_cases c113 : (t417 != t403) = true
                        ·rw [if_pos c113] at H
                         exact absurd H (by simp)
                        ·rw [if_neg c113] at H
                         have c113b0 : (t417 != t403) = false := by simpa using c113
                         (try (have c113b1 : decide (t417 = t403) = true := by simpa using c113))
                         (try (have c113b2 : (t417 == t403) = true := by simpa using c113))
                         clear c113
                         have HC114 := Aside0.mk H
                         clear H
                         have hnb115 := NB370_369.out
                         have hnc115 := NB369_370.out
                         have hnb116 := NB370_371.out
                         have hnc116 := NB371_370.out
                         have hcz117_0 : wc.cell? ⟨gb370, 0, none⟩ = some (.int .i64 a2_0) := (blk_cell BK370.out 0).trans rfl
                         have hcz117_1 : wc.cell? ⟨gb370, 1, none⟩ = some (.int .i64 a2_1) := (blk_cell BK370.out 1).trans rfl
                         have hfz117_0 := blk_frozen BK370.out 0
                         have hfz117_1 := blk_frozen BK370.out 1
                         go_upto_region 25 with (first | ((with_reducible refine gate_callee (f := 12) rfl ?_); refine goesL_ (some 214) rfl rfl Try.func12 (by kernel_rfl) rfl #[.agg #[.int .i64 a2_0, .int .i64 a2_1]] rfl (by (try simp only [List.map_toArray, List.map_cons, List.map_nil]); first | done | rfl | (simp only [List.length_drop, List.length_take]; rfl)) ?_; (with_reducible refine (impl_MostGuesses.calls kj20 a2_0 a2_1 t402 t403 _ A94.out).mono ?_); rintro e w118 ⟨rfl, hb⟩; refine ⟨_, rfl, ?_⟩; have n0_ := Aside0.mk (blk_below (g := gb369) (o := .cells #[.int .i64 a0_0, .int .i64 a0_1] 23 (0, 0)) (by (with_reducible repeat (first | refine blk_drewN ?_ _ | refine blk_drew ?_ | refine blk_alloc ?_ _)); exact BK369.out) hb); have n1_ := Aside0.mk (blk_below (g := gb370) (o := .cells #[.int .i64 a2_0, .int .i64 a2_1] 23 (0, 0)) (by (with_reducible repeat (first | refine blk_drewN ?_ _ | refine blk_drew ?_ | refine blk_alloc ?_ _)); exact BK370.out) hb); have n2_ := Aside0.mk (blk_below (g := gb371) (o := .cells #[.int .i64 a3_0, .int .i64 a3_1] 23 (0, 0)) (by (with_reducible repeat (first | refine blk_drewN ?_ _ | refine blk_drew ?_ | refine blk_alloc ?_ _)); exact BK371.out) hb); have n3_ := Aside0.mk (below_step (by repeat (first | (with_reducible first | exact HB.out | apply below_alloc | apply pw_below_drewN | apply below_drew1 | refine below_set ?_ GE369.out | refine below_set ?_ GE370.out | refine below_set ?_ GE371.out) | exact HB.out)) hb); clear BK369; clear BK370; clear BK371; clear HB; have BK369 := n0_; have BK370 := n1_; have BK371 := n2_; have HB := n3_; clear n0_ n1_ n2_ n3_; (try clear hb); (try clear hb2); (try clear hk); (try clear hi); have hcz119_0 : w118.cell? ⟨gb370, 0, none⟩ = some (.int .i64 a2_0) := (blk_cell BK370.out 0).trans rfl; have hcz119_1 : w118.cell? ⟨gb370, 1, none⟩ = some (.int .i64 a2_1) := (blk_cell BK370.out 1).trans rfl; have hfz119_0 := blk_frozen BK370.out 0; have hfz119_1 := blk_frozen BK370.out 1))
                         as_aux_lemma =>
                          go_upto_region 26 with (first | ((with_reducible refine gate_callee (f := 13) rfl ?_); refine goesL_ (some 219) rfl rfl Try.func13 (by kernel_rfl) rfl #[.agg #[.int .i64 a2_0, .int .i64 a2_1]] rfl (by (try simp only [List.map_toArray, List.map_cons, List.map_nil]); first | done | rfl | (simp only [List.length_drop, List.length_take]; rfl)) ?_; (with_reducible refine (spec_MostGuesses.calls kj20 a2_0 a2_1 t404 t405 _ A95.out).mono ?_); rintro e w120 ⟨rfl, hb⟩; refine ⟨_, rfl, ?_⟩; have n0_ := Aside0.mk (blk_below (g := gb369) (o := .cells #[.int .i64 a0_0, .int .i64 a0_1] 23 (0, 0)) (by (with_reducible repeat (first | refine blk_drewN ?_ _ | refine blk_drew ?_ | refine blk_alloc ?_ _)); exact BK369.out) hb); have n1_ := Aside0.mk (blk_below (g := gb370) (o := .cells #[.int .i64 a2_0, .int .i64 a2_1] 23 (0, 0)) (by (with_reducible repeat (first | refine blk_drewN ?_ _ | refine blk_drew ?_ | refine blk_alloc ?_ _)); exact BK370.out) hb); have n2_ := Aside0.mk (blk_below (g := gb371) (o := .cells #[.int .i64 a3_0, .int .i64 a3_1] 23 (0, 0)) (by (with_reducible repeat (first | refine blk_drewN ?_ _ | refine blk_drew ?_ | refine blk_alloc ?_ _)); exact BK371.out) hb); have n3_ := Aside0.mk (below_step (by repeat (first | (with_reducible first | exact HB.out | apply below_alloc | apply pw_below_drewN | apply below_drew1 | refine below_set ?_ GE369.out | refine below_set ?_ GE370.out | refine below_set ?_ GE371.out) | exact HB.out)) hb); clear BK369; clear BK370; clear BK371; clear HB; have BK369 := n0_; have BK370 := n1_; have BK371 := n2_; have HB := n3_; clear n0_ n1_ n2_ n3_; (try clear hb); (try clear hb2); (try clear hk); (try clear hi); have hcz121_0 : w120.cell? ⟨gb370, 0, none⟩ = some (.int .i64 a2_0) := (blk_cell BK370.out 0).trans rfl; have hcz121_1 : w120.cell? ⟨gb370, 1, none⟩ = some (.int .i64 a2_1) := (blk_cell BK370.out 1).trans rfl; have hfz121_0 := blk_frozen BK370.out 0; have hfz121_1 := blk_frozen BK370.out 1))
                          as_aux_lemma =>
                           go_upto_region 27 with (first | ((with_reducible refine gate_callee (f := 14) rfl ?_); refine goesL_ (some 224) rfl rfl Try.func14 (by kernel_rfl) rfl #[.agg #[.int .i64 a2_0, .int .i64 a2_1]] rfl (by (try simp only [List.map_toArray, List.map_cons, List.map_nil]); first | done | rfl | (simp only [List.length_drop, List.length_take]; rfl)) ?_; (with_reducible refine (impl_HardestCodes.calls kj20 a2_0 a2_1 t406 t409 _ A96.out).mono ?_); rintro e w122 ⟨v407, rfl, ho0, hb⟩; refine ⟨_, rfl, ?_⟩; have n0_ := Aside0.mk (Kd.R_lower ho0 (below_size (by repeat (first | (with_reducible first | exact HB.out | apply below_alloc | apply pw_below_drewN | apply below_drew1 | refine below_set ?_ GE369.out | refine below_set ?_ GE370.out | refine below_set ?_ GE371.out) | exact HB.out)))); have n1_ := Aside0.mk (blk_below (g := gb369) (o := .cells #[.int .i64 a0_0, .int .i64 a0_1] 23 (0, 0)) (by (with_reducible repeat (first | refine blk_drewN ?_ _ | refine blk_drew ?_ | refine blk_alloc ?_ _)); exact BK369.out) hb); have n2_ := Aside0.mk (blk_below (g := gb370) (o := .cells #[.int .i64 a2_0, .int .i64 a2_1] 23 (0, 0)) (by (with_reducible repeat (first | refine blk_drewN ?_ _ | refine blk_drew ?_ | refine blk_alloc ?_ _)); exact BK370.out) hb); have n3_ := Aside0.mk (blk_below (g := gb371) (o := .cells #[.int .i64 a3_0, .int .i64 a3_1] 23 (0, 0)) (by (with_reducible repeat (first | refine blk_drewN ?_ _ | refine blk_drew ?_ | refine blk_alloc ?_ _)); exact BK371.out) hb); have n4_ := Aside0.mk (below_step (by repeat (first | (with_reducible first | exact HB.out | apply below_alloc | apply pw_below_drewN | apply below_drew1 | refine below_set ?_ GE369.out | refine below_set ?_ GE370.out | refine below_set ?_ GE371.out) | exact HB.out)) hb); clear BK369; clear BK370; clear BK371; clear HB; have HO408 := n0_; have BK369 := n1_; have BK370 := n2_; have BK371 := n3_; have HB := n4_; clear n0_ n1_ n2_ n3_ n4_; (try clear hb); (try clear hb2); (try clear hk); (try clear hi); (try clear ho0); have hcz123_0 : w122.cell? ⟨gb370, 0, none⟩ = some (.int .i64 a2_0) := (blk_cell BK370.out 0).trans rfl; have hcz123_1 : w122.cell? ⟨gb370, 1, none⟩ = some (.int .i64 a2_1) := (blk_cell BK370.out 1).trans rfl; have hfz123_0 := blk_frozen BK370.out 0; have hfz123_1 := blk_frozen BK370.out 1))
                           as_aux_lemma =>
                            go_upto_region 28 with (first | ((with_reducible refine gate_callee (f := 15) rfl ?_); refine goesL_ (some 229) rfl rfl Try.func15 (by kernel_rfl) rfl #[.agg #[.int .i64 a2_0, .int .i64 a2_1]] rfl (by (try simp only [List.map_toArray, List.map_cons, List.map_nil]); first | done | rfl | (simp only [List.length_drop, List.length_take]; rfl)) ?_; (with_reducible refine (spec_HardestCodes.calls kj20 a2_0 a2_1 t410 t413 _ A97.out).mono ?_); rintro e w124 ⟨v411, rfl, ho0, hb⟩; refine ⟨_, rfl, ?_⟩; have n0_ := Aside0.mk (Kd.R_elder' (by (with_reducible repeat (first | apply Kd.R_alloc | apply Kd.R_drewN | apply Kd.R_drew)); exact HO408.out) (Kd.R_base ho0) hb); have n1_ := Aside0.mk (Kd.R_lower (Kd.R_new' ho0 (Kd.R_lt (by (with_reducible repeat (first | apply Kd.R_alloc | apply Kd.R_drewN | apply Kd.R_drew)); exact HO408.out))) (below_size (by repeat (first | (with_reducible first | exact HB.out | apply below_alloc | apply pw_below_drewN | apply below_drew1 | refine below_set ?_ GE369.out | refine below_set ?_ GE370.out | refine below_set ?_ GE371.out) | exact HB.out)))); have n2_ := Aside0.mk (blk_below (g := gb369) (o := .cells #[.int .i64 a0_0, .int .i64 a0_1] 23 (0, 0)) (by (with_reducible repeat (first | refine blk_drewN ?_ _ | refine blk_drew ?_ | refine blk_alloc ?_ _)); exact BK369.out) hb); have n3_ := Aside0.mk (blk_below (g := gb370) (o := .cells #[.int .i64 a2_0, .int .i64 a2_1] 23 (0, 0)) (by (with_reducible repeat (first | refine blk_drewN ?_ _ | refine blk_drew ?_ | refine blk_alloc ?_ _)); exact BK370.out) hb); have n4_ := Aside0.mk (blk_below (g := gb371) (o := .cells #[.int .i64 a3_0, .int .i64 a3_1] 23 (0, 0)) (by (with_reducible repeat (first | refine blk_drewN ?_ _ | refine blk_drew ?_ | refine blk_alloc ?_ _)); exact BK371.out) hb); have n5_ := Aside0.mk (below_step (by repeat (first | (with_reducible first | exact HB.out | apply below_alloc | apply pw_below_drewN | apply below_drew1 | refine below_set ?_ GE369.out | refine below_set ?_ GE370.out | refine below_set ?_ GE371.out) | exact HB.out)) hb); clear HO408; clear BK369; clear BK370; clear BK371; clear HB; have HO408 := n0_; have HO412 := n1_; have BK369 := n2_; have BK370 := n3_; have BK371 := n4_; have HB := n5_; clear n0_ n1_ n2_ n3_ n4_ n5_; (try clear hb); (try clear hb2); (try clear hk); (try clear hi); (try clear ho0); have hcz125_0 : w124.cell? ⟨gb370, 0, none⟩ = some (.int .i64 a2_0) := (blk_cell BK370.out 0).trans rfl; have hcz125_1 : w124.cell? ⟨gb370, 1, none⟩ = some (.int .i64 a2_1) := (blk_cell BK370.out 1).trans rfl; have hfz125_0 := blk_frozen BK370.out 0; have hfz125_1 := blk_frozen BK370.out 1))
                            as_aux_lemma =>
                             go_upto_region 29 with (first | ((with_reducible refine gate_callee (f := 16) rfl ?_); refine goesL_ (some 234) rfl rfl Try.func16 (by kernel_rfl) rfl #[.agg #[.int .i64 a2_0, .int .i64 a2_1]] rfl (by (try simp only [List.map_toArray, List.map_cons, List.map_nil]); first | done | rfl | (simp only [List.length_drop, List.length_take]; rfl)) ?_; (with_reducible refine (impl_PossibleHints.calls kj20 a2_0 a2_1 t414 t417 _ A98.out).mono ?_); rintro e w126 ⟨v415, rfl, ho0, hb⟩; refine ⟨_, rfl, ?_⟩; have n0_ := Aside0.mk (Kd.R_below (by (with_reducible repeat (first | apply Kd.R_alloc | apply Kd.R_drewN | apply Kd.R_drew)); exact HO408.out) hb); have n1_ := Aside0.mk (Kd.R_below (by (with_reducible repeat (first | apply Kd.R_alloc | apply Kd.R_drewN | apply Kd.R_drew)); exact HO412.out) hb); have n2_ := Aside0.mk (Kd.S_lower (Kd.S_mono (ok' := fun k_ => True) ho0 (fun _ hk_ => trivial)) (below_size (by repeat (first | (with_reducible first | exact HB.out | apply below_alloc | apply pw_below_drewN | apply below_drew1 | refine below_set ?_ GE369.out | refine below_set ?_ GE370.out | refine below_set ?_ GE371.out) | exact HB.out)))); have n3_ := Aside0.mk (blk_below (g := gb369) (o := .cells #[.int .i64 a0_0, .int .i64 a0_1] 23 (0, 0)) (by (with_reducible repeat (first | refine blk_drewN ?_ _ | refine blk_drew ?_ | refine blk_alloc ?_ _)); exact BK369.out) hb); have n4_ := Aside0.mk (blk_below (g := gb370) (o := .cells #[.int .i64 a2_0, .int .i64 a2_1] 23 (0, 0)) (by (with_reducible repeat (first | refine blk_drewN ?_ _ | refine blk_drew ?_ | refine blk_alloc ?_ _)); exact BK370.out) hb); have n5_ := Aside0.mk (blk_below (g := gb371) (o := .cells #[.int .i64 a3_0, .int .i64 a3_1] 23 (0, 0)) (by (with_reducible repeat (first | refine blk_drewN ?_ _ | refine blk_drew ?_ | refine blk_alloc ?_ _)); exact BK371.out) hb); have n6_ := Aside0.mk (below_step (by repeat (first | (with_reducible first | exact HB.out | apply below_alloc | apply pw_below_drewN | apply below_drew1 | refine below_set ?_ GE369.out | refine below_set ?_ GE370.out | refine below_set ?_ GE371.out) | exact HB.out)) hb); clear HO408; clear HO412; clear BK369; clear BK370; clear BK371; clear HB; have HO408 := n0_; have HO412 := n1_; have HO416 := n2_; have BK369 := n3_; have BK370 := n4_; have BK371 := n5_; have HB := n6_; clear n0_ n1_ n2_ n3_ n4_ n5_ n6_; (try clear hb); (try clear hb2); (try clear hk); (try clear hi); (try clear ho0); have hcz127_0 : w126.cell? ⟨gb370, 0, none⟩ = some (.int .i64 a2_0) := (blk_cell BK370.out 0).trans rfl; have hcz127_1 : w126.cell? ⟨gb370, 1, none⟩ = some (.int .i64 a2_1) := (blk_cell BK370.out 1).trans rfl; have hfz127_0 := blk_frozen BK370.out 0; have hfz127_1 := blk_frozen BK370.out 1))
                             as_aux_lemma =>
                              go_upto_region 30 with (first | ((with_reducible refine gate_callee (f := 17) rfl ?_); refine goesL_ (some 239) rfl rfl Try.func17 (by kernel_rfl) rfl #[.agg #[.int .i64 a2_0, .int .i64 a2_1]] rfl (by (try simp only [List.map_toArray, List.map_cons, List.map_nil]); first | done | rfl | (simp only [List.length_drop, List.length_take]; rfl)) ?_; (with_reducible refine (spec_PossibleHints.calls kj20 a2_0 a2_1 t418 t421 _ A99.out).mono ?_); rintro e w128 ⟨v419, rfl, ho0, hb⟩; refine ⟨_, rfl, ?_⟩; have n0_ := Aside0.mk (Kd.R_below (by (with_reducible repeat (first | apply Kd.R_alloc | apply Kd.R_drewN | apply Kd.R_drew)); exact HO408.out) hb); have n1_ := Aside0.mk (Kd.R_below (by (with_reducible repeat (first | apply Kd.R_alloc | apply Kd.R_drewN | apply Kd.R_drew)); exact HO412.out) hb); have n2_ := Aside0.mk (Kd.S_elder' (by (with_reducible repeat (first | apply Kd.S_alloc | apply Kd.S_drewN | apply Kd.S_drew)); exact HO416.out) (Kd.S_base ho0) hb); have n3_ := Aside0.mk (Kd.S_lower (Kd.S_new' ho0 (Kd.S_lt (by (with_reducible repeat (first | apply Kd.S_alloc | apply Kd.S_drewN | apply Kd.S_drew)); exact HO416.out))) (below_size (by repeat (first | (with_reducible first | exact HB.out | apply below_alloc | apply pw_below_drewN | apply below_drew1 | refine below_set ?_ GE369.out | refine below_set ?_ GE370.out | refine below_set ?_ GE371.out) | exact HB.out)))); have n4_ := Aside0.mk (blk_below (g := gb369) (o := .cells #[.int .i64 a0_0, .int .i64 a0_1] 23 (0, 0)) (by (with_reducible repeat (first | refine blk_drewN ?_ _ | refine blk_drew ?_ | refine blk_alloc ?_ _)); exact BK369.out) hb); have n5_ := Aside0.mk (blk_below (g := gb370) (o := .cells #[.int .i64 a2_0, .int .i64 a2_1] 23 (0, 0)) (by (with_reducible repeat (first | refine blk_drewN ?_ _ | refine blk_drew ?_ | refine blk_alloc ?_ _)); exact BK370.out) hb); have n6_ := Aside0.mk (blk_below (g := gb371) (o := .cells #[.int .i64 a3_0, .int .i64 a3_1] 23 (0, 0)) (by (with_reducible repeat (first | refine blk_drewN ?_ _ | refine blk_drew ?_ | refine blk_alloc ?_ _)); exact BK371.out) hb); have n7_ := Aside0.mk (below_step (by repeat (first | (with_reducible first | exact HB.out | apply below_alloc | apply pw_below_drewN | apply below_drew1 | refine below_set ?_ GE369.out | refine below_set ?_ GE370.out | refine below_set ?_ GE371.out) | exact HB.out)) hb); clear HO408; clear HO412; clear HO416; clear BK369; clear BK370; clear BK371; clear HB; have HO408 := n0_; have HO412 := n1_; have HO416 := n2_; have HO420 := n3_; have BK369 := n4_; have BK370 := n5_; have BK371 := n6_; have HB := n7_; clear n0_ n1_ n2_ n3_ n4_ n5_ n6_ n7_; (try clear hb); (try clear hb2); (try clear hk); (try clear hi); (try clear ho0); have hnb129 := NB371_369.out; have hnc129 := NB369_371.out; have hcz130_0 : w128.cell? ⟨gb371, 0, none⟩ = some (.int .i64 a3_0) := (blk_cell BK371.out 0).trans rfl; have hcz130_1 : w128.cell? ⟨gb371, 1, none⟩ = some (.int .i64 a3_1) := (blk_cell BK371.out 1).trans rfl; have hfz130_0 := blk_frozen BK371.out 0; have hfz130_1 := blk_frozen BK371.out 1))
                              as_aux_lemma =>
                               go_upto_region 31 with (first | ((with_reducible refine gate_callee (f := 18) rfl ?_); refine goesL_ (some 246) rfl rfl Try.func18 (by kernel_rfl) rfl #[.agg #[.int .i64 a3_0, .int .i64 a3_1], .int .i64 a4, .int .i64 a5] rfl (by (try simp only [List.map_toArray, List.map_cons, List.map_nil]); first | done | rfl | (simp only [List.length_drop, List.length_take]; rfl)) ?_; (with_reducible refine (impl_CountWithHint.calls kj20 a3_0 a3_1 a4 a5 t422 t423 _ A100.out).mono ?_); rintro e w131 ⟨rfl, hb⟩; refine ⟨_, rfl, ?_⟩; have n0_ := Aside0.mk (Kd.R_below (by (with_reducible repeat (first | apply Kd.R_alloc | apply Kd.R_drewN | apply Kd.R_drew)); exact HO408.out) hb); have n1_ := Aside0.mk (Kd.R_below (by (with_reducible repeat (first | apply Kd.R_alloc | apply Kd.R_drewN | apply Kd.R_drew)); exact HO412.out) hb); have n2_ := Aside0.mk (Kd.S_below (by (with_reducible repeat (first | apply Kd.S_alloc | apply Kd.S_drewN | apply Kd.S_drew)); exact HO416.out) hb); have n3_ := Aside0.mk (Kd.S_below (by (with_reducible repeat (first | apply Kd.S_alloc | apply Kd.S_drewN | apply Kd.S_drew)); exact HO420.out) hb); have n4_ := Aside0.mk (blk_below (g := gb369) (o := .cells #[.int .i64 a0_0, .int .i64 a0_1] 23 (0, 0)) (by (with_reducible repeat (first | refine blk_drewN ?_ _ | refine blk_drew ?_ | refine blk_alloc ?_ _)); exact BK369.out) hb); have n5_ := Aside0.mk (blk_below (g := gb370) (o := .cells #[.int .i64 a2_0, .int .i64 a2_1] 23 (0, 0)) (by (with_reducible repeat (first | refine blk_drewN ?_ _ | refine blk_drew ?_ | refine blk_alloc ?_ _)); exact BK370.out) hb); have n6_ := Aside0.mk (blk_below (g := gb371) (o := .cells #[.int .i64 a3_0, .int .i64 a3_1] 23 (0, 0)) (by (with_reducible repeat (first | refine blk_drewN ?_ _ | refine blk_drew ?_ | refine blk_alloc ?_ _)); exact BK371.out) hb); have n7_ := Aside0.mk (below_step (by repeat (first | (with_reducible first | exact HB.out | apply below_alloc | apply pw_below_drewN | apply below_drew1 | refine below_set ?_ GE369.out | refine below_set ?_ GE370.out | refine below_set ?_ GE371.out) | exact HB.out)) hb); clear HO408; clear HO412; clear HO416; clear HO420; clear BK369; clear BK370; clear BK371; clear HB; have HO408 := n0_; have HO412 := n1_; have HO416 := n2_; have HO420 := n3_; have BK369 := n4_; have BK370 := n5_; have BK371 := n6_; have HB := n7_; clear n0_ n1_ n2_ n3_ n4_ n5_ n6_ n7_; (try clear hb); (try clear hb2); (try clear hk); (try clear hi); have hcz132_0 : w131.cell? ⟨gb371, 0, none⟩ = some (.int .i64 a3_0) := (blk_cell BK371.out 0).trans rfl; have hcz132_1 : w131.cell? ⟨gb371, 1, none⟩ = some (.int .i64 a3_1) := (blk_cell BK371.out 1).trans rfl; have hfz132_0 := blk_frozen BK371.out 0; have hfz132_1 := blk_frozen BK371.out 1))
                               as_aux_lemma =>
                                go_upto_region 32 with (first | ((with_reducible refine gate_callee (f := 19) rfl ?_); refine goesL_ (some 253) rfl rfl Try.func19 (by kernel_rfl) rfl #[.agg #[.int .i64 a3_0, .int .i64 a3_1], .int .i64 a4, .int .i64 a5] rfl (by (try simp only [List.map_toArray, List.map_cons, List.map_nil]); first | done | rfl | (simp only [List.length_drop, List.length_take]; rfl)) ?_; (with_reducible refine (spec_CountWithHint.calls kj20 a3_0 a3_1 a4 a5 t424 t425 _ A101.out).mono ?_); rintro e w133 ⟨rfl, hb⟩; refine ⟨_, rfl, ?_⟩; have n0_ := Aside0.mk (Kd.R_below (by (with_reducible repeat (first | apply Kd.R_alloc | apply Kd.R_drewN | apply Kd.R_drew)); exact HO408.out) hb); have n1_ := Aside0.mk (Kd.R_below (by (with_reducible repeat (first | apply Kd.R_alloc | apply Kd.R_drewN | apply Kd.R_drew)); exact HO412.out) hb); have n2_ := Aside0.mk (Kd.S_below (by (with_reducible repeat (first | apply Kd.S_alloc | apply Kd.S_drewN | apply Kd.S_drew)); exact HO416.out) hb); have n3_ := Aside0.mk (Kd.S_below (by (with_reducible repeat (first | apply Kd.S_alloc | apply Kd.S_drewN | apply Kd.S_drew)); exact HO420.out) hb); have n4_ := Aside0.mk (blk_below (g := gb369) (o := .cells #[.int .i64 a0_0, .int .i64 a0_1] 23 (0, 0)) (by (with_reducible repeat (first | refine blk_drewN ?_ _ | refine blk_drew ?_ | refine blk_alloc ?_ _)); exact BK369.out) hb); have n5_ := Aside0.mk (blk_below (g := gb370) (o := .cells #[.int .i64 a2_0, .int .i64 a2_1] 23 (0, 0)) (by (with_reducible repeat (first | refine blk_drewN ?_ _ | refine blk_drew ?_ | refine blk_alloc ?_ _)); exact BK370.out) hb); have n6_ := Aside0.mk (blk_below (g := gb371) (o := .cells #[.int .i64 a3_0, .int .i64 a3_1] 23 (0, 0)) (by (with_reducible repeat (first | refine blk_drewN ?_ _ | refine blk_drew ?_ | refine blk_alloc ?_ _)); exact BK371.out) hb); have n7_ := Aside0.mk (below_step (by repeat (first | (with_reducible first | exact HB.out | apply below_alloc | apply pw_below_drewN | apply below_drew1 | refine below_set ?_ GE369.out | refine below_set ?_ GE370.out | refine below_set ?_ GE371.out) | exact HB.out)) hb); clear HO408; clear HO412; clear HO416; clear HO420; clear BK369; clear BK370; clear BK371; clear HB; have HO408 := n0_; have HO412 := n1_; have HO416 := n2_; have HO420 := n3_; have BK369 := n4_; have BK370 := n5_; have BK371 := n6_; have HB := n7_; clear n0_ n1_ n2_ n3_ n4_ n5_ n6_ n7_; (try clear hb); (try clear hb2); (try clear hk); (try clear hi); obtain ⟨Ao134, co134, eo134⟩ := Kd.R_slice HO408.out; subst eo134; obtain ⟨Ao135, co135, eo135⟩ := Kd.R_slice HO412.out; subst eo135))
                                as_aux_lemma =>
                                 go_upto_if 306 with (first | (go_at_call 20; (with_reducible refine (laws_eTexts.calls kj20 _ _ t406 _ _ t410 true _ ?side1 ?side2 ?side3 ?side4 A105.out).mono ?_); (case side1 => repeat (first | exact (Kd.R_reads' HO408.out).2.2 | (with_reducible refine Kd.C_alloc ?_ _) | (with_reducible refine Kd.C_drewN ?_ _) | (with_reducible refine Kd.C_drew ?_))); (case side2 => exact (Kd.R_reads' HO408.out).2.1); (case side3 => repeat (first | exact (Kd.R_reads' HO412.out).2.2 | (with_reducible refine Kd.C_alloc ?_ _) | (with_reducible refine Kd.C_drewN ?_ _) | (with_reducible refine Kd.C_drew ?_))); (case side4 => exact (Kd.R_reads' HO412.out).2.1); rintro e w' ⟨rfl, ⟨nd, rfl⟩⟩; obtain ⟨Ao136, co136, eo136⟩ := Kd.S_slice HO416.out; subst eo136; obtain ⟨Ao137, co137, eo137⟩ := Kd.S_slice HO420.out; subst eo137) | (go_at_call 21; (with_reducible refine (laws_eRows.calls kj20 _ _ t414 _ _ t418 true _ ?side1 ?side2 ?side3 ?side4 A108.out).mono ?_); (case side1 => repeat (first | exact (Kd.S_reads' HO416.out).2.2 | (with_reducible refine Kd.C_alloc ?_ _) | (with_reducible refine Kd.C_drewN ?_ _) | (with_reducible refine Kd.C_drew ?_))); (case side2 => exact (Kd.S_reads' HO416.out).2.1); (case side3 => repeat (first | exact (Kd.S_reads' HO420.out).2.2 | (with_reducible refine Kd.C_alloc ?_ _) | (with_reducible refine Kd.C_drewN ?_ _) | (with_reducible refine Kd.C_drew ?_))); (case side4 => exact (Kd.S_reads' HO420.out).2.1); rintro e w' ⟨rfl, ⟨nd, rfl⟩⟩))
                                 (try simp only [Act.put, List.setIfInBounds_toArray, List.set_cons_zero, List.set_cons_succ])
                                 go_cut [] (fun wc => ∃ (kq : Nat), Aside0 (laws_FnHintsPlayedOfAll.j5 kq a4 a5 t422 t423 a3_0 a3_1 = some r) ∧ Aside0 (kq ≤ kj20) ∧ Aside0 (wc.heap[gb369]? = some (.cells #[.int .i64 a0_0, .int .i64 a0_1] 23 (0, 0))) ∧ Aside0 (wc.heap[gb370]? = some (.cells #[.int .i64 a2_0, .int .i64 a2_1] 23 (0, 0))) ∧ Aside0 (wc.heap[gb371]? = some (.cells #[.int .i64 a3_0, .int .i64 a3_1] 23 (0, 0))) ∧ Aside0 (Below w.heap.size w wc))
                                 case first =>
                                  as_aux_lemma =>
                                   have H := HC114.out
                                   clear HC114
                                   by_cases c138 : t403 = true
                                   ·subst c138
                                    have H1 : (if (t406.length : Int) < 1 then (none) else ((laws_eSorted.f kj20 t406).bind fun t428 => (if t428 = true then (if t402 < 1 then (none) else (laws_FnHintsPlayedOfAll.l1 kj20 a4 a5 t402 t414 t422 t423 t406 (t406.length : Int) 0 a2_0 a2_1 a3_0 a3_1)) else (none)))) = some r := by rw [if_pos rfl] at H; exact H
                                    clear H
                                    have H := H1
                                    clear H1
                                    by_cases c139 : (t406.length : Int) < 1
                                    ·rw [if_pos c139] at H
                                     exact absurd H (by simp)
                                    ·rw [if_neg c139] at H
                                     have c139b0 : decide ((t406.length : Int) < 1) = false := decide_eq_false c139
                                     have c139b1 : decide (t406.length < 1) = false := decide_eq_false (by omega)
                                     clear c139
                                     (first | rw [c139b0] | (simp only [i64_w, i32_w]; rw [c139b0]) | skip)
                                     replace H := Option.bind_eq_some_iff.mp H
                                     obtain ⟨t428, A1400, H⟩ := H
                                     (try dsimp only at H)
                                     have A140 := Aside0.mk A1400
                                     clear A1400
                                     by_cases c141 : t428 = true
                                     ·subst c141
                                      have H1 : (if t402 < 1 then (none) else (laws_FnHintsPlayedOfAll.l1 kj20 a4 a5 t402 t414 t422 t423 t406 (t406.length : Int) 0 a2_0 a2_1 a3_0 a3_1)) = some r := by rw [if_pos rfl] at H; exact H
                                      clear H
                                      have H := H1
                                      clear H1
                                      by_cases c142 : t402 < 1
                                      ·rw [if_pos c142] at H
                                       exact absurd H (by simp)
                                      ·rw [if_neg c142] at H
                                       have c142b0 : decide (t402 < 1) = false := decide_eq_false c142
                                       clear c142
                                       have H' := Aside0.mk H
                                       clear H
                                       try go_wp2_with (first | (go_at_call 22; (with_reducible refine (laws_eSorted.calls kj20 _ _ t406 true _ ?side1 ?side2 A140.out).mono ?_); (case side1 => repeat (first | exact (Kd.R_reads' HO408.out).2.2 | (with_reducible refine Kd.C_alloc ?_ _) | (with_reducible refine Kd.C_drewN ?_ _) | (with_reducible refine Kd.C_drew ?_))); (case side2 => exact (Kd.R_reads' HO408.out).2.1); rintro e w' ⟨rfl, ⟨nd, rfl⟩⟩))
                                       as_aux_lemma =>
                                        go_loopg [321] kj20 (fun kq v321 w' => ∃ (x321_2 : Int), v321 = .int .i64 x321_2 ∧ Aside0 (laws_FnHintsPlayedOfAll.l1 kq a4 a5 t402 t414 t422 t423 t406 (t406.length : Int) x321_2 a2_0 a2_1 a3_0 a3_1 = some r) ∧ Aside0 (kq ≤ kj20) ∧ Aside0 (Kd.S (Kd.slice 3 (Kd.int .i64)) 48 w' w.heap.size (fun _ => True) (.slice Ao136 t414.length co136) t414) ∧ Aside0 (Kd.R Kd.string 9 w' w.heap.size (fun _ => True) (.slice Ao134 t406.length co134) t406) ∧ Aside0 (w'.heap[gb369]? = some (.cells #[.int .i64 a0_0, .int .i64 a0_1] 23 (0, 0))) ∧ Aside0 (w'.heap[gb370]? = some (.cells #[.int .i64 a2_0, .int .i64 a2_1] 23 (0, 0))) ∧ Aside0 (w'.heap[gb371]? = some (.cells #[.int .i64 a3_0, .int .i64 a3_1] 23 (0, 0))) ∧ Aside0 (Below w.heap.size w w'))
                                        case atStart => exact ⟨(0), (by first | rfl | (simp; done) | (simp [*]; done)), H', ⟨Nat.le_refl _⟩, ⟨by (with_reducible repeat (first | apply Kd.S_alloc | apply Kd.S_drewN | apply Kd.S_drew)); exact Kd.S_mono HO416.out (fun _ hk => trivial)⟩, ⟨by (with_reducible repeat (first | apply Kd.R_alloc | apply Kd.R_drewN | apply Kd.R_drew)); exact Kd.R_mono HO408.out (fun _ hk => trivial)⟩, ⟨by (with_reducible repeat (first | refine blk_drewN ?_ _ | refine blk_drew ?_ | refine blk_alloc ?_ _)); exact BK369.out⟩, ⟨by (with_reducible repeat (first | refine blk_drewN ?_ _ | refine blk_drew ?_ | refine blk_alloc ?_ _)); exact BK370.out⟩, ⟨by (with_reducible repeat (first | refine blk_drewN ?_ _ | refine blk_drew ?_ | refine blk_alloc ?_ _)); exact BK371.out⟩, ⟨by repeat (first | (with_reducible first | exact HB.out | apply below_alloc | apply pw_below_drewN | apply below_drew1 | refine below_set ?_ GE369.out | refine below_set ?_ GE370.out | refine below_set ?_ GE371.out) | exact HB.out)⟩⟩
                                        case round =>
                                         as_aux_lemma =>
                                          clear H'
                                          (try clear c1); (try clear c2); (try clear p2); (try clear c3); (try clear p3); (try clear q3); (try clear hx3); (try clear c4); (try clear p4); (try clear q4); (try clear hx4); (try clear qi4); (try clear c5); (try clear c6); (try clear p6); (try clear c7); (try clear c7b0); (try clear c7b1); (try clear c8); (try clear q8); (try clear c9); (try clear c10); (try clear c11); (try clear c12); (try clear c13); (try clear c14); (try clear c15); (try clear c15b0); (try clear c15b1); (try clear c15b2); (try clear c16); (try clear c17); (try clear c18); (try clear c18b0); (try clear c18b1); (try clear c18b2); (try clear c19); (try clear c19b0); (try clear c19b1); (try clear c20); (try clear c20b0); (try clear c20b1); (try clear c20b2); (try clear c25); (try clear c26); (try clear c37); (try clear c38); (try clear c38b0); (try clear c38b1); (try clear p38); (try clear q38); (try clear hx38); (try clear c39); (try clear c39b0); (try clear c39b1); (try clear p39); (try clear q39); (try clear hx39); (try clear p40); (try clear q40); (try clear hx40); (try clear qi40); (try clear c41); (try clear c41b0); (try clear c42); (try clear c42b0); (try clear c43); (try clear c43b0); (try clear c43b1); (try clear c44); (try clear c44b0); (try clear c44b1); (try clear c45); (try clear c46); (try clear c48); (try clear c48b0); (try clear c49); (try clear c49b0); (try clear c50); (try clear c50b0); (try clear c54); (try clear c55); (try clear c56); (try clear c58); (try clear c59); (try clear c62); (try clear c63); (try clear c63b0); (try clear c63b1); (try clear c64); (try clear c64b0); (try clear c64b1); (try clear p64); (try clear c65); (try clear c65b0); (try clear c67); (try clear c67b0); (try clear c68); (try clear c68b0); (try clear c69); (try clear c70); (try clear c71); (try clear c73); (try clear c74); (try clear c75); (try clear c77); (try clear c78); (try clear c78b0); (try clear c79); (try clear c79b0); (try clear c79b1); (try clear c80); (try clear c80b0); (try clear c80b1); (try clear c82); (try clear c83); (try clear c83b0); (try clear c83b1); (try clear c84); (try clear c84b0); (try clear c84b1); (try clear c85); (try clear c85b0); (try clear c85b1); (try clear q87); (try clear c90); (try clear c91); (try clear c92); (try clear c102); (try clear c102b0); (try clear c102b1); (try clear c102b2); (try clear c103); (try clear c103b0); (try clear c103b1); (try clear c104); (try clear c104b0); (try clear c104b1); (try clear c104b2); (try clear c106); (try clear c107); (try clear c107b0); (try clear c107b1); (try clear c107b2); (try clear c109); (try clear c110); (try clear c110b0); (try clear c110b1); (try clear c110b2); (try clear c111); (try clear c111b0); (try clear c111b1); (try clear c112); (try clear c112b0); (try clear c112b1); (try clear c112b2); (try clear c113); (try clear c113b0); (try clear c113b1); (try clear c113b2); (try clear c115); (try clear c116); (try clear c129); (try clear c138); (try clear c139); (try clear c139b0); (try clear c139b1); (try clear c141); (try clear c142); (try clear c142b0); (try clear hcz117_0); (try clear hcz117_1); (try clear hcz119_0); (try clear hcz119_1); (try clear hcz121_0); (try clear hcz121_1); (try clear hcz123_0); (try clear hcz123_1); (try clear hcz125_0); (try clear hcz125_1); (try clear hcz127_0); (try clear hcz127_1); (try clear hcz130_0); (try clear hcz130_1); (try clear hcz132_0); (try clear hcz132_1); (try clear hcz27_0); (try clear hcz27_1); (try clear hcz29_0); (try clear hcz29_1); (try clear hcz31_0); (try clear hcz31_1); (try clear hcz33_0); (try clear hcz33_1); (try clear hcz47_0); (try clear hcz47_1); (try clear hcz57_0); (try clear hcz57_1); (try clear hcz57_2); (try clear hcz60_0); (try clear hcz60_1); (try clear hcz72_0); (try clear hcz72_1); (try clear hcz72_2); (try clear hcz76_0); (try clear hcz76_1); (try clear hcz76_2); (try clear hcz93_0); (try clear hcz93_1); (try clear hcz93_2); (try clear hfz117_0); (try clear hfz117_1); (try clear hfz119_0); (try clear hfz119_1); (try clear hfz121_0); (try clear hfz121_1); (try clear hfz123_0); (try clear hfz123_1); (try clear hfz125_0); (try clear hfz125_1); (try clear hfz127_0); (try clear hfz127_1); (try clear hfz130_0); (try clear hfz130_1); (try clear hfz132_0); (try clear hfz132_1); (try clear hfz27_0); (try clear hfz27_1); (try clear hfz29_0); (try clear hfz29_1); (try clear hfz31_0); (try clear hfz31_1); (try clear hfz33_0); (try clear hfz33_1); (try clear hfz47_0); (try clear hfz47_1); (try clear hfz57_0); (try clear hfz57_1); (try clear hfz57_2); (try clear hfz60_0); (try clear hfz60_1); (try clear hfz72_0); (try clear hfz72_1); (try clear hfz72_2); (try clear hfz76_0); (try clear hfz76_1); (try clear hfz76_2); (try clear hfz93_0); (try clear hfz93_1); (try clear hfz93_2); (try clear hx385_0); (try clear hx385_1); (try clear hx385_2); (try clear hx386_0); (try clear hx386_1); (try clear hx386_2); (try clear hx387_0); (try clear hx387_1); (try clear hx387_2); (try clear hx392_0); (try clear hx392_1); (try clear hx392_2); (try clear hx401_0); (try clear p2); (try clear p3); (try clear p38); (try clear p385); (try clear p386); (try clear p387); (try clear p39); (try clear p392); (try clear p4); (try clear p40); (try clear p401); (try clear p6); (try clear p64); (try clear q3); (try clear q38); (try clear q385); (try clear q386); (try clear q387); (try clear q39); (try clear q392); (try clear q4); (try clear q40); (try clear q401); (try clear q8); (try clear q87)
                                          obtain ⟨x321_2, rfl, HA, HK2, HO_37, HO_319, BK369, BK370, BK371, HB⟩ := hrel
                                          cases gk with
                                          | zero => exact absurd HA.out (by simp [laws_FnHintsPlayedOfAll.l1])
                                          | succ k2 =>
                                           have H := HA.out
                                           clear HA
                                           simp only [laws_FnHintsPlayedOfAll.l1] at H
                                           by_cases c143 : x321_2 < (t406.length : Int)
                                           ·rw [if_pos c143] at H
                                            have c143b0 : decide (x321_2 < (t406.length : Int)) = true := decide_eq_true c143
                                            clear c143
                                            by_cases c144 : 0 ≤ x321_2
                                            ·rw [if_pos c144] at H
                                             have c144b0 : decide (0 ≤ x321_2) = true := decide_eq_true c144
                                             clear c144
                                             by_cases c145 : x321_2 < (t406.length : Int)
                                             ·rw [if_pos c145] at H
                                              have c145b0 : decide (x321_2 < (t406.length : Int)) = true := decide_eq_true c145
                                              clear c145
                                              replace H := Option.bind_eq_some_iff.mp H
                                              obtain ⟨⟨t430, t431⟩, A1460, H⟩ := H
                                              (try dsimp only at H)
                                              have A146 := Aside0.mk A1460
                                              clear A1460
                                              by_cases c147 : x321_2 < 5
                                              ·rw [if_pos c147] at H
                                               have c147b0 : decide (x321_2 < 5) = true := decide_eq_true c147
                                               clear c147
                                               by_cases c148 : t431 = true
                                               ·subst c148
                                                have H1 : (if t430 = t402 then (laws_FnHintsPlayedOfAll.l1 k2 a4 a5 t402 t414 t422 t423 t406 (t406.length : Int) (wrap64 (x321_2 + 1)) a2_0 a2_1 a3_0 a3_1) else (none)) = some r := by rw [if_pos rfl] at H; exact H
                                                clear H
                                                have H := H1
                                                clear H1
                                                by_cases c149 : t430 = t402
                                                ·rw [if_pos c149] at H
                                                 have c149b0 : (t430 == t402) = true := beq_iff_eq.mpr c149
                                                 have c149b1 : (t430 != t402) = false := bne_eq_false_iff_eq.mpr c149
                                                 clear c149
                                                 have H' := Aside0.mk H
                                                 clear H
                                                 have p429 : 0 ≤ (x321_2 : Int) := of_decide_eq_true (by first | (with_reducible assumption) | assumption)
                                                 have q429 : x321_2 < (t406.length : Int) := of_decide_eq_true (by first | (with_reducible assumption) | assumption)
                                                 obtain ⟨ad429, e429, hx429_0⟩ := Kd.at_string (Kd.R_reads' HO_319.out).2.2 x321_2 p429 q429
                                                 cases e429
                                                 replace p429 := eq_true p429; replace q429 := eq_true q429
                                                 have hnb150 := NB370_369.out
                                                 have hnc150 := NB369_370.out
                                                 have hnb151 := NB370_371.out
                                                 have hnc151 := NB371_370.out
                                                 have hcz152_0 : wr.cell? ⟨gb370, 0, none⟩ = some (.int .i64 a2_0) := (blk_cell BK370.out 0).trans rfl
                                                 have hcz152_1 : wr.cell? ⟨gb370, 1, none⟩ = some (.int .i64 a2_1) := (blk_cell BK370.out 1).trans rfl
                                                 have hfz152_0 := blk_frozen BK370.out 0
                                                 have hfz152_1 := blk_frozen BK370.out 1
                                                 try go_wp2_with (first | ((with_reducible refine gate_callee (f := 7) rfl ?_); refine goesL_ (some 329) rfl rfl Try.func7 (by kernel_rfl) rfl #[.agg #[.int .i64 a2_0, .int .i64 a2_1], .string (rdOf ByteArray.empty t406 x321_2)] rfl (by (try simp only [List.map_toArray, List.map_cons, List.map_nil]); first | done | rfl | (simp only [List.length_drop, List.length_take]; rfl)) ?_; (with_reducible refine (impl_CountGuesses.calls k2 a2_0 a2_1 (rdOf ByteArray.empty t406 x321_2) t430 true _ A146.out).mono ?_); rintro e w153 ⟨rfl, hb⟩; refine ⟨_, rfl, ?_⟩; have n0_ := Aside0.mk (Kd.S_below (by (with_reducible repeat (first | apply Kd.S_alloc | apply Kd.S_drewN | apply Kd.S_drew)); exact HO_37.out) hb); have n1_ := Aside0.mk (Kd.R_below (by (with_reducible repeat (first | apply Kd.R_alloc | apply Kd.R_drewN | apply Kd.R_drew)); exact HO_319.out) hb); have n2_ := Aside0.mk (blk_below (g := gb369) (o := .cells #[.int .i64 a0_0, .int .i64 a0_1] 23 (0, 0)) (by (with_reducible repeat (first | refine blk_drewN ?_ _ | refine blk_drew ?_ | refine blk_alloc ?_ _)); exact BK369.out) hb); have n3_ := Aside0.mk (blk_below (g := gb370) (o := .cells #[.int .i64 a2_0, .int .i64 a2_1] 23 (0, 0)) (by (with_reducible repeat (first | refine blk_drewN ?_ _ | refine blk_drew ?_ | refine blk_alloc ?_ _)); exact BK370.out) hb); have n4_ := Aside0.mk (blk_below (g := gb371) (o := .cells #[.int .i64 a3_0, .int .i64 a3_1] 23 (0, 0)) (by (with_reducible repeat (first | refine blk_drewN ?_ _ | refine blk_drew ?_ | refine blk_alloc ?_ _)); exact BK371.out) hb); have n5_ := Aside0.mk (below_step (by repeat (first | (with_reducible first | exact HB.out | apply below_alloc | apply pw_below_drewN | apply below_drew1 | refine below_set ?_ GE369.out | refine below_set ?_ GE370.out | refine below_set ?_ GE371.out) | exact HB.out)) hb); clear HO_37; clear HO_319; clear BK369; clear BK370; clear BK371; clear HB; have HO_37 := n0_; have HO_319 := n1_; have BK369 := n2_; have BK370 := n3_; have BK371 := n4_; have HB := n5_; clear n0_ n1_ n2_ n3_ n4_ n5_; (try clear hb); (try clear hb2); (try clear hk); (try clear hi)))
                                                 go_roundg k2
                                                 case measure => have := HJ20.out; have := HK2.out; omega
                                                 case rel => exact ⟨(wrap64 (x321_2 + 1)), (by first | rfl | (simp; done) | (simp [*]; done)), H', ⟨by have := HJ20.out; have := HK2.out; omega⟩, ⟨by (with_reducible repeat (first | apply Kd.S_alloc | apply Kd.S_drewN | apply Kd.S_drew)); exact HO_37.out⟩, ⟨by (with_reducible repeat (first | apply Kd.R_alloc | apply Kd.R_drewN | apply Kd.R_drew)); exact HO_319.out⟩, ⟨by (with_reducible repeat (first | refine blk_drewN ?_ _ | refine blk_drew ?_ | refine blk_alloc ?_ _)); exact BK369.out⟩, ⟨by (with_reducible repeat (first | refine blk_drewN ?_ _ | refine blk_drew ?_ | refine blk_alloc ?_ _)); exact BK370.out⟩, ⟨by (with_reducible repeat (first | refine blk_drewN ?_ _ | refine blk_drew ?_ | refine blk_alloc ?_ _)); exact BK371.out⟩, ⟨by repeat (first | (with_reducible first | exact HB.out | apply below_alloc | apply pw_below_drewN | apply below_drew1 | refine below_set ?_ GE369.out | refine below_set ?_ GE370.out | refine below_set ?_ GE371.out) | exact HB.out)⟩⟩
                                                ·rw [if_neg c149] at H
                                                 exact absurd H (by simp)
                                               ·replace c148 := Bool.eq_false_iff.mpr c148
                                                subst c148
                                                have H1 : (none) = some r := by rw [if_neg (show ¬ (false = true) by decide)] at H; exact H
                                                clear H
                                                have H := H1
                                                clear H1
                                                exact absurd H (by simp)
                                              ·rw [if_neg c147] at H
                                               have c147b0 : decide (x321_2 < 5) = false := decide_eq_false c147
                                               clear c147
                                               have H' := Aside0.mk H
                                               clear H
                                               have p429 : 0 ≤ (x321_2 : Int) := of_decide_eq_true (by first | (with_reducible assumption) | assumption)
                                               have q429 : x321_2 < (t406.length : Int) := of_decide_eq_true (by first | (with_reducible assumption) | assumption)
                                               obtain ⟨ad429, e429, hx429_0⟩ := Kd.at_string (Kd.R_reads' HO_319.out).2.2 x321_2 p429 q429
                                               cases e429
                                               replace p429 := eq_true p429; replace q429 := eq_true q429
                                               have hnb154 := NB370_369.out
                                               have hnc154 := NB369_370.out
                                               have hnb155 := NB370_371.out
                                               have hnc155 := NB371_370.out
                                               have hcz156_0 : wr.cell? ⟨gb370, 0, none⟩ = some (.int .i64 a2_0) := (blk_cell BK370.out 0).trans rfl
                                               have hcz156_1 : wr.cell? ⟨gb370, 1, none⟩ = some (.int .i64 a2_1) := (blk_cell BK370.out 1).trans rfl
                                               have hfz156_0 := blk_frozen BK370.out 0
                                               have hfz156_1 := blk_frozen BK370.out 1
                                               try go_wp2_with (first | ((with_reducible refine gate_callee (f := 7) rfl ?_); refine goesL_ (some 329) rfl rfl Try.func7 (by kernel_rfl) rfl #[.agg #[.int .i64 a2_0, .int .i64 a2_1], .string (rdOf ByteArray.empty t406 x321_2)] rfl (by (try simp only [List.map_toArray, List.map_cons, List.map_nil]); first | done | rfl | (simp only [List.length_drop, List.length_take]; rfl)) ?_; (with_reducible refine (impl_CountGuesses.calls k2 a2_0 a2_1 (rdOf ByteArray.empty t406 x321_2) t430 t431 _ A146.out).mono ?_); rintro e w157 ⟨rfl, hb⟩; refine ⟨_, rfl, ?_⟩; have n0_ := Aside0.mk (Kd.S_below (by (with_reducible repeat (first | apply Kd.S_alloc | apply Kd.S_drewN | apply Kd.S_drew)); exact HO_37.out) hb); have n1_ := Aside0.mk (Kd.R_below (by (with_reducible repeat (first | apply Kd.R_alloc | apply Kd.R_drewN | apply Kd.R_drew)); exact HO_319.out) hb); have n2_ := Aside0.mk (blk_below (g := gb369) (o := .cells #[.int .i64 a0_0, .int .i64 a0_1] 23 (0, 0)) (by (with_reducible repeat (first | refine blk_drewN ?_ _ | refine blk_drew ?_ | refine blk_alloc ?_ _)); exact BK369.out) hb); have n3_ := Aside0.mk (blk_below (g := gb370) (o := .cells #[.int .i64 a2_0, .int .i64 a2_1] 23 (0, 0)) (by (with_reducible repeat (first | refine blk_drewN ?_ _ | refine blk_drew ?_ | refine blk_alloc ?_ _)); exact BK370.out) hb); have n4_ := Aside0.mk (blk_below (g := gb371) (o := .cells #[.int .i64 a3_0, .int .i64 a3_1] 23 (0, 0)) (by (with_reducible repeat (first | refine blk_drewN ?_ _ | refine blk_drew ?_ | refine blk_alloc ?_ _)); exact BK371.out) hb); have n5_ := Aside0.mk (below_step (by repeat (first | (with_reducible first | exact HB.out | apply below_alloc | apply pw_below_drewN | apply below_drew1 | refine below_set ?_ GE369.out | refine below_set ?_ GE370.out | refine below_set ?_ GE371.out) | exact HB.out)) hb); clear HO_37; clear HO_319; clear BK369; clear BK370; clear BK371; clear HB; have HO_37 := n0_; have HO_319 := n1_; have BK369 := n2_; have BK370 := n3_; have BK371 := n4_; have HB := n5_; clear n0_ n1_ n2_ n3_ n4_ n5_; (try clear hb); (try clear hb2); (try clear hk); (try clear hi)))
                                               go_roundg k2
                                               case measure => have := HJ20.out; have := HK2.out; omega
                                               case rel => exact ⟨(wrap64 (x321_2 + 1)), (by first | rfl | (simp; done) | (simp [*]; done)), H', ⟨by have := HJ20.out; have := HK2.out; omega⟩, ⟨by (with_reducible repeat (first | apply Kd.S_alloc | apply Kd.S_drewN | apply Kd.S_drew)); exact HO_37.out⟩, ⟨by (with_reducible repeat (first | apply Kd.R_alloc | apply Kd.R_drewN | apply Kd.R_drew)); exact HO_319.out⟩, ⟨by (with_reducible repeat (first | refine blk_drewN ?_ _ | refine blk_drew ?_ | refine blk_alloc ?_ _)); exact BK369.out⟩, ⟨by (with_reducible repeat (first | refine blk_drewN ?_ _ | refine blk_drew ?_ | refine blk_alloc ?_ _)); exact BK370.out⟩, ⟨by (with_reducible repeat (first | refine blk_drewN ?_ _ | refine blk_drew ?_ | refine blk_alloc ?_ _)); exact BK371.out⟩, ⟨by repeat (first | (with_reducible first | exact HB.out | apply below_alloc | apply pw_below_drewN | apply below_drew1 | refine below_set ?_ GE369.out | refine below_set ?_ GE370.out | refine below_set ?_ GE371.out) | exact HB.out)⟩⟩
                                             ·rw [if_neg c145] at H
                                              exact absurd H (by simp)
                                            ·rw [if_neg c144] at H
                                             exact absurd H (by simp)
                                           ·rw [if_neg c143] at H
                                            have c143b0 : decide (x321_2 < (t406.length : Int)) = false := decide_eq_false c143
                                            clear c143
                                            replace H := Option.bind_eq_some_iff.mp H
                                            obtain ⟨⟨t432, t433⟩, A1580, H⟩ := H
                                            (try dsimp only at H)
                                            have A158 := Aside0.mk A1580
                                            clear A1580
                                            replace H := Option.bind_eq_some_iff.mp H
                                            obtain ⟨⟨t434, t435⟩, A1590, H⟩ := H
                                            (try dsimp only at H)
                                            have A159 := Aside0.mk A1590
                                            clear A1590
                                            by_cases c160 : t433 = true
                                            ·subst c160
                                             have H1 : (if t435 = true then (if t434 > t402 then (none) else (laws_FnHintsPlayedOfAll.l2 k2 a4 a5 t422 t423 t414 (t414.length : Int) 0 a2_0 a2_1 a3_0 a3_1)) else (none)) = some r := by rw [if_pos rfl] at H; exact H
                                             clear H
                                             have H := H1
                                             clear H1
                                             by_cases c161 : t435 = true
                                             ·subst c161
                                              have H1 : (if t434 > t402 then (none) else (laws_FnHintsPlayedOfAll.l2 k2 a4 a5 t422 t423 t414 (t414.length : Int) 0 a2_0 a2_1 a3_0 a3_1)) = some r := by rw [if_pos rfl] at H; exact H
                                              clear H
                                              have H := H1
                                              clear H1
                                              by_cases c162 : t434 > t402
                                              ·rw [if_pos c162] at H
                                               exact absurd H (by simp)
                                              ·rw [if_neg c162] at H
                                               have c162b0 : decide (t402 < t434) = false := decide_eq_false c162
                                               clear c162
                                               have H' := Aside0.mk H
                                               clear H
                                               have hnb163 := NB370_369.out
                                               have hnc163 := NB369_370.out
                                               have hnb164 := NB370_371.out
                                               have hnc164 := NB371_370.out
                                               have hcz165_0 : wr.cell? ⟨gb370, 0, none⟩ = some (.int .i64 a2_0) := (blk_cell BK370.out 0).trans rfl
                                               have hcz165_1 : wr.cell? ⟨gb370, 1, none⟩ = some (.int .i64 a2_1) := (blk_cell BK370.out 1).trans rfl
                                               have hfz165_0 := blk_frozen BK370.out 0
                                               have hfz165_1 := blk_frozen BK370.out 1
                                               go_upto_region 45 with (first | ((with_reducible refine gate_callee (f := 23) rfl ?_); refine goesL_ (some 346) rfl rfl Try.func23 (by kernel_rfl) rfl #[.agg #[.int .i64 a2_0, .int .i64 a2_1]] rfl (by (try simp only [List.map_toArray, List.map_cons, List.map_nil]); first | done | rfl | (simp only [List.length_drop, List.length_take]; rfl)) ?_; (with_reducible refine (impl_ZeroCode.calls k2 a2_0 a2_1 t432 true _ A158.out).mono ?_); rintro e w166 ⟨rfl, hb⟩; refine ⟨_, rfl, ?_⟩; have n0_ := Aside0.mk (Kd.S_below (by (with_reducible repeat (first | apply Kd.S_alloc | apply Kd.S_drewN | apply Kd.S_drew)); exact HO_37.out) hb); have n1_ := Aside0.mk (Kd.R_below (by (with_reducible repeat (first | apply Kd.R_alloc | apply Kd.R_drewN | apply Kd.R_drew)); exact HO_319.out) hb); have n2_ := Aside0.mk (blk_below (g := gb369) (o := .cells #[.int .i64 a0_0, .int .i64 a0_1] 23 (0, 0)) (by (with_reducible repeat (first | refine blk_drewN ?_ _ | refine blk_drew ?_ | refine blk_alloc ?_ _)); exact BK369.out) hb); have n3_ := Aside0.mk (blk_below (g := gb370) (o := .cells #[.int .i64 a2_0, .int .i64 a2_1] 23 (0, 0)) (by (with_reducible repeat (first | refine blk_drewN ?_ _ | refine blk_drew ?_ | refine blk_alloc ?_ _)); exact BK370.out) hb); have n4_ := Aside0.mk (blk_below (g := gb371) (o := .cells #[.int .i64 a3_0, .int .i64 a3_1] 23 (0, 0)) (by (with_reducible repeat (first | refine blk_drewN ?_ _ | refine blk_drew ?_ | refine blk_alloc ?_ _)); exact BK371.out) hb); have n5_ := Aside0.mk (below_step (by repeat (first | (with_reducible first | exact HB.out | apply below_alloc | apply pw_below_drewN | apply below_drew1 | refine below_set ?_ GE369.out | refine below_set ?_ GE370.out | refine below_set ?_ GE371.out) | exact HB.out)) hb); clear HO_37; clear HO_319; clear BK369; clear BK370; clear BK371; clear HB; have HO_37 := n0_; have HO_319 := n1_; have BK369 := n2_; have BK370 := n3_; have BK371 := n4_; have HB := n5_; clear n0_ n1_ n2_ n3_ n4_ n5_; (try clear hb); (try clear hb2); (try clear hk); (try clear hi); have hcz167_0 : w166.cell? ⟨gb370, 0, none⟩ = some (.int .i64 a2_0) := (blk_cell BK370.out 0).trans rfl; have hcz167_1 : w166.cell? ⟨gb370, 1, none⟩ = some (.int .i64 a2_1) := (blk_cell BK370.out 1).trans rfl; have hfz167_0 := blk_frozen BK370.out 0; have hfz167_1 := blk_frozen BK370.out 1))
                                               as_aux_lemma =>
                                                try go_wp2_with (first | ((with_reducible refine gate_callee (f := 7) rfl ?_); refine goesL_ (some 352) rfl rfl Try.func7 (by kernel_rfl) rfl #[.agg #[.int .i64 a2_0, .int .i64 a2_1], .string t432] rfl (by (try simp only [List.map_toArray, List.map_cons, List.map_nil]); first | done | rfl | (simp only [List.length_drop, List.length_take]; rfl)) ?_; (with_reducible refine (impl_CountGuesses.calls k2 a2_0 a2_1 t432 t434 true _ A159.out).mono ?_); rintro e w168 ⟨rfl, hb⟩; refine ⟨_, rfl, ?_⟩; have n0_ := Aside0.mk (Kd.S_below (by (with_reducible repeat (first | apply Kd.S_alloc | apply Kd.S_drewN | apply Kd.S_drew)); exact HO_37.out) hb); have n1_ := Aside0.mk (Kd.R_below (by (with_reducible repeat (first | apply Kd.R_alloc | apply Kd.R_drewN | apply Kd.R_drew)); exact HO_319.out) hb); have n2_ := Aside0.mk (blk_below (g := gb369) (o := .cells #[.int .i64 a0_0, .int .i64 a0_1] 23 (0, 0)) (by (with_reducible repeat (first | refine blk_drewN ?_ _ | refine blk_drew ?_ | refine blk_alloc ?_ _)); exact BK369.out) hb); have n3_ := Aside0.mk (blk_below (g := gb370) (o := .cells #[.int .i64 a2_0, .int .i64 a2_1] 23 (0, 0)) (by (with_reducible repeat (first | refine blk_drewN ?_ _ | refine blk_drew ?_ | refine blk_alloc ?_ _)); exact BK370.out) hb); have n4_ := Aside0.mk (blk_below (g := gb371) (o := .cells #[.int .i64 a3_0, .int .i64 a3_1] 23 (0, 0)) (by (with_reducible repeat (first | refine blk_drewN ?_ _ | refine blk_drew ?_ | refine blk_alloc ?_ _)); exact BK371.out) hb); have n5_ := Aside0.mk (below_step (by repeat (first | (with_reducible first | exact HB.out | apply below_alloc | apply pw_below_drewN | apply below_drew1 | refine below_set ?_ GE369.out | refine below_set ?_ GE370.out | refine below_set ?_ GE371.out) | exact HB.out)) hb); clear HO_37; clear HO_319; clear BK369; clear BK370; clear BK371; clear HB; have HO_37 := n0_; have HO_319 := n1_; have BK369 := n2_; have BK370 := n3_; have BK371 := n4_; have HB := n5_; clear n0_ n1_ n2_ n3_ n4_ n5_; (try clear hb); (try clear hb2); (try clear hk); (try clear hi)))
                                                as_aux_lemma =>
                                                 go_loopg [368] k2 (fun kq v368 w' => ∃ (x368_3 : Int), v368 = .int .i64 x368_3 ∧ Aside0 (laws_FnHintsPlayedOfAll.l2 kq a4 a5 t422 t423 t414 (t414.length : Int) x368_3 a2_0 a2_1 a3_0 a3_1 = some r) ∧ Aside0 (kq ≤ k2) ∧ Aside0 (Kd.S (Kd.slice 3 (Kd.int .i64)) 48 w' w.heap.size (fun _ => True) (.slice Ao136 t414.length co136) t414) ∧ Aside0 (w'.heap[gb369]? = some (.cells #[.int .i64 a0_0, .int .i64 a0_1] 23 (0, 0))) ∧ Aside0 (w'.heap[gb370]? = some (.cells #[.int .i64 a2_0, .int .i64 a2_1] 23 (0, 0))) ∧ Aside0 (w'.heap[gb371]? = some (.cells #[.int .i64 a3_0, .int .i64 a3_1] 23 (0, 0))) ∧ Aside0 (Below w.heap.size w w'))
                                                 case atStart => exact ⟨(0), (by first | rfl | (simp; done) | (simp [*]; done)), H', ⟨Nat.le_refl _⟩, ⟨by (with_reducible repeat (first | apply Kd.S_alloc | apply Kd.S_drewN | apply Kd.S_drew)); exact HO_37.out⟩, ⟨by (with_reducible repeat (first | refine blk_drewN ?_ _ | refine blk_drew ?_ | refine blk_alloc ?_ _)); exact BK369.out⟩, ⟨by (with_reducible repeat (first | refine blk_drewN ?_ _ | refine blk_drew ?_ | refine blk_alloc ?_ _)); exact BK370.out⟩, ⟨by (with_reducible repeat (first | refine blk_drewN ?_ _ | refine blk_drew ?_ | refine blk_alloc ?_ _)); exact BK371.out⟩, ⟨by repeat (first | (with_reducible first | exact HB.out | apply below_alloc | apply pw_below_drewN | apply below_drew1 | refine below_set ?_ GE369.out | refine below_set ?_ GE370.out | refine below_set ?_ GE371.out) | exact HB.out)⟩⟩
                                                 case round =>
                                                  as_aux_lemma =>
                                                   clear H'
                                                   (try clear c1); (try clear c2); (try clear p2); (try clear c3); (try clear p3); (try clear q3); (try clear hx3); (try clear c4); (try clear p4); (try clear q4); (try clear hx4); (try clear qi4); (try clear c5); (try clear c6); (try clear p6); (try clear c7); (try clear c7b0); (try clear c7b1); (try clear c8); (try clear q8); (try clear c9); (try clear c10); (try clear c11); (try clear c12); (try clear c13); (try clear c14); (try clear c15); (try clear c15b0); (try clear c15b1); (try clear c15b2); (try clear c16); (try clear c17); (try clear c18); (try clear c18b0); (try clear c18b1); (try clear c18b2); (try clear c19); (try clear c19b0); (try clear c19b1); (try clear c20); (try clear c20b0); (try clear c20b1); (try clear c20b2); (try clear c23); (try clear c25); (try clear c26); (try clear c37); (try clear c38); (try clear c38b0); (try clear c38b1); (try clear p38); (try clear q38); (try clear hx38); (try clear c39); (try clear c39b0); (try clear c39b1); (try clear p39); (try clear q39); (try clear hx39); (try clear p40); (try clear q40); (try clear hx40); (try clear qi40); (try clear c41); (try clear c41b0); (try clear c42); (try clear c42b0); (try clear p42); (try clear q42); (try clear hx42); (try clear c43); (try clear c43b0); (try clear c43b1); (try clear c44); (try clear c44b0); (try clear c44b1); (try clear c45); (try clear c46); (try clear c48); (try clear c48b0); (try clear c49); (try clear c49b0); (try clear c50); (try clear c50b0); (try clear c54); (try clear c55); (try clear c56); (try clear c58); (try clear c59); (try clear c62); (try clear c63); (try clear c63b0); (try clear c63b1); (try clear c64); (try clear c64b0); (try clear c64b1); (try clear p64); (try clear c65); (try clear c65b0); (try clear c67); (try clear c67b0); (try clear c68); (try clear c68b0); (try clear c69); (try clear c70); (try clear c71); (try clear c73); (try clear c74); (try clear c75); (try clear c77); (try clear c78); (try clear c78b0); (try clear c79); (try clear c79b0); (try clear c79b1); (try clear c80); (try clear c80b0); (try clear c80b1); (try clear c82); (try clear c83); (try clear c83b0); (try clear c83b1); (try clear c84); (try clear c84b0); (try clear c84b1); (try clear c85); (try clear c85b0); (try clear c85b1); (try clear q87); (try clear c90); (try clear c91); (try clear c92); (try clear c102); (try clear c102b0); (try clear c102b1); (try clear c102b2); (try clear c103); (try clear c103b0); (try clear c103b1); (try clear c104); (try clear c104b0); (try clear c104b1); (try clear c104b2); (try clear c106); (try clear c107); (try clear c107b0); (try clear c107b1); (try clear c107b2); (try clear c109); (try clear c110); (try clear c110b0); (try clear c110b1); (try clear c110b2); (try clear c111); (try clear c111b0); (try clear c111b1); (try clear c112); (try clear c112b0); (try clear c112b1); (try clear c112b2); (try clear c113); (try clear c113b0); (try clear c113b1); (try clear c113b2); (try clear c115); (try clear c116); (try clear c129); (try clear c138); (try clear c139); (try clear c139b0); (try clear c139b1); (try clear c141); (try clear c142); (try clear c142b0); (try clear c143); (try clear c143b0); (try clear c144); (try clear c144b0); (try clear c145); (try clear c145b0); (try clear c147); (try clear c147b0); (try clear c148); (try clear c149); (try clear c149b0); (try clear c149b1); (try clear c150); (try clear c151); (try clear c154); (try clear c155); (try clear c160); (try clear c161); (try clear c162); (try clear c162b0); (try clear c163); (try clear c164); (try clear hcz117_0); (try clear hcz117_1); (try clear hcz119_0); (try clear hcz119_1); (try clear hcz121_0); (try clear hcz121_1); (try clear hcz123_0); (try clear hcz123_1); (try clear hcz125_0); (try clear hcz125_1); (try clear hcz127_0); (try clear hcz127_1); (try clear hcz130_0); (try clear hcz130_1); (try clear hcz132_0); (try clear hcz132_1); (try clear hcz152_0); (try clear hcz152_1); (try clear hcz156_0); (try clear hcz156_1); (try clear hcz165_0); (try clear hcz165_1); (try clear hcz167_0); (try clear hcz167_1); (try clear hcz27_0); (try clear hcz27_1); (try clear hcz29_0); (try clear hcz29_1); (try clear hcz31_0); (try clear hcz31_1); (try clear hcz33_0); (try clear hcz33_1); (try clear hcz47_0); (try clear hcz47_1); (try clear hcz57_0); (try clear hcz57_1); (try clear hcz57_2); (try clear hcz60_0); (try clear hcz60_1); (try clear hcz72_0); (try clear hcz72_1); (try clear hcz72_2); (try clear hcz76_0); (try clear hcz76_1); (try clear hcz76_2); (try clear hcz93_0); (try clear hcz93_1); (try clear hcz93_2); (try clear hfz117_0); (try clear hfz117_1); (try clear hfz119_0); (try clear hfz119_1); (try clear hfz121_0); (try clear hfz121_1); (try clear hfz123_0); (try clear hfz123_1); (try clear hfz125_0); (try clear hfz125_1); (try clear hfz127_0); (try clear hfz127_1); (try clear hfz130_0); (try clear hfz130_1); (try clear hfz132_0); (try clear hfz132_1); (try clear hfz152_0); (try clear hfz152_1); (try clear hfz156_0); (try clear hfz156_1); (try clear hfz165_0); (try clear hfz165_1); (try clear hfz167_0); (try clear hfz167_1); (try clear hfz27_0); (try clear hfz27_1); (try clear hfz29_0); (try clear hfz29_1); (try clear hfz31_0); (try clear hfz31_1); (try clear hfz33_0); (try clear hfz33_1); (try clear hfz47_0); (try clear hfz47_1); (try clear hfz57_0); (try clear hfz57_1); (try clear hfz57_2); (try clear hfz60_0); (try clear hfz60_1); (try clear hfz72_0); (try clear hfz72_1); (try clear hfz72_2); (try clear hfz76_0); (try clear hfz76_1); (try clear hfz76_2); (try clear hfz93_0); (try clear hfz93_1); (try clear hfz93_2); (try clear hx385_0); (try clear hx385_1); (try clear hx385_2); (try clear hx386_0); (try clear hx386_1); (try clear hx386_2); (try clear hx387_0); (try clear hx387_1); (try clear hx387_2); (try clear hx392_0); (try clear hx392_1); (try clear hx392_2); (try clear hx401_0); (try clear hx429_0); (try clear p2); (try clear p3); (try clear p38); (try clear p385); (try clear p386); (try clear p387); (try clear p39); (try clear p392); (try clear p4); (try clear p40); (try clear p401); (try clear p429); (try clear p6); (try clear p64); (try clear q3); (try clear q38); (try clear q385); (try clear q386); (try clear q387); (try clear q39); (try clear q392); (try clear q4); (try clear q40); (try clear q401); (try clear q429); (try clear q8); (try clear q87)
                                                   obtain ⟨x368_3, rfl, HA, HK3, HO_366, BK369, BK370, BK371, HB⟩ := hrel
                                                   cases gk with
                                                   | zero => exact absurd HA.out (by simp [laws_FnHintsPlayedOfAll.l2])
                                                   | succ k3 =>
                                                    have H := HA.out
                                                    clear HA
                                                    simp only [laws_FnHintsPlayedOfAll.l2] at H
                                                    by_cases c169 : x368_3 < (t414.length : Int)
                                                    ·rw [if_pos c169] at H
                                                     have c169b0 : decide (x368_3 < (t414.length : Int)) = true := decide_eq_true c169
                                                     clear c169
                                                     by_cases c170 : 0 ≤ x368_3
                                                     ·rw [if_pos c170] at H
                                                      have c170b0 : decide (0 ≤ x368_3) = true := decide_eq_true c170
                                                      clear c170
                                                      by_cases c171 : x368_3 < (t414.length : Int)
                                                      ·rw [if_pos c171] at H
                                                       have c171b0 : decide (x368_3 < (t414.length : Int)) = true := decide_eq_true c171
                                                       clear c171
                                                       by_cases c172 : ((rd_L7 t414 x368_3).length : Int) = 2
                                                       ·rw [if_pos c172] at H
                                                        have c172b0 : (((rd_L7 t414 x368_3).length : Int) == 2) = true := beq_iff_eq.mpr c172
                                                        have c172b1 : (((rd_L7 t414 x368_3).length : Int) != 2) = false := bne_eq_false_iff_eq.mpr c172
                                                        clear c172
                                                        by_cases c173 : 0 < ((rd_L7 t414 x368_3).length : Int)
                                                        ·rw [if_pos c173] at H
                                                         have c173b0 : decide (0 < ((rd_L7 t414 x368_3).length : Int)) = true := decide_eq_true c173
                                                         have c173b1 : decide (0 < (rd_L7 t414 x368_3).length) = true := decide_eq_true (by omega)
                                                         clear c173
                                                         by_cases c174 : (rd (rd_L7 t414 x368_3) 0) < 0
                                                         ·rw [if_pos c174] at H
                                                          exact absurd H (by simp)
                                                         ·rw [if_neg c174] at H
                                                          have c174b0 : decide ((rd (rd_L7 t414 x368_3) 0) < 0) = false := decide_eq_false c174
                                                          clear c174
                                                          by_cases c175 : 1 < ((rd_L7 t414 x368_3).length : Int)
                                                          ·rw [if_pos c175] at H
                                                           have c175b0 : decide (1 < ((rd_L7 t414 x368_3).length : Int)) = true := decide_eq_true c175
                                                           have c175b1 : decide (1 < (rd_L7 t414 x368_3).length) = true := decide_eq_true (by omega)
                                                           clear c175
                                                           by_cases c176 : (rd (rd_L7 t414 x368_3) 1) < 0
                                                           ·rw [if_pos c176] at H
                                                            exact absurd H (by simp)
                                                           ·rw [if_neg c176] at H
                                                            have c176b0 : decide ((rd (rd_L7 t414 x368_3) 1) < 0) = false := decide_eq_false c176
                                                            clear c176
                                                            by_cases c177 : (wrap64 ((rd (rd_L7 t414 x368_3) 0) + (rd (rd_L7 t414 x368_3) 1))) > a2_0
                                                            ·rw [if_pos c177] at H
                                                             exact absurd H (by simp)
                                                            ·rw [if_neg c177] at H
                                                             have c177b0 : decide (a2_0 < (wrap64 ((rd (rd_L7 t414 x368_3) 0) + (rd (rd_L7 t414 x368_3) 1)))) = false := decide_eq_false c177
                                                             clear c177
                                                             by_cases c178 : (rd (rd_L7 t414 x368_3) 0) = (wrap64 (a2_0 - 1))
                                                             ·rw [if_pos c178] at H
                                                              have c178b0 : ((rd (rd_L7 t414 x368_3) 0) == (wrap64 (a2_0 - 1))) = true := beq_iff_eq.mpr c178
                                                              have c178b1 : ((rd (rd_L7 t414 x368_3) 0) != (wrap64 (a2_0 - 1))) = false := bne_eq_false_iff_eq.mpr c178
                                                              clear c178
                                                              by_cases c179 : (rd (rd_L7 t414 x368_3) 1) = 1
                                                              ·rw [if_pos c179] at H
                                                               exact absurd H (by simp)
                                                              ·rw [if_neg c179] at H
                                                               have c179b0 : ((rd (rd_L7 t414 x368_3) 1) == 1) = false := beq_eq_false_iff_ne.mpr c179
                                                               have c179b1 : ((rd (rd_L7 t414 x368_3) 1) != 1) = true := bne_iff_ne.mpr c179
                                                               have H' := Aside0.mk H
                                                               clear H
                                                               have p436 : 0 ≤ (x368_3 : Int) := of_decide_eq_true (by first | (with_reducible assumption) | assumption)
                                                               have q436 : x368_3 < (t414.length : Int) := of_decide_eq_true (by first | (with_reducible assumption) | assumption)
                                                               obtain ⟨ad436, A436_0, c436_0, e436, hx436_0, hl436_0, hi436_0⟩ := at_L7 (Kd.S_reads' HO_366.out).2.2 x368_3 p436 q436
                                                               cases e436
                                                               obtain ⟨ce436, hce436, hMe436, hcc436⟩ := Kd.S_get HO_366.out [] x368_3 p436 (by first | exact q436 | exact of_decide_eq_true (by first | (with_reducible assumption) | assumption) | (have e_ := (Kd.S_reads' HO_366.out).1; omega))
                                                               obtain ⟨ve436_0, rfl, ge436_0⟩ := hMe436
                                                               have hv436_0 := hcc436 0 _ rfl
                                                               rw [Nat.add_zero, show ((Kd.slice 3 (Kd.int .i64))).sz = 1 from rfl, Nat.mul_one] at hv436_0
                                                               replace hv436_0 := Option.some.inj (hv436_0.symm.trans hx436_0)
                                                               rw [hv436_0] at ge436_0
                                                               have HL436_0 := Aside0.mk (show Kd.R (Kd.int .i64) 3 _ _ _ _ (rd_L7 t414 x368_3) from ge436_0)
                                                               clear hv436_0 ge436_0; clear hcc436 hce436
                                                               have HR436_0 := Aside0.mk hi436_0
                                                               have HC436_0 := Aside0.mk hl436_0
                                                               clear hi436_0 hl436_0; replace p436 := eq_true p436; replace q436 := eq_true q436
                                                               have p437 : 0 ≤ (0 : Int) := (by omega)
                                                               have q437 : 0 < ((rd_L7 t414 x368_3).length : Int) := of_decide_eq_true (by first | (with_reducible assumption) | assumption)
                                                               obtain ⟨ad437, e437, hx437_0⟩ := Kd.at_int (by repeat (first | (with_reducible exact HR436_0.out) | (with_reducible refine Kd.C_alloc ?_ _) | (with_reducible refine Kd.C_drewN ?_ _) | (with_reducible refine Kd.C_drew ?_) | exact HR436_0.out)) 0 p437 q437
                                                               cases e437
                                                               have qi437 : (0 < (rd_L7 t414 x368_3).length) = True := eq_true (by omega)
                                                               (try rw [show ((0 : Int)).toNat = 0 from rfl] at hx437_0)
                                                               (try rw [Addr.add_zero'] at hx437_0)
                                                               replace p437 := eq_true p437; replace q437 := eq_true q437
                                                               have p438 : 0 ≤ (1 : Int) := (by omega)
                                                               have q438 : 1 < ((rd_L7 t414 x368_3).length : Int) := of_decide_eq_true (by first | (with_reducible assumption) | assumption)
                                                               obtain ⟨ad438, e438, hx438_0⟩ := Kd.at_int (by repeat (first | (with_reducible exact HR436_0.out) | (with_reducible refine Kd.C_alloc ?_ _) | (with_reducible refine Kd.C_drewN ?_ _) | (with_reducible refine Kd.C_drew ?_) | exact HR436_0.out)) 1 p438 q438
                                                               obtain rfl : ad437 = ad438 := (by injection e438)
                                                               (try simp only [show (1 : Int).toNat = 1 from rfl, Nat.reduceMul, Nat.reduceEqDiff, Go.Addr.add, ↓reduceIte] at hx438_0)
                                                               have qi438 : (1 < (rd_L7 t414 x368_3).length) = True := eq_true (by omega)
                                                               (try rw [show ((1 : Int)).toNat = 1 from rfl] at hx438_0)
                                                               replace p438 := eq_true p438; replace q438 := eq_true q438
                                                               have p439 : 0 ≤ (0 : Int) := (by omega)
                                                               have q439 : 0 < ((rd_L7 t414 x368_3).length : Int) := of_decide_eq_true (by first | (with_reducible assumption) | assumption)
                                                               obtain ⟨ad439, e439, hx439_0⟩ := Kd.at_int (by repeat (first | (with_reducible exact HR436_0.out) | (with_reducible refine Kd.C_alloc ?_ _) | (with_reducible refine Kd.C_drewN ?_ _) | (with_reducible refine Kd.C_drew ?_) | exact HR436_0.out)) 0 p439 q439
                                                               obtain rfl : ad437 = ad439 := (by injection e439)
                                                               have qi439 : (0 < (rd_L7 t414 x368_3).length) = True := eq_true (by omega)
                                                               (try rw [show ((0 : Int)).toNat = 0 from rfl] at hx439_0)
                                                               (try rw [Addr.add_zero'] at hx439_0)
                                                               replace p439 := eq_true p439; replace q439 := eq_true q439
                                                               have p440 : 0 ≤ (1 : Int) := (by omega)
                                                               have q440 : 1 < ((rd_L7 t414 x368_3).length : Int) := of_decide_eq_true (by first | (with_reducible assumption) | assumption)
                                                               obtain ⟨ad440, e440, hx440_0⟩ := Kd.at_int (by repeat (first | (with_reducible exact HR436_0.out) | (with_reducible refine Kd.C_alloc ?_ _) | (with_reducible refine Kd.C_drewN ?_ _) | (with_reducible refine Kd.C_drew ?_) | exact HR436_0.out)) 1 p440 q440
                                                               obtain rfl : ad437 = ad440 := (by injection e440)
                                                               (try simp only [show (1 : Int).toNat = 1 from rfl, Nat.reduceMul, Nat.reduceEqDiff, Go.Addr.add, ↓reduceIte] at hx440_0)
                                                               have qi440 : (1 < (rd_L7 t414 x368_3).length) = True := eq_true (by omega)
                                                               (try rw [show ((1 : Int)).toNat = 1 from rfl] at hx440_0)
                                                               replace p440 := eq_true p440; replace q440 := eq_true q440
                                                               have hnb180 := NB370_369.out
                                                               have hnc180 := NB369_370.out
                                                               have hnb181 := NB370_371.out
                                                               have hnc181 := NB371_370.out
                                                               have hcz182_0 : wr.cell? ⟨gb370, 0, none⟩ = some (.int .i64 a2_0) := (blk_cell BK370.out 0).trans rfl
                                                               have hcz182_1 : wr.cell? ⟨gb370, 1, none⟩ = some (.int .i64 a2_1) := (blk_cell BK370.out 1).trans rfl
                                                               have hfz182_0 := blk_frozen BK370.out 0
                                                               have hfz182_1 := blk_frozen BK370.out 1
                                                               have p441 : 0 ≤ (0 : Int) := (by omega)
                                                               have q441 : 0 < ((rd_L7 t414 x368_3).length : Int) := of_decide_eq_true (by first | (with_reducible assumption) | assumption)
                                                               obtain ⟨ad441, e441, hx441_0⟩ := Kd.at_int (by repeat (first | (with_reducible exact HR436_0.out) | (with_reducible refine Kd.C_alloc ?_ _) | (with_reducible refine Kd.C_drewN ?_ _) | (with_reducible refine Kd.C_drew ?_) | exact HR436_0.out)) 0 p441 q441
                                                               obtain rfl : ad437 = ad441 := (by injection e441)
                                                               have qi441 : (0 < (rd_L7 t414 x368_3).length) = True := eq_true (by omega)
                                                               (try rw [show ((0 : Int)).toNat = 0 from rfl] at hx441_0)
                                                               (try rw [Addr.add_zero'] at hx441_0)
                                                               replace p441 := eq_true p441; replace q441 := eq_true q441
                                                               have p442 : 0 ≤ (1 : Int) := (by omega)
                                                               have q442 : 1 < ((rd_L7 t414 x368_3).length : Int) := of_decide_eq_true (by first | (with_reducible assumption) | assumption)
                                                               obtain ⟨ad442, e442, hx442_0⟩ := Kd.at_int (by repeat (first | (with_reducible exact HR436_0.out) | (with_reducible refine Kd.C_alloc ?_ _) | (with_reducible refine Kd.C_drewN ?_ _) | (with_reducible refine Kd.C_drew ?_) | exact HR436_0.out)) 1 p442 q442
                                                               obtain rfl : ad437 = ad442 := (by injection e442)
                                                               (try simp only [show (1 : Int).toNat = 1 from rfl, Nat.reduceMul, Nat.reduceEqDiff, Go.Addr.add, ↓reduceIte] at hx442_0)
                                                               have qi442 : (1 < (rd_L7 t414 x368_3).length) = True := eq_true (by omega)
                                                               (try rw [show ((1 : Int)).toNat = 1 from rfl] at hx442_0)
                                                               replace p442 := eq_true p442; replace q442 := eq_true q442
                                                               try go_wp2
                                                               repeat (go_quiet (fail); try go_wp2)
                                                               go_roundg k3
                                                               case measure => have := HJ20.out; have := HK2.out; have := HK3.out; omega
                                                               case rel => exact ⟨(wrap64 (x368_3 + 1)), (by first | rfl | (simp; done) | (simp [*]; done)), H', ⟨by have := HJ20.out; have := HK2.out; have := HK3.out; omega⟩, ⟨by (with_reducible repeat (first | apply Kd.S_alloc | apply Kd.S_drewN | apply Kd.S_drew)); exact HO_366.out⟩, ⟨by (with_reducible repeat (first | refine blk_drewN ?_ _ | refine blk_drew ?_ | refine blk_alloc ?_ _)); exact BK369.out⟩, ⟨by (with_reducible repeat (first | refine blk_drewN ?_ _ | refine blk_drew ?_ | refine blk_alloc ?_ _)); exact BK370.out⟩, ⟨by (with_reducible repeat (first | refine blk_drewN ?_ _ | refine blk_drew ?_ | refine blk_alloc ?_ _)); exact BK371.out⟩, ⟨by repeat (first | (with_reducible first | exact HB.out | apply below_alloc | apply pw_below_drewN | apply below_drew1 | refine below_set ?_ GE369.out | refine below_set ?_ GE370.out | refine below_set ?_ GE371.out) | exact HB.out)⟩⟩
                                                             ·rw [if_neg c178] at H
                                                              have c178b0 : ((rd (rd_L7 t414 x368_3) 0) == (wrap64 (a2_0 - 1))) = false := beq_eq_false_iff_ne.mpr c178
                                                              have c178b1 : ((rd (rd_L7 t414 x368_3) 0) != (wrap64 (a2_0 - 1))) = true := bne_iff_ne.mpr c178
                                                              have H' := Aside0.mk H
                                                              clear H
                                                              have p436 : 0 ≤ (x368_3 : Int) := of_decide_eq_true (by first | (with_reducible assumption) | assumption)
                                                              have q436 : x368_3 < (t414.length : Int) := of_decide_eq_true (by first | (with_reducible assumption) | assumption)
                                                              obtain ⟨ad436, A436_0, c436_0, e436, hx436_0, hl436_0, hi436_0⟩ := at_L7 (Kd.S_reads' HO_366.out).2.2 x368_3 p436 q436
                                                              cases e436
                                                              obtain ⟨ce436, hce436, hMe436, hcc436⟩ := Kd.S_get HO_366.out [] x368_3 p436 (by first | exact q436 | exact of_decide_eq_true (by first | (with_reducible assumption) | assumption) | (have e_ := (Kd.S_reads' HO_366.out).1; omega))
                                                              obtain ⟨ve436_0, rfl, ge436_0⟩ := hMe436
                                                              have hv436_0 := hcc436 0 _ rfl
                                                              rw [Nat.add_zero, show ((Kd.slice 3 (Kd.int .i64))).sz = 1 from rfl, Nat.mul_one] at hv436_0
                                                              replace hv436_0 := Option.some.inj (hv436_0.symm.trans hx436_0)
                                                              rw [hv436_0] at ge436_0
                                                              have HL436_0 := Aside0.mk (show Kd.R (Kd.int .i64) 3 _ _ _ _ (rd_L7 t414 x368_3) from ge436_0)
                                                              clear hv436_0 ge436_0; clear hcc436 hce436
                                                              have HR436_0 := Aside0.mk hi436_0
                                                              have HC436_0 := Aside0.mk hl436_0
                                                              clear hi436_0 hl436_0; replace p436 := eq_true p436; replace q436 := eq_true q436
                                                              have p437 : 0 ≤ (0 : Int) := (by omega)
                                                              have q437 : 0 < ((rd_L7 t414 x368_3).length : Int) := of_decide_eq_true (by first | (with_reducible assumption) | assumption)
                                                              obtain ⟨ad437, e437, hx437_0⟩ := Kd.at_int (by repeat (first | (with_reducible exact HR436_0.out) | (with_reducible refine Kd.C_alloc ?_ _) | (with_reducible refine Kd.C_drewN ?_ _) | (with_reducible refine Kd.C_drew ?_) | exact HR436_0.out)) 0 p437 q437
                                                              cases e437
                                                              have qi437 : (0 < (rd_L7 t414 x368_3).length) = True := eq_true (by omega)
                                                              (try rw [show ((0 : Int)).toNat = 0 from rfl] at hx437_0)
                                                              (try rw [Addr.add_zero'] at hx437_0)
                                                              replace p437 := eq_true p437; replace q437 := eq_true q437
                                                              have p438 : 0 ≤ (1 : Int) := (by omega)
                                                              have q438 : 1 < ((rd_L7 t414 x368_3).length : Int) := of_decide_eq_true (by first | (with_reducible assumption) | assumption)
                                                              obtain ⟨ad438, e438, hx438_0⟩ := Kd.at_int (by repeat (first | (with_reducible exact HR436_0.out) | (with_reducible refine Kd.C_alloc ?_ _) | (with_reducible refine Kd.C_drewN ?_ _) | (with_reducible refine Kd.C_drew ?_) | exact HR436_0.out)) 1 p438 q438
                                                              obtain rfl : ad437 = ad438 := (by injection e438)
                                                              (try simp only [show (1 : Int).toNat = 1 from rfl, Nat.reduceMul, Nat.reduceEqDiff, Go.Addr.add, ↓reduceIte] at hx438_0)
                                                              have qi438 : (1 < (rd_L7 t414 x368_3).length) = True := eq_true (by omega)
                                                              (try rw [show ((1 : Int)).toNat = 1 from rfl] at hx438_0)
                                                              replace p438 := eq_true p438; replace q438 := eq_true q438
                                                              have p439 : 0 ≤ (0 : Int) := (by omega)
                                                              have q439 : 0 < ((rd_L7 t414 x368_3).length : Int) := of_decide_eq_true (by first | (with_reducible assumption) | assumption)
                                                              obtain ⟨ad439, e439, hx439_0⟩ := Kd.at_int (by repeat (first | (with_reducible exact HR436_0.out) | (with_reducible refine Kd.C_alloc ?_ _) | (with_reducible refine Kd.C_drewN ?_ _) | (with_reducible refine Kd.C_drew ?_) | exact HR436_0.out)) 0 p439 q439
                                                              obtain rfl : ad437 = ad439 := (by injection e439)
                                                              have qi439 : (0 < (rd_L7 t414 x368_3).length) = True := eq_true (by omega)
                                                              (try rw [show ((0 : Int)).toNat = 0 from rfl] at hx439_0)
                                                              (try rw [Addr.add_zero'] at hx439_0)
                                                              replace p439 := eq_true p439; replace q439 := eq_true q439
                                                              have p440 : 0 ≤ (1 : Int) := (by omega)
                                                              have q440 : 1 < ((rd_L7 t414 x368_3).length : Int) := of_decide_eq_true (by first | (with_reducible assumption) | assumption)
                                                              obtain ⟨ad440, e440, hx440_0⟩ := Kd.at_int (by repeat (first | (with_reducible exact HR436_0.out) | (with_reducible refine Kd.C_alloc ?_ _) | (with_reducible refine Kd.C_drewN ?_ _) | (with_reducible refine Kd.C_drew ?_) | exact HR436_0.out)) 1 p440 q440
                                                              obtain rfl : ad437 = ad440 := (by injection e440)
                                                              (try simp only [show (1 : Int).toNat = 1 from rfl, Nat.reduceMul, Nat.reduceEqDiff, Go.Addr.add, ↓reduceIte] at hx440_0)
                                                              have qi440 : (1 < (rd_L7 t414 x368_3).length) = True := eq_true (by omega)
                                                              (try rw [show ((1 : Int)).toNat = 1 from rfl] at hx440_0)
                                                              replace p440 := eq_true p440; replace q440 := eq_true q440
                                                              have hnb183 := NB370_369.out
                                                              have hnc183 := NB369_370.out
                                                              have hnb184 := NB370_371.out
                                                              have hnc184 := NB371_370.out
                                                              have hcz185_0 : wr.cell? ⟨gb370, 0, none⟩ = some (.int .i64 a2_0) := (blk_cell BK370.out 0).trans rfl
                                                              have hcz185_1 : wr.cell? ⟨gb370, 1, none⟩ = some (.int .i64 a2_1) := (blk_cell BK370.out 1).trans rfl
                                                              have hfz185_0 := blk_frozen BK370.out 0
                                                              have hfz185_1 := blk_frozen BK370.out 1
                                                              have p441 : 0 ≤ (0 : Int) := (by omega)
                                                              have q441 : 0 < ((rd_L7 t414 x368_3).length : Int) := of_decide_eq_true (by first | (with_reducible assumption) | assumption)
                                                              obtain ⟨ad441, e441, hx441_0⟩ := Kd.at_int (by repeat (first | (with_reducible exact HR436_0.out) | (with_reducible refine Kd.C_alloc ?_ _) | (with_reducible refine Kd.C_drewN ?_ _) | (with_reducible refine Kd.C_drew ?_) | exact HR436_0.out)) 0 p441 q441
                                                              obtain rfl : ad437 = ad441 := (by injection e441)
                                                              have qi441 : (0 < (rd_L7 t414 x368_3).length) = True := eq_true (by omega)
                                                              (try rw [show ((0 : Int)).toNat = 0 from rfl] at hx441_0)
                                                              (try rw [Addr.add_zero'] at hx441_0)
                                                              replace p441 := eq_true p441; replace q441 := eq_true q441
                                                              try go_wp2
                                                              repeat (go_quiet (fail); try go_wp2)
                                                              go_roundg k3
                                                              case measure => have := HJ20.out; have := HK2.out; have := HK3.out; omega
                                                              case rel => exact ⟨(wrap64 (x368_3 + 1)), (by first | rfl | (simp; done) | (simp [*]; done)), H', ⟨by have := HJ20.out; have := HK2.out; have := HK3.out; omega⟩, ⟨by (with_reducible repeat (first | apply Kd.S_alloc | apply Kd.S_drewN | apply Kd.S_drew)); exact HO_366.out⟩, ⟨by (with_reducible repeat (first | refine blk_drewN ?_ _ | refine blk_drew ?_ | refine blk_alloc ?_ _)); exact BK369.out⟩, ⟨by (with_reducible repeat (first | refine blk_drewN ?_ _ | refine blk_drew ?_ | refine blk_alloc ?_ _)); exact BK370.out⟩, ⟨by (with_reducible repeat (first | refine blk_drewN ?_ _ | refine blk_drew ?_ | refine blk_alloc ?_ _)); exact BK371.out⟩, ⟨by repeat (first | (with_reducible first | exact HB.out | apply below_alloc | apply pw_below_drewN | apply below_drew1 | refine below_set ?_ GE369.out | refine below_set ?_ GE370.out | refine below_set ?_ GE371.out) | exact HB.out)⟩⟩
                                                          ·rw [if_neg c175] at H
                                                           exact absurd H (by simp)
                                                        ·rw [if_neg c173] at H
                                                         exact absurd H (by simp)
                                                       ·rw [if_neg c172] at H
                                                        exact absurd H (by simp)
                                                      ·rw [if_neg c171] at H
                                                       exact absurd H (by simp)
                                                     ·rw [if_neg c170] at H
                                                      exact absurd H (by simp)
                                                    ·rw [if_neg c169] at H
                                                     have c169b0 : decide (x368_3 < (t414.length : Int)) = false := decide_eq_false c169
                                                     clear c169
                                                     have H' := Aside0.mk H
                                                     clear H
                                                     try go_wp2
                                                     repeat (go_quiet (fail); try go_wp2)
                                                     go_meet
                                                     case rel => exact ⟨_, H', ⟨by have := HJ20.out; have := HK2.out; have := HK3.out; first | omega | exact Nat.le_refl _⟩, ⟨by (with_reducible repeat (first | refine blk_drewN ?_ _ | refine blk_drew ?_ | refine blk_alloc ?_ _)); exact BK369.out⟩, ⟨by (with_reducible repeat (first | refine blk_drewN ?_ _ | refine blk_drew ?_ | refine blk_alloc ?_ _)); exact BK370.out⟩, ⟨by (with_reducible repeat (first | refine blk_drewN ?_ _ | refine blk_drew ?_ | refine blk_alloc ?_ _)); exact BK371.out⟩, ⟨by repeat (first | (with_reducible first | exact HB.out | apply below_alloc | apply pw_below_drewN | apply below_drew1 | refine below_set ?_ GE369.out | refine below_set ?_ GE370.out | refine below_set ?_ GE371.out) | exact HB.out)⟩⟩
                                             ·replace c161 := Bool.eq_false_iff.mpr c161
                                              subst c161
                                              have H1 : (none) = some r := by rw [if_neg (show ¬ (false = true) by decide)] at H; exact H
                                              clear H
                                              have H := H1
                                              clear H1
                                              exact absurd H (by simp)
                                            ·replace c160 := Bool.eq_false_iff.mpr c160
                                             subst c160
                                             have H1 : (none) = some r := by rw [if_neg (show ¬ (false = true) by decide)] at H; exact H
                                             clear H
                                             have H := H1
                                             clear H1
                                             exact absurd H (by simp)
                                     ·replace c141 := Bool.eq_false_iff.mpr c141
                                      subst c141
                                      have H1 : (none) = some r := by rw [if_neg (show ¬ (false = true) by decide)] at H; exact H
                                      clear H
                                      have H := H1
                                      clear H1
                                      exact absurd H (by simp)
                                   ·replace c138 := Bool.eq_false_iff.mpr c138
                                    subst c138
                                    have H1 : (laws_FnHintsPlayedOfAll.j5 kj20 a4 a5 t422 t423 a3_0 a3_1) = some r := by rw [if_neg (show ¬ (false = true) by decide)] at H; exact H
                                    clear H
                                    have H := H1
                                    clear H1
                                    have H' := Aside0.mk H
                                    clear H
                                    try go_wp2
                                    repeat (go_quiet (fail); try go_wp2)
                                    go_meet
                                    case rel => exact ⟨_, H', ⟨by have := HJ20.out; first | omega | exact Nat.le_refl _⟩, ⟨by (with_reducible repeat (first | refine blk_drewN ?_ _ | refine blk_drew ?_ | refine blk_alloc ?_ _)); exact BK369.out⟩, ⟨by (with_reducible repeat (first | refine blk_drewN ?_ _ | refine blk_drew ?_ | refine blk_alloc ?_ _)); exact BK370.out⟩, ⟨by (with_reducible repeat (first | refine blk_drewN ?_ _ | refine blk_drew ?_ | refine blk_alloc ?_ _)); exact BK371.out⟩, ⟨by repeat (first | (with_reducible first | exact HB.out | apply below_alloc | apply pw_below_drewN | apply below_drew1 | refine below_set ?_ GE369.out | refine below_set ?_ GE370.out | refine below_set ?_ GE371.out) | exact HB.out)⟩⟩
                                 case rest =>
                                  as_aux_lemma =>
                                   clear HC114
                                   (try clear c1); (try clear c2); (try clear p2); (try clear c3); (try clear p3); (try clear q3); (try clear hx3); (try clear c4); (try clear p4); (try clear q4); (try clear hx4); (try clear qi4); (try clear c5); (try clear c6); (try clear p6); (try clear c7); (try clear c8); (try clear q8); (try clear c9); (try clear c10); (try clear c11); (try clear c12); (try clear c13); (try clear c14); (try clear c15); (try clear c15b0); (try clear c15b1); (try clear c15b2); (try clear c16); (try clear c17); (try clear c18); (try clear c18b0); (try clear c18b1); (try clear c18b2); (try clear c19); (try clear c19b0); (try clear c19b1); (try clear c20); (try clear c20b0); (try clear c20b1); (try clear c20b2); (try clear c23); (try clear c25); (try clear c26); (try clear c37); (try clear c38); (try clear c38b0); (try clear c38b1); (try clear p38); (try clear q38); (try clear hx38); (try clear c39); (try clear c39b0); (try clear c39b1); (try clear p39); (try clear q39); (try clear hx39); (try clear p40); (try clear q40); (try clear hx40); (try clear qi40); (try clear c41); (try clear c41b0); (try clear c42); (try clear c42b0); (try clear p42); (try clear q42); (try clear hx42); (try clear c43); (try clear c43b0); (try clear c43b1); (try clear p43); (try clear q43); (try clear hx43); (try clear qi43); (try clear c44); (try clear c44b0); (try clear c44b1); (try clear p44); (try clear q44); (try clear hx44); (try clear qi44); (try clear c45); (try clear c46); (try clear c48); (try clear c48b0); (try clear c49); (try clear c49b0); (try clear c50); (try clear c50b0); (try clear c54); (try clear c55); (try clear c56); (try clear c58); (try clear c59); (try clear c62); (try clear c63); (try clear c63b0); (try clear c63b1); (try clear c64); (try clear c64b0); (try clear c64b1); (try clear p64); (try clear c65); (try clear c65b0); (try clear c67); (try clear c67b0); (try clear c68); (try clear c68b0); (try clear c69); (try clear c70); (try clear c71); (try clear c73); (try clear c74); (try clear c75); (try clear c77); (try clear c78); (try clear c78b0); (try clear c79); (try clear c79b0); (try clear c79b1); (try clear c80); (try clear c80b0); (try clear c80b1); (try clear c82); (try clear c83); (try clear c83b0); (try clear c83b1); (try clear c84); (try clear c84b0); (try clear c84b1); (try clear c85); (try clear c85b0); (try clear c85b1); (try clear q87); (try clear c90); (try clear c91); (try clear c92); (try clear c102); (try clear c102b0); (try clear c102b1); (try clear c102b2); (try clear c103); (try clear c103b0); (try clear c103b1); (try clear c104); (try clear c104b0); (try clear c104b1); (try clear c104b2); (try clear c106); (try clear c107); (try clear c107b0); (try clear c107b1); (try clear c107b2); (try clear c109); (try clear c110); (try clear c110b0); (try clear c110b1); (try clear c110b2); (try clear c111); (try clear c111b0); (try clear c111b1); (try clear c112); (try clear c112b0); (try clear c112b1); (try clear c112b2); (try clear c113); (try clear c113b0); (try clear c113b1); (try clear c113b2); (try clear c115); (try clear c116); (try clear c129); (try clear c138); (try clear c139); (try clear c139b0); (try clear c139b1); (try clear c141); (try clear c142); (try clear c142b0); (try clear c143); (try clear c143b0); (try clear c144); (try clear c144b0); (try clear c145); (try clear c145b0); (try clear c147); (try clear c147b0); (try clear c148); (try clear c149); (try clear c149b0); (try clear c149b1); (try clear c150); (try clear c151); (try clear c154); (try clear c155); (try clear c160); (try clear c161); (try clear c162); (try clear c162b0); (try clear c163); (try clear c164); (try clear c169); (try clear c169b0); (try clear c170); (try clear c170b0); (try clear c171); (try clear c171b0); (try clear c172); (try clear c172b0); (try clear c172b1); (try clear c173); (try clear c173b0); (try clear c173b1); (try clear c174); (try clear c174b0); (try clear c175); (try clear c175b0); (try clear c175b1); (try clear c176); (try clear c176b0); (try clear c177); (try clear c177b0); (try clear c178); (try clear c178b0); (try clear c178b1); (try clear c179); (try clear c179b0); (try clear c179b1); (try clear c180); (try clear c181); (try clear c183); (try clear c184); (try clear hcz117_0); (try clear hcz117_1); (try clear hcz119_0); (try clear hcz119_1); (try clear hcz121_0); (try clear hcz121_1); (try clear hcz123_0); (try clear hcz123_1); (try clear hcz125_0); (try clear hcz125_1); (try clear hcz127_0); (try clear hcz127_1); (try clear hcz130_0); (try clear hcz130_1); (try clear hcz132_0); (try clear hcz132_1); (try clear hcz152_0); (try clear hcz152_1); (try clear hcz156_0); (try clear hcz156_1); (try clear hcz165_0); (try clear hcz165_1); (try clear hcz167_0); (try clear hcz167_1); (try clear hcz182_0); (try clear hcz182_1); (try clear hcz185_0); (try clear hcz185_1); (try clear hcz27_0); (try clear hcz27_1); (try clear hcz29_0); (try clear hcz29_1); (try clear hcz31_0); (try clear hcz31_1); (try clear hcz33_0); (try clear hcz33_1); (try clear hcz47_0); (try clear hcz47_1); (try clear hcz57_0); (try clear hcz57_1); (try clear hcz57_2); (try clear hcz60_0); (try clear hcz60_1); (try clear hcz72_0); (try clear hcz72_1); (try clear hcz72_2); (try clear hcz76_0); (try clear hcz76_1); (try clear hcz76_2); (try clear hcz93_0); (try clear hcz93_1); (try clear hcz93_2); (try clear hfz117_0); (try clear hfz117_1); (try clear hfz119_0); (try clear hfz119_1); (try clear hfz121_0); (try clear hfz121_1); (try clear hfz123_0); (try clear hfz123_1); (try clear hfz125_0); (try clear hfz125_1); (try clear hfz127_0); (try clear hfz127_1); (try clear hfz130_0); (try clear hfz130_1); (try clear hfz132_0); (try clear hfz132_1); (try clear hfz152_0); (try clear hfz152_1); (try clear hfz156_0); (try clear hfz156_1); (try clear hfz165_0); (try clear hfz165_1); (try clear hfz167_0); (try clear hfz167_1); (try clear hfz182_0); (try clear hfz182_1); (try clear hfz185_0); (try clear hfz185_1); (try clear hfz27_0); (try clear hfz27_1); (try clear hfz29_0); (try clear hfz29_1); (try clear hfz31_0); (try clear hfz31_1); (try clear hfz33_0); (try clear hfz33_1); (try clear hfz47_0); (try clear hfz47_1); (try clear hfz57_0); (try clear hfz57_1); (try clear hfz57_2); (try clear hfz60_0); (try clear hfz60_1); (try clear hfz72_0); (try clear hfz72_1); (try clear hfz72_2); (try clear hfz76_0); (try clear hfz76_1); (try clear hfz76_2); (try clear hfz93_0); (try clear hfz93_1); (try clear hfz93_2); (try clear hx385_0); (try clear hx385_1); (try clear hx385_2); (try clear hx386_0); (try clear hx386_1); (try clear hx386_2); (try clear hx387_0); (try clear hx387_1); (try clear hx387_2); (try clear hx392_0); (try clear hx392_1); (try clear hx392_2); (try clear hx401_0); (try clear hx429_0); (try clear hx436_0); (try clear hx437_0); (try clear hx438_0); (try clear hx439_0); (try clear hx440_0); (try clear hx441_0); (try clear hx442_0); (try clear p2); (try clear p3); (try clear p38); (try clear p385); (try clear p386); (try clear p387); (try clear p39); (try clear p392); (try clear p4); (try clear p40); (try clear p401); (try clear p42); (try clear p429); (try clear p436); (try clear p437); (try clear p438); (try clear p439); (try clear p440); (try clear p441); (try clear p442); (try clear p6); (try clear p64); (try clear q3); (try clear q38); (try clear q385); (try clear q386); (try clear q387); (try clear q39); (try clear q392); (try clear q4); (try clear q40); (try clear q401); (try clear q42); (try clear q429); (try clear q436); (try clear q437); (try clear q438); (try clear q439); (try clear q440); (try clear q441); (try clear q442); (try clear q8); (try clear q87)
                                   obtain ⟨kq, HA, HJ113, BK369, BK370, BK371, HB⟩ := hcut
                                   cases kq with
                                   | zero => exact absurd HA.out (by simp [laws_FnHintsPlayedOfAll.j5])
                                   | succ kj113 =>
                                    have H := HA.out
                                    clear HA
                                    simp only [laws_FnHintsPlayedOfAll.j5] at H
                                    by_cases c186 : t423 = true
                                    ·subst c186
                                     have H1 : ((impl_ZeroCode.f kj113 a3_0 a3_1).bind fun bt443 => ((impl_CountFitting.f kj113 a3_0 a3_1 (([(⟨bt443.1, a4, a5⟩ : S31)] : List (S31)))).bind fun bt448 => (if bt443.2 = true then (if bt448.2 = true then (if bt448.1 = t422 then (if a5 = 0 then (some true) else (some (t422 == 0))) else (none)) else (none)) else (none)))) = some r := by rw [if_pos rfl] at H; exact H
                                     clear H
                                     have H := H1
                                     clear H1
                                     replace H := Option.bind_eq_some_iff.mp H
                                     obtain ⟨⟨t443, t444⟩, A1870, H⟩ := H
                                     (try dsimp only at H)
                                     have A187 := Aside0.mk A1870
                                     clear A1870
                                     obtain ⟨y445, hy445⟩ : ∃ y_ : List (S31), y_ = (([(⟨t443, a4, a5⟩ : S31)] : List (S31))) := ⟨_, rfl⟩
                                     replace H : ((impl_CountFitting.f kj113 a3_0 a3_1 y445).bind fun bt448 => (if t444 = true then (if bt448.2 = true then (if bt448.1 = t422 then (if a5 = 0 then (some true) else (some (t422 == 0))) else (none)) else (none)) else (none))) = some r := by first | (rw [hy445]; with_reducible exact H) | (have H2_ := (Option.bind_some _ _).symm.trans H; rw [hy445]; with_reducible exact H2_) | (have H2_ := (Option.bind_some _ _).symm.trans H; with_reducible exact H2_) | with_reducible exact H | (rw [hy445]; exact H) | exact H
                                     have Ny445 := Aside0.mk hy445
                                     clear hy445
                                     replace H := Option.bind_eq_some_iff.mp H
                                     obtain ⟨⟨t448, t449⟩, A1880, H⟩ := H
                                     (try dsimp only at H)
                                     have A188 := Aside0.mk A1880
                                     clear A1880
                                     by_cases c189 : t444 = true
                                     ·subst c189
                                      have H1 : (if t449 = true then (if t448 = t422 then (if a5 = 0 then (some true) else (some (t422 == 0))) else (none)) else (none)) = some r := by rw [if_pos rfl] at H; exact H
                                      clear H
                                      have H := H1
                                      clear H1
                                      by_cases c190 : t449 = true
                                      ·subst c190
                                       have H1 : (if t448 = t422 then (if a5 = 0 then (some true) else (some (t422 == 0))) else (none)) = some r := by rw [if_pos rfl] at H; exact H
                                       clear H
                                       have H := H1
                                       clear H1
                                       by_cases c191 : t448 = t422
                                       ·rw [if_pos c191] at H
                                        have c191b0 : (t448 == t422) = true := beq_iff_eq.mpr c191
                                        have c191b1 : (t448 != t422) = false := bne_eq_false_iff_eq.mpr c191
                                        clear c191
                                        by_cases c192 : a5 = 0
                                        ·rw [if_pos c192] at H
                                         have c192b0 : (a5 == 0) = true := beq_iff_eq.mpr c192
                                         have c192b1 : (a5 != 0) = false := bne_eq_false_iff_eq.mpr c192
                                         clear c192
                                         obtain rfl := Option.some.inj H
                                         have hnb193 := NB371_369.out
                                         have hnc193 := NB369_371.out
                                         have hnb194 := NB371_370.out
                                         have hnc194 := NB370_371.out
                                         have hcz195_0 : wc.cell? ⟨gb371, 0, none⟩ = some (.int .i64 a3_0) := (blk_cell BK371.out 0).trans rfl
                                         have hcz195_1 : wc.cell? ⟨gb371, 1, none⟩ = some (.int .i64 a3_1) := (blk_cell BK371.out 1).trans rfl
                                         have hfz195_0 := blk_frozen BK371.out 0
                                         have hfz195_1 := blk_frozen BK371.out 1
                                         go_upto_region 56 with (first | ((with_reducible refine gate_callee (f := 23) rfl ?_); refine goesL_ (some 418) rfl rfl Try.func23 (by kernel_rfl) rfl #[.agg #[.int .i64 a3_0, .int .i64 a3_1]] rfl (by (try simp only [List.map_toArray, List.map_cons, List.map_nil]); first | done | rfl | (simp only [List.length_drop, List.length_take]; rfl)) ?_; (with_reducible refine (impl_ZeroCode.calls kj113 a3_0 a3_1 t443 true _ A187.out).mono ?_); rintro e w196 ⟨rfl, hb⟩; refine ⟨_, rfl, ?_⟩; have n0_ := Aside0.mk (blk_below (g := gb369) (o := .cells #[.int .i64 a0_0, .int .i64 a0_1] 23 (0, 0)) (by (with_reducible repeat (first | refine blk_drewN ?_ _ | refine blk_drew ?_ | refine blk_alloc ?_ _)); exact BK369.out) hb); have n1_ := Aside0.mk (blk_below (g := gb370) (o := .cells #[.int .i64 a2_0, .int .i64 a2_1] 23 (0, 0)) (by (with_reducible repeat (first | refine blk_drewN ?_ _ | refine blk_drew ?_ | refine blk_alloc ?_ _)); exact BK370.out) hb); have n2_ := Aside0.mk (blk_below (g := gb371) (o := .cells #[.int .i64 a3_0, .int .i64 a3_1] 23 (0, 0)) (by (with_reducible repeat (first | refine blk_drewN ?_ _ | refine blk_drew ?_ | refine blk_alloc ?_ _)); exact BK371.out) hb); have n3_ := Aside0.mk (below_step (by repeat (first | (with_reducible first | exact HB.out | apply below_alloc | apply pw_below_drewN | apply below_drew1 | refine below_set ?_ GE369.out | refine below_set ?_ GE370.out | refine below_set ?_ GE371.out) | exact HB.out)) hb); clear BK369; clear BK370; clear BK371; clear HB; have BK369 := n0_; have BK370 := n1_; have BK371 := n2_; have HB := n3_; clear n0_ n1_ n2_ n3_; (try clear hb); (try clear hb2); (try clear hk); (try clear hi); have hcz197_0 : w196.cell? ⟨gb371, 0, none⟩ = some (.int .i64 a3_0) := (blk_cell BK371.out 0).trans rfl; have hcz197_1 : w196.cell? ⟨gb371, 1, none⟩ = some (.int .i64 a3_1) := (blk_cell BK371.out 1).trans rfl; have hfz197_0 := blk_frozen BK371.out 0; have hfz197_1 := blk_frozen BK371.out 1))
                                         try go_wp2_with (first | ((with_reducible refine gate_dst (N := 427) rfl ?_); (try (refine gate_guard (by rfl) ?_; dsimp only)); refine Kd.R_lit k31 _ 31 ?hg (N := 427) ?hd (xs := ([(⟨t443, a4, a5⟩ : S31)] : List (S31))) (inner := [.string t443, .int .i64 a4, .int .i64 a5]) (ok := fun _ => True) (okp := fun _ => True) ?hr ?hp (fun _ hk => hk) trivial (Below.refl _ _) (Nat.le_refl _) (by simp) ?_; (case hd => rfl); (case hg => rfl); (case hr => first | (go_simp; done) | (go_simp; rfl)); (case hp => exact (Reps.c3 (show Kd.M k31 _ _ _ (⟨t443, a4, a5⟩ : S31) [.string t443, .int .i64 a4, .int .i64 a5] from (k31_mkM _ _ _ (⟨t443, a4, a5⟩ : S31) )) (Reps.none _ _))); intro v446 w198 ho199 hb hg_ hnew_; clear hg_ hnew_; (first | rw [← Ny445.out] at ho199 | (simp only [Int.reduceToNat] at ho199; rw [← Ny445.out] at ho199)); have n0_ := Aside0.mk (Kd.R_lower ho199 (below_size (by repeat (first | (with_reducible first | exact HB.out | apply below_alloc | apply pw_below_drewN | apply below_drew1 | refine below_set ?_ GE369.out | refine below_set ?_ GE370.out | refine below_set ?_ GE371.out) | exact HB.out)))); have n1_ := Aside0.mk (blk_below (g := gb369) (o := .cells #[.int .i64 a0_0, .int .i64 a0_1] 23 (0, 0)) (by (with_reducible repeat (first | refine blk_drewN ?_ _ | refine blk_drew ?_ | refine blk_alloc ?_ _)); exact BK369.out) hb); have n2_ := Aside0.mk (blk_below (g := gb370) (o := .cells #[.int .i64 a2_0, .int .i64 a2_1] 23 (0, 0)) (by (with_reducible repeat (first | refine blk_drewN ?_ _ | refine blk_drew ?_ | refine blk_alloc ?_ _)); exact BK370.out) hb); have n3_ := Aside0.mk (blk_below (g := gb371) (o := .cells #[.int .i64 a3_0, .int .i64 a3_1] 23 (0, 0)) (by (with_reducible repeat (first | refine blk_drewN ?_ _ | refine blk_drew ?_ | refine blk_alloc ?_ _)); exact BK371.out) hb); have n4_ := Aside0.mk (below_step (by repeat (first | (with_reducible first | exact HB.out | apply below_alloc | apply pw_below_drewN | apply below_drew1 | refine below_set ?_ GE369.out | refine below_set ?_ GE370.out | refine below_set ?_ GE371.out) | exact HB.out)) hb); clear BK369; clear BK370; clear BK371; clear HB; have HO447 := n0_; have BK369 := n1_; have BK370 := n2_; have BK371 := n3_; have HB := n4_; clear n0_ n1_ n2_ n3_ n4_; clear hb ho199; obtain ⟨Ao200, co200, eo200⟩ := Kd.R_slice HO447.out; subst eo200) | ((with_reducible refine gate_callee (f := 24) rfl ?_); refine goesL_ (some 428) rfl rfl Try.func24 (by kernel_rfl) rfl #[.agg #[.int .i64 a3_0, .int .i64 a3_1], .slice Ao200 y445.length co200] rfl (by (try simp only [List.map_toArray, List.map_cons, List.map_nil]); first | done | rfl | (simp only [List.length_drop, List.length_take]; rfl)) ?_; (with_reducible refine (impl_CountFitting.calls kj113 a3_0 a3_1 _ _ y445 t448 true _ ?side1 ?side2 A188.out).mono ?_); (case side1 => repeat (first | exact (Kd.R_reads' HO447.out).2.2 | (with_reducible refine Kd.C_alloc ?_ _) | (with_reducible refine Kd.C_drewN ?_ _) | (with_reducible refine Kd.C_drew ?_))); (case side2 => exact (Kd.R_reads' HO447.out).2.1); rintro e w201 ⟨rfl, hb⟩; refine ⟨_, rfl, ?_⟩; have n0_ := Aside0.mk (Kd.R_below (by (with_reducible repeat (first | apply Kd.R_alloc | apply Kd.R_drewN | apply Kd.R_drew)); exact HO447.out) hb); have n1_ := Aside0.mk (blk_below (g := gb369) (o := .cells #[.int .i64 a0_0, .int .i64 a0_1] 23 (0, 0)) (by (with_reducible repeat (first | refine blk_drewN ?_ _ | refine blk_drew ?_ | refine blk_alloc ?_ _)); exact BK369.out) hb); have n2_ := Aside0.mk (blk_below (g := gb370) (o := .cells #[.int .i64 a2_0, .int .i64 a2_1] 23 (0, 0)) (by (with_reducible repeat (first | refine blk_drewN ?_ _ | refine blk_drew ?_ | refine blk_alloc ?_ _)); exact BK370.out) hb); have n3_ := Aside0.mk (blk_below (g := gb371) (o := .cells #[.int .i64 a3_0, .int .i64 a3_1] 23 (0, 0)) (by (with_reducible repeat (first | refine blk_drewN ?_ _ | refine blk_drew ?_ | refine blk_alloc ?_ _)); exact BK371.out) hb); have n4_ := Aside0.mk (below_step (by repeat (first | (with_reducible first | exact HB.out | apply below_alloc | apply pw_below_drewN | apply below_drew1 | refine below_set ?_ GE369.out | refine below_set ?_ GE370.out | refine below_set ?_ GE371.out) | exact HB.out)) hb); clear HO447; clear BK369; clear BK370; clear BK371; clear HB; have HO447 := n0_; have BK369 := n1_; have BK370 := n2_; have BK371 := n3_; have HB := n4_; clear n0_ n1_ n2_ n3_ n4_; (try clear hb); (try clear hb2); (try clear hk); (try clear hi)))
                                         go_ret
                                         exact ⟨by first | rfl | (simp [errW_none, errW_some] <;> rfl) | (simp [*, errW_none, errW_some] <;> rfl), by repeat (first | (with_reducible first | exact HB.out | apply below_alloc | apply pw_below_drewN | apply below_drew1 | refine below_set ?_ GE369.out | refine below_set ?_ GE370.out | refine below_set ?_ GE371.out) | exact HB.out)⟩
                                        ·rw [if_neg c192] at H
                                         have c192b0 : (a5 == 0) = false := beq_eq_false_iff_ne.mpr c192
                                         have c192b1 : (a5 != 0) = true := bne_iff_ne.mpr c192
                                         obtain rfl := Option.some.inj H
                                         have hnb202 := NB371_369.out
                                         have hnc202 := NB369_371.out
                                         have hnb203 := NB371_370.out
                                         have hnc203 := NB370_371.out
                                         have hcz204_0 : wc.cell? ⟨gb371, 0, none⟩ = some (.int .i64 a3_0) := (blk_cell BK371.out 0).trans rfl
                                         have hcz204_1 : wc.cell? ⟨gb371, 1, none⟩ = some (.int .i64 a3_1) := (blk_cell BK371.out 1).trans rfl
                                         have hfz204_0 := blk_frozen BK371.out 0
                                         have hfz204_1 := blk_frozen BK371.out 1
                                         go_upto_region 56 with (first | ((with_reducible refine gate_callee (f := 23) rfl ?_); refine goesL_ (some 418) rfl rfl Try.func23 (by kernel_rfl) rfl #[.agg #[.int .i64 a3_0, .int .i64 a3_1]] rfl (by (try simp only [List.map_toArray, List.map_cons, List.map_nil]); first | done | rfl | (simp only [List.length_drop, List.length_take]; rfl)) ?_; (with_reducible refine (impl_ZeroCode.calls kj113 a3_0 a3_1 t443 true _ A187.out).mono ?_); rintro e w205 ⟨rfl, hb⟩; refine ⟨_, rfl, ?_⟩; have n0_ := Aside0.mk (blk_below (g := gb369) (o := .cells #[.int .i64 a0_0, .int .i64 a0_1] 23 (0, 0)) (by (with_reducible repeat (first | refine blk_drewN ?_ _ | refine blk_drew ?_ | refine blk_alloc ?_ _)); exact BK369.out) hb); have n1_ := Aside0.mk (blk_below (g := gb370) (o := .cells #[.int .i64 a2_0, .int .i64 a2_1] 23 (0, 0)) (by (with_reducible repeat (first | refine blk_drewN ?_ _ | refine blk_drew ?_ | refine blk_alloc ?_ _)); exact BK370.out) hb); have n2_ := Aside0.mk (blk_below (g := gb371) (o := .cells #[.int .i64 a3_0, .int .i64 a3_1] 23 (0, 0)) (by (with_reducible repeat (first | refine blk_drewN ?_ _ | refine blk_drew ?_ | refine blk_alloc ?_ _)); exact BK371.out) hb); have n3_ := Aside0.mk (below_step (by repeat (first | (with_reducible first | exact HB.out | apply below_alloc | apply pw_below_drewN | apply below_drew1 | refine below_set ?_ GE369.out | refine below_set ?_ GE370.out | refine below_set ?_ GE371.out) | exact HB.out)) hb); clear BK369; clear BK370; clear BK371; clear HB; have BK369 := n0_; have BK370 := n1_; have BK371 := n2_; have HB := n3_; clear n0_ n1_ n2_ n3_; (try clear hb); (try clear hb2); (try clear hk); (try clear hi); have hcz206_0 : w205.cell? ⟨gb371, 0, none⟩ = some (.int .i64 a3_0) := (blk_cell BK371.out 0).trans rfl; have hcz206_1 : w205.cell? ⟨gb371, 1, none⟩ = some (.int .i64 a3_1) := (blk_cell BK371.out 1).trans rfl; have hfz206_0 := blk_frozen BK371.out 0; have hfz206_1 := blk_frozen BK371.out 1))
                                         try go_wp2_with (first | ((with_reducible refine gate_dst (N := 427) rfl ?_); (try (refine gate_guard (by rfl) ?_; dsimp only)); refine Kd.R_lit k31 _ 31 ?hg (N := 427) ?hd (xs := ([(⟨t443, a4, a5⟩ : S31)] : List (S31))) (inner := [.string t443, .int .i64 a4, .int .i64 a5]) (ok := fun _ => True) (okp := fun _ => True) ?hr ?hp (fun _ hk => hk) trivial (Below.refl _ _) (Nat.le_refl _) (by simp) ?_; (case hd => rfl); (case hg => rfl); (case hr => first | (go_simp; done) | (go_simp; rfl)); (case hp => exact (Reps.c3 (show Kd.M k31 _ _ _ (⟨t443, a4, a5⟩ : S31) [.string t443, .int .i64 a4, .int .i64 a5] from (k31_mkM _ _ _ (⟨t443, a4, a5⟩ : S31) )) (Reps.none _ _))); intro v446 w207 ho208 hb hg_ hnew_; clear hg_ hnew_; (first | rw [← Ny445.out] at ho208 | (simp only [Int.reduceToNat] at ho208; rw [← Ny445.out] at ho208)); have n0_ := Aside0.mk (Kd.R_lower ho208 (below_size (by repeat (first | (with_reducible first | exact HB.out | apply below_alloc | apply pw_below_drewN | apply below_drew1 | refine below_set ?_ GE369.out | refine below_set ?_ GE370.out | refine below_set ?_ GE371.out) | exact HB.out)))); have n1_ := Aside0.mk (blk_below (g := gb369) (o := .cells #[.int .i64 a0_0, .int .i64 a0_1] 23 (0, 0)) (by (with_reducible repeat (first | refine blk_drewN ?_ _ | refine blk_drew ?_ | refine blk_alloc ?_ _)); exact BK369.out) hb); have n2_ := Aside0.mk (blk_below (g := gb370) (o := .cells #[.int .i64 a2_0, .int .i64 a2_1] 23 (0, 0)) (by (with_reducible repeat (first | refine blk_drewN ?_ _ | refine blk_drew ?_ | refine blk_alloc ?_ _)); exact BK370.out) hb); have n3_ := Aside0.mk (blk_below (g := gb371) (o := .cells #[.int .i64 a3_0, .int .i64 a3_1] 23 (0, 0)) (by (with_reducible repeat (first | refine blk_drewN ?_ _ | refine blk_drew ?_ | refine blk_alloc ?_ _)); exact BK371.out) hb); have n4_ := Aside0.mk (below_step (by repeat (first | (with_reducible first | exact HB.out | apply below_alloc | apply pw_below_drewN | apply below_drew1 | refine below_set ?_ GE369.out | refine below_set ?_ GE370.out | refine below_set ?_ GE371.out) | exact HB.out)) hb); clear BK369; clear BK370; clear BK371; clear HB; have HO447 := n0_; have BK369 := n1_; have BK370 := n2_; have BK371 := n3_; have HB := n4_; clear n0_ n1_ n2_ n3_ n4_; clear hb ho208; obtain ⟨Ao209, co209, eo209⟩ := Kd.R_slice HO447.out; subst eo209) | ((with_reducible refine gate_callee (f := 24) rfl ?_); refine goesL_ (some 428) rfl rfl Try.func24 (by kernel_rfl) rfl #[.agg #[.int .i64 a3_0, .int .i64 a3_1], .slice Ao209 y445.length co209] rfl (by (try simp only [List.map_toArray, List.map_cons, List.map_nil]); first | done | rfl | (simp only [List.length_drop, List.length_take]; rfl)) ?_; (with_reducible refine (impl_CountFitting.calls kj113 a3_0 a3_1 _ _ y445 t448 true _ ?side1 ?side2 A188.out).mono ?_); (case side1 => repeat (first | exact (Kd.R_reads' HO447.out).2.2 | (with_reducible refine Kd.C_alloc ?_ _) | (with_reducible refine Kd.C_drewN ?_ _) | (with_reducible refine Kd.C_drew ?_))); (case side2 => exact (Kd.R_reads' HO447.out).2.1); rintro e w210 ⟨rfl, hb⟩; refine ⟨_, rfl, ?_⟩; have n0_ := Aside0.mk (Kd.R_below (by (with_reducible repeat (first | apply Kd.R_alloc | apply Kd.R_drewN | apply Kd.R_drew)); exact HO447.out) hb); have n1_ := Aside0.mk (blk_below (g := gb369) (o := .cells #[.int .i64 a0_0, .int .i64 a0_1] 23 (0, 0)) (by (with_reducible repeat (first | refine blk_drewN ?_ _ | refine blk_drew ?_ | refine blk_alloc ?_ _)); exact BK369.out) hb); have n2_ := Aside0.mk (blk_below (g := gb370) (o := .cells #[.int .i64 a2_0, .int .i64 a2_1] 23 (0, 0)) (by (with_reducible repeat (first | refine blk_drewN ?_ _ | refine blk_drew ?_ | refine blk_alloc ?_ _)); exact BK370.out) hb); have n3_ := Aside0.mk (blk_below (g := gb371) (o := .cells #[.int .i64 a3_0, .int .i64 a3_1] 23 (0, 0)) (by (with_reducible repeat (first | refine blk_drewN ?_ _ | refine blk_drew ?_ | refine blk_alloc ?_ _)); exact BK371.out) hb); have n4_ := Aside0.mk (below_step (by repeat (first | (with_reducible first | exact HB.out | apply below_alloc | apply pw_below_drewN | apply below_drew1 | refine below_set ?_ GE369.out | refine below_set ?_ GE370.out | refine below_set ?_ GE371.out) | exact HB.out)) hb); clear HO447; clear BK369; clear BK370; clear BK371; clear HB; have HO447 := n0_; have BK369 := n1_; have BK370 := n2_; have BK371 := n3_; have HB := n4_; clear n0_ n1_ n2_ n3_ n4_; (try clear hb); (try clear hb2); (try clear hk); (try clear hi)))
                                         go_ret
                                         exact ⟨by first | rfl | (simp [errW_none, errW_some] <;> rfl) | (simp [*, errW_none, errW_some] <;> rfl), by repeat (first | (with_reducible first | exact HB.out | apply below_alloc | apply pw_below_drewN | apply below_drew1 | refine below_set ?_ GE369.out | refine below_set ?_ GE370.out | refine below_set ?_ GE371.out) | exact HB.out)⟩
                                       ·rw [if_neg c191] at H
                                        exact absurd H (by simp)
                                      ·replace c190 := Bool.eq_false_iff.mpr c190
                                       subst c190
                                       have H1 : (none) = some r := by rw [if_neg (show ¬ (false = true) by decide)] at H; exact H
                                       clear H
                                       have H := H1
                                       clear H1
                                       exact absurd H (by simp)
                                     ·replace c189 := Bool.eq_false_iff.mpr c189
                                      subst c189
                                      have H1 : (none) = some r := by rw [if_neg (show ¬ (false = true) by decide)] at H; exact H
                                      clear H
                                      have H := H1
                                      clear H1
                                      exact absurd H (by simp)
                                    ·replace c186 := Bool.eq_false_iff.mpr c186
                                     subst c186
                                     have H1 : (some true) = some r := by rw [if_neg (show ¬ (false = true) by decide)] at H; exact H
                                     clear H
                                     have H := H1
                                     clear H1
                                     obtain rfl := Option.some.inj H
                                     try go_wp2
                                     repeat (go_quiet (fail); try go_wp2)
                                     go_ret
                                     exact ⟨by first | rfl | (simp [errW_none, errW_some] <;> rfl) | (simp [*, errW_none, errW_some] <;> rfl), by repeat (first | (with_reducible first | exact HB.out | apply below_alloc | apply pw_below_drewN | apply below_drew1 | refine below_set ?_ GE369.out | refine below_set ?_ GE370.out | refine below_set ?_ GE371.out) | exact HB.out)⟩
                      ·rw [if_neg c111] at H
                       exact absurd H (by simp)
                    ·replace c109 := Bool.eq_false_iff.mpr c109
                     subst c109
                     have H1 : (none) = some r := by rw [if_neg (show ¬ (false = true) by decide)] at H; exact H
                     clear H
                     have H := H1
                     clear H1
                     exact absurd H (by simp)
                  ·replace c106 := Bool.eq_false_iff.mpr c106
                   subst c106
                   have H1 : (none) = some r := by rw [if_neg (show ¬ (false = true) by decide)] at H; exact H
                   clear H
                   have H := H1
                   clear H1
                   exact absurd H (by simp)
                ·rw [if_neg c103] at H
                 exact absurd H (by simp)
     ·rw [if_neg c19] at H
      exact absurd H (by simp)
   ·replace c17 := Bool.eq_false_iff.mpr c17
    subst c17
    have H1 : (none) = some r := by rw [if_neg (show ¬ (false = true) by decide)] at H; exact H
    clear H
    have H := H1
    clear H1
    exact absurd H (by simp)
end Go.Proofs.Ytcpnmiempaofdaa.A
