-- Printed by hp.py, a program of this session: a machine's side of laws, out of the translation; Lean checks it.
import Derived.Test.YtcpnmiempaofdaaGreatCx0
import Derived.Test.YtcpnmiempaofdaaGreatCx2
import Derived.Test.YtcpnmiempaofdaaGreatCx3
import Derived.Test.YtcpnmiempaofdaaGreatCx5
import Derived.Test.YtcpnmiempaofdaaGreatCx7
import Derived.Test.YtcpnmiempaofdaaGreatCx8
import Derived.Test.YtcpnmiempaofdaaGreatCx9
import Derived.Test.YtcpnmiempaofdaaGreatCx10
import Derived.Test.YtcpnmiempaofdaaGreatCx11
import Derived.Test.YtcpnmiempaofdaaGreatCx12
namespace Go.Proofs.YtcpnmiempaofdaaGreat.C
open Go.RowKit Go.Proofs.YtcpnmiempaofdaaGreatW.PrintWords Go.Proofs.YtcpnmiempaofdaaGreatW.PrintLast Go.Proofs.YtcpnmiempaofdaaGreatW.PrintMore
attribute [local go_sem] max2_int min2_int max_two min_two max_three min_three max_four min_four   -- for this text's walks alone
set_option linter.unusedVariables false
set_option linter.unusedSimpArgs false

/-! ### laws_FnHintsPlayed: function 3 -/
mutual
def laws_FnHintsPlayed.j2 : Nat → List Int → Option (Bool)
 | 0, _ => none
 | k + 1, x1 => (spec_DrawMostGuesses.f x1).bind fun bt458 => ((impl_MostGuesses.f k bt458.1 bt458.2).bind fun bt461 => ((spec_MostGuesses.f k bt458.1 bt458.2).bind fun bt463 => ((impl_HardestCodes.f k bt458.1 bt458.2).bind fun bt465 => ((spec_HardestCodes.f k bt458.1 bt458.2).bind fun bt469 => ((impl_PossibleHints.f k bt458.1 bt458.2).bind fun bt473 => ((spec_PossibleHints.f k bt458.1 bt458.2).bind fun bt477 => ((spec_DrawCountWithHint.f x1).bind fun bt481 => ((impl_CountWithHint.f k bt481.1 bt481.2.1 bt481.2.2.1 bt481.2.2.2).bind fun bt486 => ((spec_CountWithHint.f k bt481.1 bt481.2.1 bt481.2.2.1 bt481.2.2.2).bind fun bt488 => (if (bt461.2 != bt463.2) = true then (none) else (if bt461.1 = bt463.1 then (if (bt465.2 != bt469.2) = true then (none) else ((laws_eTexts.f k bt465.1 bt469.1).bind fun t490 => (if t490 = true then (if (bt473.2 != bt477.2) = true then (none) else ((laws_eRows.f k bt473.1 bt477.1).bind fun t491 => (if t491 = true then (if (bt486.2 != bt488.2) = true then (none) else (if bt486.1 = bt488.1 then (if (bt465.2 != bt461.2) = true then (none) else (if (bt473.2 != bt461.2) = true then (none) else (if bt461.2 = true then (if (bt465.1.length : Int) < 1 then (none) else ((laws_eSorted.f k bt465.1).bind fun t492 => (if t492 = true then (if bt461.1 < 1 then (none) else (laws_FnHintsPlayed.l1 k bt461.1 bt473.1 bt481.2.2.1 bt481.2.2.2 bt486.1 bt486.2 bt465.1 (bt465.1.length : Int) 0 bt458.1 bt458.2 bt481.1 bt481.2.1)) else (none)))) else (laws_FnHintsPlayed.j5 k bt481.2.2.1 bt481.2.2.2 bt486.1 bt486.2 bt481.1 bt481.2.1)))) else (none))) else (none)))) else (none)))) else (none))))))))))))
def laws_FnHintsPlayed.j5 : Nat → Int → Int → Int → Bool → Int → Int → Option (Bool)
 | 0, _, _, _, _, _, _ => none
 | k + 1, x37, x38, x39, x40, x486000, x486001 => if x40 = true then ((impl_ZeroCode.f k x486000 x486001).bind fun bt507 => ((impl_CountFitting.f k x486000 x486001 (([(⟨bt507.1, x37, x38⟩ : S35)] : List (S35)))).bind fun bt512 => (if bt507.2 = true then (if bt512.2 = true then (if bt512.1 = x39 then (if x38 = 0 then (some true) else (some (x39 == 0))) else (none)) else (none)) else (none)))) else (some true)
def laws_FnHintsPlayed.l1 : Nat → Int → List (List Int) → Int → Int → Int → Bool → List ByteArray → Int → Int → Int → Int → Int → Int → Option (Bool)
 | 0, _, _, _, _, _, _, _, _, _, _, _, _, _ => none
 | k + 1, x24, x32, x37, x38, x39, x40, x330, x331, x332, x461000, x461001, x486000, x486001 => if x332 < x331 then (if 0 ≤ x332 then (if x332 < (x330.length : Int) then ((impl_CountGuesses.f k x461000 x461001 (rdOf ByteArray.empty x330 x332)).bind fun bt494 => (if x332 < 5 then (if bt494.2 = true then (if bt494.1 = x24 then (laws_FnHintsPlayed.l1 k x24 x32 x37 x38 x39 x40 x330 x331 (wrap64 (x332 + 1)) x461000 x461001 x486000 x486001) else (none)) else (none)) else (laws_FnHintsPlayed.l1 k x24 x32 x37 x38 x39 x40 x330 x331 (wrap64 (x332 + 1)) x461000 x461001 x486000 x486001))) else (none)) else (none)) else ((impl_ZeroCode.f k x461000 x461001).bind fun bt496 => ((impl_CountGuesses.f k x461000 x461001 bt496.1).bind fun bt498 => (if bt496.2 = true then (if bt498.2 = true then (if bt498.1 > x24 then (none) else (laws_FnHintsPlayed.l2 k x37 x38 x39 x40 x32 (x32.length : Int) 0 x461000 x461001 x486000 x486001)) else (none)) else (none))))
def laws_FnHintsPlayed.l2 : Nat → Int → Int → Int → Bool → List (List Int) → Int → Int → Int → Int → Int → Int → Option (Bool)
 | 0, _, _, _, _, _, _, _, _, _, _, _ => none
 | k + 1, x37, x38, x39, x40, x377, x378, x379, x461000, x461001, x486000, x486001 => if x379 < x378 then (if 0 ≤ x379 then (if x379 < (x377.length : Int) then (if ((rd_L10 x377 x379).length : Int) = 2 then (if 0 < ((rd_L10 x377 x379).length : Int) then (if (rd (rd_L10 x377 x379) 0) < 0 then (none) else (if 1 < ((rd_L10 x377 x379).length : Int) then (if (rd (rd_L10 x377 x379) 1) < 0 then (none) else (if (wrap64 ((rd (rd_L10 x377 x379) 0) + (rd (rd_L10 x377 x379) 1))) > x461000 then (none) else (if (rd (rd_L10 x377 x379) 0) = (wrap64 (x461000 - 1)) then (if (rd (rd_L10 x377 x379) 1) = 1 then (none) else (laws_FnHintsPlayed.l2 k x37 x38 x39 x40 x377 x378 (wrap64 (x379 + 1)) x461000 x461001 x486000 x486001)) else (laws_FnHintsPlayed.l2 k x37 x38 x39 x40 x377 x378 (wrap64 (x379 + 1)) x461000 x461001 x486000 x486001)))) else (none))) else (none)) else (none)) else (none)) else (none)) else (laws_FnHintsPlayed.j5 k x37 x38 x39 x40 x486000 x486001)
def laws_FnHintsPlayed.l0 : Nat → List Int → ByteArray → List (S35) → List (S35) → Int → Int → Int → Int → Option (Bool)
 | 0, _, _, _, _, _, _, _, _ => none
 | k + 1, x1, x6, x7, x144, x145, x146, x428000, x428001 => if x146 < x145 then (if 0 ≤ x146 then (if x146 < (x144.length : Int) then ((impl_HintOf.f k x428000 x428001 ((rd_T35 x144 x146).f0) x6).bind fun bt445 => (if bt445.2.2 = true then (if bt445.1 = ((rd_T35 x144 x146).f1) then (if bt445.2.1 = ((rd_T35 x144 x146).f2) then (if x146 > 0 then (if 0 ≤ (wrap64 (x146 - 1)) then (if (wrap64 (x146 - 1)) < (x7.length : Int) then (laws_FnHintsPlayed.j1 k x1 x6 x7 x146 x144 x145 x146 (!(Op.bytesLess (((rd_T35 x7 (wrap64 (x146 - 1))).f0).toList) (((rd_T35 x144 x146).f0).toList))) x428000 x428001 ((rd_T35 x144 x146).f0) ((rd_T35 x144 x146).f1) ((rd_T35 x144 x146).f2)) else (none)) else (none)) else (laws_FnHintsPlayed.j1 k x1 x6 x7 x146 x144 x145 x146 false x428000 x428001 ((rd_T35 x144 x146).f0) ((rd_T35 x144 x146).f1) ((rd_T35 x144 x146).f2))) else (none)) else (none)) else (none))) else (none)) else (none)) else (laws_FnHintsPlayed.j2 k x1)
def laws_FnHintsPlayed.j1 : Nat → List Int → ByteArray → List (S35) → Int → List (S35) → Int → Int → Bool → Int → Int → ByteArray → Int → Int → Option (Bool)
 | 0, _, _, _, _, _, _, _, _, _, _, _, _, _ => none
 | k + 1, x1, x6, x7, x16, x144, x145, x146, x188, x428000, x428001, x445000, x445001, x445002 => if x188 = true then (none) else (if x16 ≤ 10 then (if 0 ≤ x16 then (if x16 ≤ (x7.length : Int) then ((impl_FittingCodes.f k x428000 x428001 (x7.take (x16 : Int).toNat)).bind fun bt453 => (if bt453.2 = true then (if (bt453.1.length : Int) < 1 then (none) else (if 0 < (bt453.1.length : Int) then (if (rdOf ByteArray.empty bt453.1 0).toList = x445000.toList then (laws_FnHintsPlayed.l0 k x1 x6 x7 x144 x145 (wrap64 (x146 + 1)) x428000 x428001) else (none)) else (none))) else (none))) else (none)) else (none)) else (laws_FnHintsPlayed.l0 k x1 x6 x7 x144 x145 (wrap64 (x146 + 1)) x428000 x428001))
end
def laws_FnHintsPlayed.f (k : Nat) (l0 : List Int) (l1 : List Int) : Option (Bool) := (laws_big.f l0 l1).bind fun t423 => (if t423 = true then (some true) else ((spec_DrawPlayFirst.f k l0).bind fun bt424 => ((impl_PlayFirst.f k bt424.1 bt424.2.1 bt424.2.2).bind fun bt428 => ((spec_PlayFirst.f k bt424.1 bt424.2.1 bt424.2.2).bind fun bt432 => ((impl_CountGuesses.f k bt424.1 bt424.2.1 bt424.2.2).bind fun bt436 => ((spec_CountGuesses.f k bt424.1 bt424.2.1 bt424.2.2).bind fun bt438 => (if (bt428.2 != bt432.2) = true then (none) else ((laws_eHints.f k bt428.1 bt432.1).bind fun t440 => (if t440 = true then (if (bt436.2 != bt438.2) = true then (none) else (if bt436.1 = bt438.1 then (if (bt436.2 != bt428.2) = true then (none) else (if bt428.2 = true then (if (bt428.1.length : Int) = bt436.1 then (if (bt428.1.length : Int) < 1 then (none) else (if 0 ≤ (wrap64 ((bt428.1.length : Int) - 1)) then (if (wrap64 ((bt428.1.length : Int) - 1)) < (bt428.1.length : Int) then (if ((rd_T35 bt428.1 (wrap64 ((bt428.1.length : Int) - 1))).f0).toList = bt424.2.2.toList then (if ((rd_T35 bt428.1 (wrap64 ((bt428.1.length : Int) - 1))).f1) = bt424.1 then (laws_FnHintsPlayed.l0 k l1 bt424.2.2 bt428.1 bt428.1 (bt428.1.length : Int) 0 bt424.1 bt424.2.1) else (none)) else (none)) else (none)) else (none))) else (none)) else (laws_FnHintsPlayed.j2 k l1))) else (none))) else (none))))))))))
theorem laws_FnHintsPlayed.mono_l : ∀ k, (∀ y0, LeO (laws_FnHintsPlayed.j2 k y0) (laws_FnHintsPlayed.j2 (k + 1) y0)) ∧ (∀ y0 y1 y2 y3 y4 y5, LeO (laws_FnHintsPlayed.j5 k y0 y1 y2 y3 y4 y5) (laws_FnHintsPlayed.j5 (k + 1) y0 y1 y2 y3 y4 y5)) ∧ (∀ y0 y1 y2 y3 y4 y5 y6 y7 y8 y9 y10 y11 y12, LeO (laws_FnHintsPlayed.l1 k y0 y1 y2 y3 y4 y5 y6 y7 y8 y9 y10 y11 y12) (laws_FnHintsPlayed.l1 (k + 1) y0 y1 y2 y3 y4 y5 y6 y7 y8 y9 y10 y11 y12)) ∧ (∀ y0 y1 y2 y3 y4 y5 y6 y7 y8 y9 y10, LeO (laws_FnHintsPlayed.l2 k y0 y1 y2 y3 y4 y5 y6 y7 y8 y9 y10) (laws_FnHintsPlayed.l2 (k + 1) y0 y1 y2 y3 y4 y5 y6 y7 y8 y9 y10)) ∧ (∀ y0 y1 y2 y3 y4 y5 y6 y7, LeO (laws_FnHintsPlayed.l0 k y0 y1 y2 y3 y4 y5 y6 y7) (laws_FnHintsPlayed.l0 (k + 1) y0 y1 y2 y3 y4 y5 y6 y7)) ∧ (∀ y0 y1 y2 y3 y4 y5 y6 y7 y8 y9 y10 y11 y12, LeO (laws_FnHintsPlayed.j1 k y0 y1 y2 y3 y4 y5 y6 y7 y8 y9 y10 y11 y12) (laws_FnHintsPlayed.j1 (k + 1) y0 y1 y2 y3 y4 y5 y6 y7 y8 y9 y10 y11 y12))
 | 0 => ⟨fun _ r h => by simp [laws_FnHintsPlayed.j2] at h, fun _ _ _ _ _ _ r h => by simp [laws_FnHintsPlayed.j5] at h, fun _ _ _ _ _ _ _ _ _ _ _ _ _ r h => by simp [laws_FnHintsPlayed.l1] at h, fun _ _ _ _ _ _ _ _ _ _ _ r h => by simp [laws_FnHintsPlayed.l2] at h, fun _ _ _ _ _ _ _ _ r h => by simp [laws_FnHintsPlayed.l0] at h, fun _ _ _ _ _ _ _ _ _ _ _ _ _ r h => by simp [laws_FnHintsPlayed.j1] at h⟩
 | k + 1 => by
  obtain ⟨ih0, ih1, ih2, ih3, ih4, ih5⟩ := laws_FnHintsPlayed.mono_l k
  refine ⟨?_, ?_, ?_, ?_, ?_, ?_⟩
  ·intro y0
   unfold laws_FnHintsPlayed.j2
   repeat' first
   | (with_reducible exact ih0 _)
   | (with_reducible exact ih1 _ _ _ _ _ _)
   | (with_reducible exact ih2 _ _ _ _ _ _ _ _ _ _ _ _ _)
   | (with_reducible exact ih3 _ _ _ _ _ _ _ _ _ _ _)
   | (with_reducible exact ih4 _ _ _ _ _ _ _ _)
   | (with_reducible exact ih5 _ _ _ _ _ _ _ _ _ _ _ _ _)
   | (with_reducible exact impl_CountFitting.mono _ _ _ _)
   | (with_reducible exact impl_CountGuesses.mono _ _ _ _)
   | (with_reducible exact impl_CountWithHint.mono _ _ _ _ _)
   | (with_reducible exact impl_FittingCodes.mono _ _ _ _)
   | (with_reducible exact impl_HardestCodes.mono _ _ _)
   | (with_reducible exact impl_HintOf.mono _ _ _ _ _)
   | (with_reducible exact impl_MostGuesses.mono _ _ _)
   | (with_reducible exact impl_PlayFirst.mono _ _ _ _)
   | (with_reducible exact impl_PossibleHints.mono _ _ _)
   | (with_reducible exact impl_ZeroCode.mono _ _ _)
   | (with_reducible exact laws_eHints.mono _ _ _)
   | (with_reducible exact laws_eRows.mono _ _ _)
   | (with_reducible exact laws_eSorted.mono _ _)
   | (with_reducible exact laws_eTexts.mono _ _ _)
   | (with_reducible exact spec_CountGuesses.mono _ _ _ _)
   | (with_reducible exact spec_CountWithHint.mono _ _ _ _ _)
   | (with_reducible exact spec_DrawPlayFirst.mono _ _)
   | (with_reducible exact spec_HardestCodes.mono _ _ _)
   | (with_reducible exact spec_MostGuesses.mono _ _ _)
   | (with_reducible exact spec_PlayFirst.mono _ _ _ _)
   | (with_reducible exact spec_PossibleHints.mono _ _ _)
   | (with_reducible exact LeO.refl _)
   | (with_reducible exact LeO.none _)
   | (with_reducible refine LeO.ite ?_ ?_)
   | (with_reducible refine LeO.bind ?_ (fun _ => ?_))
   | exact ih0 _
   | exact ih1 _ _ _ _ _ _
   | exact ih2 _ _ _ _ _ _ _ _ _ _ _ _ _
   | exact ih3 _ _ _ _ _ _ _ _ _ _ _
   | exact ih4 _ _ _ _ _ _ _ _
   | exact ih5 _ _ _ _ _ _ _ _ _ _ _ _ _
   | exact impl_CountFitting.mono _ _ _ _
   | exact impl_CountGuesses.mono _ _ _ _
   | exact impl_CountWithHint.mono _ _ _ _ _
   | exact impl_FittingCodes.mono _ _ _ _
   | exact impl_HardestCodes.mono _ _ _
   | exact impl_HintOf.mono _ _ _ _ _
   | exact impl_MostGuesses.mono _ _ _
   | exact impl_PlayFirst.mono _ _ _ _
   | exact impl_PossibleHints.mono _ _ _
   | exact impl_ZeroCode.mono _ _ _
   | exact laws_eHints.mono _ _ _
   | exact laws_eRows.mono _ _ _
   | exact laws_eSorted.mono _ _
   | exact laws_eTexts.mono _ _ _
   | exact spec_CountGuesses.mono _ _ _ _
   | exact spec_CountWithHint.mono _ _ _ _ _
   | exact spec_DrawPlayFirst.mono _ _
   | exact spec_HardestCodes.mono _ _ _
   | exact spec_MostGuesses.mono _ _ _
   | exact spec_PlayFirst.mono _ _ _ _
   | exact spec_PossibleHints.mono _ _ _
   | exact LeO.none _
   | refine LeO.ite ?_ ?_
   | refine LeO.bind ?_ (fun _ => ?_)
  ·intro y0 y1 y2 y3 y4 y5
   unfold laws_FnHintsPlayed.j5
   repeat' first
   | (with_reducible exact ih0 _)
   | (with_reducible exact ih1 _ _ _ _ _ _)
   | (with_reducible exact ih2 _ _ _ _ _ _ _ _ _ _ _ _ _)
   | (with_reducible exact ih3 _ _ _ _ _ _ _ _ _ _ _)
   | (with_reducible exact ih4 _ _ _ _ _ _ _ _)
   | (with_reducible exact ih5 _ _ _ _ _ _ _ _ _ _ _ _ _)
   | (with_reducible exact impl_CountFitting.mono _ _ _ _)
   | (with_reducible exact impl_CountGuesses.mono _ _ _ _)
   | (with_reducible exact impl_CountWithHint.mono _ _ _ _ _)
   | (with_reducible exact impl_FittingCodes.mono _ _ _ _)
   | (with_reducible exact impl_HardestCodes.mono _ _ _)
   | (with_reducible exact impl_HintOf.mono _ _ _ _ _)
   | (with_reducible exact impl_MostGuesses.mono _ _ _)
   | (with_reducible exact impl_PlayFirst.mono _ _ _ _)
   | (with_reducible exact impl_PossibleHints.mono _ _ _)
   | (with_reducible exact impl_ZeroCode.mono _ _ _)
   | (with_reducible exact laws_eHints.mono _ _ _)
   | (with_reducible exact laws_eRows.mono _ _ _)
   | (with_reducible exact laws_eSorted.mono _ _)
   | (with_reducible exact laws_eTexts.mono _ _ _)
   | (with_reducible exact spec_CountGuesses.mono _ _ _ _)
   | (with_reducible exact spec_CountWithHint.mono _ _ _ _ _)
   | (with_reducible exact spec_DrawPlayFirst.mono _ _)
   | (with_reducible exact spec_HardestCodes.mono _ _ _)
   | (with_reducible exact spec_MostGuesses.mono _ _ _)
   | (with_reducible exact spec_PlayFirst.mono _ _ _ _)
   | (with_reducible exact spec_PossibleHints.mono _ _ _)
   | (with_reducible exact LeO.refl _)
   | (with_reducible exact LeO.none _)
   | (with_reducible refine LeO.ite ?_ ?_)
   | (with_reducible refine LeO.bind ?_ (fun _ => ?_))
   | exact ih0 _
   | exact ih1 _ _ _ _ _ _
   | exact ih2 _ _ _ _ _ _ _ _ _ _ _ _ _
   | exact ih3 _ _ _ _ _ _ _ _ _ _ _
   | exact ih4 _ _ _ _ _ _ _ _
   | exact ih5 _ _ _ _ _ _ _ _ _ _ _ _ _
   | exact impl_CountFitting.mono _ _ _ _
   | exact impl_CountGuesses.mono _ _ _ _
   | exact impl_CountWithHint.mono _ _ _ _ _
   | exact impl_FittingCodes.mono _ _ _ _
   | exact impl_HardestCodes.mono _ _ _
   | exact impl_HintOf.mono _ _ _ _ _
   | exact impl_MostGuesses.mono _ _ _
   | exact impl_PlayFirst.mono _ _ _ _
   | exact impl_PossibleHints.mono _ _ _
   | exact impl_ZeroCode.mono _ _ _
   | exact laws_eHints.mono _ _ _
   | exact laws_eRows.mono _ _ _
   | exact laws_eSorted.mono _ _
   | exact laws_eTexts.mono _ _ _
   | exact spec_CountGuesses.mono _ _ _ _
   | exact spec_CountWithHint.mono _ _ _ _ _
   | exact spec_DrawPlayFirst.mono _ _
   | exact spec_HardestCodes.mono _ _ _
   | exact spec_MostGuesses.mono _ _ _
   | exact spec_PlayFirst.mono _ _ _ _
   | exact spec_PossibleHints.mono _ _ _
   | exact LeO.none _
   | refine LeO.ite ?_ ?_
   | refine LeO.bind ?_ (fun _ => ?_)
  ·intro y0 y1 y2 y3 y4 y5 y6 y7 y8 y9 y10 y11 y12
   unfold laws_FnHintsPlayed.l1
   repeat' first
   | (with_reducible exact ih0 _)
   | (with_reducible exact ih1 _ _ _ _ _ _)
   | (with_reducible exact ih2 _ _ _ _ _ _ _ _ _ _ _ _ _)
   | (with_reducible exact ih3 _ _ _ _ _ _ _ _ _ _ _)
   | (with_reducible exact ih4 _ _ _ _ _ _ _ _)
   | (with_reducible exact ih5 _ _ _ _ _ _ _ _ _ _ _ _ _)
   | (with_reducible exact impl_CountFitting.mono _ _ _ _)
   | (with_reducible exact impl_CountGuesses.mono _ _ _ _)
   | (with_reducible exact impl_CountWithHint.mono _ _ _ _ _)
   | (with_reducible exact impl_FittingCodes.mono _ _ _ _)
   | (with_reducible exact impl_HardestCodes.mono _ _ _)
   | (with_reducible exact impl_HintOf.mono _ _ _ _ _)
   | (with_reducible exact impl_MostGuesses.mono _ _ _)
   | (with_reducible exact impl_PlayFirst.mono _ _ _ _)
   | (with_reducible exact impl_PossibleHints.mono _ _ _)
   | (with_reducible exact impl_ZeroCode.mono _ _ _)
   | (with_reducible exact laws_eHints.mono _ _ _)
   | (with_reducible exact laws_eRows.mono _ _ _)
   | (with_reducible exact laws_eSorted.mono _ _)
   | (with_reducible exact laws_eTexts.mono _ _ _)
   | (with_reducible exact spec_CountGuesses.mono _ _ _ _)
   | (with_reducible exact spec_CountWithHint.mono _ _ _ _ _)
   | (with_reducible exact spec_DrawPlayFirst.mono _ _)
   | (with_reducible exact spec_HardestCodes.mono _ _ _)
   | (with_reducible exact spec_MostGuesses.mono _ _ _)
   | (with_reducible exact spec_PlayFirst.mono _ _ _ _)
   | (with_reducible exact spec_PossibleHints.mono _ _ _)
   | (with_reducible exact LeO.refl _)
   | (with_reducible exact LeO.none _)
   | (with_reducible refine LeO.ite ?_ ?_)
   | (with_reducible refine LeO.bind ?_ (fun _ => ?_))
   | exact ih0 _
   | exact ih1 _ _ _ _ _ _
   | exact ih2 _ _ _ _ _ _ _ _ _ _ _ _ _
   | exact ih3 _ _ _ _ _ _ _ _ _ _ _
   | exact ih4 _ _ _ _ _ _ _ _
   | exact ih5 _ _ _ _ _ _ _ _ _ _ _ _ _
   | exact impl_CountFitting.mono _ _ _ _
   | exact impl_CountGuesses.mono _ _ _ _
   | exact impl_CountWithHint.mono _ _ _ _ _
   | exact impl_FittingCodes.mono _ _ _ _
   | exact impl_HardestCodes.mono _ _ _
   | exact impl_HintOf.mono _ _ _ _ _
   | exact impl_MostGuesses.mono _ _ _
   | exact impl_PlayFirst.mono _ _ _ _
   | exact impl_PossibleHints.mono _ _ _
   | exact impl_ZeroCode.mono _ _ _
   | exact laws_eHints.mono _ _ _
   | exact laws_eRows.mono _ _ _
   | exact laws_eSorted.mono _ _
   | exact laws_eTexts.mono _ _ _
   | exact spec_CountGuesses.mono _ _ _ _
   | exact spec_CountWithHint.mono _ _ _ _ _
   | exact spec_DrawPlayFirst.mono _ _
   | exact spec_HardestCodes.mono _ _ _
   | exact spec_MostGuesses.mono _ _ _
   | exact spec_PlayFirst.mono _ _ _ _
   | exact spec_PossibleHints.mono _ _ _
   | exact LeO.none _
   | refine LeO.ite ?_ ?_
   | refine LeO.bind ?_ (fun _ => ?_)
  ·intro y0 y1 y2 y3 y4 y5 y6 y7 y8 y9 y10
   unfold laws_FnHintsPlayed.l2
   repeat' first
   | (with_reducible exact ih0 _)
   | (with_reducible exact ih1 _ _ _ _ _ _)
   | (with_reducible exact ih2 _ _ _ _ _ _ _ _ _ _ _ _ _)
   | (with_reducible exact ih3 _ _ _ _ _ _ _ _ _ _ _)
   | (with_reducible exact ih4 _ _ _ _ _ _ _ _)
   | (with_reducible exact ih5 _ _ _ _ _ _ _ _ _ _ _ _ _)
   | (with_reducible exact impl_CountFitting.mono _ _ _ _)
   | (with_reducible exact impl_CountGuesses.mono _ _ _ _)
   | (with_reducible exact impl_CountWithHint.mono _ _ _ _ _)
   | (with_reducible exact impl_FittingCodes.mono _ _ _ _)
   | (with_reducible exact impl_HardestCodes.mono _ _ _)
   | (with_reducible exact impl_HintOf.mono _ _ _ _ _)
   | (with_reducible exact impl_MostGuesses.mono _ _ _)
   | (with_reducible exact impl_PlayFirst.mono _ _ _ _)
   | (with_reducible exact impl_PossibleHints.mono _ _ _)
   | (with_reducible exact impl_ZeroCode.mono _ _ _)
   | (with_reducible exact laws_eHints.mono _ _ _)
   | (with_reducible exact laws_eRows.mono _ _ _)
   | (with_reducible exact laws_eSorted.mono _ _)
   | (with_reducible exact laws_eTexts.mono _ _ _)
   | (with_reducible exact spec_CountGuesses.mono _ _ _ _)
   | (with_reducible exact spec_CountWithHint.mono _ _ _ _ _)
   | (with_reducible exact spec_DrawPlayFirst.mono _ _)
   | (with_reducible exact spec_HardestCodes.mono _ _ _)
   | (with_reducible exact spec_MostGuesses.mono _ _ _)
   | (with_reducible exact spec_PlayFirst.mono _ _ _ _)
   | (with_reducible exact spec_PossibleHints.mono _ _ _)
   | (with_reducible exact LeO.refl _)
   | (with_reducible exact LeO.none _)
   | (with_reducible refine LeO.ite ?_ ?_)
   | (with_reducible refine LeO.bind ?_ (fun _ => ?_))
   | exact ih0 _
   | exact ih1 _ _ _ _ _ _
   | exact ih2 _ _ _ _ _ _ _ _ _ _ _ _ _
   | exact ih3 _ _ _ _ _ _ _ _ _ _ _
   | exact ih4 _ _ _ _ _ _ _ _
   | exact ih5 _ _ _ _ _ _ _ _ _ _ _ _ _
   | exact impl_CountFitting.mono _ _ _ _
   | exact impl_CountGuesses.mono _ _ _ _
   | exact impl_CountWithHint.mono _ _ _ _ _
   | exact impl_FittingCodes.mono _ _ _ _
   | exact impl_HardestCodes.mono _ _ _
   | exact impl_HintOf.mono _ _ _ _ _
   | exact impl_MostGuesses.mono _ _ _
   | exact impl_PlayFirst.mono _ _ _ _
   | exact impl_PossibleHints.mono _ _ _
   | exact impl_ZeroCode.mono _ _ _
   | exact laws_eHints.mono _ _ _
   | exact laws_eRows.mono _ _ _
   | exact laws_eSorted.mono _ _
   | exact laws_eTexts.mono _ _ _
   | exact spec_CountGuesses.mono _ _ _ _
   | exact spec_CountWithHint.mono _ _ _ _ _
   | exact spec_DrawPlayFirst.mono _ _
   | exact spec_HardestCodes.mono _ _ _
   | exact spec_MostGuesses.mono _ _ _
   | exact spec_PlayFirst.mono _ _ _ _
   | exact spec_PossibleHints.mono _ _ _
   | exact LeO.none _
   | refine LeO.ite ?_ ?_
   | refine LeO.bind ?_ (fun _ => ?_)
  ·intro y0 y1 y2 y3 y4 y5 y6 y7
   unfold laws_FnHintsPlayed.l0
   repeat' first
   | (with_reducible exact ih0 _)
   | (with_reducible exact ih1 _ _ _ _ _ _)
   | (with_reducible exact ih2 _ _ _ _ _ _ _ _ _ _ _ _ _)
   | (with_reducible exact ih3 _ _ _ _ _ _ _ _ _ _ _)
   | (with_reducible exact ih4 _ _ _ _ _ _ _ _)
   | (with_reducible exact ih5 _ _ _ _ _ _ _ _ _ _ _ _ _)
   | (with_reducible exact impl_CountFitting.mono _ _ _ _)
   | (with_reducible exact impl_CountGuesses.mono _ _ _ _)
   | (with_reducible exact impl_CountWithHint.mono _ _ _ _ _)
   | (with_reducible exact impl_FittingCodes.mono _ _ _ _)
   | (with_reducible exact impl_HardestCodes.mono _ _ _)
   | (with_reducible exact impl_HintOf.mono _ _ _ _ _)
   | (with_reducible exact impl_MostGuesses.mono _ _ _)
   | (with_reducible exact impl_PlayFirst.mono _ _ _ _)
   | (with_reducible exact impl_PossibleHints.mono _ _ _)
   | (with_reducible exact impl_ZeroCode.mono _ _ _)
   | (with_reducible exact laws_eHints.mono _ _ _)
   | (with_reducible exact laws_eRows.mono _ _ _)
   | (with_reducible exact laws_eSorted.mono _ _)
   | (with_reducible exact laws_eTexts.mono _ _ _)
   | (with_reducible exact spec_CountGuesses.mono _ _ _ _)
   | (with_reducible exact spec_CountWithHint.mono _ _ _ _ _)
   | (with_reducible exact spec_DrawPlayFirst.mono _ _)
   | (with_reducible exact spec_HardestCodes.mono _ _ _)
   | (with_reducible exact spec_MostGuesses.mono _ _ _)
   | (with_reducible exact spec_PlayFirst.mono _ _ _ _)
   | (with_reducible exact spec_PossibleHints.mono _ _ _)
   | (with_reducible exact LeO.refl _)
   | (with_reducible exact LeO.none _)
   | (with_reducible refine LeO.ite ?_ ?_)
   | (with_reducible refine LeO.bind ?_ (fun _ => ?_))
   | exact ih0 _
   | exact ih1 _ _ _ _ _ _
   | exact ih2 _ _ _ _ _ _ _ _ _ _ _ _ _
   | exact ih3 _ _ _ _ _ _ _ _ _ _ _
   | exact ih4 _ _ _ _ _ _ _ _
   | exact ih5 _ _ _ _ _ _ _ _ _ _ _ _ _
   | exact impl_CountFitting.mono _ _ _ _
   | exact impl_CountGuesses.mono _ _ _ _
   | exact impl_CountWithHint.mono _ _ _ _ _
   | exact impl_FittingCodes.mono _ _ _ _
   | exact impl_HardestCodes.mono _ _ _
   | exact impl_HintOf.mono _ _ _ _ _
   | exact impl_MostGuesses.mono _ _ _
   | exact impl_PlayFirst.mono _ _ _ _
   | exact impl_PossibleHints.mono _ _ _
   | exact impl_ZeroCode.mono _ _ _
   | exact laws_eHints.mono _ _ _
   | exact laws_eRows.mono _ _ _
   | exact laws_eSorted.mono _ _
   | exact laws_eTexts.mono _ _ _
   | exact spec_CountGuesses.mono _ _ _ _
   | exact spec_CountWithHint.mono _ _ _ _ _
   | exact spec_DrawPlayFirst.mono _ _
   | exact spec_HardestCodes.mono _ _ _
   | exact spec_MostGuesses.mono _ _ _
   | exact spec_PlayFirst.mono _ _ _ _
   | exact spec_PossibleHints.mono _ _ _
   | exact LeO.none _
   | refine LeO.ite ?_ ?_
   | refine LeO.bind ?_ (fun _ => ?_)
  ·intro y0 y1 y2 y3 y4 y5 y6 y7 y8 y9 y10 y11 y12
   unfold laws_FnHintsPlayed.j1
   repeat' first
   | (with_reducible exact ih0 _)
   | (with_reducible exact ih1 _ _ _ _ _ _)
   | (with_reducible exact ih2 _ _ _ _ _ _ _ _ _ _ _ _ _)
   | (with_reducible exact ih3 _ _ _ _ _ _ _ _ _ _ _)
   | (with_reducible exact ih4 _ _ _ _ _ _ _ _)
   | (with_reducible exact ih5 _ _ _ _ _ _ _ _ _ _ _ _ _)
   | (with_reducible exact impl_CountFitting.mono _ _ _ _)
   | (with_reducible exact impl_CountGuesses.mono _ _ _ _)
   | (with_reducible exact impl_CountWithHint.mono _ _ _ _ _)
   | (with_reducible exact impl_FittingCodes.mono _ _ _ _)
   | (with_reducible exact impl_HardestCodes.mono _ _ _)
   | (with_reducible exact impl_HintOf.mono _ _ _ _ _)
   | (with_reducible exact impl_MostGuesses.mono _ _ _)
   | (with_reducible exact impl_PlayFirst.mono _ _ _ _)
   | (with_reducible exact impl_PossibleHints.mono _ _ _)
   | (with_reducible exact impl_ZeroCode.mono _ _ _)
   | (with_reducible exact laws_eHints.mono _ _ _)
   | (with_reducible exact laws_eRows.mono _ _ _)
   | (with_reducible exact laws_eSorted.mono _ _)
   | (with_reducible exact laws_eTexts.mono _ _ _)
   | (with_reducible exact spec_CountGuesses.mono _ _ _ _)
   | (with_reducible exact spec_CountWithHint.mono _ _ _ _ _)
   | (with_reducible exact spec_DrawPlayFirst.mono _ _)
   | (with_reducible exact spec_HardestCodes.mono _ _ _)
   | (with_reducible exact spec_MostGuesses.mono _ _ _)
   | (with_reducible exact spec_PlayFirst.mono _ _ _ _)
   | (with_reducible exact spec_PossibleHints.mono _ _ _)
   | (with_reducible exact LeO.refl _)
   | (with_reducible exact LeO.none _)
   | (with_reducible refine LeO.ite ?_ ?_)
   | (with_reducible refine LeO.bind ?_ (fun _ => ?_))
   | exact ih0 _
   | exact ih1 _ _ _ _ _ _
   | exact ih2 _ _ _ _ _ _ _ _ _ _ _ _ _
   | exact ih3 _ _ _ _ _ _ _ _ _ _ _
   | exact ih4 _ _ _ _ _ _ _ _
   | exact ih5 _ _ _ _ _ _ _ _ _ _ _ _ _
   | exact impl_CountFitting.mono _ _ _ _
   | exact impl_CountGuesses.mono _ _ _ _
   | exact impl_CountWithHint.mono _ _ _ _ _
   | exact impl_FittingCodes.mono _ _ _ _
   | exact impl_HardestCodes.mono _ _ _
   | exact impl_HintOf.mono _ _ _ _ _
   | exact impl_MostGuesses.mono _ _ _
   | exact impl_PlayFirst.mono _ _ _ _
   | exact impl_PossibleHints.mono _ _ _
   | exact impl_ZeroCode.mono _ _ _
   | exact laws_eHints.mono _ _ _
   | exact laws_eRows.mono _ _ _
   | exact laws_eSorted.mono _ _
   | exact laws_eTexts.mono _ _ _
   | exact spec_CountGuesses.mono _ _ _ _
   | exact spec_CountWithHint.mono _ _ _ _ _
   | exact spec_DrawPlayFirst.mono _ _
   | exact spec_HardestCodes.mono _ _ _
   | exact spec_MostGuesses.mono _ _ _
   | exact spec_PlayFirst.mono _ _ _ _
   | exact spec_PossibleHints.mono _ _ _
   | exact LeO.none _
   | refine LeO.ite ?_ ?_
   | refine LeO.bind ?_ (fun _ => ?_)
theorem laws_FnHintsPlayed.mono : ∀ a0 a1 k, LeO (laws_FnHintsPlayed.f k a0 a1) (laws_FnHintsPlayed.f (k + 1) a0 a1) := by
 intro a0 a1 k
 obtain ⟨ih0, ih1, ih2, ih3, ih4, ih5⟩ := laws_FnHintsPlayed.mono_l k
 unfold laws_FnHintsPlayed.f
 repeat' first
   | (with_reducible exact ih0 _)
   | (with_reducible exact ih1 _ _ _ _ _ _)
   | (with_reducible exact ih2 _ _ _ _ _ _ _ _ _ _ _ _ _)
   | (with_reducible exact ih3 _ _ _ _ _ _ _ _ _ _ _)
   | (with_reducible exact ih4 _ _ _ _ _ _ _ _)
   | (with_reducible exact ih5 _ _ _ _ _ _ _ _ _ _ _ _ _)
   | (with_reducible exact impl_CountFitting.mono _ _ _ _)
   | (with_reducible exact impl_CountGuesses.mono _ _ _ _)
   | (with_reducible exact impl_CountWithHint.mono _ _ _ _ _)
   | (with_reducible exact impl_FittingCodes.mono _ _ _ _)
   | (with_reducible exact impl_HardestCodes.mono _ _ _)
   | (with_reducible exact impl_HintOf.mono _ _ _ _ _)
   | (with_reducible exact impl_MostGuesses.mono _ _ _)
   | (with_reducible exact impl_PlayFirst.mono _ _ _ _)
   | (with_reducible exact impl_PossibleHints.mono _ _ _)
   | (with_reducible exact impl_ZeroCode.mono _ _ _)
   | (with_reducible exact laws_eHints.mono _ _ _)
   | (with_reducible exact laws_eRows.mono _ _ _)
   | (with_reducible exact laws_eSorted.mono _ _)
   | (with_reducible exact laws_eTexts.mono _ _ _)
   | (with_reducible exact spec_CountGuesses.mono _ _ _ _)
   | (with_reducible exact spec_CountWithHint.mono _ _ _ _ _)
   | (with_reducible exact spec_DrawPlayFirst.mono _ _)
   | (with_reducible exact spec_HardestCodes.mono _ _ _)
   | (with_reducible exact spec_MostGuesses.mono _ _ _)
   | (with_reducible exact spec_PlayFirst.mono _ _ _ _)
   | (with_reducible exact spec_PossibleHints.mono _ _ _)
   | (with_reducible exact LeO.refl _)
   | (with_reducible exact LeO.none _)
   | (with_reducible refine LeO.ite ?_ ?_)
   | (with_reducible refine LeO.bind ?_ (fun _ => ?_))
   | exact ih0 _
   | exact ih1 _ _ _ _ _ _
   | exact ih2 _ _ _ _ _ _ _ _ _ _ _ _ _
   | exact ih3 _ _ _ _ _ _ _ _ _ _ _
   | exact ih4 _ _ _ _ _ _ _ _
   | exact ih5 _ _ _ _ _ _ _ _ _ _ _ _ _
   | exact impl_CountFitting.mono _ _ _ _
   | exact impl_CountGuesses.mono _ _ _ _
   | exact impl_CountWithHint.mono _ _ _ _ _
   | exact impl_FittingCodes.mono _ _ _ _
   | exact impl_HardestCodes.mono _ _ _
   | exact impl_HintOf.mono _ _ _ _ _
   | exact impl_MostGuesses.mono _ _ _
   | exact impl_PlayFirst.mono _ _ _ _
   | exact impl_PossibleHints.mono _ _ _
   | exact impl_ZeroCode.mono _ _ _
   | exact laws_eHints.mono _ _ _
   | exact laws_eRows.mono _ _ _
   | exact laws_eSorted.mono _ _
   | exact laws_eTexts.mono _ _ _
   | exact spec_CountGuesses.mono _ _ _ _
   | exact spec_CountWithHint.mono _ _ _ _ _
   | exact spec_DrawPlayFirst.mono _ _
   | exact spec_HardestCodes.mono _ _ _
   | exact spec_MostGuesses.mono _ _ _
   | exact spec_PlayFirst.mono _ _ _ _
   | exact spec_PossibleHints.mono _ _ _
   | exact LeO.none _
   | refine LeO.ite ?_ ?_
   | refine LeO.bind ?_ (fun _ => ?_)
def laws_FnHintsPlayed.T21 : Bool × List (List Nat × List Nat) := (true, [([], []), ([], []), ([], []), ([1, 2], [1, 2]), ([0, 3], [0, 3]), ([4], [4]), ([5], [5]), ([5], [5]), ([6, 4, 0, 1, 2, 3, 4, 5, 6], [6]), ([7, 8, 0, 1, 2, 3, 4, 5, 6, 7, 8], [7])])
def laws_FnHintsPlayed.B21 : List Nat := [0, 0, 0, 6, 15, 31, 63, 63, 127, 511]
theorem laws_FnHintsPlayed.tab21 : rtab .any (opsOf Tryz.f3 21) = laws_FnHintsPlayed.T21 := by kernel_rfl
theorem laws_FnHintsPlayed.bits21 : waitsOk laws_FnHintsPlayed.T21.2 laws_FnHintsPlayed.B21 = true := by kernel_rfl
set_option maxHeartbeats 8000000 in
set_option maxRecDepth 100000 in
theorem laws_FnHintsPlayed.calls (k : Nat) (A0 : Option Addr) (c0 : Nat) (l0 : List Int) (A1 : Option Addr) (c1 : Nat) (l1 : List Int) (r : Bool) (w : World) (hr0 : Kd.C (Kd.int .u8) w A0 l0.length l0) (hc0 : l0.length ≤ c0) (hr1 : Kd.C (Kd.int .u8) w A1 l1.length l1) (hc1 : l1.length ≤ c1) (h : laws_FnHintsPlayed.f k l0 l1 = some r) :
  Calls Tryz.prog 3 #[.slice A0 l0.length c0, .slice A1 l1.length c1] w fun e w' => e = .returned (.bool r) ∧ Below w.heap.size w w' := by
 have hu25 := Tryz.underlying25
 have hu35 := Tryz.underlying35
 have HR0 := Aside0.mk hr0
 have HC0 := Aside0.mk hc0
 clear hr0 hc0
 have HR1 := Aside0.mk hr1
 have HC1 := Aside0.mk hc1
 clear hr1 hc1
 have HB := Aside0.mk (Below.refl w.heap.size w)
 have H : ((laws_big.f l0 l1).bind fun t423 => (if t423 = true then (some true) else ((spec_DrawPlayFirst.f k l0).bind fun bt424 => ((impl_PlayFirst.f k bt424.1 bt424.2.1 bt424.2.2).bind fun bt428 => ((spec_PlayFirst.f k bt424.1 bt424.2.1 bt424.2.2).bind fun bt432 => ((impl_CountGuesses.f k bt424.1 bt424.2.1 bt424.2.2).bind fun bt436 => ((spec_CountGuesses.f k bt424.1 bt424.2.1 bt424.2.2).bind fun bt438 => (if (bt428.2 != bt432.2) = true then (none) else ((laws_eHints.f k bt428.1 bt432.1).bind fun t440 => (if t440 = true then (if (bt436.2 != bt438.2) = true then (none) else (if bt436.1 = bt438.1 then (if (bt436.2 != bt428.2) = true then (none) else (if bt428.2 = true then (if (bt428.1.length : Int) = bt436.1 then (if (bt428.1.length : Int) < 1 then (none) else (if 0 ≤ (wrap64 ((bt428.1.length : Int) - 1)) then (if (wrap64 ((bt428.1.length : Int) - 1)) < (bt428.1.length : Int) then (if ((rd_T35 bt428.1 (wrap64 ((bt428.1.length : Int) - 1))).f0).toList = bt424.2.2.toList then (if ((rd_T35 bt428.1 (wrap64 ((bt428.1.length : Int) - 1))).f1) = bt424.1 then (laws_FnHintsPlayed.l0 k l1 bt424.2.2 bt428.1 bt428.1 (bt428.1.length : Int) 0 bt424.1 bt424.2.1) else (none)) else (none)) else (none)) else (none))) else (none)) else (laws_FnHintsPlayed.j2 k l1))) else (none))) else (none))))))))))) = some r := h
 clear h
 replace H := Option.bind_eq_some_iff.mp H
 obtain ⟨t423, A30, H⟩ := H
 (try dsimp only at H)
 have A3 := Aside0.mk A30
 clear A30
 by_cases c4 : t423 = true
 ·subst c4
  have H1 : (some true) = some r := by rw [if_pos rfl] at H; exact H
  clear H
  have H := H1
  clear H1
  obtain rfl := Option.some.inj H
  go_enter Tryz.func3, Tryz.ntmps3
  try go_wp2_with (first | ((with_reducible refine gate_callee (f := 5) rfl ?_); refine goesL_ (some 59) rfl rfl Tryz.func5 (by kernel_rfl) rfl #[.slice A0 l0.length c0, .slice A1 l1.length c1] rfl lM ?_; (with_reducible refine (laws_big.calls _ _ l0 _ _ l1 true _ ?side1 ?side2 ?side3 ?side4 A3.out).mono ?_); (case side1 => repeat (first | exact HR0.out | (with_reducible refine Kd.C_alloc ?_ _) | (with_reducible refine Kd.C_drewN ?_ _) | (with_reducible refine Kd.C_drew ?_))); (case side2 => exact HC0.out); (case side3 => repeat (first | exact HR1.out | (with_reducible refine Kd.C_alloc ?_ _) | (with_reducible refine Kd.C_drewN ?_ _) | (with_reducible refine Kd.C_drew ?_))); (case side4 => exact HC1.out); rintro e w' ⟨rfl, ⟨nd, rfl⟩⟩; refine ⟨_, rfl, ?_⟩))
  go_ret
  exact ⟨by first | rfl | (simp [errW_none, errW_some] <;> rfl) | (simp [*, errW_none, errW_some] <;> rfl), bB⟩
 ·replace c4 := Bool.eq_false_iff.mpr c4
  subst c4
  have H1 : ((spec_DrawPlayFirst.f k l0).bind fun bt424 => ((impl_PlayFirst.f k bt424.1 bt424.2.1 bt424.2.2).bind fun bt428 => ((spec_PlayFirst.f k bt424.1 bt424.2.1 bt424.2.2).bind fun bt432 => ((impl_CountGuesses.f k bt424.1 bt424.2.1 bt424.2.2).bind fun bt436 => ((spec_CountGuesses.f k bt424.1 bt424.2.1 bt424.2.2).bind fun bt438 => (if (bt428.2 != bt432.2) = true then (none) else ((laws_eHints.f k bt428.1 bt432.1).bind fun t440 => (if t440 = true then (if (bt436.2 != bt438.2) = true then (none) else (if bt436.1 = bt438.1 then (if (bt436.2 != bt428.2) = true then (none) else (if bt428.2 = true then (if (bt428.1.length : Int) = bt436.1 then (if (bt428.1.length : Int) < 1 then (none) else (if 0 ≤ (wrap64 ((bt428.1.length : Int) - 1)) then (if (wrap64 ((bt428.1.length : Int) - 1)) < (bt428.1.length : Int) then (if ((rd_T35 bt428.1 (wrap64 ((bt428.1.length : Int) - 1))).f0).toList = bt424.2.2.toList then (if ((rd_T35 bt428.1 (wrap64 ((bt428.1.length : Int) - 1))).f1) = bt424.1 then (laws_FnHintsPlayed.l0 k l1 bt424.2.2 bt428.1 bt428.1 (bt428.1.length : Int) 0 bt424.1 bt424.2.1) else (none)) else (none)) else (none)) else (none))) else (none)) else (laws_FnHintsPlayed.j2 k l1))) else (none))) else (none))))))))) = some r := by rw [if_neg (show ¬ (false = true) by decide)] at H; exact H
  clear H
  have H := H1
  clear H1
  replace H := Option.bind_eq_some_iff.mp H
  obtain ⟨⟨t424, t425, t426⟩, A50, H⟩ := H
  (try dsimp only at H)
  have A5 := Aside0.mk A50
  clear A50
  replace H := Option.bind_eq_some_iff.mp H
  obtain ⟨⟨t428, t431⟩, A60, H⟩ := H
  (try dsimp only at H)
  have A6 := Aside0.mk A60
  clear A60
  replace H := Option.bind_eq_some_iff.mp H
  obtain ⟨⟨t432, t435⟩, A70, H⟩ := H
  (try dsimp only at H)
  have A7 := Aside0.mk A70
  clear A70
  replace H := Option.bind_eq_some_iff.mp H
  obtain ⟨⟨t436, t437⟩, A80, H⟩ := H
  (try dsimp only at H)
  have A8 := Aside0.mk A80
  clear A80
  replace H := Option.bind_eq_some_iff.mp H
  obtain ⟨⟨t438, t439⟩, A90, H⟩ := H
  (try dsimp only at H)
  have A9 := Aside0.mk A90
  clear A90
  by_cases c10 : (t431 != t435) = true
  ·rw [if_pos c10] at H
   exact absurd H (by simp)
  ·rw [if_neg c10] at H
   have c10b0 : (t431 != t435) = false := by simpa using c10
   (try (have c10b1 : decide (t431 = t435) = true := by simpa using c10))
   (try (have c10b2 : (t431 == t435) = true := by simpa using c10))
   clear c10
   replace H := Option.bind_eq_some_iff.mp H
   obtain ⟨t440, A110, H⟩ := H
   (try dsimp only at H)
   have A11 := Aside0.mk A110
   clear A110
   by_cases c12 : t440 = true
   ·subst c12
    have H1 : (if (t437 != t439) = true then (none) else (if t436 = t438 then (if (t437 != t431) = true then (none) else (if t431 = true then (if (t428.length : Int) = t436 then (if (t428.length : Int) < 1 then (none) else (if 0 ≤ (wrap64 ((t428.length : Int) - 1)) then (if (wrap64 ((t428.length : Int) - 1)) < (t428.length : Int) then (if ((rd_T35 t428 (wrap64 ((t428.length : Int) - 1))).f0).toList = t426.toList then (if ((rd_T35 t428 (wrap64 ((t428.length : Int) - 1))).f1) = t424 then (laws_FnHintsPlayed.l0 k l1 t426 t428 t428 (t428.length : Int) 0 t424 t425) else (none)) else (none)) else (none)) else (none))) else (none)) else (laws_FnHintsPlayed.j2 k l1))) else (none))) = some r := by rw [if_pos rfl] at H; exact H
    clear H
    have H := H1
    clear H1
    by_cases c13 : (t437 != t439) = true
    ·rw [if_pos c13] at H
     exact absurd H (by simp)
    ·rw [if_neg c13] at H
     have c13b0 : (t437 != t439) = false := by simpa using c13
     (try (have c13b1 : decide (t437 = t439) = true := by simpa using c13))
     (try (have c13b2 : (t437 == t439) = true := by simpa using c13))
     clear c13
     by_cases c14 : t436 = t438
     ·rw [if_pos c14] at H
      have c14b0 : (t436 == t438) = true := beq_iff_eq.mpr c14
      have c14b1 : (t436 != t438) = false := bne_eq_false_iff_eq.mpr c14
      clear c14
      by_cases c15 : (t437 != t431) = true
      ·rw [if_pos c15] at H
       exact absurd H (by simp)
      ·rw [if_neg c15] at H
       have c15b0 : (t437 != t431) = false := by simpa using c15
       (try (have c15b1 : decide (t437 = t431) = true := by simpa using c15))
       (try (have c15b2 : (t437 == t431) = true := by simpa using c15))
       clear c15
       have HC16 := Aside0.mk H
       clear H
       go_enter Tryz.func3, Tryz.ntmps3
       go_upto_region 3 with (first | ((with_reducible refine gate_callee (f := 5) rfl ?_); refine goesL_ (some 59) rfl rfl Tryz.func5 (by kernel_rfl) rfl #[.slice A0 l0.length c0, .slice A1 l1.length c1] rfl lM ?_; (with_reducible refine (laws_big.calls _ _ l0 _ _ l1 false _ ?side1 ?side2 ?side3 ?side4 A3.out).mono ?_); (case side1 => repeat (first | exact HR0.out | (with_reducible refine Kd.C_alloc ?_ _) | (with_reducible refine Kd.C_drewN ?_ _) | (with_reducible refine Kd.C_drew ?_))); (case side2 => exact HC0.out); (case side3 => repeat (first | exact HR1.out | (with_reducible refine Kd.C_alloc ?_ _) | (with_reducible refine Kd.C_drewN ?_ _) | (with_reducible refine Kd.C_drew ?_))); (case side4 => exact HC1.out); rintro e w' ⟨rfl, ⟨nd, rfl⟩⟩; refine ⟨_, rfl, ?_⟩))
       as_aux_lemma =>
        go_upto_region 4 with (first | ((with_reducible refine gate_callee (f := 6) rfl ?_); refine goesL_ (some 62) rfl rfl Tryz.func6 (by kernel_rfl) rfl #[.slice A0 l0.length c0] rfl lM ?_; (with_reducible refine (spec_DrawPlayFirst.calls k _ _ l0 t424 t425 t426 _ ?side1 ?side2 A5.out).mono ?_); (case side1 => repeat (first | exact HR0.out | (with_reducible refine Kd.C_alloc ?_ _) | (with_reducible refine Kd.C_drewN ?_ _) | (with_reducible refine Kd.C_drew ?_))); (case side2 => exact HC0.out); rintro e w17 ⟨rfl, hb⟩; refine ⟨_, rfl, ?_⟩; have n0_ := Aside0.mk (below_step bB hb); clear HB; have HB := n0_; clear n0_; (try clear hb); (try clear hb2); (try clear hk); (try clear hi)) | ((with_reducible refine gate_dst (N := 5) rfl ?_); (try (refine gate_guard (by rfl) ?_; dsimp only)); refine box_event ?hg (N := 5) ?hd (cs := #[.int .i64 0, .int .i64 0]) (t := 25) ?hr ?_; (case hd => rfl); (case hg => rfl); (case hr => first | (go_simp; done) | (go_simp; rfl)); intro gb427 hg w18 hbox hb; have n0_ := Aside0.mk (below_step bB hb); have n1_ := Aside0.mk (hbox); have n2_ := Aside0.mk ((by rw [hg]; exact (below_size bB) : w.heap.size ≤ gb427)); have n3_ := Aside0.mk ((by rw [hg]; exact (below_size bB) : w.heap.size ≤ gb427)); clear HB; have HB := n0_; have BK427 := n1_; have GW427 := n2_; have GE427 := n3_; clear n0_ n1_ n2_ n3_; clear hb hbox hg; have hcz19_0 : w18.cell? ⟨gb427, 0, none⟩ = some (.int .i64 0) := (blk_cell BK427.out 0).trans rfl; have hcz19_1 : w18.cell? ⟨gb427, 1, none⟩ = some (.int .i64 0) := (blk_cell BK427.out 1).trans rfl; have hfz19_0 := blk_frozen BK427.out 0; have hfz19_1 := blk_frozen BK427.out 1))
        as_aux_lemma =>
         go_upto_region 5 with (first | ((with_reducible refine gate_callee (f := 7) rfl ?_); refine goesL_ (some 68) rfl rfl Tryz.func7 (by kernel_rfl) rfl #[.agg #[.int .i64 t424, .int .i64 t425], .string t426] rfl lM ?_; (with_reducible refine (impl_PlayFirst.calls k t424 t425 t426 t428 t431 _ A6.out).mono ?_); rintro e w20 ⟨v429, rfl, ho0, hb⟩; refine ⟨_, rfl, ?_⟩; have n0_ := Aside0.mk (Kd.R_lower ho0 (below_size bG)); have n1_ := Aside0.mk (blk_below (g := gb427) (o := .cells #[.int .i64 t424, .int .i64 t425] 25 (0, 0)) (by (with_reducible repeat (first | refine blk_drewN ?_ _ | refine blk_drew ?_ | refine blk_alloc ?_ _)); refine blk_put (cs := #[.int .i64 t424, .int .i64 0]) ?_ 1 _ rfl; (with_reducible repeat (first | refine blk_drewN ?_ _ | refine blk_drew ?_ | refine blk_alloc ?_ _)); refine blk_put (cs := #[.int .i64 0, .int .i64 0]) ?_ 0 _ rfl; (with_reducible repeat (first | refine blk_drewN ?_ _ | refine blk_drew ?_ | refine blk_alloc ?_ _)); exact BK427.out) hb); have n2_ := Aside0.mk (below_step bG hb); clear BK427; clear HB; have HO430 := n0_; have BK427 := n1_; have HB := n2_; clear n0_ n1_ n2_; (try clear hb); (try clear hb2); (try clear hk); (try clear hi); (try clear ho0); have hcz21_0 : w20.cell? ⟨gb427, 0, none⟩ = some (.int .i64 t424) := (blk_cell BK427.out 0).trans rfl; have hcz21_1 : w20.cell? ⟨gb427, 1, none⟩ = some (.int .i64 t425) := (blk_cell BK427.out 1).trans rfl; have hfz21_0 := blk_frozen BK427.out 0; have hfz21_1 := blk_frozen BK427.out 1))
         as_aux_lemma =>
          go_upto_region 6 with (first | ((with_reducible refine gate_callee (f := 8) rfl ?_); refine goesL_ (some 74) rfl rfl Tryz.func8 (by kernel_rfl) rfl #[.agg #[.int .i64 t424, .int .i64 t425], .string t426] rfl lM ?_; (with_reducible refine (spec_PlayFirst.calls k t424 t425 t426 t432 t435 _ A7.out).mono ?_); rintro e w22 ⟨v433, rfl, ho0, hb⟩; refine ⟨_, rfl, ?_⟩; have n0_ := Aside0.mk (Kd.R_elder' (by (with_reducible repeat (first | apply Kd.R_alloc | apply Kd.R_drewN | apply Kd.R_drew)); exact HO430.out) (Kd.R_base ho0) hb); have n1_ := Aside0.mk (Kd.R_lower (Kd.R_new' ho0 (Kd.R_lt (by (with_reducible repeat (first | apply Kd.R_alloc | apply Kd.R_drewN | apply Kd.R_drew)); exact HO430.out))) (below_size bG)); have n2_ := Aside0.mk (blk_below (g := gb427) (o := .cells #[.int .i64 t424, .int .i64 t425] 25 (0, 0)) bK hb); have n3_ := Aside0.mk (below_step bG hb); clear HO430; clear BK427; clear HB; have HO430 := n0_; have HO434 := n1_; have BK427 := n2_; have HB := n3_; clear n0_ n1_ n2_ n3_; (try clear hb); (try clear hb2); (try clear hk); (try clear hi); (try clear ho0); have hcz23_0 : w22.cell? ⟨gb427, 0, none⟩ = some (.int .i64 t424) := (blk_cell BK427.out 0).trans rfl; have hcz23_1 : w22.cell? ⟨gb427, 1, none⟩ = some (.int .i64 t425) := (blk_cell BK427.out 1).trans rfl; have hfz23_0 := blk_frozen BK427.out 0; have hfz23_1 := blk_frozen BK427.out 1))
          as_aux_lemma =>
           go_upto_region 7 with (first | ((with_reducible refine gate_callee (f := 9) rfl ?_); refine goesL_ (some 80) rfl rfl Tryz.func9 (by kernel_rfl) rfl #[.agg #[.int .i64 t424, .int .i64 t425], .string t426] rfl lM ?_; (with_reducible refine (impl_CountGuesses.calls k t424 t425 t426 t436 t437 _ A8.out).mono ?_); rintro e w24 ⟨rfl, hb⟩; refine ⟨_, rfl, ?_⟩; have n0_ := Aside0.mk (Kd.R_below (by (with_reducible repeat (first | apply Kd.R_alloc | apply Kd.R_drewN | apply Kd.R_drew)); exact HO430.out) hb); have n1_ := Aside0.mk (Kd.R_below (by (with_reducible repeat (first | apply Kd.R_alloc | apply Kd.R_drewN | apply Kd.R_drew)); exact HO434.out) hb); have n2_ := Aside0.mk (blk_below (g := gb427) (o := .cells #[.int .i64 t424, .int .i64 t425] 25 (0, 0)) bK hb); have n3_ := Aside0.mk (below_step bG hb); clear HO430; clear HO434; clear BK427; clear HB; have HO430 := n0_; have HO434 := n1_; have BK427 := n2_; have HB := n3_; clear n0_ n1_ n2_ n3_; (try clear hb); (try clear hb2); (try clear hk); (try clear hi); have hcz25_0 : w24.cell? ⟨gb427, 0, none⟩ = some (.int .i64 t424) := (blk_cell BK427.out 0).trans rfl; have hcz25_1 : w24.cell? ⟨gb427, 1, none⟩ = some (.int .i64 t425) := (blk_cell BK427.out 1).trans rfl; have hfz25_0 := blk_frozen BK427.out 0; have hfz25_1 := blk_frozen BK427.out 1))
           as_aux_lemma =>
            go_upto_region 8 with (first | ((with_reducible refine gate_callee (f := 10) rfl ?_); refine goesL_ (some 86) rfl rfl Tryz.func10 (by kernel_rfl) rfl #[.agg #[.int .i64 t424, .int .i64 t425], .string t426] rfl lM ?_; (with_reducible refine (spec_CountGuesses.calls k t424 t425 t426 t438 t439 _ A9.out).mono ?_); rintro e w26 ⟨rfl, hb⟩; refine ⟨_, rfl, ?_⟩; have n0_ := Aside0.mk (Kd.R_below (by (with_reducible repeat (first | apply Kd.R_alloc | apply Kd.R_drewN | apply Kd.R_drew)); exact HO430.out) hb); have n1_ := Aside0.mk (Kd.R_below (by (with_reducible repeat (first | apply Kd.R_alloc | apply Kd.R_drewN | apply Kd.R_drew)); exact HO434.out) hb); have n2_ := Aside0.mk (blk_below (g := gb427) (o := .cells #[.int .i64 t424, .int .i64 t425] 25 (0, 0)) bK hb); have n3_ := Aside0.mk (below_step bG hb); clear HO430; clear HO434; clear BK427; clear HB; have HO430 := n0_; have HO434 := n1_; have BK427 := n2_; have HB := n3_; clear n0_ n1_ n2_ n3_; (try clear hb); (try clear hb2); (try clear hk); (try clear hi); obtain ⟨Ao27, co27, eo27⟩ := Kd.R_slice HO430.out; subst eo27; obtain ⟨Ao28, co28, eo28⟩ := Kd.R_slice HO434.out; subst eo28))
            as_aux_lemma =>
             go_upto_if 113 with (first | (go_at_call 11; (with_reducible refine (laws_eHints.calls k _ _ t428 _ _ t432 true _ ?side1 ?side2 ?side3 ?side4 A11.out).mono ?_); (case side1 => repeat (first | exact (Kd.R_reads' HO430.out).2.2 | (with_reducible refine Kd.C_alloc ?_ _) | (with_reducible refine Kd.C_drewN ?_ _) | (with_reducible refine Kd.C_drew ?_))); (case side2 => exact (Kd.R_reads' HO430.out).2.1); (case side3 => repeat (first | exact (Kd.R_reads' HO434.out).2.2 | (with_reducible refine Kd.C_alloc ?_ _) | (with_reducible refine Kd.C_drewN ?_ _) | (with_reducible refine Kd.C_drew ?_))); (case side4 => exact (Kd.R_reads' HO434.out).2.1); rintro e w' ⟨rfl, ⟨nd, rfl⟩⟩))
             (try simp only [Act.put, List.setIfInBounds_toArray, List.set_cons_zero, List.set_cons_succ])
             go_cut [] (fun wc => ∃ (kq : Nat), Aside0 (laws_FnHintsPlayed.j2 kq l1 = some r) ∧ Aside0 (kq ≤ k) ∧ Aside0 (wc.heap[gb427]? = some (.cells #[.int .i64 t424, .int .i64 t425] 25 (0, 0))) ∧ Aside0 (Below w.heap.size w wc))
             case first =>
              as_aux_lemma =>
               have H := HC16.out
               clear HC16
               by_cases c29 : t431 = true
               ·subst c29
                have H1 : (if (t428.length : Int) = t436 then (if (t428.length : Int) < 1 then (none) else (if 0 ≤ (wrap64 ((t428.length : Int) - 1)) then (if (wrap64 ((t428.length : Int) - 1)) < (t428.length : Int) then (if ((rd_T35 t428 (wrap64 ((t428.length : Int) - 1))).f0).toList = t426.toList then (if ((rd_T35 t428 (wrap64 ((t428.length : Int) - 1))).f1) = t424 then (laws_FnHintsPlayed.l0 k l1 t426 t428 t428 (t428.length : Int) 0 t424 t425) else (none)) else (none)) else (none)) else (none))) else (none)) = some r := by rw [if_pos rfl] at H; exact H
                clear H
                have H := H1
                clear H1
                by_cases c30 : (t428.length : Int) = t436
                ·rw [if_pos c30] at H
                 have c30b0 : ((t428.length : Int) == t436) = true := beq_iff_eq.mpr c30
                 have c30b1 : ((t428.length : Int) != t436) = false := bne_eq_false_iff_eq.mpr c30
                 clear c30
                 (first | rw [c30b0] | (simp only [i64_w, i32_w]; rw [c30b0]) | skip)
                 by_cases c31 : (t428.length : Int) < 1
                 ·rw [if_pos c31] at H
                  exact absurd H (by simp)
                 ·rw [if_neg c31] at H
                  have c31b0 : decide ((t428.length : Int) < 1) = false := decide_eq_false c31
                  have c31b1 : decide (t428.length < 1) = false := decide_eq_false (by omega)
                  clear c31
                  obtain ⟨ji32, hji32⟩ : ∃ j_ : Int, (wrap64 ((t428.length : Int) - 1)) = j_ := ⟨_, rfl⟩
                  replace H : (if 0 ≤ (ji32) then (if (ji32) < (t428.length : Int) then (if ((rd_T35 t428 (ji32)).f0).toList = t426.toList then (if ((rd_T35 t428 (ji32)).f1) = t424 then (laws_FnHintsPlayed.l0 k l1 t426 t428 t428 (t428.length : Int) 0 t424 t425) else (none)) else (none)) else (none)) else (none)) = some r := by first | (rw [hji32] at H; exact H) | (simp only [hji32] at H ⊢; exact H)
                  have hji32w : (IntKind.i64.wrap ((t428.length : Int) - 1)) = ji32 := (i64_w _).trans hji32
                  by_cases c33 : 0 ≤ (ji32)
                  ·rw [if_pos c33] at H
                   have c33b0 : decide (0 ≤ (ji32)) = true := decide_eq_true c33
                   clear c33
                   by_cases c34 : (ji32) < (t428.length : Int)
                   ·rw [if_pos c34] at H
                    have c34b0 : decide ((ji32) < (t428.length : Int)) = true := decide_eq_true c34
                    clear c34
                    by_cases c35 : ((rd_T35 t428 (ji32)).f0).toList = t426.toList
                    ·rw [if_pos c35] at H
                     have c35b0 : (((rd_T35 t428 (ji32)).f0).toList == t426.toList) = true := beq_iff_eq.mpr c35
                     have c35b1 : (((rd_T35 t428 (ji32)).f0).toList != t426.toList) = false := bne_eq_false_iff_eq.mpr c35
                     clear c35
                     by_cases c36 : ((rd_T35 t428 (ji32)).f1) = t424
                     ·rw [if_pos c36] at H
                      have c36b0 : (((rd_T35 t428 (ji32)).f1) == t424) = true := beq_iff_eq.mpr c36
                      have c36b1 : (((rd_T35 t428 (ji32)).f1) != t424) = false := bne_eq_false_iff_eq.mpr c36
                      clear c36
                      have H' := Aside0.mk H
                      clear H
                      have p441 : 0 ≤ ((ji32) : Int) := oD
                      have q441 : (ji32) < (t428.length : Int) := oD
                      obtain ⟨ad441, e441, hx441_0, hx441_1, hx441_2⟩ := at_T35 (Kd.R_reads' HO430.out).2.2 (ji32) p441 q441
                      cases e441
                      replace p441 := eq_true p441; replace q441 := eq_true q441
                      have p442 : 0 ≤ ((ji32) : Int) := oD
                      have q442 : (ji32) < (t428.length : Int) := oD
                      obtain ⟨ad442, e442, hx442_0, hx442_1, hx442_2⟩ := at_T35 (Kd.R_reads' HO430.out).2.2 (ji32) p442 q442
                      obtain rfl : ad441 = ad442 := (by injection e442)
                      replace p442 := eq_true p442; replace q442 := eq_true q442
                      have hcz37_0 : w26.cell? ⟨gb427, 0, none⟩ = some (.int .i64 t424) := (blk_cell BK427.out 0).trans rfl
                      have hcz37_1 : w26.cell? ⟨gb427, 1, none⟩ = some (.int .i64 t425) := (blk_cell BK427.out 1).trans rfl
                      have hfz37_0 := blk_frozen BK427.out 0
                      have hfz37_1 := blk_frozen BK427.out 1
                      try go_wp2
                      repeat (go_quiet (fail); try go_wp2)
                      as_aux_lemma =>
                       go_loopg [146] k (fun kq v146 w' => ∃ (x146_1 : Int), v146 = .int .i64 x146_1 ∧ Aside0 (laws_FnHintsPlayed.l0 kq l1 t426 t428 t428 (t428.length : Int) x146_1 t424 t425 = some r) ∧ Aside0 (kq ≤ k) ∧ Aside0 (Kd.R k35 35 w' w.heap.size (fun _ => True) (.slice (some ad441) t428.length co27) t428) ∧ Aside0 (Kd.R k35 35 w' w.heap.size (fun _ => True) (.slice (some ad441) t428.length co27) t428) ∧ Aside0 (w'.heap[gb427]? = some (.cells #[.int .i64 t424, .int .i64 t425] 25 (0, 0))) ∧ Aside0 (Below w.heap.size w w'))
                       case atStart => exact ⟨(0), fR, H', ⟨Nat.le_refl _⟩, ⟨by (with_reducible repeat (first | apply Kd.R_alloc | apply Kd.R_drewN | apply Kd.R_drew)); exact Kd.R_mono HO430.out (fun _ hk => trivial)⟩, ⟨by (with_reducible repeat (first | apply Kd.R_alloc | apply Kd.R_drewN | apply Kd.R_drew)); exact Kd.R_mono HO430.out (fun _ hk => trivial)⟩, ⟨bK⟩, ⟨bG⟩⟩
                       case round =>
                        as_aux_lemma =>
                         clear H'
                         (try clear c1); (try clear c2); (try clear p2); (try clear c3); (try clear c4); (try clear p4); (try clear q4); (try clear hx4); (try clear c5); (try clear c6); (try clear p6); (try clear c7); (try clear c8); (try clear c9); (try clear c10); (try clear c10b0); (try clear c10b1); (try clear c10b2); (try clear c12); (try clear c13); (try clear c13b0); (try clear c13b1); (try clear c13b2); (try clear c14); (try clear c14b0); (try clear c14b1); (try clear c15); (try clear c15b0); (try clear c15b1); (try clear c15b2); (try clear c29); (try clear c30); (try clear c30b0); (try clear c30b1); (try clear c31); (try clear c31b0); (try clear c31b1); (try clear c33); (try clear c33b0); (try clear c34); (try clear c34b0); (try clear c35); (try clear c35b0); (try clear c35b1); (try clear c36); (try clear c36b0); (try clear c36b1); (try clear hcz19_0); (try clear hcz19_1); (try clear hcz21_0); (try clear hcz21_1); (try clear hcz23_0); (try clear hcz23_1); (try clear hcz25_0); (try clear hcz25_1); (try clear hcz37_0); (try clear hcz37_1); (try clear hfz19_0); (try clear hfz19_1); (try clear hfz21_0); (try clear hfz21_1); (try clear hfz23_0); (try clear hfz23_1); (try clear hfz25_0); (try clear hfz25_1); (try clear hfz37_0); (try clear hfz37_1); (try clear hx441_0); (try clear hx441_1); (try clear hx441_2); (try clear hx442_0); (try clear hx442_1); (try clear hx442_2); (try clear p441); (try clear p442); (try clear q441); (try clear q442)
                         obtain ⟨x146_1, rfl, HA, HK1, HO_7, HO_144, BK427, HB⟩ := hrel
                         cases gk with
                         | zero => exact absurd HA.out (by simp [laws_FnHintsPlayed.l0])
                         | succ k1 =>
                          have H := HA.out
                          clear HA
                          simp only [laws_FnHintsPlayed.l0] at H
                          by_cases c38 : x146_1 < (t428.length : Int)
                          ·rw [if_pos c38] at H
                           have c38b0 : decide (x146_1 < (t428.length : Int)) = true := decide_eq_true c38
                           clear c38
                           by_cases c39 : 0 ≤ x146_1
                           ·rw [if_pos c39] at H
                            have c39b0 : decide (0 ≤ x146_1) = true := decide_eq_true c39
                            clear c39
                            by_cases c40 : x146_1 < (t428.length : Int)
                            ·rw [if_pos c40] at H
                             have c40b0 : decide (x146_1 < (t428.length : Int)) = true := decide_eq_true c40
                             clear c40
                             replace H := Option.bind_eq_some_iff.mp H
                             obtain ⟨⟨t445, t446, t447⟩, A410, H⟩ := H
                             (try dsimp only at H)
                             have A41 := Aside0.mk A410
                             clear A410
                             have HC42 := Aside0.mk H
                             clear H
                             have p443 : 0 ≤ (x146_1 : Int) := oD
                             have q443 : x146_1 < (t428.length : Int) := oD
                             obtain ⟨ad443, e443, hx443_0, hx443_1, hx443_2⟩ := at_T35 (Kd.R_reads' HO_144.out).2.2 x146_1 p443 q443
                             obtain rfl : ad441 = ad443 := (by injection e443)
                             replace p443 := eq_true p443; replace q443 := eq_true q443
                             go_upto_region 17 with (first | ((with_reducible refine gate_dst (N := 17) rfl ?_); (try (refine gate_guard (by rfl) ?_; dsimp only)); refine box_event ?hg (N := 17) ?hd (cs := #[.string (⟨#[]⟩ : ByteArray), .int .i64 0, .int .i64 0]) (t := 35) ?hr ?_; (case hd => rfl); (case hg => rfl); (case hr => first | (go_simp; done) | (go_simp; rfl)); intro gb444 hg w43 hbox hb; have n0_ := Aside0.mk (Kd.R_below (Kd.R_elderB (by (with_reducible repeat (first | apply Kd.R_alloc | apply Kd.R_drewN | apply Kd.R_drew)); exact HO_7.out) gb444 (Nat.le_of_eq hg.symm)) hb); have n1_ := Aside0.mk (Kd.R_below (Kd.R_elderB (by (with_reducible repeat (first | apply Kd.R_alloc | apply Kd.R_drewN | apply Kd.R_drew)); exact HO_144.out) gb444 (Nat.le_of_eq hg.symm)) hb); have n2_ := Aside0.mk (blk_below (g := gb427) (o := .cells #[.int .i64 t424, .int .i64 t425] 25 (0, 0)) bK hb); have n3_ := Aside0.mk (below_step bG hb); have n4_ := Aside0.mk (hbox); have n5_ := Aside0.mk ((by rw [hg]; exact (below_size bG) : w.heap.size ≤ gb444)); have n6_ := Aside0.mk ((by rw [hg]; exact (below_size bG) : w.heap.size ≤ gb444)); have n7_ := Aside0.mk ((by rw [hg]; exact Nat.ne_of_lt (blk_lt (g := gb427) (o := .cells #[.int .i64 t424, .int .i64 t425] 25 (0, 0)) bK) : gb427 ≠ gb444)); have n8_ := Aside0.mk ((by rw [hg]; exact Nat.ne_of_gt (blk_lt (g := gb427) (o := .cells #[.int .i64 t424, .int .i64 t425] 25 (0, 0)) bK) : gb444 ≠ gb427)); clear HO_7; clear HO_144; clear BK427; clear HB; have HO_7 := n0_; have HO_144 := n1_; have BK427 := n2_; have HB := n3_; have BK444 := n4_; have GW444 := n5_; have GE444 := n6_; have NB427_444 := n7_; have NB444_427 := n8_; clear n0_ n1_ n2_ n3_ n4_ n5_ n6_ n7_ n8_; clear hb hbox hg; have hnb44 := NB444_427.out; have hnc44 := NB427_444.out; have hcz45_0 : w43.cell? ⟨gb444, 0, none⟩ = some (.string (⟨#[]⟩ : ByteArray)) := (blk_cell BK444.out 0).trans rfl; have hcz45_1 : w43.cell? ⟨gb444, 1, none⟩ = some (.int .i64 0) := (blk_cell BK444.out 1).trans rfl; have hcz45_2 : w43.cell? ⟨gb444, 2, none⟩ = some (.int .i64 0) := (blk_cell BK444.out 2).trans rfl; have hfz45_0 := blk_frozen BK444.out 0; have hfz45_1 := blk_frozen BK444.out 1; have hfz45_2 := blk_frozen BK444.out 2; have hcz46_0 : w43.cell? ⟨gb427, 0, none⟩ = some (.int .i64 t424) := (blk_cell BK427.out 0).trans rfl; have hcz46_1 : w43.cell? ⟨gb427, 1, none⟩ = some (.int .i64 t425) := (blk_cell BK427.out 1).trans rfl; have hfz46_0 := blk_frozen BK427.out 0; have hfz46_1 := blk_frozen BK427.out 1))
                             as_aux_lemma =>
                              go_upto_region 18 with (first | ((with_reducible refine gate_callee (f := 12) rfl ?_); refine goesL_ (some 156) rfl rfl Tryz.func12 (by kernel_rfl) rfl #[.agg #[.int .i64 t424, .int .i64 t425], .string ((rd_T35 t428 x146_1).f0), .string t426] rfl lM ?_; (with_reducible refine (impl_HintOf.calls k1 t424 t425 ((rd_T35 t428 x146_1).f0) t426 t445 t446 t447 _ A41.out).mono ?_); rintro e w47 ⟨rfl, hb⟩; refine ⟨_, rfl, ?_⟩; have n0_ := Aside0.mk (Kd.R_below (by (with_reducible repeat (first | apply Kd.R_alloc | apply Kd.R_drewN | apply Kd.R_drew)); exact (Kd.R_mono (Kd.R_far (p := ⟨gb444, 2, none⟩) (Kd.R_far (p := ⟨gb444, 1, none⟩) (Kd.R_far (p := ⟨gb444, 0, none⟩) (Kd.R_mono HO_7.out (fun k_ hk => (⟨hk, hk.2⟩ : _ ∧ k_ ≠ gb444))) (fun _ hk => hk.2) (.string ((rd_T35 t428 x146_1).f0))) (fun _ hk => hk.2) (.int .i64 ((rd_T35 t428 x146_1).f1))) (fun _ hk => hk.2) (.int .i64 ((rd_T35 t428 x146_1).f2))) (fun _ h_ => h_.1))) hb); have n1_ := Aside0.mk (Kd.R_below (by (with_reducible repeat (first | apply Kd.R_alloc | apply Kd.R_drewN | apply Kd.R_drew)); exact (Kd.R_mono (Kd.R_far (p := ⟨gb444, 2, none⟩) (Kd.R_far (p := ⟨gb444, 1, none⟩) (Kd.R_far (p := ⟨gb444, 0, none⟩) (Kd.R_mono HO_144.out (fun k_ hk => (⟨hk, hk.2⟩ : _ ∧ k_ ≠ gb444))) (fun _ hk => hk.2) (.string ((rd_T35 t428 x146_1).f0))) (fun _ hk => hk.2) (.int .i64 ((rd_T35 t428 x146_1).f1))) (fun _ hk => hk.2) (.int .i64 ((rd_T35 t428 x146_1).f2))) (fun _ h_ => h_.1))) hb); have n2_ := Aside0.mk (blk_below (g := gb427) (o := .cells #[.int .i64 t424, .int .i64 t425] 25 (0, 0)) (by (with_reducible repeat (first | refine blk_drewN ?_ _ | refine blk_drew ?_ | refine blk_alloc ?_ _)); refine blk_far ?_ NB427_444.out _; (with_reducible repeat (first | refine blk_drewN ?_ _ | refine blk_drew ?_ | refine blk_alloc ?_ _)); refine blk_far ?_ NB427_444.out _; (with_reducible repeat (first | refine blk_drewN ?_ _ | refine blk_drew ?_ | refine blk_alloc ?_ _)); refine blk_far ?_ NB427_444.out _; (with_reducible repeat (first | refine blk_drewN ?_ _ | refine blk_drew ?_ | refine blk_alloc ?_ _)); exact BK427.out) hb); have n3_ := Aside0.mk (blk_below (g := gb444) (o := .cells #[.string ((rd_T35 t428 x146_1).f0), .int .i64 ((rd_T35 t428 x146_1).f1), .int .i64 ((rd_T35 t428 x146_1).f2)] 35 (0, 0)) (by (with_reducible repeat (first | refine blk_drewN ?_ _ | refine blk_drew ?_ | refine blk_alloc ?_ _)); refine blk_put (cs := #[.string ((rd_T35 t428 x146_1).f0), .int .i64 ((rd_T35 t428 x146_1).f1), .int .i64 0]) ?_ 2 _ rfl; (with_reducible repeat (first | refine blk_drewN ?_ _ | refine blk_drew ?_ | refine blk_alloc ?_ _)); refine blk_put (cs := #[.string ((rd_T35 t428 x146_1).f0), .int .i64 0, .int .i64 0]) ?_ 1 _ rfl; (with_reducible repeat (first | refine blk_drewN ?_ _ | refine blk_drew ?_ | refine blk_alloc ?_ _)); refine blk_put (cs := #[.string (⟨#[]⟩ : ByteArray), .int .i64 0, .int .i64 0]) ?_ 0 _ rfl; (with_reducible repeat (first | refine blk_drewN ?_ _ | refine blk_drew ?_ | refine blk_alloc ?_ _)); exact BK444.out) hb); have n4_ := Aside0.mk (below_step bG hb); clear HO_7; clear HO_144; clear BK427; clear BK444; clear HB; have HO_7 := n0_; have HO_144 := n1_; have BK427 := n2_; have BK444 := n3_; have HB := n4_; clear n0_ n1_ n2_ n3_ n4_; (try clear hb); (try clear hb2); (try clear hk); (try clear hi)))
                              (try simp only [Act.put, List.setIfInBounds_toArray, List.set_cons_zero, List.set_cons_succ])
                              go_cut [188] (fun v188 wc => ∃ (kq : Nat) (x188_41 : Bool), v188 = .bool x188_41 ∧ Aside0 (laws_FnHintsPlayed.j1 kq l1 t426 t428 x146_1 t428 (t428.length : Int) x146_1 x188_41 t424 t425 ((rd_T35 t428 x146_1).f0) ((rd_T35 t428 x146_1).f1) ((rd_T35 t428 x146_1).f2) = some r) ∧ Aside0 (kq ≤ k1) ∧ Aside0 (Kd.R k35 35 wc w.heap.size (fun k_ => k_ ≠ gb444) (.slice (some ad441) t428.length co27) t428) ∧ Aside0 (Kd.R k35 35 wc w.heap.size (fun k_ => k_ ≠ gb444) (.slice (some ad441) t428.length co27) t428) ∧ Aside0 (wc.heap[gb427]? = some (.cells #[.int .i64 t424, .int .i64 t425] 25 (0, 0))) ∧ Aside0 (wc.heap[gb444]? = some (.cells #[.string ((rd_T35 t428 x146_1).f0), .int .i64 ((rd_T35 t428 x146_1).f1), .int .i64 ((rd_T35 t428 x146_1).f2)] 35 (0, 0))) ∧ Aside0 (Below w.heap.size w wc))
                              case first =>
                               as_aux_lemma =>
                                have H := HC42.out
                                clear HC42
                                by_cases c48 : t447 = true
                                ·subst c48
                                 have H1 : (if t445 = ((rd_T35 t428 x146_1).f1) then (if t446 = ((rd_T35 t428 x146_1).f2) then (if x146_1 > 0 then (if 0 ≤ (wrap64 (x146_1 - 1)) then (if (wrap64 (x146_1 - 1)) < (t428.length : Int) then (laws_FnHintsPlayed.j1 k1 l1 t426 t428 x146_1 t428 (t428.length : Int) x146_1 (!(Op.bytesLess (((rd_T35 t428 (wrap64 (x146_1 - 1))).f0).toList) (((rd_T35 t428 x146_1).f0).toList))) t424 t425 ((rd_T35 t428 x146_1).f0) ((rd_T35 t428 x146_1).f1) ((rd_T35 t428 x146_1).f2)) else (none)) else (none)) else (laws_FnHintsPlayed.j1 k1 l1 t426 t428 x146_1 t428 (t428.length : Int) x146_1 false t424 t425 ((rd_T35 t428 x146_1).f0) ((rd_T35 t428 x146_1).f1) ((rd_T35 t428 x146_1).f2))) else (none)) else (none)) = some r := by rw [if_pos rfl] at H; exact H
                                 clear H
                                 have H := H1
                                 clear H1
                                 by_cases c49 : t445 = ((rd_T35 t428 x146_1).f1)
                                 ·rw [if_pos c49] at H
                                  have c49b0 : (t445 == ((rd_T35 t428 x146_1).f1)) = true := beq_iff_eq.mpr c49
                                  have c49b1 : (t445 != ((rd_T35 t428 x146_1).f1)) = false := bne_eq_false_iff_eq.mpr c49
                                  clear c49
                                  (first | rw [c49b0] | (simp only [i64_w, i32_w]; rw [c49b0]) | skip)
                                  by_cases c50 : t446 = ((rd_T35 t428 x146_1).f2)
                                  ·rw [if_pos c50] at H
                                   have c50b0 : (t446 == ((rd_T35 t428 x146_1).f2)) = true := beq_iff_eq.mpr c50
                                   have c50b1 : (t446 != ((rd_T35 t428 x146_1).f2)) = false := bne_eq_false_iff_eq.mpr c50
                                   clear c50
                                   by_cases c51 : x146_1 > 0
                                   ·rw [if_pos c51] at H
                                    have c51b0 : decide (0 < x146_1) = true := decide_eq_true c51
                                    clear c51
                                    obtain ⟨ji52, hji52⟩ : ∃ j_ : Int, (wrap64 (x146_1 - 1)) = j_ := ⟨_, rfl⟩
                                    replace H : (if 0 ≤ (ji52) then (if (ji52) < (t428.length : Int) then (laws_FnHintsPlayed.j1 k1 l1 t426 t428 x146_1 t428 (t428.length : Int) x146_1 (!(Op.bytesLess (((rd_T35 t428 (ji52)).f0).toList) (((rd_T35 t428 x146_1).f0).toList))) t424 t425 ((rd_T35 t428 x146_1).f0) ((rd_T35 t428 x146_1).f1) ((rd_T35 t428 x146_1).f2)) else (none)) else (none)) = some r := by first | (rw [hji52] at H; exact H) | (simp only [hji52] at H ⊢; exact H)
                                    have hji52w : (IntKind.i64.wrap (x146_1 - 1)) = ji52 := (i64_w _).trans hji52
                                    by_cases c53 : 0 ≤ (ji52)
                                    ·rw [if_pos c53] at H
                                     have c53b0 : decide (0 ≤ (ji52)) = true := decide_eq_true c53
                                     clear c53
                                     by_cases c54 : (ji52) < (t428.length : Int)
                                     ·rw [if_pos c54] at H
                                      have c54b0 : decide ((ji52) < (t428.length : Int)) = true := decide_eq_true c54
                                      clear c54
                                      have H' := Aside0.mk H
                                      clear H
                                      have hnb55 := NB444_427.out
                                      have hnc55 := NB427_444.out
                                      have hcz56_0 : w47.cell? ⟨gb444, 0, none⟩ = some (.string ((rd_T35 t428 x146_1).f0)) := (blk_cell BK444.out 0).trans rfl
                                      have hcz56_1 : w47.cell? ⟨gb444, 1, none⟩ = some (.int .i64 ((rd_T35 t428 x146_1).f1)) := (blk_cell BK444.out 1).trans rfl
                                      have hcz56_2 : w47.cell? ⟨gb444, 2, none⟩ = some (.int .i64 ((rd_T35 t428 x146_1).f2)) := (blk_cell BK444.out 2).trans rfl
                                      have hfz56_0 := blk_frozen BK444.out 0
                                      have hfz56_1 := blk_frozen BK444.out 1
                                      have hfz56_2 := blk_frozen BK444.out 2
                                      have p448 : 0 ≤ ((ji52) : Int) := oD
                                      have q448 : (ji52) < (t428.length : Int) := oD
                                      obtain ⟨ad448, e448, hx448_0, hx448_1, hx448_2⟩ := at_T35 (Kd.R_reads' HO_7.out).2.2 (ji52) p448 q448
                                      obtain rfl : ad441 = ad448 := (by injection e448)
                                      replace p448 := eq_true p448; replace q448 := eq_true q448
                                      try go_wp2
                                      repeat (go_quiet (fail); try go_wp2)
                                      go_meet
                                      case rel => exact ⟨_, (!(Op.bytesLess (((rd_T35 t428 (ji52)).f0).toList) (((rd_T35 t428 x146_1).f0).toList))), (by first | rfl | (simp; done) | (simp only [← hji52] <;> (first | rfl | simp)) | (simp [*]; done)), H', ⟨by have := HK1.out; first | omega | exact Nat.le_refl _⟩, ⟨by (with_reducible repeat (first | apply Kd.R_alloc | apply Kd.R_drewN | apply Kd.R_drew)); exact Kd.R_mono HO_7.out (fun _ hk => hk.2)⟩, ⟨by (with_reducible repeat (first | apply Kd.R_alloc | apply Kd.R_drewN | apply Kd.R_drew)); exact Kd.R_mono HO_144.out (fun _ hk => hk.2)⟩, ⟨bK⟩, ⟨bK⟩, ⟨bG⟩⟩
                                     ·rw [if_neg c54] at H
                                      exact absurd H (by simp)
                                    ·rw [if_neg c53] at H
                                     exact absurd H (by simp)
                                   ·rw [if_neg c51] at H
                                    have c51b0 : decide (0 < x146_1) = false := decide_eq_false c51
                                    clear c51
                                    have H' := Aside0.mk H
                                    clear H
                                    have hnb57 := NB444_427.out
                                    have hnc57 := NB427_444.out
                                    have hcz58_0 : w47.cell? ⟨gb444, 0, none⟩ = some (.string ((rd_T35 t428 x146_1).f0)) := (blk_cell BK444.out 0).trans rfl
                                    have hcz58_1 : w47.cell? ⟨gb444, 1, none⟩ = some (.int .i64 ((rd_T35 t428 x146_1).f1)) := (blk_cell BK444.out 1).trans rfl
                                    have hcz58_2 : w47.cell? ⟨gb444, 2, none⟩ = some (.int .i64 ((rd_T35 t428 x146_1).f2)) := (blk_cell BK444.out 2).trans rfl
                                    have hfz58_0 := blk_frozen BK444.out 0
                                    have hfz58_1 := blk_frozen BK444.out 1
                                    have hfz58_2 := blk_frozen BK444.out 2
                                    try go_wp2
                                    repeat (go_quiet (fail); try go_wp2)
                                    go_meet
                                    case rel => exact ⟨_, (false), fR, H', ⟨by have := HK1.out; first | omega | exact Nat.le_refl _⟩, ⟨by (with_reducible repeat (first | apply Kd.R_alloc | apply Kd.R_drewN | apply Kd.R_drew)); exact Kd.R_mono HO_7.out (fun _ hk => hk.2)⟩, ⟨by (with_reducible repeat (first | apply Kd.R_alloc | apply Kd.R_drewN | apply Kd.R_drew)); exact Kd.R_mono HO_144.out (fun _ hk => hk.2)⟩, ⟨bK⟩, ⟨bK⟩, ⟨bG⟩⟩
                                  ·rw [if_neg c50] at H
                                   exact absurd H (by simp)
                                 ·rw [if_neg c49] at H
                                  exact absurd H (by simp)
                                ·replace c48 := Bool.eq_false_iff.mpr c48
                                 subst c48
                                 have H1 : (none) = some r := by rw [if_neg (show ¬ (false = true) by decide)] at H; exact H
                                 clear H
                                 have H := H1
                                 clear H1
                                 exact absurd H (by simp)
                              case rest =>
                               as_aux_lemma =>
                                clear HC42
                                (try clear c1); (try clear c2); (try clear p2); (try clear c3); (try clear c4); (try clear p4); (try clear q4); (try clear hx4); (try clear c5); (try clear c6); (try clear p6); (try clear c7); (try clear c8); (try clear c9); (try clear c10); (try clear c10b0); (try clear c10b1); (try clear c10b2); (try clear c12); (try clear c13); (try clear c13b0); (try clear c13b1); (try clear c13b2); (try clear c14); (try clear c14b0); (try clear c14b1); (try clear c15); (try clear c15b0); (try clear c15b1); (try clear c15b2); (try clear c29); (try clear c30); (try clear c30b0); (try clear c30b1); (try clear c31); (try clear c31b0); (try clear c31b1); (try clear c33); (try clear c33b0); (try clear c34); (try clear c34b0); (try clear c35); (try clear c35b0); (try clear c35b1); (try clear c36); (try clear c36b0); (try clear c36b1); (try clear c38); (try clear c38b0); (try clear c39); (try clear c39b0); (try clear c40); (try clear c40b0); (try clear c44); (try clear p44); (try clear q44); (try clear hx44); (try clear c48); (try clear c49); (try clear c49b0); (try clear c49b1); (try clear c50); (try clear c50b0); (try clear c50b1); (try clear c51); (try clear c51b0); (try clear c53); (try clear c53b0); (try clear c54); (try clear c54b0); (try clear c55); (try clear c57); (try clear hcz19_0); (try clear hcz19_1); (try clear hcz21_0); (try clear hcz21_1); (try clear hcz23_0); (try clear hcz23_1); (try clear hcz25_0); (try clear hcz25_1); (try clear hcz37_0); (try clear hcz37_1); (try clear hcz45_0); (try clear hcz45_1); (try clear hcz45_2); (try clear hcz46_0); (try clear hcz46_1); (try clear hcz56_0); (try clear hcz56_1); (try clear hcz56_2); (try clear hcz58_0); (try clear hcz58_1); (try clear hcz58_2); (try clear hfz19_0); (try clear hfz19_1); (try clear hfz21_0); (try clear hfz21_1); (try clear hfz23_0); (try clear hfz23_1); (try clear hfz25_0); (try clear hfz25_1); (try clear hfz37_0); (try clear hfz37_1); (try clear hfz45_0); (try clear hfz45_1); (try clear hfz45_2); (try clear hfz46_0); (try clear hfz46_1); (try clear hfz56_0); (try clear hfz56_1); (try clear hfz56_2); (try clear hfz58_0); (try clear hfz58_1); (try clear hfz58_2); (try clear hx441_0); (try clear hx441_1); (try clear hx441_2); (try clear hx442_0); (try clear hx442_1); (try clear hx442_2); (try clear hx443_0); (try clear hx443_1); (try clear hx443_2); (try clear hx448_0); (try clear hx448_1); (try clear hx448_2); (try clear p2); (try clear p4); (try clear p441); (try clear p442); (try clear p443); (try clear p448); (try clear p6); (try clear q4); (try clear q441); (try clear q442); (try clear q443); (try clear q448)
                                obtain ⟨kq, x188_41, rfl, HA, HJ41, HO_7, HO_144, BK427, BK444, HB⟩ := hcut
                                cases kq with
                                | zero => exact absurd HA.out (by simp [laws_FnHintsPlayed.j1])
                                | succ kj41 =>
                                 have H := HA.out
                                 clear HA
                                 simp only [laws_FnHintsPlayed.j1] at H
                                 by_cases c59 : x188_41 = true
                                 ·subst c59
                                  have H1 : (none) = some r := by rw [if_pos rfl] at H; exact H
                                  clear H
                                  have H := H1
                                  clear H1
                                  exact absurd H (by simp)
                                 ·replace c59 := Bool.eq_false_iff.mpr c59
                                  subst c59
                                  have H1 : (if x146_1 ≤ 10 then (if 0 ≤ x146_1 then (if x146_1 ≤ (t428.length : Int) then ((impl_FittingCodes.f kj41 t424 t425 (t428.take (x146_1 : Int).toNat)).bind fun bt453 => (if bt453.2 = true then (if (bt453.1.length : Int) < 1 then (none) else (if 0 < (bt453.1.length : Int) then (if (rdOf ByteArray.empty bt453.1 0).toList = ((rd_T35 t428 x146_1).f0).toList then (laws_FnHintsPlayed.l0 kj41 l1 t426 t428 t428 (t428.length : Int) (wrap64 (x146_1 + 1)) t424 t425) else (none)) else (none))) else (none))) else (none)) else (none)) else (laws_FnHintsPlayed.l0 kj41 l1 t426 t428 t428 (t428.length : Int) (wrap64 (x146_1 + 1)) t424 t425)) = some r := by rw [if_neg (show ¬ (false = true) by decide)] at H; exact H
                                  clear H
                                  have H := H1
                                  clear H1
                                  by_cases c60 : x146_1 ≤ 10
                                  ·rw [if_pos c60] at H
                                   have c60b0 : decide (x146_1 ≤ 10) = true := decide_eq_true c60
                                   clear c60
                                   by_cases c61 : 0 ≤ x146_1
                                   ·rw [if_pos c61] at H
                                    have c61b0 := eq_true c61
                                    have c61b1 : decide (0 ≤ x146_1) = true := decide_eq_true c61
                                    clear c61
                                    by_cases c62 : x146_1 ≤ (t428.length : Int)
                                    ·rw [if_pos c62] at H
                                     have c62b0 := eq_true c62
                                     have c62b1 : decide (x146_1 ≤ (t428.length : Int)) = true := decide_eq_true c62
                                     clear c62
                                     obtain ⟨y449, hy449⟩ : ∃ y_ : List (S35), y_ = (t428.take (x146_1 : Int).toNat) := ⟨_, rfl⟩
                                     replace H : ((impl_FittingCodes.f kj41 t424 t425 y449).bind fun bt453 => (if bt453.2 = true then (if (bt453.1.length : Int) < 1 then (none) else (if 0 < (bt453.1.length : Int) then (if (rdOf ByteArray.empty bt453.1 0).toList = ((rd_T35 t428 x146_1).f0).toList then (laws_FnHintsPlayed.l0 kj41 l1 t426 t428 t428 (t428.length : Int) (wrap64 (x146_1 + 1)) t424 t425) else (none)) else (none))) else (none))) = some r := by first | (rw [hy449]; with_reducible exact H) | (have H2_ := (Option.bind_some _ _).symm.trans H; rw [hy449]; with_reducible exact H2_) | (have H2_ := (Option.bind_some _ _).symm.trans H; with_reducible exact H2_) | with_reducible exact H | (rw [hy449]; exact H) | exact H
                                     have Ny449 := Aside0.mk hy449
                                     clear hy449
                                     replace H := Option.bind_eq_some_iff.mp H
                                     obtain ⟨⟨t453, t456⟩, A630, H⟩ := H
                                     (try dsimp only at H)
                                     have A63 := Aside0.mk A630
                                     clear A630
                                     by_cases c64 : t456 = true
                                     ·subst c64
                                      have H1 : (if (t453.length : Int) < 1 then (none) else (if 0 < (t453.length : Int) then (if (rdOf ByteArray.empty t453 0).toList = ((rd_T35 t428 x146_1).f0).toList then (laws_FnHintsPlayed.l0 kj41 l1 t426 t428 t428 (t428.length : Int) (wrap64 (x146_1 + 1)) t424 t425) else (none)) else (none))) = some r := by rw [if_pos rfl] at H; exact H
                                      clear H
                                      have H := H1
                                      clear H1
                                      by_cases c65 : (t453.length : Int) < 1
                                      ·rw [if_pos c65] at H
                                       exact absurd H (by simp)
                                      ·rw [if_neg c65] at H
                                       have c65b0 : decide ((t453.length : Int) < 1) = false := decide_eq_false c65
                                       have c65b1 : decide (t453.length < 1) = false := decide_eq_false (by omega)
                                       clear c65
                                       by_cases c66 : 0 < (t453.length : Int)
                                       ·rw [if_pos c66] at H
                                        have c66b0 : decide (0 < (t453.length : Int)) = true := decide_eq_true c66
                                        have c66b1 : decide (0 < t453.length) = true := decide_eq_true (by omega)
                                        clear c66
                                        by_cases c67 : (rdOf ByteArray.empty t453 0).toList = ((rd_T35 t428 x146_1).f0).toList
                                        ·rw [if_pos c67] at H
                                         have c67b0 : ((rdOf ByteArray.empty t453 0).toList == ((rd_T35 t428 x146_1).f0).toList) = true := beq_iff_eq.mpr c67
                                         have c67b1 : ((rdOf ByteArray.empty t453 0).toList != ((rd_T35 t428 x146_1).f0).toList) = false := bne_eq_false_iff_eq.mpr c67
                                         clear c67
                                         have H' := Aside0.mk H
                                         clear H
                                         try go_wp2
                                         repeat (go_quiet (fail); try go_wp2)
                                         as_aux_lemma =>
                                          have n0_ := Aside0.mk (Kd.R_drew HO_7.out); have n1_ := Aside0.mk (Kd.R_drew HO_144.out); have n2_ := Aside0.mk (blk_drew BK427.out); have n3_ := Aside0.mk (blk_drew BK444.out); have n4_ := Aside0.mk (below_drew1 HB.out); clear HO_7; clear HO_144; clear BK427; clear BK444; clear HB; have HO_7 := n0_; have HO_144 := n1_; have BK427 := n2_; have BK444 := n3_; have HB := n4_; clear n0_ n1_ n2_ n3_ n4_
                                          have q69 : (x146_1 : Int) ≤ ((t428.length : Int) : Int) := oD
                                          obtain ⟨i069, hi069, _, hsz69, _⟩ := info_parts info35
                                          have hroom69 : t428.length ≤ co27 := (Kd.R_reads' HO_7.out).2.1
                                          have hC69 : Kd.C k35 _ (some ad441) t428.length t428 := (Kd.R_reads' HO_7.out).2.2
                                          have hcut69 := cut_to (P := Tryz.prog) 28 35 .i64 Tryz.underlying28 hi069 (some ad441) t428.length co27 x146_1 (oD) q69 hroom69
                                          have hr69 := Kd.C_take (m := (x146_1 : Int).toNat) hC69 (by omega)
                                          have hy69 : y449.length = (x146_1 : Int).toNat := (by rw [Ny449.out, List.length_take]; omega)
                                          rw [← Ny449.out] at hr69
                                          rw [← hy69] at hcut69
                                          have HR452 := Aside0.mk hr69
                                          have HC452 := Aside0.mk (show y449.length ≤ co27 from by omega)
                                          clear hr69 hC69 hroom69 hi069 hsz69
                                          have KY69 := Aside0.mk hy69
                                          clear hy69
                                          have KL69 := Aside0.mk (show (x146_1 : Int).toNat ≤ t428.length from by omega)
                                          replace q69 := eq_true q69
                                          refine start_ (n := 10) (S := fun w' => w'.cell? ⟨gb427, 0, none⟩ = some (.int .i64 t424) ∧ w'.cell? ⟨gb427, 1, none⟩ = some (.int .i64 t425)) (ds := []) #[false, false, false, false, false, false, false, false, false, false] (by kernel_rfl) rfl rfl ⟨(blk_cell BK427.out 0).trans rfl, (blk_cell BK427.out 1).trans rfl⟩ (fun hHeld => ?_); refine with_tabW laws_FnHintsPlayed.tab21 laws_FnHintsPlayed.bits21 (fun HT_ HW_ => ?_)
                                          generalize wc.drew = w68 at HO_7 HO_144 BK427 BK444 HB HR452 hHeld ⊢
                                          refine pure_ (i := 1) (N := some 193) (v := ?_) (a' := ?_) #[false, true, false, false, false, false, false, false, false, false] rfl rfl (any_of HT_.out (by kernel_rfl)) (fun _ _ _ h => h) (Or.inl ⟨by rfl, ?_⟩) ?_ ?_; rotate_left; (· intro w'; go_simp; with_reducible rfl); rotate_left; (· simp only [Act.put, List.setIfInBounds_toArray, List.set_cons_zero, List.set_cons_succ, i64_w, i32_w]; rfl)
                                          refine pure_ (i := 2) (N := some 194) (v := ?_) (a' := ?_) #[false, true, true, false, false, false, false, false, false, false] rfl rfl (any_of HT_.out (by kernel_rfl)) (fun _ _ _ h => h) (Or.inl ⟨by rfl, ?_⟩) ?_ ?_; rotate_left; (· intro w'; go_simp; with_reducible rfl); rotate_left; (· simp only [Act.put, List.setIfInBounds_toArray, List.set_cons_zero, List.set_cons_succ, i64_w, i32_w]; rfl)
                                          refine pure_ (i := 3) (N := some 195) (v := ?_) (a' := ?_) #[false, true, true, true, false, false, false, false, false, false] rfl rfl (any_of HT_.out (by kernel_rfl)) (fun _ _ _ h => h) (Or.inl ⟨by rfl, ?_⟩) ?_ ?_; rotate_left; (· intro w'; go_simp; with_reducible rfl); rotate_left; (· simp only [Act.put, List.setIfInBounds_toArray, List.set_cons_zero, List.set_cons_succ, i64_w, i32_w]; rfl)
                                          refine take_ (i := 0) (N := some 192) (v := ?_) (a' := ?_) #[true, true, true, true, false, false, false, false, false, false] rfl rfl (take_ofW HT_.out HW_.out (by kernel_rfl)) (fun _ _ _ h => h) (Or.inl ⟨by rfl, ?_⟩) hHeld ?_ ?_
                                          rotate_left
                                          ·rintro w' ⟨s0, s1⟩
                                           go_simp
                                           with_reducible rfl
                                          rotate_left
                                          ·simp only [Act.put, List.setIfInBounds_toArray, List.set_cons_zero, List.set_cons_succ, i64_w, i32_w]
                                           rfl
                                          refine one_ (i := 4) (N := some 196) #[true, true, true, true, true, false, false, false, false, false] rfl rfl (one_of HT_.out (by kernel_rfl)) (by decide) (fun K hK => ?_)
                                          refine goes_ Tryz.func13 (by kernel_rfl) rfl #[.agg #[.int .i64 t424, .int .i64 t425], .slice (some ad441) y449.length co27] (by rfl) rfl rfl lM ?_
                                          with_reducible refine (impl_FittingCodes.calls kj41 t424 t425 _ _ y449 t453 true _ ?side1 ?side2 A63.out).mono ?_
                                          (case side1 => repeat (first | exact (by repeat (first | (with_reducible exact HR452.out) | (with_reducible refine Kd.C_alloc ?_ _) | (with_reducible refine Kd.C_drewN ?_ _) | (with_reducible refine Kd.C_drew ?_) | exact HR452.out)) | (with_reducible refine Kd.C_alloc ?_ _) | (with_reducible refine Kd.C_drewN ?_ _) | (with_reducible refine Kd.C_drew ?_)))
                                          (case side2 => exact HC452.out)
                                          rintro e w70 ⟨v454, rfl, ho0, hb⟩
                                          refine ⟨_, rfl, ?_⟩
                                          have n0_ := Aside0.mk (Kd.R_below (by (with_reducible repeat (first | apply Kd.R_alloc | apply Kd.R_drewN | apply Kd.R_drew)); exact HO_7.out) hb); have n1_ := Aside0.mk (Kd.R_below (by (with_reducible repeat (first | apply Kd.R_alloc | apply Kd.R_drewN | apply Kd.R_drew)); exact HO_144.out) hb); have n2_ := Aside0.mk (Kd.R_lower ho0 (below_size bG)); have n3_ := Aside0.mk (blk_below (g := gb427) (o := .cells #[.int .i64 t424, .int .i64 t425] 25 (0, 0)) bK hb); have n4_ := Aside0.mk (blk_below (g := gb444) (o := .cells #[.string ((rd_T35 t428 x146_1).f0), .int .i64 ((rd_T35 t428 x146_1).f1), .int .i64 ((rd_T35 t428 x146_1).f2)] 35 (0, 0)) bK hb); have n5_ := Aside0.mk (Kd.C_below (by repeat (first | (with_reducible exact HR452.out) | (with_reducible refine Kd.C_alloc ?_ _) | (with_reducible refine Kd.C_drewN ?_ _) | (with_reducible refine Kd.C_drew ?_) | exact HR452.out)) hb); have n6_ := Aside0.mk (below_step bG hb); clear HO_7; clear HO_144; clear BK427; clear BK444; clear HR452; clear HB; have HO_7 := n0_; have HO_144 := n1_; have HO455 := n2_; have BK427 := n3_; have BK444 := n4_; have HR452 := n5_; have HB := n6_; clear n0_ n1_ n2_ n3_ n4_ n5_ n6_
                                          (try clear hb)
                                          (try clear hb2)
                                          (try clear hk)
                                          (try clear hi)
                                          (try clear ho0)
                                          refine hK.out _ _ ⟨(blk_cell BK427.out 0).trans rfl, (blk_cell BK427.out 1).trans rfl⟩ (fun hHeld => ?_)
                                          clear hK K
                                          refine norm_ (a' := ?_) ?_ ?_
                                          rotate_left
                                          ·show Act.put _ (some 196) _ = _
                                           simp only [Act.put, List.setIfInBounds_toArray, List.set_cons_zero, List.set_cons_succ, i64_w, i32_w]
                                           rfl
                                          refine pure_ (i := 5) (N := some 191) (v := ?_) (a' := ?_) #[true, true, true, true, true, true, false, false, false, false] rfl rfl (any_of HT_.out (by kernel_rfl)) (fun _ _ _ h => h) (Or.inl ⟨by rfl, ?_⟩) ?_ ?_; rotate_left; (· intro w'; go_simp; with_reducible rfl); rotate_left; (· simp only [Act.put, List.setIfInBounds_toArray, List.set_cons_zero, List.set_cons_succ, i64_w, i32_w]; rfl)
                                          refine pure_ (i := 6) (N := some 197) (v := ?_) (a' := ?_) #[true, true, true, true, true, true, true, false, false, false] rfl rfl (any_of HT_.out (by kernel_rfl)) (fun _ _ _ h => h) (Or.inl ⟨by rfl, ?_⟩) ?_ ?_; rotate_left; (· intro w'; go_simp; with_reducible rfl); rotate_left; (· simp only [Act.put, List.setIfInBounds_toArray, List.set_cons_zero, List.set_cons_succ, i64_w, i32_w]; rfl)
                                          refine pure_ (i := 7) (N := some 198) (v := ?_) (a' := ?_) #[true, true, true, true, true, true, true, true, false, false] rfl rfl (any_of HT_.out (by kernel_rfl)) (fun _ _ _ h => h) (Or.inl ⟨by rfl, ?_⟩) ?_ ?_; rotate_left; (· intro w'; go_simp; with_reducible rfl); rotate_left; (· simp only [Act.put, List.setIfInBounds_toArray, List.set_cons_zero, List.set_cons_succ, i64_w, i32_w]; rfl)
                                          refine pure_ (i := 8) (N := some 21) (v := ?_) (a' := ?_) #[true, true, true, true, true, true, true, true, true, false] rfl rfl (any_of HT_.out (by kernel_rfl)) (fun _ _ _ h => h) (Or.inl ⟨by rfl, ?_⟩) ?_ ?_; rotate_left; (· intro w'; go_simp; with_reducible rfl); rotate_left; (· simp only [Act.put, List.setIfInBounds_toArray, List.set_cons_zero, List.set_cons_succ, i64_w, i32_w]; rfl)
                                          refine pure_ (i := 9) (N := some 22) (v := ?_) (a' := ?_) #[true, true, true, true, true, true, true, true, true, true] rfl rfl (any_of HT_.out (by kernel_rfl)) (fun _ _ _ h => h) (Or.inl ⟨by rfl, ?_⟩) ?_ ?_; rotate_left; (· intro w'; go_simp; with_reducible rfl); rotate_left; (· simp only [Act.put, List.setIfInBounds_toArray, List.set_cons_zero, List.set_cons_succ, i64_w, i32_w]; rfl)
                                          refine done_ (done_of HT_.out (by kernel_rfl)) ?_
                                          as_aux_lemma =>
                                           obtain ⟨Ao71, co71, eo71⟩ := Kd.R_slice HO455.out
                                           subst eo71
                                           have p457 : 0 ≤ (0 : Int) := (by omega)
                                           have q457 : 0 < (t453.length : Int) := oD
                                           obtain ⟨ad457, e457, hx457_0⟩ := Kd.at_string (Kd.R_reads' HO455.out).2.2 0 p457 q457
                                           cases e457
                                           have qi457 : (0 < t453.length) = True := eq_true (by omega)
                                           (try rw [show ((0 : Int)).toNat = 0 from rfl] at hx457_0)
                                           (try rw [Addr.add_zero'] at hx457_0)
                                           replace p457 := eq_true p457; replace q457 := eq_true q457
                                           have hnb72 := NB444_427.out
                                           have hnc72 := NB427_444.out
                                           have hcz73_0 : w70.cell? ⟨gb444, 0, none⟩ = some (.string ((rd_T35 t428 x146_1).f0)) := (blk_cell BK444.out 0).trans rfl
                                           have hcz73_1 : w70.cell? ⟨gb444, 1, none⟩ = some (.int .i64 ((rd_T35 t428 x146_1).f1)) := (blk_cell BK444.out 1).trans rfl
                                           have hcz73_2 : w70.cell? ⟨gb444, 2, none⟩ = some (.int .i64 ((rd_T35 t428 x146_1).f2)) := (blk_cell BK444.out 2).trans rfl
                                           have hfz73_0 := blk_frozen BK444.out 0
                                           have hfz73_1 := blk_frozen BK444.out 1
                                           have hfz73_2 := blk_frozen BK444.out 2
                                           try go_wp2
                                           repeat (go_quiet (fail); try go_wp2)
                                           go_roundg kj41
                                           case measure => have := HK1.out; have := HJ41.out; omega
                                           case rel => exact ⟨(wrap64 (x146_1 + 1)), fR, H', ⟨by have := HK1.out; have := HJ41.out; omega⟩, ⟨by (with_reducible repeat (first | apply Kd.R_alloc | apply Kd.R_drewN | apply Kd.R_drew)); exact Kd.R_mono HO_7.out (fun _ hk => trivial)⟩, ⟨by (with_reducible repeat (first | apply Kd.R_alloc | apply Kd.R_drewN | apply Kd.R_drew)); exact Kd.R_mono HO_144.out (fun _ hk => trivial)⟩, ⟨bK⟩, ⟨bG⟩⟩
                                        ·rw [if_neg c67] at H
                                         exact absurd H (by simp)
                                       ·rw [if_neg c66] at H
                                        exact absurd H (by simp)
                                     ·replace c64 := Bool.eq_false_iff.mpr c64
                                      subst c64
                                      have H1 : (none) = some r := by rw [if_neg (show ¬ (false = true) by decide)] at H; exact H
                                      clear H
                                      have H := H1
                                      clear H1
                                      exact absurd H (by simp)
                                    ·rw [if_neg c62] at H
                                     exact absurd H (by simp)
                                   ·rw [if_neg c61] at H
                                    exact absurd H (by simp)
                                  ·rw [if_neg c60] at H
                                   have c60b0 : decide (x146_1 ≤ 10) = false := decide_eq_false c60
                                   clear c60
                                   have H' := Aside0.mk H
                                   clear H
                                   try go_wp2
                                   repeat (go_quiet (fail); try go_wp2)
                                   go_roundg kj41
                                   case measure => have := HK1.out; have := HJ41.out; omega
                                   case rel => exact ⟨(wrap64 (x146_1 + 1)), fR, H', ⟨by have := HK1.out; have := HJ41.out; omega⟩, ⟨by (with_reducible repeat (first | apply Kd.R_alloc | apply Kd.R_drewN | apply Kd.R_drew)); exact Kd.R_mono HO_7.out (fun _ hk => trivial)⟩, ⟨by (with_reducible repeat (first | apply Kd.R_alloc | apply Kd.R_drewN | apply Kd.R_drew)); exact Kd.R_mono HO_144.out (fun _ hk => trivial)⟩, ⟨bK⟩, ⟨bG⟩⟩
                            ·rw [if_neg c40] at H
                             exact absurd H (by simp)
                           ·rw [if_neg c39] at H
                            exact absurd H (by simp)
                          ·rw [if_neg c38] at H
                           have c38b0 : decide (x146_1 < (t428.length : Int)) = false := decide_eq_false c38
                           clear c38
                           have H' := Aside0.mk H
                           clear H
                           try go_wp2
                           repeat (go_quiet (fail); try go_wp2)
                           go_meet
                           case rel => exact ⟨_, H', ⟨by have := HK1.out; first | omega | exact Nat.le_refl _⟩, ⟨bK⟩, ⟨bG⟩⟩
                     ·rw [if_neg c36] at H
                      exact absurd H (by simp)
                    ·rw [if_neg c35] at H
                     exact absurd H (by simp)
                   ·rw [if_neg c34] at H
                    exact absurd H (by simp)
                  ·rw [if_neg c33] at H
                   exact absurd H (by simp)
                ·rw [if_neg c30] at H
                 exact absurd H (by simp)
               ·replace c29 := Bool.eq_false_iff.mpr c29
                subst c29
                have H1 : (laws_FnHintsPlayed.j2 k l1) = some r := by rw [if_neg (show ¬ (false = true) by decide)] at H; exact H
                clear H
                have H := H1
                clear H1
                have H' := Aside0.mk H
                clear H
                try go_wp2
                repeat (go_quiet (fail); try go_wp2)
                go_meet
                case rel => exact ⟨_, H', ⟨by first | omega | exact Nat.le_refl _⟩, ⟨bK⟩, ⟨bG⟩⟩
             case rest =>
              as_aux_lemma =>
               clear HC16
               (try clear c1); (try clear c2); (try clear p2); (try clear c3); (try clear c4); (try clear p4); (try clear q4); (try clear hx4); (try clear qi4); (try clear c5); (try clear c6); (try clear p6); (try clear q6); (try clear c7); (try clear c8); (try clear c9); (try clear c10); (try clear c10b0); (try clear c10b1); (try clear c10b2); (try clear c12); (try clear c13); (try clear c13b0); (try clear c13b1); (try clear c13b2); (try clear c14); (try clear c14b0); (try clear c14b1); (try clear c15); (try clear c15b0); (try clear c15b1); (try clear c15b2); (try clear c29); (try clear c30); (try clear c30b0); (try clear c30b1); (try clear c31); (try clear c31b0); (try clear c31b1); (try clear c33); (try clear c33b0); (try clear c34); (try clear c34b0); (try clear c35); (try clear c35b0); (try clear c35b1); (try clear c36); (try clear c36b0); (try clear c36b1); (try clear c38); (try clear c38b0); (try clear c39); (try clear c39b0); (try clear c40); (try clear c40b0); (try clear c44); (try clear p44); (try clear q44); (try clear hx44); (try clear p45); (try clear q45); (try clear hx45); (try clear qi45); (try clear c48); (try clear c49); (try clear c49b0); (try clear c49b1); (try clear c50); (try clear c50b0); (try clear c50b1); (try clear c51); (try clear c51b0); (try clear c53); (try clear c53b0); (try clear c54); (try clear c54b0); (try clear c55); (try clear c57); (try clear c59); (try clear c60); (try clear c60b0); (try clear c61); (try clear c61b0); (try clear c61b1); (try clear c62); (try clear c62b0); (try clear c62b1); (try clear c64); (try clear p64); (try clear c65); (try clear c65b0); (try clear c65b1); (try clear c66); (try clear c66b0); (try clear c66b1); (try clear c67); (try clear c67b0); (try clear c67b1); (try clear q69); (try clear c72); (try clear hcz19_0); (try clear hcz19_1); (try clear hcz21_0); (try clear hcz21_1); (try clear hcz23_0); (try clear hcz23_1); (try clear hcz25_0); (try clear hcz25_1); (try clear hcz37_0); (try clear hcz37_1); (try clear hcz45_0); (try clear hcz45_1); (try clear hcz45_2); (try clear hcz46_0); (try clear hcz46_1); (try clear hcz56_0); (try clear hcz56_1); (try clear hcz56_2); (try clear hcz58_0); (try clear hcz58_1); (try clear hcz58_2); (try clear hcz73_0); (try clear hcz73_1); (try clear hcz73_2); (try clear hfz19_0); (try clear hfz19_1); (try clear hfz21_0); (try clear hfz21_1); (try clear hfz23_0); (try clear hfz23_1); (try clear hfz25_0); (try clear hfz25_1); (try clear hfz37_0); (try clear hfz37_1); (try clear hfz45_0); (try clear hfz45_1); (try clear hfz45_2); (try clear hfz46_0); (try clear hfz46_1); (try clear hfz56_0); (try clear hfz56_1); (try clear hfz56_2); (try clear hfz58_0); (try clear hfz58_1); (try clear hfz58_2); (try clear hfz73_0); (try clear hfz73_1); (try clear hfz73_2); (try clear hx441_0); (try clear hx441_1); (try clear hx441_2); (try clear hx442_0); (try clear hx442_1); (try clear hx442_2); (try clear hx443_0); (try clear hx443_1); (try clear hx443_2); (try clear hx448_0); (try clear hx448_1); (try clear hx448_2); (try clear hx457_0); (try clear p2); (try clear p4); (try clear p44); (try clear p441); (try clear p442); (try clear p443); (try clear p448); (try clear p457); (try clear p6); (try clear q4); (try clear q44); (try clear q441); (try clear q442); (try clear q443); (try clear q448); (try clear q457); (try clear q69)
               obtain ⟨kq, HA, HJ15, BK427, HB⟩ := hcut
               cases kq with
               | zero => exact absurd HA.out (by simp [laws_FnHintsPlayed.j2])
               | succ kj15 =>
                have H := HA.out
                clear HA
                simp only [laws_FnHintsPlayed.j2] at H
                replace H := Option.bind_eq_some_iff.mp H
                obtain ⟨⟨t458, t459⟩, A740, H⟩ := H
                (try dsimp only at H)
                have A74 := Aside0.mk A740
                clear A740
                replace H := Option.bind_eq_some_iff.mp H
                obtain ⟨⟨t461, t462⟩, A750, H⟩ := H
                (try dsimp only at H)
                have A75 := Aside0.mk A750
                clear A750
                replace H := Option.bind_eq_some_iff.mp H
                obtain ⟨⟨t463, t464⟩, A760, H⟩ := H
                (try dsimp only at H)
                have A76 := Aside0.mk A760
                clear A760
                replace H := Option.bind_eq_some_iff.mp H
                obtain ⟨⟨t465, t468⟩, A770, H⟩ := H
                (try dsimp only at H)
                have A77 := Aside0.mk A770
                clear A770
                replace H := Option.bind_eq_some_iff.mp H
                obtain ⟨⟨t469, t472⟩, A780, H⟩ := H
                (try dsimp only at H)
                have A78 := Aside0.mk A780
                clear A780
                replace H := Option.bind_eq_some_iff.mp H
                obtain ⟨⟨t473, t476⟩, A790, H⟩ := H
                (try dsimp only at H)
                have A79 := Aside0.mk A790
                clear A790
                replace H := Option.bind_eq_some_iff.mp H
                obtain ⟨⟨t477, t480⟩, A800, H⟩ := H
                (try dsimp only at H)
                have A80 := Aside0.mk A800
                clear A800
                replace H := Option.bind_eq_some_iff.mp H
                obtain ⟨⟨t481, t482, t483, t484⟩, A810, H⟩ := H
                (try dsimp only at H)
                have A81 := Aside0.mk A810
                clear A810
                replace H := Option.bind_eq_some_iff.mp H
                obtain ⟨⟨t486, t487⟩, A820, H⟩ := H
                (try dsimp only at H)
                have A82 := Aside0.mk A820
                clear A820
                replace H := Option.bind_eq_some_iff.mp H
                obtain ⟨⟨t488, t489⟩, A830, H⟩ := H
                (try dsimp only at H)
                have A83 := Aside0.mk A830
                clear A830
                by_cases c84 : (t462 != t464) = true
                ·rw [if_pos c84] at H
                 exact absurd H (by simp)
                ·rw [if_neg c84] at H
                 have c84b0 : (t462 != t464) = false := by simpa using c84
                 (try (have c84b1 : decide (t462 = t464) = true := by simpa using c84))
                 (try (have c84b2 : (t462 == t464) = true := by simpa using c84))
                 clear c84
                 by_cases c85 : t461 = t463
                 ·rw [if_pos c85] at H
                  have c85b0 : (t461 == t463) = true := beq_iff_eq.mpr c85
                  have c85b1 : (t461 != t463) = false := bne_eq_false_iff_eq.mpr c85
                  clear c85
                  by_cases c86 : (t468 != t472) = true
                  ·rw [if_pos c86] at H
                   exact absurd H (by simp)
                  ·rw [if_neg c86] at H
                   have c86b0 : (t468 != t472) = false := by simpa using c86
                   (try (have c86b1 : decide (t468 = t472) = true := by simpa using c86))
                   (try (have c86b2 : (t468 == t472) = true := by simpa using c86))
                   clear c86
                   replace H := Option.bind_eq_some_iff.mp H
                   obtain ⟨t490, A870, H⟩ := H
                   (try dsimp only at H)
                   have A87 := Aside0.mk A870
                   clear A870
                   by_cases c88 : t490 = true
                   ·subst c88
                    have H1 : (if (t476 != t480) = true then (none) else ((laws_eRows.f kj15 t473 t477).bind fun t491 => (if t491 = true then (if (t487 != t489) = true then (none) else (if t486 = t488 then (if (t468 != t462) = true then (none) else (if (t476 != t462) = true then (none) else (if t462 = true then (if (t465.length : Int) < 1 then (none) else ((laws_eSorted.f kj15 t465).bind fun t492 => (if t492 = true then (if t461 < 1 then (none) else (laws_FnHintsPlayed.l1 kj15 t461 t473 t483 t484 t486 t487 t465 (t465.length : Int) 0 t458 t459 t481 t482)) else (none)))) else (laws_FnHintsPlayed.j5 kj15 t483 t484 t486 t487 t481 t482)))) else (none))) else (none)))) = some r := by rw [if_pos rfl] at H; exact H
                    clear H
                    have H := H1
                    clear H1
                    by_cases c89 : (t476 != t480) = true
                    ·rw [if_pos c89] at H
                     exact absurd H (by simp)
                    ·rw [if_neg c89] at H
                     have c89b0 : (t476 != t480) = false := by simpa using c89
                     (try (have c89b1 : decide (t476 = t480) = true := by simpa using c89))
                     (try (have c89b2 : (t476 == t480) = true := by simpa using c89))
                     clear c89
                     replace H := Option.bind_eq_some_iff.mp H
                     obtain ⟨t491, A900, H⟩ := H
                     (try dsimp only at H)
                     have A90 := Aside0.mk A900
                     clear A900
                     by_cases c91 : t491 = true
                     ·subst c91
                      have H1 : (if (t487 != t489) = true then (none) else (if t486 = t488 then (if (t468 != t462) = true then (none) else (if (t476 != t462) = true then (none) else (if t462 = true then (if (t465.length : Int) < 1 then (none) else ((laws_eSorted.f kj15 t465).bind fun t492 => (if t492 = true then (if t461 < 1 then (none) else (laws_FnHintsPlayed.l1 kj15 t461 t473 t483 t484 t486 t487 t465 (t465.length : Int) 0 t458 t459 t481 t482)) else (none)))) else (laws_FnHintsPlayed.j5 kj15 t483 t484 t486 t487 t481 t482)))) else (none))) = some r := by rw [if_pos rfl] at H; exact H
                      clear H
                      have H := H1
                      clear H1
                      by_cases c92 : (t487 != t489) = true
                      ·rw [if_pos c92] at H
                       exact absurd H (by simp)
                      ·rw [if_neg c92] at H
                       have c92b0 : (t487 != t489) = false := by simpa using c92
                       (try (have c92b1 : decide (t487 = t489) = true := by simpa using c92))
                       (try (have c92b2 : (t487 == t489) = true := by simpa using c92))
                       clear c92
                       by_cases c93 : t486 = t488
                       ·rw [if_pos c93] at H
                        have c93b0 : (t486 == t488) = true := beq_iff_eq.mpr c93
                        have c93b1 : (t486 != t488) = false := bne_eq_false_iff_eq.mpr c93
                        clear c93
                        by_cases c94 : (t468 != t462) = true
                        ·rw [if_pos c94] at H
                         exact absurd H (by simp)
                        ·rw [if_neg c94] at H
                         have c94b0 : (t468 != t462) = false := by simpa using c94
                         (try (have c94b1 : decide (t468 = t462) = true := by simpa using c94))
                         (try (have c94b2 : (t468 == t462) = true := by simpa using c94))
                         clear c94
                         by_cases c95 : (t476 != t462) = true
                         ·rw [if_pos c95] at H
                          exact absurd H (by simp)
                         ·rw [if_neg c95] at H
                          have c95b0 : (t476 != t462) = false := by simpa using c95
                          (try (have c95b1 : decide (t476 = t462) = true := by simpa using c95))
                          (try (have c95b2 : (t476 == t462) = true := by simpa using c95))
                          clear c95
                          have HC96 := Aside0.mk H
                          clear H
                          go_upto_region 26 with (first | ((with_reducible refine gate_callee (f := 14) rfl ?_); refine goesL_ (some 216) rfl rfl Tryz.func14 (by kernel_rfl) rfl #[.slice A1 l1.length c1] rfl lM ?_; (with_reducible refine (spec_DrawMostGuesses.calls _ _ l1 t458 t459 _ ?side1 ?side2 A74.out).mono ?_); (case side1 => repeat (first | exact (Kd.C_below HR1.out HB.out) | (with_reducible refine Kd.C_alloc ?_ _) | (with_reducible refine Kd.C_drewN ?_ _) | (with_reducible refine Kd.C_drew ?_))); (case side2 => exact HC1.out); rintro e w97 ⟨rfl, hb⟩; refine ⟨_, rfl, ?_⟩; have n0_ := Aside0.mk (blk_below (g := gb427) (o := .cells #[.int .i64 t424, .int .i64 t425] 25 (0, 0)) bK hb); have n1_ := Aside0.mk (below_step bG hb); clear BK427; clear HB; have BK427 := n0_; have HB := n1_; clear n0_ n1_; (try clear hb); (try clear hb2); (try clear hk); (try clear hi)) | ((with_reducible refine gate_dst (N := 23) rfl ?_); (try (refine gate_guard (by rfl) ?_; dsimp only)); refine box_event ?hg (N := 23) ?hd (cs := #[.int .i64 0, .int .i64 0]) (t := 25) ?hr ?_; (case hd => rfl); (case hg => rfl); (case hr => first | (go_simp; done) | (go_simp; rfl)); intro gb460 hg w98 hbox hb; have n0_ := Aside0.mk (blk_below (g := gb427) (o := .cells #[.int .i64 t424, .int .i64 t425] 25 (0, 0)) bK hb); have n1_ := Aside0.mk (below_step bG hb); have n2_ := Aside0.mk (hbox); have n3_ := Aside0.mk ((by rw [hg]; exact (below_size bG) : w.heap.size ≤ gb460)); have n4_ := Aside0.mk ((by rw [hg]; exact (below_size bG) : w.heap.size ≤ gb460)); have n5_ := Aside0.mk ((by rw [hg]; exact Nat.ne_of_lt (blk_lt (g := gb427) (o := .cells #[.int .i64 t424, .int .i64 t425] 25 (0, 0)) bK) : gb427 ≠ gb460)); have n6_ := Aside0.mk ((by rw [hg]; exact Nat.ne_of_gt (blk_lt (g := gb427) (o := .cells #[.int .i64 t424, .int .i64 t425] 25 (0, 0)) bK) : gb460 ≠ gb427)); clear BK427; clear HB; have BK427 := n0_; have HB := n1_; have BK460 := n2_; have GW460 := n3_; have GE460 := n4_; have NB427_460 := n5_; have NB460_427 := n6_; clear n0_ n1_ n2_ n3_ n4_ n5_ n6_; clear hb hbox hg; have hnb99 := NB460_427.out; have hnc99 := NB427_460.out; have hcz100_0 : w98.cell? ⟨gb460, 0, none⟩ = some (.int .i64 0) := (blk_cell BK460.out 0).trans rfl; have hcz100_1 : w98.cell? ⟨gb460, 1, none⟩ = some (.int .i64 0) := (blk_cell BK460.out 1).trans rfl; have hfz100_0 := blk_frozen BK460.out 0; have hfz100_1 := blk_frozen BK460.out 1))
                          as_aux_lemma =>
                           go_upto_region 27 with (first | ((with_reducible refine gate_callee (f := 15) rfl ?_); refine goesL_ (some 219) rfl rfl Tryz.func15 (by kernel_rfl) rfl #[.agg #[.int .i64 t458, .int .i64 t459]] rfl lM ?_; (with_reducible refine (impl_MostGuesses.calls kj15 t458 t459 t461 t462 _ A75.out).mono ?_); rintro e w101 ⟨rfl, hb⟩; refine ⟨_, rfl, ?_⟩; have n0_ := Aside0.mk (blk_below (g := gb427) (o := .cells #[.int .i64 t424, .int .i64 t425] 25 (0, 0)) (by (with_reducible repeat (first | refine blk_drewN ?_ _ | refine blk_drew ?_ | refine blk_alloc ?_ _)); refine blk_far ?_ NB427_460.out _; (with_reducible repeat (first | refine blk_drewN ?_ _ | refine blk_drew ?_ | refine blk_alloc ?_ _)); refine blk_far ?_ NB427_460.out _; (with_reducible repeat (first | refine blk_drewN ?_ _ | refine blk_drew ?_ | refine blk_alloc ?_ _)); exact BK427.out) hb); have n1_ := Aside0.mk (blk_below (g := gb460) (o := .cells #[.int .i64 t458, .int .i64 t459] 25 (0, 0)) (by (with_reducible repeat (first | refine blk_drewN ?_ _ | refine blk_drew ?_ | refine blk_alloc ?_ _)); refine blk_put (cs := #[.int .i64 t458, .int .i64 0]) ?_ 1 _ rfl; (with_reducible repeat (first | refine blk_drewN ?_ _ | refine blk_drew ?_ | refine blk_alloc ?_ _)); refine blk_put (cs := #[.int .i64 0, .int .i64 0]) ?_ 0 _ rfl; (with_reducible repeat (first | refine blk_drewN ?_ _ | refine blk_drew ?_ | refine blk_alloc ?_ _)); exact BK460.out) hb); have n2_ := Aside0.mk (below_step bG hb); clear BK427; clear BK460; clear HB; have BK427 := n0_; have BK460 := n1_; have HB := n2_; clear n0_ n1_ n2_; (try clear hb); (try clear hb2); (try clear hk); (try clear hi); have hcz102_0 : w101.cell? ⟨gb460, 0, none⟩ = some (.int .i64 t458) := (blk_cell BK460.out 0).trans rfl; have hcz102_1 : w101.cell? ⟨gb460, 1, none⟩ = some (.int .i64 t459) := (blk_cell BK460.out 1).trans rfl; have hfz102_0 := blk_frozen BK460.out 0; have hfz102_1 := blk_frozen BK460.out 1))
                           as_aux_lemma =>
                            go_upto_region 28 with (first | ((with_reducible refine gate_callee (f := 16) rfl ?_); refine goesL_ (some 224) rfl rfl Tryz.func16 (by kernel_rfl) rfl #[.agg #[.int .i64 t458, .int .i64 t459]] rfl lM ?_; (with_reducible refine (spec_MostGuesses.calls kj15 t458 t459 t463 t464 _ A76.out).mono ?_); rintro e w103 ⟨rfl, hb⟩; refine ⟨_, rfl, ?_⟩; have n0_ := Aside0.mk (blk_below (g := gb427) (o := .cells #[.int .i64 t424, .int .i64 t425] 25 (0, 0)) bK hb); have n1_ := Aside0.mk (blk_below (g := gb460) (o := .cells #[.int .i64 t458, .int .i64 t459] 25 (0, 0)) bK hb); have n2_ := Aside0.mk (below_step bG hb); clear BK427; clear BK460; clear HB; have BK427 := n0_; have BK460 := n1_; have HB := n2_; clear n0_ n1_ n2_; (try clear hb); (try clear hb2); (try clear hk); (try clear hi); have hcz104_0 : w103.cell? ⟨gb460, 0, none⟩ = some (.int .i64 t458) := (blk_cell BK460.out 0).trans rfl; have hcz104_1 : w103.cell? ⟨gb460, 1, none⟩ = some (.int .i64 t459) := (blk_cell BK460.out 1).trans rfl; have hfz104_0 := blk_frozen BK460.out 0; have hfz104_1 := blk_frozen BK460.out 1))
                            as_aux_lemma =>
                             go_upto_region 29 with (first | ((with_reducible refine gate_callee (f := 17) rfl ?_); refine goesL_ (some 229) rfl rfl Tryz.func17 (by kernel_rfl) rfl #[.agg #[.int .i64 t458, .int .i64 t459]] rfl lM ?_; (with_reducible refine (impl_HardestCodes.calls kj15 t458 t459 t465 t468 _ A77.out).mono ?_); rintro e w105 ⟨v466, rfl, ho0, hb⟩; refine ⟨_, rfl, ?_⟩; have n0_ := Aside0.mk (Kd.R_lower ho0 (below_size bG)); have n1_ := Aside0.mk (blk_below (g := gb427) (o := .cells #[.int .i64 t424, .int .i64 t425] 25 (0, 0)) bK hb); have n2_ := Aside0.mk (blk_below (g := gb460) (o := .cells #[.int .i64 t458, .int .i64 t459] 25 (0, 0)) bK hb); have n3_ := Aside0.mk (below_step bG hb); clear BK427; clear BK460; clear HB; have HO467 := n0_; have BK427 := n1_; have BK460 := n2_; have HB := n3_; clear n0_ n1_ n2_ n3_; (try clear hb); (try clear hb2); (try clear hk); (try clear hi); (try clear ho0); have hcz106_0 : w105.cell? ⟨gb460, 0, none⟩ = some (.int .i64 t458) := (blk_cell BK460.out 0).trans rfl; have hcz106_1 : w105.cell? ⟨gb460, 1, none⟩ = some (.int .i64 t459) := (blk_cell BK460.out 1).trans rfl; have hfz106_0 := blk_frozen BK460.out 0; have hfz106_1 := blk_frozen BK460.out 1))
                             as_aux_lemma =>
                              go_upto_region 30 with (first | ((with_reducible refine gate_callee (f := 18) rfl ?_); refine goesL_ (some 234) rfl rfl Tryz.func18 (by kernel_rfl) rfl #[.agg #[.int .i64 t458, .int .i64 t459]] rfl lM ?_; (with_reducible refine (spec_HardestCodes.calls kj15 t458 t459 t469 t472 _ A78.out).mono ?_); rintro e w107 ⟨v470, rfl, ho0, hb⟩; refine ⟨_, rfl, ?_⟩; have n0_ := Aside0.mk (Kd.R_elder' (by (with_reducible repeat (first | apply Kd.R_alloc | apply Kd.R_drewN | apply Kd.R_drew)); exact HO467.out) (Kd.R_base ho0) hb); have n1_ := Aside0.mk (Kd.R_lower (Kd.R_new' ho0 (Kd.R_lt (by (with_reducible repeat (first | apply Kd.R_alloc | apply Kd.R_drewN | apply Kd.R_drew)); exact HO467.out))) (below_size bG)); have n2_ := Aside0.mk (blk_below (g := gb427) (o := .cells #[.int .i64 t424, .int .i64 t425] 25 (0, 0)) bK hb); have n3_ := Aside0.mk (blk_below (g := gb460) (o := .cells #[.int .i64 t458, .int .i64 t459] 25 (0, 0)) bK hb); have n4_ := Aside0.mk (below_step bG hb); clear HO467; clear BK427; clear BK460; clear HB; have HO467 := n0_; have HO471 := n1_; have BK427 := n2_; have BK460 := n3_; have HB := n4_; clear n0_ n1_ n2_ n3_ n4_; (try clear hb); (try clear hb2); (try clear hk); (try clear hi); (try clear ho0); have hcz108_0 : w107.cell? ⟨gb460, 0, none⟩ = some (.int .i64 t458) := (blk_cell BK460.out 0).trans rfl; have hcz108_1 : w107.cell? ⟨gb460, 1, none⟩ = some (.int .i64 t459) := (blk_cell BK460.out 1).trans rfl; have hfz108_0 := blk_frozen BK460.out 0; have hfz108_1 := blk_frozen BK460.out 1))
                              as_aux_lemma =>
                               go_upto_region 31 with (first | ((with_reducible refine gate_callee (f := 19) rfl ?_); refine goesL_ (some 239) rfl rfl Tryz.func19 (by kernel_rfl) rfl #[.agg #[.int .i64 t458, .int .i64 t459]] rfl lM ?_; (with_reducible refine (impl_PossibleHints.calls kj15 t458 t459 t473 t476 _ A79.out).mono ?_); rintro e w109 ⟨v474, rfl, ho0, hb⟩; refine ⟨_, rfl, ?_⟩; have n0_ := Aside0.mk (Kd.R_below (by (with_reducible repeat (first | apply Kd.R_alloc | apply Kd.R_drewN | apply Kd.R_drew)); exact HO467.out) hb); have n1_ := Aside0.mk (Kd.R_below (by (with_reducible repeat (first | apply Kd.R_alloc | apply Kd.R_drewN | apply Kd.R_drew)); exact HO471.out) hb); have n2_ := Aside0.mk (Kd.S_lower (Kd.S_mono (ok' := fun k_ => True) ho0 (fun _ hk_ => trivial)) (below_size bG)); have n3_ := Aside0.mk (blk_below (g := gb427) (o := .cells #[.int .i64 t424, .int .i64 t425] 25 (0, 0)) bK hb); have n4_ := Aside0.mk (blk_below (g := gb460) (o := .cells #[.int .i64 t458, .int .i64 t459] 25 (0, 0)) bK hb); have n5_ := Aside0.mk (below_step bG hb); clear HO467; clear HO471; clear BK427; clear BK460; clear HB; have HO467 := n0_; have HO471 := n1_; have HO475 := n2_; have BK427 := n3_; have BK460 := n4_; have HB := n5_; clear n0_ n1_ n2_ n3_ n4_ n5_; (try clear hb); (try clear hb2); (try clear hk); (try clear hi); (try clear ho0); have hcz110_0 : w109.cell? ⟨gb460, 0, none⟩ = some (.int .i64 t458) := (blk_cell BK460.out 0).trans rfl; have hcz110_1 : w109.cell? ⟨gb460, 1, none⟩ = some (.int .i64 t459) := (blk_cell BK460.out 1).trans rfl; have hfz110_0 := blk_frozen BK460.out 0; have hfz110_1 := blk_frozen BK460.out 1))
                               as_aux_lemma =>
                                go_upto_region 32 with (first | ((with_reducible refine gate_callee (f := 20) rfl ?_); refine goesL_ (some 244) rfl rfl Tryz.func20 (by kernel_rfl) rfl #[.agg #[.int .i64 t458, .int .i64 t459]] rfl lM ?_; (with_reducible refine (spec_PossibleHints.calls kj15 t458 t459 t477 t480 _ A80.out).mono ?_); rintro e w111 ⟨v478, rfl, ho0, hb⟩; refine ⟨_, rfl, ?_⟩; have n0_ := Aside0.mk (Kd.R_below (by (with_reducible repeat (first | apply Kd.R_alloc | apply Kd.R_drewN | apply Kd.R_drew)); exact HO467.out) hb); have n1_ := Aside0.mk (Kd.R_below (by (with_reducible repeat (first | apply Kd.R_alloc | apply Kd.R_drewN | apply Kd.R_drew)); exact HO471.out) hb); have n2_ := Aside0.mk (Kd.S_elder' (by (with_reducible repeat (first | apply Kd.S_alloc | apply Kd.S_drewN | apply Kd.S_drew)); exact HO475.out) (Kd.S_base ho0) hb); have n3_ := Aside0.mk (Kd.S_lower (Kd.S_new' ho0 (Kd.S_lt (by (with_reducible repeat (first | apply Kd.S_alloc | apply Kd.S_drewN | apply Kd.S_drew)); exact HO475.out))) (below_size bG)); have n4_ := Aside0.mk (blk_below (g := gb427) (o := .cells #[.int .i64 t424, .int .i64 t425] 25 (0, 0)) bK hb); have n5_ := Aside0.mk (blk_below (g := gb460) (o := .cells #[.int .i64 t458, .int .i64 t459] 25 (0, 0)) bK hb); have n6_ := Aside0.mk (below_step bG hb); clear HO467; clear HO471; clear HO475; clear BK427; clear BK460; clear HB; have HO467 := n0_; have HO471 := n1_; have HO475 := n2_; have HO479 := n3_; have BK427 := n4_; have BK460 := n5_; have HB := n6_; clear n0_ n1_ n2_ n3_ n4_ n5_ n6_; (try clear hb); (try clear hb2); (try clear hk); (try clear hi); (try clear ho0)))
                                as_aux_lemma =>
                                 go_upto_region 33 with (first | ((with_reducible refine gate_callee (f := 21) rfl ?_); refine goesL_ (some 249) rfl rfl Tryz.func21 (by kernel_rfl) rfl #[.slice A1 l1.length c1] rfl lM ?_; (with_reducible refine (spec_DrawCountWithHint.calls _ _ l1 t481 t482 t483 t484 _ ?side1 ?side2 A81.out).mono ?_); (case side1 => repeat (first | exact (Kd.C_below HR1.out HB.out) | (with_reducible refine Kd.C_alloc ?_ _) | (with_reducible refine Kd.C_drewN ?_ _) | (with_reducible refine Kd.C_drew ?_))); (case side2 => exact HC1.out); rintro e w112 ⟨rfl, hb⟩; refine ⟨_, rfl, ?_⟩; have n0_ := Aside0.mk (Kd.R_below (by (with_reducible repeat (first | apply Kd.R_alloc | apply Kd.R_drewN | apply Kd.R_drew)); exact HO467.out) hb); have n1_ := Aside0.mk (Kd.R_below (by (with_reducible repeat (first | apply Kd.R_alloc | apply Kd.R_drewN | apply Kd.R_drew)); exact HO471.out) hb); have n2_ := Aside0.mk (Kd.S_below (by (with_reducible repeat (first | apply Kd.S_alloc | apply Kd.S_drewN | apply Kd.S_drew)); exact HO475.out) hb); have n3_ := Aside0.mk (Kd.S_below (by (with_reducible repeat (first | apply Kd.S_alloc | apply Kd.S_drewN | apply Kd.S_drew)); exact HO479.out) hb); have n4_ := Aside0.mk (blk_below (g := gb427) (o := .cells #[.int .i64 t424, .int .i64 t425] 25 (0, 0)) bK hb); have n5_ := Aside0.mk (blk_below (g := gb460) (o := .cells #[.int .i64 t458, .int .i64 t459] 25 (0, 0)) bK hb); have n6_ := Aside0.mk (below_step bG hb); clear HO467; clear HO471; clear HO475; clear HO479; clear BK427; clear BK460; clear HB; have HO467 := n0_; have HO471 := n1_; have HO475 := n2_; have HO479 := n3_; have BK427 := n4_; have BK460 := n5_; have HB := n6_; clear n0_ n1_ n2_ n3_ n4_ n5_ n6_; (try clear hb); (try clear hb2); (try clear hk); (try clear hi)) | ((with_reducible refine gate_dst (N := 36) rfl ?_); (try (refine gate_guard (by rfl) ?_; dsimp only)); refine box_event ?hg (N := 36) ?hd (cs := #[.int .i64 0, .int .i64 0]) (t := 25) ?hr ?_; (case hd => rfl); (case hg => rfl); (case hr => first | (go_simp; done) | (go_simp; rfl)); intro gb485 hg w113 hbox hb; have n0_ := Aside0.mk (Kd.R_below (by (with_reducible repeat (first | apply Kd.R_alloc | apply Kd.R_drewN | apply Kd.R_drew)); exact HO467.out) hb); have n1_ := Aside0.mk (Kd.R_below (by (with_reducible repeat (first | apply Kd.R_alloc | apply Kd.R_drewN | apply Kd.R_drew)); exact HO471.out) hb); have n2_ := Aside0.mk (Kd.S_below (by (with_reducible repeat (first | apply Kd.S_alloc | apply Kd.S_drewN | apply Kd.S_drew)); exact HO475.out) hb); have n3_ := Aside0.mk (Kd.S_below (by (with_reducible repeat (first | apply Kd.S_alloc | apply Kd.S_drewN | apply Kd.S_drew)); exact HO479.out) hb); have n4_ := Aside0.mk (blk_below (g := gb427) (o := .cells #[.int .i64 t424, .int .i64 t425] 25 (0, 0)) bK hb); have n5_ := Aside0.mk (blk_below (g := gb460) (o := .cells #[.int .i64 t458, .int .i64 t459] 25 (0, 0)) bK hb); have n6_ := Aside0.mk (below_step bG hb); have n7_ := Aside0.mk (hbox); have n8_ := Aside0.mk ((by rw [hg]; exact (below_size bG) : w.heap.size ≤ gb485)); have n9_ := Aside0.mk ((by rw [hg]; exact (below_size bG) : w.heap.size ≤ gb485)); have n10_ := Aside0.mk ((by rw [hg]; exact Nat.ne_of_lt (blk_lt (g := gb427) (o := .cells #[.int .i64 t424, .int .i64 t425] 25 (0, 0)) bK) : gb427 ≠ gb485)); have n11_ := Aside0.mk ((by rw [hg]; exact Nat.ne_of_gt (blk_lt (g := gb427) (o := .cells #[.int .i64 t424, .int .i64 t425] 25 (0, 0)) bK) : gb485 ≠ gb427)); have n12_ := Aside0.mk ((by rw [hg]; exact Nat.ne_of_lt (blk_lt (g := gb460) (o := .cells #[.int .i64 t458, .int .i64 t459] 25 (0, 0)) bK) : gb460 ≠ gb485)); have n13_ := Aside0.mk ((by rw [hg]; exact Nat.ne_of_gt (blk_lt (g := gb460) (o := .cells #[.int .i64 t458, .int .i64 t459] 25 (0, 0)) bK) : gb485 ≠ gb460)); clear HO467; clear HO471; clear HO475; clear HO479; clear BK427; clear BK460; clear HB; have HO467 := n0_; have HO471 := n1_; have HO475 := n2_; have HO479 := n3_; have BK427 := n4_; have BK460 := n5_; have HB := n6_; have BK485 := n7_; have GW485 := n8_; have GE485 := n9_; have NB427_485 := n10_; have NB485_427 := n11_; have NB460_485 := n12_; have NB485_460 := n13_; clear n0_ n1_ n2_ n3_ n4_ n5_ n6_ n7_ n8_ n9_ n10_ n11_ n12_ n13_; clear hb hbox hg; have hnb114 := NB485_427.out; have hnc114 := NB427_485.out; have hnb115 := NB485_460.out; have hnc115 := NB460_485.out; have hcz116_0 : w113.cell? ⟨gb485, 0, none⟩ = some (.int .i64 0) := (blk_cell BK485.out 0).trans rfl; have hcz116_1 : w113.cell? ⟨gb485, 1, none⟩ = some (.int .i64 0) := (blk_cell BK485.out 1).trans rfl; have hfz116_0 := blk_frozen BK485.out 0; have hfz116_1 := blk_frozen BK485.out 1))
                                 as_aux_lemma =>
                                  go_upto_region 34 with (first | ((with_reducible refine gate_callee (f := 22) rfl ?_); refine goesL_ (some 257) rfl rfl Tryz.func22 (by kernel_rfl) rfl #[.agg #[.int .i64 t481, .int .i64 t482], .int .i64 t483, .int .i64 t484] rfl lM ?_; (with_reducible refine (impl_CountWithHint.calls kj15 t481 t482 t483 t484 t486 t487 _ A82.out).mono ?_); rintro e w117 ⟨rfl, hb⟩; refine ⟨_, rfl, ?_⟩; have n0_ := Aside0.mk (Kd.R_below (by (with_reducible repeat (first | apply Kd.R_alloc | apply Kd.R_drewN | apply Kd.R_drew)); exact (Kd.R_mono (Kd.R_far (p := ⟨gb485, 1, none⟩) (Kd.R_far (p := ⟨gb485, 0, none⟩) (Kd.R_types HO467.out BK485.out (by decide)) (fun _ hk => hk.2) (.int .i64 t481)) (fun _ hk => hk.2) (.int .i64 t482)) (fun _ h_ => h_.1))) hb); have n1_ := Aside0.mk (Kd.R_below (by (with_reducible repeat (first | apply Kd.R_alloc | apply Kd.R_drewN | apply Kd.R_drew)); exact (Kd.R_mono (Kd.R_far (p := ⟨gb485, 1, none⟩) (Kd.R_far (p := ⟨gb485, 0, none⟩) (Kd.R_types HO471.out BK485.out (by decide)) (fun _ hk => hk.2) (.int .i64 t481)) (fun _ hk => hk.2) (.int .i64 t482)) (fun _ h_ => h_.1))) hb); have n2_ := Aside0.mk (Kd.S_below (by (with_reducible repeat (first | apply Kd.S_alloc | apply Kd.S_drewN | apply Kd.S_drew)); exact (Kd.S_mono (Kd.S_far (p := ⟨gb485, 1, none⟩) (Kd.S_far (p := ⟨gb485, 0, none⟩) (Kd.S_types HO475.out BK485.out (by decide)) (fun _ hk => hk.2) (.int .i64 t481)) (fun _ hk => hk.2) (.int .i64 t482)) (fun _ h_ => h_.1))) hb); have n3_ := Aside0.mk (Kd.S_below (by (with_reducible repeat (first | apply Kd.S_alloc | apply Kd.S_drewN | apply Kd.S_drew)); exact (Kd.S_mono (Kd.S_far (p := ⟨gb485, 1, none⟩) (Kd.S_far (p := ⟨gb485, 0, none⟩) (Kd.S_types HO479.out BK485.out (by decide)) (fun _ hk => hk.2) (.int .i64 t481)) (fun _ hk => hk.2) (.int .i64 t482)) (fun _ h_ => h_.1))) hb); have n4_ := Aside0.mk (blk_below (g := gb427) (o := .cells #[.int .i64 t424, .int .i64 t425] 25 (0, 0)) (by (with_reducible repeat (first | refine blk_drewN ?_ _ | refine blk_drew ?_ | refine blk_alloc ?_ _)); refine blk_far ?_ NB427_485.out _; (with_reducible repeat (first | refine blk_drewN ?_ _ | refine blk_drew ?_ | refine blk_alloc ?_ _)); refine blk_far ?_ NB427_485.out _; (with_reducible repeat (first | refine blk_drewN ?_ _ | refine blk_drew ?_ | refine blk_alloc ?_ _)); exact BK427.out) hb); have n5_ := Aside0.mk (blk_below (g := gb460) (o := .cells #[.int .i64 t458, .int .i64 t459] 25 (0, 0)) (by (with_reducible repeat (first | refine blk_drewN ?_ _ | refine blk_drew ?_ | refine blk_alloc ?_ _)); refine blk_far ?_ NB460_485.out _; (with_reducible repeat (first | refine blk_drewN ?_ _ | refine blk_drew ?_ | refine blk_alloc ?_ _)); refine blk_far ?_ NB460_485.out _; (with_reducible repeat (first | refine blk_drewN ?_ _ | refine blk_drew ?_ | refine blk_alloc ?_ _)); exact BK460.out) hb); have n6_ := Aside0.mk (blk_below (g := gb485) (o := .cells #[.int .i64 t481, .int .i64 t482] 25 (0, 0)) (by (with_reducible repeat (first | refine blk_drewN ?_ _ | refine blk_drew ?_ | refine blk_alloc ?_ _)); refine blk_put (cs := #[.int .i64 t481, .int .i64 0]) ?_ 1 _ rfl; (with_reducible repeat (first | refine blk_drewN ?_ _ | refine blk_drew ?_ | refine blk_alloc ?_ _)); refine blk_put (cs := #[.int .i64 0, .int .i64 0]) ?_ 0 _ rfl; (with_reducible repeat (first | refine blk_drewN ?_ _ | refine blk_drew ?_ | refine blk_alloc ?_ _)); exact BK485.out) hb); have n7_ := Aside0.mk (below_step bG hb); clear HO467; clear HO471; clear HO475; clear HO479; clear BK427; clear BK460; clear BK485; clear HB; have HO467 := n0_; have HO471 := n1_; have HO475 := n2_; have HO479 := n3_; have BK427 := n4_; have BK460 := n5_; have BK485 := n6_; have HB := n7_; clear n0_ n1_ n2_ n3_ n4_ n5_ n6_ n7_; (try clear hb); (try clear hb2); (try clear hk); (try clear hi); have hcz118_0 : w117.cell? ⟨gb485, 0, none⟩ = some (.int .i64 t481) := (blk_cell BK485.out 0).trans rfl; have hcz118_1 : w117.cell? ⟨gb485, 1, none⟩ = some (.int .i64 t482) := (blk_cell BK485.out 1).trans rfl; have hfz118_0 := blk_frozen BK485.out 0; have hfz118_1 := blk_frozen BK485.out 1))
                                  as_aux_lemma =>
                                   go_upto_region 35 with (first | ((with_reducible refine gate_callee (f := 23) rfl ?_); refine goesL_ (some 264) rfl rfl Tryz.func23 (by kernel_rfl) rfl #[.agg #[.int .i64 t481, .int .i64 t482], .int .i64 t483, .int .i64 t484] rfl lM ?_; (with_reducible refine (spec_CountWithHint.calls kj15 t481 t482 t483 t484 t488 t489 _ A83.out).mono ?_); rintro e w119 ⟨rfl, hb⟩; refine ⟨_, rfl, ?_⟩; have n0_ := Aside0.mk (Kd.R_below (by (with_reducible repeat (first | apply Kd.R_alloc | apply Kd.R_drewN | apply Kd.R_drew)); exact HO467.out) hb); have n1_ := Aside0.mk (Kd.R_below (by (with_reducible repeat (first | apply Kd.R_alloc | apply Kd.R_drewN | apply Kd.R_drew)); exact HO471.out) hb); have n2_ := Aside0.mk (Kd.S_below (by (with_reducible repeat (first | apply Kd.S_alloc | apply Kd.S_drewN | apply Kd.S_drew)); exact HO475.out) hb); have n3_ := Aside0.mk (Kd.S_below (by (with_reducible repeat (first | apply Kd.S_alloc | apply Kd.S_drewN | apply Kd.S_drew)); exact HO479.out) hb); have n4_ := Aside0.mk (blk_below (g := gb427) (o := .cells #[.int .i64 t424, .int .i64 t425] 25 (0, 0)) bK hb); have n5_ := Aside0.mk (blk_below (g := gb460) (o := .cells #[.int .i64 t458, .int .i64 t459] 25 (0, 0)) bK hb); have n6_ := Aside0.mk (blk_below (g := gb485) (o := .cells #[.int .i64 t481, .int .i64 t482] 25 (0, 0)) bK hb); have n7_ := Aside0.mk (below_step bG hb); clear HO467; clear HO471; clear HO475; clear HO479; clear BK427; clear BK460; clear BK485; clear HB; have HO467 := n0_; have HO471 := n1_; have HO475 := n2_; have HO479 := n3_; have BK427 := n4_; have BK460 := n5_; have BK485 := n6_; have HB := n7_; clear n0_ n1_ n2_ n3_ n4_ n5_ n6_ n7_; (try clear hb); (try clear hb2); (try clear hk); (try clear hi); obtain ⟨Ao120, co120, eo120⟩ := Kd.R_slice HO467.out; subst eo120; obtain ⟨Ao121, co121, eo121⟩ := Kd.R_slice HO471.out; subst eo121))
                                   as_aux_lemma =>
                                    go_upto_if 317 with (first | (go_at_call 24; (with_reducible refine (laws_eTexts.calls kj15 _ _ t465 _ _ t469 true _ ?side1 ?side2 ?side3 ?side4 A87.out).mono ?_); (case side1 => repeat (first | exact (Kd.R_reads' HO467.out).2.2 | (with_reducible refine Kd.C_alloc ?_ _) | (with_reducible refine Kd.C_drewN ?_ _) | (with_reducible refine Kd.C_drew ?_))); (case side2 => exact (Kd.R_reads' HO467.out).2.1); (case side3 => repeat (first | exact (Kd.R_reads' HO471.out).2.2 | (with_reducible refine Kd.C_alloc ?_ _) | (with_reducible refine Kd.C_drewN ?_ _) | (with_reducible refine Kd.C_drew ?_))); (case side4 => exact (Kd.R_reads' HO471.out).2.1); rintro e w' ⟨rfl, ⟨nd, rfl⟩⟩; obtain ⟨Ao122, co122, eo122⟩ := Kd.S_slice HO475.out; subst eo122; obtain ⟨Ao123, co123, eo123⟩ := Kd.S_slice HO479.out; subst eo123) | (go_at_call 25; (with_reducible refine (laws_eRows.calls kj15 _ _ t473 _ _ t477 true _ ?side1 ?side2 ?side3 ?side4 A90.out).mono ?_); (case side1 => repeat (first | exact (Kd.S_reads' HO475.out).2.2 | (with_reducible refine Kd.C_alloc ?_ _) | (with_reducible refine Kd.C_drewN ?_ _) | (with_reducible refine Kd.C_drew ?_))); (case side2 => exact (Kd.S_reads' HO475.out).2.1); (case side3 => repeat (first | exact (Kd.S_reads' HO479.out).2.2 | (with_reducible refine Kd.C_alloc ?_ _) | (with_reducible refine Kd.C_drewN ?_ _) | (with_reducible refine Kd.C_drew ?_))); (case side4 => exact (Kd.S_reads' HO479.out).2.1); rintro e w' ⟨rfl, ⟨nd, rfl⟩⟩))
                                    (try simp only [Act.put, List.setIfInBounds_toArray, List.set_cons_zero, List.set_cons_succ])
                                    go_cut [] (fun wc => ∃ (kq : Nat), Aside0 (laws_FnHintsPlayed.j5 kq t483 t484 t486 t487 t481 t482 = some r) ∧ Aside0 (kq ≤ kj15) ∧ Aside0 (wc.heap[gb427]? = some (.cells #[.int .i64 t424, .int .i64 t425] 25 (0, 0))) ∧ Aside0 (wc.heap[gb460]? = some (.cells #[.int .i64 t458, .int .i64 t459] 25 (0, 0))) ∧ Aside0 (wc.heap[gb485]? = some (.cells #[.int .i64 t481, .int .i64 t482] 25 (0, 0))) ∧ Aside0 (Below w.heap.size w wc))
                                    case first =>
                                     as_aux_lemma =>
                                      have H := HC96.out
                                      clear HC96
                                      by_cases c124 : t462 = true
                                      ·subst c124
                                       have H1 : (if (t465.length : Int) < 1 then (none) else ((laws_eSorted.f kj15 t465).bind fun t492 => (if t492 = true then (if t461 < 1 then (none) else (laws_FnHintsPlayed.l1 kj15 t461 t473 t483 t484 t486 t487 t465 (t465.length : Int) 0 t458 t459 t481 t482)) else (none)))) = some r := by rw [if_pos rfl] at H; exact H
                                       clear H
                                       have H := H1
                                       clear H1
                                       by_cases c125 : (t465.length : Int) < 1
                                       ·rw [if_pos c125] at H
                                        exact absurd H (by simp)
                                       ·rw [if_neg c125] at H
                                        have c125b0 : decide ((t465.length : Int) < 1) = false := decide_eq_false c125
                                        have c125b1 : decide (t465.length < 1) = false := decide_eq_false (by omega)
                                        clear c125
                                        (first | rw [c125b0] | (simp only [i64_w, i32_w]; rw [c125b0]) | skip)
                                        replace H := Option.bind_eq_some_iff.mp H
                                        obtain ⟨t492, A1260, H⟩ := H
                                        (try dsimp only at H)
                                        have A126 := Aside0.mk A1260
                                        clear A1260
                                        by_cases c127 : t492 = true
                                        ·subst c127
                                         have H1 : (if t461 < 1 then (none) else (laws_FnHintsPlayed.l1 kj15 t461 t473 t483 t484 t486 t487 t465 (t465.length : Int) 0 t458 t459 t481 t482)) = some r := by rw [if_pos rfl] at H; exact H
                                         clear H
                                         have H := H1
                                         clear H1
                                         by_cases c128 : t461 < 1
                                         ·rw [if_pos c128] at H
                                          exact absurd H (by simp)
                                         ·rw [if_neg c128] at H
                                          have c128b0 : decide (t461 < 1) = false := decide_eq_false c128
                                          clear c128
                                          have H' := Aside0.mk H
                                          clear H
                                          try go_wp2_with (first | (go_at_call 26; (with_reducible refine (laws_eSorted.calls kj15 _ _ t465 true _ ?side1 ?side2 A126.out).mono ?_); (case side1 => repeat (first | exact (Kd.R_reads' HO467.out).2.2 | (with_reducible refine Kd.C_alloc ?_ _) | (with_reducible refine Kd.C_drewN ?_ _) | (with_reducible refine Kd.C_drew ?_))); (case side2 => exact (Kd.R_reads' HO467.out).2.1); rintro e w' ⟨rfl, ⟨nd, rfl⟩⟩))
                                          as_aux_lemma =>
                                           go_loopg [332] kj15 (fun kq v332 w' => ∃ (x332_2 : Int), v332 = .int .i64 x332_2 ∧ Aside0 (laws_FnHintsPlayed.l1 kq t461 t473 t483 t484 t486 t487 t465 (t465.length : Int) x332_2 t458 t459 t481 t482 = some r) ∧ Aside0 (kq ≤ kj15) ∧ Aside0 (Kd.S (Kd.slice 3 (Kd.int .i64)) 55 w' w.heap.size (fun _ => True) (.slice Ao122 t473.length co122) t473) ∧ Aside0 (Kd.R Kd.string 9 w' w.heap.size (fun _ => True) (.slice Ao120 t465.length co120) t465) ∧ Aside0 (w'.heap[gb427]? = some (.cells #[.int .i64 t424, .int .i64 t425] 25 (0, 0))) ∧ Aside0 (w'.heap[gb460]? = some (.cells #[.int .i64 t458, .int .i64 t459] 25 (0, 0))) ∧ Aside0 (w'.heap[gb485]? = some (.cells #[.int .i64 t481, .int .i64 t482] 25 (0, 0))) ∧ Aside0 (Below w.heap.size w w'))
                                           case atStart => exact ⟨(0), fR, H', ⟨Nat.le_refl _⟩, ⟨by (with_reducible repeat (first | apply Kd.S_alloc | apply Kd.S_drewN | apply Kd.S_drew)); exact Kd.S_mono HO475.out (fun _ hk => trivial)⟩, ⟨by (with_reducible repeat (first | apply Kd.R_alloc | apply Kd.R_drewN | apply Kd.R_drew)); exact Kd.R_mono HO467.out (fun _ hk => trivial)⟩, ⟨bK⟩, ⟨bK⟩, ⟨bK⟩, ⟨bG⟩⟩
                                           case round =>
                                            as_aux_lemma =>
                                             clear H'
                                             (try clear c1); (try clear c2); (try clear p2); (try clear c3); (try clear c4); (try clear p4); (try clear q4); (try clear hx4); (try clear qi4); (try clear c5); (try clear c6); (try clear p6); (try clear q6); (try clear c7); (try clear c8); (try clear c9); (try clear c10); (try clear c10b0); (try clear c10b1); (try clear c10b2); (try clear c11); (try clear c12); (try clear c13); (try clear c13b0); (try clear c13b1); (try clear c13b2); (try clear c14); (try clear c14b0); (try clear c14b1); (try clear c15); (try clear c15b0); (try clear c15b1); (try clear c15b2); (try clear c16); (try clear c17); (try clear c18); (try clear c19); (try clear c20); (try clear c21); (try clear c22); (try clear c23); (try clear c29); (try clear c30); (try clear c30b0); (try clear c30b1); (try clear c31); (try clear c31b0); (try clear c31b1); (try clear c33); (try clear c33b0); (try clear c34); (try clear c34b0); (try clear c35); (try clear c35b0); (try clear c35b1); (try clear c36); (try clear c36b0); (try clear c36b1); (try clear c38); (try clear c38b0); (try clear c39); (try clear c39b0); (try clear c40); (try clear c40b0); (try clear c44); (try clear p44); (try clear q44); (try clear hx44); (try clear p45); (try clear q45); (try clear hx45); (try clear qi45); (try clear c48); (try clear c49); (try clear c49b0); (try clear c49b1); (try clear c50); (try clear c50b0); (try clear c50b1); (try clear c51); (try clear c51b0); (try clear c53); (try clear c53b0); (try clear c54); (try clear c54b0); (try clear c55); (try clear c57); (try clear c59); (try clear c60); (try clear c60b0); (try clear c61); (try clear c61b0); (try clear c61b1); (try clear c62); (try clear c62b0); (try clear c62b1); (try clear c64); (try clear p64); (try clear c65); (try clear c65b0); (try clear c65b1); (try clear c66); (try clear c66b0); (try clear c66b1); (try clear c67); (try clear c67b0); (try clear c67b1); (try clear q69); (try clear c72); (try clear c84); (try clear c84b0); (try clear c84b1); (try clear c84b2); (try clear c85); (try clear c85b0); (try clear c85b1); (try clear c86); (try clear c86b0); (try clear c86b1); (try clear c86b2); (try clear c88); (try clear c89); (try clear c89b0); (try clear c89b1); (try clear c89b2); (try clear c91); (try clear c92); (try clear c92b0); (try clear c92b1); (try clear c92b2); (try clear c93); (try clear c93b0); (try clear c93b1); (try clear c94); (try clear c94b0); (try clear c94b1); (try clear c94b2); (try clear c95); (try clear c95b0); (try clear c95b1); (try clear c95b2); (try clear c99); (try clear c114); (try clear c115); (try clear c124); (try clear c125); (try clear c125b0); (try clear c125b1); (try clear c127); (try clear c128); (try clear c128b0); (try clear hcz100_0); (try clear hcz100_1); (try clear hcz102_0); (try clear hcz102_1); (try clear hcz104_0); (try clear hcz104_1); (try clear hcz106_0); (try clear hcz106_1); (try clear hcz108_0); (try clear hcz108_1); (try clear hcz110_0); (try clear hcz110_1); (try clear hcz116_0); (try clear hcz116_1); (try clear hcz118_0); (try clear hcz118_1); (try clear hcz19_0); (try clear hcz19_1); (try clear hcz21_0); (try clear hcz21_1); (try clear hcz23_0); (try clear hcz23_1); (try clear hcz25_0); (try clear hcz25_1); (try clear hcz37_0); (try clear hcz37_1); (try clear hcz45_0); (try clear hcz45_1); (try clear hcz45_2); (try clear hcz46_0); (try clear hcz46_1); (try clear hcz56_0); (try clear hcz56_1); (try clear hcz56_2); (try clear hcz58_0); (try clear hcz58_1); (try clear hcz58_2); (try clear hcz73_0); (try clear hcz73_1); (try clear hcz73_2); (try clear hfz100_0); (try clear hfz100_1); (try clear hfz102_0); (try clear hfz102_1); (try clear hfz104_0); (try clear hfz104_1); (try clear hfz106_0); (try clear hfz106_1); (try clear hfz108_0); (try clear hfz108_1); (try clear hfz110_0); (try clear hfz110_1); (try clear hfz116_0); (try clear hfz116_1); (try clear hfz118_0); (try clear hfz118_1); (try clear hfz19_0); (try clear hfz19_1); (try clear hfz21_0); (try clear hfz21_1); (try clear hfz23_0); (try clear hfz23_1); (try clear hfz25_0); (try clear hfz25_1); (try clear hfz37_0); (try clear hfz37_1); (try clear hfz45_0); (try clear hfz45_1); (try clear hfz45_2); (try clear hfz46_0); (try clear hfz46_1); (try clear hfz56_0); (try clear hfz56_1); (try clear hfz56_2); (try clear hfz58_0); (try clear hfz58_1); (try clear hfz58_2); (try clear hfz73_0); (try clear hfz73_1); (try clear hfz73_2); (try clear hx441_0); (try clear hx441_1); (try clear hx441_2); (try clear hx442_0); (try clear hx442_1); (try clear hx442_2); (try clear hx443_0); (try clear hx443_1); (try clear hx443_2); (try clear hx448_0); (try clear hx448_1); (try clear hx448_2); (try clear hx457_0); (try clear p2); (try clear p4); (try clear p44); (try clear p441); (try clear p442); (try clear p443); (try clear p448); (try clear p45); (try clear p457); (try clear p6); (try clear p64); (try clear q4); (try clear q44); (try clear q441); (try clear q442); (try clear q443); (try clear q448); (try clear q45); (try clear q457); (try clear q6); (try clear q69)
                                             obtain ⟨x332_2, rfl, HA, HK2, HO_32, HO_330, BK427, BK460, BK485, HB⟩ := hrel
                                             cases gk with
                                             | zero => exact absurd HA.out (by simp [laws_FnHintsPlayed.l1])
                                             | succ k2 =>
                                              have H := HA.out
                                              clear HA
                                              simp only [laws_FnHintsPlayed.l1] at H
                                              by_cases c129 : x332_2 < (t465.length : Int)
                                              ·rw [if_pos c129] at H
                                               have c129b0 : decide (x332_2 < (t465.length : Int)) = true := decide_eq_true c129
                                               clear c129
                                               by_cases c130 : 0 ≤ x332_2
                                               ·rw [if_pos c130] at H
                                                have c130b0 : decide (0 ≤ x332_2) = true := decide_eq_true c130
                                                clear c130
                                                by_cases c131 : x332_2 < (t465.length : Int)
                                                ·rw [if_pos c131] at H
                                                 have c131b0 : decide (x332_2 < (t465.length : Int)) = true := decide_eq_true c131
                                                 clear c131
                                                 replace H := Option.bind_eq_some_iff.mp H
                                                 obtain ⟨⟨t494, t495⟩, A1320, H⟩ := H
                                                 (try dsimp only at H)
                                                 have A132 := Aside0.mk A1320
                                                 clear A1320
                                                 by_cases c133 : x332_2 < 5
                                                 ·rw [if_pos c133] at H
                                                  have c133b0 : decide (x332_2 < 5) = true := decide_eq_true c133
                                                  clear c133
                                                  by_cases c134 : t495 = true
                                                  ·subst c134
                                                   have H1 : (if t494 = t461 then (laws_FnHintsPlayed.l1 k2 t461 t473 t483 t484 t486 t487 t465 (t465.length : Int) (wrap64 (x332_2 + 1)) t458 t459 t481 t482) else (none)) = some r := by rw [if_pos rfl] at H; exact H
                                                   clear H
                                                   have H := H1
                                                   clear H1
                                                   by_cases c135 : t494 = t461
                                                   ·rw [if_pos c135] at H
                                                    have c135b0 : (t494 == t461) = true := beq_iff_eq.mpr c135
                                                    have c135b1 : (t494 != t461) = false := bne_eq_false_iff_eq.mpr c135
                                                    clear c135
                                                    have H' := Aside0.mk H
                                                    clear H
                                                    have p493 : 0 ≤ (x332_2 : Int) := oD
                                                    have q493 : x332_2 < (t465.length : Int) := oD
                                                    obtain ⟨ad493, e493, hx493_0⟩ := Kd.at_string (Kd.R_reads' HO_330.out).2.2 x332_2 p493 q493
                                                    cases e493
                                                    replace p493 := eq_true p493; replace q493 := eq_true q493
                                                    have hnb136 := NB460_427.out
                                                    have hnc136 := NB427_460.out
                                                    have hnb137 := NB460_485.out
                                                    have hnc137 := NB485_460.out
                                                    have hcz138_0 : wr.cell? ⟨gb460, 0, none⟩ = some (.int .i64 t458) := (blk_cell BK460.out 0).trans rfl
                                                    have hcz138_1 : wr.cell? ⟨gb460, 1, none⟩ = some (.int .i64 t459) := (blk_cell BK460.out 1).trans rfl
                                                    have hfz138_0 := blk_frozen BK460.out 0
                                                    have hfz138_1 := blk_frozen BK460.out 1
                                                    try go_wp2_with (first | ((with_reducible refine gate_callee (f := 9) rfl ?_); refine goesL_ (some 340) rfl rfl Tryz.func9 (by kernel_rfl) rfl #[.agg #[.int .i64 t458, .int .i64 t459], .string (rdOf ByteArray.empty t465 x332_2)] rfl lM ?_; (with_reducible refine (impl_CountGuesses.calls k2 t458 t459 (rdOf ByteArray.empty t465 x332_2) t494 true _ A132.out).mono ?_); rintro e w139 ⟨rfl, hb⟩; refine ⟨_, rfl, ?_⟩; have n0_ := Aside0.mk (Kd.S_below (by (with_reducible repeat (first | apply Kd.S_alloc | apply Kd.S_drewN | apply Kd.S_drew)); exact HO_32.out) hb); have n1_ := Aside0.mk (Kd.R_below (by (with_reducible repeat (first | apply Kd.R_alloc | apply Kd.R_drewN | apply Kd.R_drew)); exact HO_330.out) hb); have n2_ := Aside0.mk (blk_below (g := gb427) (o := .cells #[.int .i64 t424, .int .i64 t425] 25 (0, 0)) bK hb); have n3_ := Aside0.mk (blk_below (g := gb460) (o := .cells #[.int .i64 t458, .int .i64 t459] 25 (0, 0)) bK hb); have n4_ := Aside0.mk (blk_below (g := gb485) (o := .cells #[.int .i64 t481, .int .i64 t482] 25 (0, 0)) bK hb); have n5_ := Aside0.mk (below_step bG hb); clear HO_32; clear HO_330; clear BK427; clear BK460; clear BK485; clear HB; have HO_32 := n0_; have HO_330 := n1_; have BK427 := n2_; have BK460 := n3_; have BK485 := n4_; have HB := n5_; clear n0_ n1_ n2_ n3_ n4_ n5_; (try clear hb); (try clear hb2); (try clear hk); (try clear hi)))
                                                    go_roundg k2
                                                    case measure => have := HJ15.out; have := HK2.out; omega
                                                    case rel => exact ⟨(wrap64 (x332_2 + 1)), fR, H', ⟨by have := HJ15.out; have := HK2.out; omega⟩, ⟨by (with_reducible repeat (first | apply Kd.S_alloc | apply Kd.S_drewN | apply Kd.S_drew)); exact HO_32.out⟩, ⟨by (with_reducible repeat (first | apply Kd.R_alloc | apply Kd.R_drewN | apply Kd.R_drew)); exact HO_330.out⟩, ⟨bK⟩, ⟨bK⟩, ⟨bK⟩, ⟨bG⟩⟩
                                                   ·rw [if_neg c135] at H
                                                    exact absurd H (by simp)
                                                  ·replace c134 := Bool.eq_false_iff.mpr c134
                                                   subst c134
                                                   have H1 : (none) = some r := by rw [if_neg (show ¬ (false = true) by decide)] at H; exact H
                                                   clear H
                                                   have H := H1
                                                   clear H1
                                                   exact absurd H (by simp)
                                                 ·rw [if_neg c133] at H
                                                  have c133b0 : decide (x332_2 < 5) = false := decide_eq_false c133
                                                  clear c133
                                                  have H' := Aside0.mk H
                                                  clear H
                                                  have p493 : 0 ≤ (x332_2 : Int) := oD
                                                  have q493 : x332_2 < (t465.length : Int) := oD
                                                  obtain ⟨ad493, e493, hx493_0⟩ := Kd.at_string (Kd.R_reads' HO_330.out).2.2 x332_2 p493 q493
                                                  cases e493
                                                  replace p493 := eq_true p493; replace q493 := eq_true q493
                                                  have hnb140 := NB460_427.out
                                                  have hnc140 := NB427_460.out
                                                  have hnb141 := NB460_485.out
                                                  have hnc141 := NB485_460.out
                                                  have hcz142_0 : wr.cell? ⟨gb460, 0, none⟩ = some (.int .i64 t458) := (blk_cell BK460.out 0).trans rfl
                                                  have hcz142_1 : wr.cell? ⟨gb460, 1, none⟩ = some (.int .i64 t459) := (blk_cell BK460.out 1).trans rfl
                                                  have hfz142_0 := blk_frozen BK460.out 0
                                                  have hfz142_1 := blk_frozen BK460.out 1
                                                  try go_wp2_with (first | ((with_reducible refine gate_callee (f := 9) rfl ?_); refine goesL_ (some 340) rfl rfl Tryz.func9 (by kernel_rfl) rfl #[.agg #[.int .i64 t458, .int .i64 t459], .string (rdOf ByteArray.empty t465 x332_2)] rfl lM ?_; (with_reducible refine (impl_CountGuesses.calls k2 t458 t459 (rdOf ByteArray.empty t465 x332_2) t494 t495 _ A132.out).mono ?_); rintro e w143 ⟨rfl, hb⟩; refine ⟨_, rfl, ?_⟩; have n0_ := Aside0.mk (Kd.S_below (by (with_reducible repeat (first | apply Kd.S_alloc | apply Kd.S_drewN | apply Kd.S_drew)); exact HO_32.out) hb); have n1_ := Aside0.mk (Kd.R_below (by (with_reducible repeat (first | apply Kd.R_alloc | apply Kd.R_drewN | apply Kd.R_drew)); exact HO_330.out) hb); have n2_ := Aside0.mk (blk_below (g := gb427) (o := .cells #[.int .i64 t424, .int .i64 t425] 25 (0, 0)) bK hb); have n3_ := Aside0.mk (blk_below (g := gb460) (o := .cells #[.int .i64 t458, .int .i64 t459] 25 (0, 0)) bK hb); have n4_ := Aside0.mk (blk_below (g := gb485) (o := .cells #[.int .i64 t481, .int .i64 t482] 25 (0, 0)) bK hb); have n5_ := Aside0.mk (below_step bG hb); clear HO_32; clear HO_330; clear BK427; clear BK460; clear BK485; clear HB; have HO_32 := n0_; have HO_330 := n1_; have BK427 := n2_; have BK460 := n3_; have BK485 := n4_; have HB := n5_; clear n0_ n1_ n2_ n3_ n4_ n5_; (try clear hb); (try clear hb2); (try clear hk); (try clear hi)))
                                                  go_roundg k2
                                                  case measure => have := HJ15.out; have := HK2.out; omega
                                                  case rel => exact ⟨(wrap64 (x332_2 + 1)), fR, H', ⟨by have := HJ15.out; have := HK2.out; omega⟩, ⟨by (with_reducible repeat (first | apply Kd.S_alloc | apply Kd.S_drewN | apply Kd.S_drew)); exact HO_32.out⟩, ⟨by (with_reducible repeat (first | apply Kd.R_alloc | apply Kd.R_drewN | apply Kd.R_drew)); exact HO_330.out⟩, ⟨bK⟩, ⟨bK⟩, ⟨bK⟩, ⟨bG⟩⟩
                                                ·rw [if_neg c131] at H
                                                 exact absurd H (by simp)
                                               ·rw [if_neg c130] at H
                                                exact absurd H (by simp)
                                              ·rw [if_neg c129] at H
                                               have c129b0 : decide (x332_2 < (t465.length : Int)) = false := decide_eq_false c129
                                               clear c129
                                               replace H := Option.bind_eq_some_iff.mp H
                                               obtain ⟨⟨t496, t497⟩, A1440, H⟩ := H
                                               (try dsimp only at H)
                                               have A144 := Aside0.mk A1440
                                               clear A1440
                                               replace H := Option.bind_eq_some_iff.mp H
                                               obtain ⟨⟨t498, t499⟩, A1450, H⟩ := H
                                               (try dsimp only at H)
                                               have A145 := Aside0.mk A1450
                                               clear A1450
                                               by_cases c146 : t497 = true
                                               ·subst c146
                                                have H1 : (if t499 = true then (if t498 > t461 then (none) else (laws_FnHintsPlayed.l2 k2 t483 t484 t486 t487 t473 (t473.length : Int) 0 t458 t459 t481 t482)) else (none)) = some r := by rw [if_pos rfl] at H; exact H
                                                clear H
                                                have H := H1
                                                clear H1
                                                by_cases c147 : t499 = true
                                                ·subst c147
                                                 have H1 : (if t498 > t461 then (none) else (laws_FnHintsPlayed.l2 k2 t483 t484 t486 t487 t473 (t473.length : Int) 0 t458 t459 t481 t482)) = some r := by rw [if_pos rfl] at H; exact H
                                                 clear H
                                                 have H := H1
                                                 clear H1
                                                 by_cases c148 : t498 > t461
                                                 ·rw [if_pos c148] at H
                                                  exact absurd H (by simp)
                                                 ·rw [if_neg c148] at H
                                                  have c148b0 : decide (t461 < t498) = false := decide_eq_false c148
                                                  clear c148
                                                  have H' := Aside0.mk H
                                                  clear H
                                                  have hnb149 := NB460_427.out
                                                  have hnc149 := NB427_460.out
                                                  have hnb150 := NB460_485.out
                                                  have hnc150 := NB485_460.out
                                                  have hcz151_0 : wr.cell? ⟨gb460, 0, none⟩ = some (.int .i64 t458) := (blk_cell BK460.out 0).trans rfl
                                                  have hcz151_1 : wr.cell? ⟨gb460, 1, none⟩ = some (.int .i64 t459) := (blk_cell BK460.out 1).trans rfl
                                                  have hfz151_0 := blk_frozen BK460.out 0
                                                  have hfz151_1 := blk_frozen BK460.out 1
                                                  go_upto_region 48 with (first | ((with_reducible refine gate_callee (f := 27) rfl ?_); refine goesL_ (some 357) rfl rfl Tryz.func27 (by kernel_rfl) rfl #[.agg #[.int .i64 t458, .int .i64 t459]] rfl lM ?_; (with_reducible refine (impl_ZeroCode.calls k2 t458 t459 t496 true _ A144.out).mono ?_); rintro e w152 ⟨rfl, hb⟩; refine ⟨_, rfl, ?_⟩; have n0_ := Aside0.mk (Kd.S_below (by (with_reducible repeat (first | apply Kd.S_alloc | apply Kd.S_drewN | apply Kd.S_drew)); exact HO_32.out) hb); have n1_ := Aside0.mk (Kd.R_below (by (with_reducible repeat (first | apply Kd.R_alloc | apply Kd.R_drewN | apply Kd.R_drew)); exact HO_330.out) hb); have n2_ := Aside0.mk (blk_below (g := gb427) (o := .cells #[.int .i64 t424, .int .i64 t425] 25 (0, 0)) bK hb); have n3_ := Aside0.mk (blk_below (g := gb460) (o := .cells #[.int .i64 t458, .int .i64 t459] 25 (0, 0)) bK hb); have n4_ := Aside0.mk (blk_below (g := gb485) (o := .cells #[.int .i64 t481, .int .i64 t482] 25 (0, 0)) bK hb); have n5_ := Aside0.mk (below_step bG hb); clear HO_32; clear HO_330; clear BK427; clear BK460; clear BK485; clear HB; have HO_32 := n0_; have HO_330 := n1_; have BK427 := n2_; have BK460 := n3_; have BK485 := n4_; have HB := n5_; clear n0_ n1_ n2_ n3_ n4_ n5_; (try clear hb); (try clear hb2); (try clear hk); (try clear hi); have hcz153_0 : w152.cell? ⟨gb460, 0, none⟩ = some (.int .i64 t458) := (blk_cell BK460.out 0).trans rfl; have hcz153_1 : w152.cell? ⟨gb460, 1, none⟩ = some (.int .i64 t459) := (blk_cell BK460.out 1).trans rfl; have hfz153_0 := blk_frozen BK460.out 0; have hfz153_1 := blk_frozen BK460.out 1))
                                                  as_aux_lemma =>
                                                   try go_wp2_with (first | ((with_reducible refine gate_callee (f := 9) rfl ?_); refine goesL_ (some 363) rfl rfl Tryz.func9 (by kernel_rfl) rfl #[.agg #[.int .i64 t458, .int .i64 t459], .string t496] rfl lM ?_; (with_reducible refine (impl_CountGuesses.calls k2 t458 t459 t496 t498 true _ A145.out).mono ?_); rintro e w154 ⟨rfl, hb⟩; refine ⟨_, rfl, ?_⟩; have n0_ := Aside0.mk (Kd.S_below (by (with_reducible repeat (first | apply Kd.S_alloc | apply Kd.S_drewN | apply Kd.S_drew)); exact HO_32.out) hb); have n1_ := Aside0.mk (Kd.R_below (by (with_reducible repeat (first | apply Kd.R_alloc | apply Kd.R_drewN | apply Kd.R_drew)); exact HO_330.out) hb); have n2_ := Aside0.mk (blk_below (g := gb427) (o := .cells #[.int .i64 t424, .int .i64 t425] 25 (0, 0)) bK hb); have n3_ := Aside0.mk (blk_below (g := gb460) (o := .cells #[.int .i64 t458, .int .i64 t459] 25 (0, 0)) bK hb); have n4_ := Aside0.mk (blk_below (g := gb485) (o := .cells #[.int .i64 t481, .int .i64 t482] 25 (0, 0)) bK hb); have n5_ := Aside0.mk (below_step bG hb); clear HO_32; clear HO_330; clear BK427; clear BK460; clear BK485; clear HB; have HO_32 := n0_; have HO_330 := n1_; have BK427 := n2_; have BK460 := n3_; have BK485 := n4_; have HB := n5_; clear n0_ n1_ n2_ n3_ n4_ n5_; (try clear hb); (try clear hb2); (try clear hk); (try clear hi)))
                                                   as_aux_lemma =>
                                                    go_loopg [379] k2 (fun kq v379 w' => ∃ (x379_3 : Int), v379 = .int .i64 x379_3 ∧ Aside0 (laws_FnHintsPlayed.l2 kq t483 t484 t486 t487 t473 (t473.length : Int) x379_3 t458 t459 t481 t482 = some r) ∧ Aside0 (kq ≤ k2) ∧ Aside0 (Kd.S (Kd.slice 3 (Kd.int .i64)) 55 w' w.heap.size (fun _ => True) (.slice Ao122 t473.length co122) t473) ∧ Aside0 (w'.heap[gb427]? = some (.cells #[.int .i64 t424, .int .i64 t425] 25 (0, 0))) ∧ Aside0 (w'.heap[gb460]? = some (.cells #[.int .i64 t458, .int .i64 t459] 25 (0, 0))) ∧ Aside0 (w'.heap[gb485]? = some (.cells #[.int .i64 t481, .int .i64 t482] 25 (0, 0))) ∧ Aside0 (Below w.heap.size w w'))
                                                    case atStart => exact ⟨(0), fR, H', ⟨Nat.le_refl _⟩, ⟨by (with_reducible repeat (first | apply Kd.S_alloc | apply Kd.S_drewN | apply Kd.S_drew)); exact HO_32.out⟩, ⟨bK⟩, ⟨bK⟩, ⟨bK⟩, ⟨bG⟩⟩
                                                    case round =>
                                                     as_aux_lemma =>
                                                      clear H'
                                                      (try clear c1); (try clear c2); (try clear p2); (try clear c3); (try clear c4); (try clear p4); (try clear q4); (try clear hx4); (try clear qi4); (try clear c5); (try clear c6); (try clear p6); (try clear q6); (try clear c7); (try clear c8); (try clear c9); (try clear c10); (try clear c10b0); (try clear c10b1); (try clear c10b2); (try clear c11); (try clear c12); (try clear c13); (try clear c13b0); (try clear c13b1); (try clear c13b2); (try clear c14); (try clear c14b0); (try clear c14b1); (try clear c15); (try clear c15b0); (try clear c15b1); (try clear c15b2); (try clear c16); (try clear c17); (try clear c18); (try clear c19); (try clear c20); (try clear c21); (try clear c22); (try clear c23); (try clear c27); (try clear c29); (try clear c30); (try clear c30b0); (try clear c30b1); (try clear c31); (try clear c31b0); (try clear c31b1); (try clear c33); (try clear c33b0); (try clear c34); (try clear c34b0); (try clear c35); (try clear c35b0); (try clear c35b1); (try clear c36); (try clear c36b0); (try clear c36b1); (try clear c38); (try clear c38b0); (try clear c39); (try clear c39b0); (try clear c40); (try clear c40b0); (try clear c44); (try clear p44); (try clear q44); (try clear hx44); (try clear p45); (try clear q45); (try clear hx45); (try clear qi45); (try clear c48); (try clear c49); (try clear c49b0); (try clear c49b1); (try clear p49); (try clear q49); (try clear hx49); (try clear c50); (try clear c50b0); (try clear c50b1); (try clear c51); (try clear c51b0); (try clear c53); (try clear c53b0); (try clear c54); (try clear c54b0); (try clear c55); (try clear c57); (try clear c59); (try clear c60); (try clear c60b0); (try clear c61); (try clear c61b0); (try clear c61b1); (try clear c62); (try clear c62b0); (try clear c62b1); (try clear c64); (try clear p64); (try clear c65); (try clear c65b0); (try clear c65b1); (try clear c66); (try clear c66b0); (try clear c66b1); (try clear c67); (try clear c67b0); (try clear c67b1); (try clear q69); (try clear c72); (try clear c84); (try clear c84b0); (try clear c84b1); (try clear c84b2); (try clear c85); (try clear c85b0); (try clear c85b1); (try clear c86); (try clear c86b0); (try clear c86b1); (try clear c86b2); (try clear c88); (try clear c89); (try clear c89b0); (try clear c89b1); (try clear c89b2); (try clear c91); (try clear c92); (try clear c92b0); (try clear c92b1); (try clear c92b2); (try clear c93); (try clear c93b0); (try clear c93b1); (try clear c94); (try clear c94b0); (try clear c94b1); (try clear c94b2); (try clear c95); (try clear c95b0); (try clear c95b1); (try clear c95b2); (try clear c99); (try clear c114); (try clear c115); (try clear c124); (try clear c125); (try clear c125b0); (try clear c125b1); (try clear c127); (try clear c128); (try clear c128b0); (try clear c129); (try clear c129b0); (try clear c130); (try clear c130b0); (try clear c131); (try clear c131b0); (try clear c133); (try clear c133b0); (try clear c134); (try clear c135); (try clear c135b0); (try clear c135b1); (try clear c136); (try clear c137); (try clear c140); (try clear c141); (try clear c146); (try clear c147); (try clear c148); (try clear c148b0); (try clear c149); (try clear c150); (try clear hcz100_0); (try clear hcz100_1); (try clear hcz102_0); (try clear hcz102_1); (try clear hcz104_0); (try clear hcz104_1); (try clear hcz106_0); (try clear hcz106_1); (try clear hcz108_0); (try clear hcz108_1); (try clear hcz110_0); (try clear hcz110_1); (try clear hcz116_0); (try clear hcz116_1); (try clear hcz118_0); (try clear hcz118_1); (try clear hcz138_0); (try clear hcz138_1); (try clear hcz142_0); (try clear hcz142_1); (try clear hcz151_0); (try clear hcz151_1); (try clear hcz153_0); (try clear hcz153_1); (try clear hcz19_0); (try clear hcz19_1); (try clear hcz21_0); (try clear hcz21_1); (try clear hcz23_0); (try clear hcz23_1); (try clear hcz25_0); (try clear hcz25_1); (try clear hcz37_0); (try clear hcz37_1); (try clear hcz45_0); (try clear hcz45_1); (try clear hcz45_2); (try clear hcz46_0); (try clear hcz46_1); (try clear hcz56_0); (try clear hcz56_1); (try clear hcz56_2); (try clear hcz58_0); (try clear hcz58_1); (try clear hcz58_2); (try clear hcz73_0); (try clear hcz73_1); (try clear hcz73_2); (try clear hfz100_0); (try clear hfz100_1); (try clear hfz102_0); (try clear hfz102_1); (try clear hfz104_0); (try clear hfz104_1); (try clear hfz106_0); (try clear hfz106_1); (try clear hfz108_0); (try clear hfz108_1); (try clear hfz110_0); (try clear hfz110_1); (try clear hfz116_0); (try clear hfz116_1); (try clear hfz118_0); (try clear hfz118_1); (try clear hfz138_0); (try clear hfz138_1); (try clear hfz142_0); (try clear hfz142_1); (try clear hfz151_0); (try clear hfz151_1); (try clear hfz153_0); (try clear hfz153_1); (try clear hfz19_0); (try clear hfz19_1); (try clear hfz21_0); (try clear hfz21_1); (try clear hfz23_0); (try clear hfz23_1); (try clear hfz25_0); (try clear hfz25_1); (try clear hfz37_0); (try clear hfz37_1); (try clear hfz45_0); (try clear hfz45_1); (try clear hfz45_2); (try clear hfz46_0); (try clear hfz46_1); (try clear hfz56_0); (try clear hfz56_1); (try clear hfz56_2); (try clear hfz58_0); (try clear hfz58_1); (try clear hfz58_2); (try clear hfz73_0); (try clear hfz73_1); (try clear hfz73_2); (try clear hx441_0); (try clear hx441_1); (try clear hx441_2); (try clear hx442_0); (try clear hx442_1); (try clear hx442_2); (try clear hx443_0); (try clear hx443_1); (try clear hx443_2); (try clear hx448_0); (try clear hx448_1); (try clear hx448_2); (try clear hx457_0); (try clear hx493_0); (try clear p2); (try clear p4); (try clear p44); (try clear p441); (try clear p442); (try clear p443); (try clear p448); (try clear p45); (try clear p457); (try clear p493); (try clear p6); (try clear p64); (try clear q4); (try clear q44); (try clear q441); (try clear q442); (try clear q443); (try clear q448); (try clear q45); (try clear q457); (try clear q493); (try clear q6); (try clear q69)
                                                      obtain ⟨x379_3, rfl, HA, HK3, HO_377, BK427, BK460, BK485, HB⟩ := hrel
                                                      cases gk with
                                                      | zero => exact absurd HA.out (by simp [laws_FnHintsPlayed.l2])
                                                      | succ k3 =>
                                                       have H := HA.out
                                                       clear HA
                                                       simp only [laws_FnHintsPlayed.l2] at H
                                                       by_cases c155 : x379_3 < (t473.length : Int)
                                                       ·rw [if_pos c155] at H
                                                        have c155b0 : decide (x379_3 < (t473.length : Int)) = true := decide_eq_true c155
                                                        clear c155
                                                        by_cases c156 : 0 ≤ x379_3
                                                        ·rw [if_pos c156] at H
                                                         have c156b0 : decide (0 ≤ x379_3) = true := decide_eq_true c156
                                                         clear c156
                                                         by_cases c157 : x379_3 < (t473.length : Int)
                                                         ·rw [if_pos c157] at H
                                                          have c157b0 : decide (x379_3 < (t473.length : Int)) = true := decide_eq_true c157
                                                          clear c157
                                                          by_cases c158 : ((rd_L10 t473 x379_3).length : Int) = 2
                                                          ·rw [if_pos c158] at H
                                                           have c158b0 : (((rd_L10 t473 x379_3).length : Int) == 2) = true := beq_iff_eq.mpr c158
                                                           have c158b1 : (((rd_L10 t473 x379_3).length : Int) != 2) = false := bne_eq_false_iff_eq.mpr c158
                                                           clear c158
                                                           by_cases c159 : 0 < ((rd_L10 t473 x379_3).length : Int)
                                                           ·rw [if_pos c159] at H
                                                            have c159b0 : decide (0 < ((rd_L10 t473 x379_3).length : Int)) = true := decide_eq_true c159
                                                            have c159b1 : decide (0 < (rd_L10 t473 x379_3).length) = true := decide_eq_true (by omega)
                                                            clear c159
                                                            by_cases c160 : (rd (rd_L10 t473 x379_3) 0) < 0
                                                            ·rw [if_pos c160] at H
                                                             exact absurd H (by simp)
                                                            ·rw [if_neg c160] at H
                                                             have c160b0 : decide ((rd (rd_L10 t473 x379_3) 0) < 0) = false := decide_eq_false c160
                                                             clear c160
                                                             by_cases c161 : 1 < ((rd_L10 t473 x379_3).length : Int)
                                                             ·rw [if_pos c161] at H
                                                              have c161b0 : decide (1 < ((rd_L10 t473 x379_3).length : Int)) = true := decide_eq_true c161
                                                              have c161b1 : decide (1 < (rd_L10 t473 x379_3).length) = true := decide_eq_true (by omega)
                                                              clear c161
                                                              by_cases c162 : (rd (rd_L10 t473 x379_3) 1) < 0
                                                              ·rw [if_pos c162] at H
                                                               exact absurd H (by simp)
                                                              ·rw [if_neg c162] at H
                                                               have c162b0 : decide ((rd (rd_L10 t473 x379_3) 1) < 0) = false := decide_eq_false c162
                                                               clear c162
                                                               by_cases c163 : (wrap64 ((rd (rd_L10 t473 x379_3) 0) + (rd (rd_L10 t473 x379_3) 1))) > t458
                                                               ·rw [if_pos c163] at H
                                                                exact absurd H (by simp)
                                                               ·rw [if_neg c163] at H
                                                                have c163b0 : decide (t458 < (wrap64 ((rd (rd_L10 t473 x379_3) 0) + (rd (rd_L10 t473 x379_3) 1)))) = false := decide_eq_false c163
                                                                clear c163
                                                                by_cases c164 : (rd (rd_L10 t473 x379_3) 0) = (wrap64 (t458 - 1))
                                                                ·rw [if_pos c164] at H
                                                                 have c164b0 : ((rd (rd_L10 t473 x379_3) 0) == (wrap64 (t458 - 1))) = true := beq_iff_eq.mpr c164
                                                                 have c164b1 : ((rd (rd_L10 t473 x379_3) 0) != (wrap64 (t458 - 1))) = false := bne_eq_false_iff_eq.mpr c164
                                                                 clear c164
                                                                 by_cases c165 : (rd (rd_L10 t473 x379_3) 1) = 1
                                                                 ·rw [if_pos c165] at H
                                                                  exact absurd H (by simp)
                                                                 ·rw [if_neg c165] at H
                                                                  have c165b0 : ((rd (rd_L10 t473 x379_3) 1) == 1) = false := beq_eq_false_iff_ne.mpr c165
                                                                  have c165b1 : ((rd (rd_L10 t473 x379_3) 1) != 1) = true := bne_iff_ne.mpr c165
                                                                  have H' := Aside0.mk H
                                                                  clear H
                                                                  have p500 : 0 ≤ (x379_3 : Int) := oD
                                                                  have q500 : x379_3 < (t473.length : Int) := oD
                                                                  obtain ⟨ad500, A500_0, c500_0, e500, hx500_0, hl500_0, hi500_0⟩ := at_L10 (Kd.S_reads' HO_377.out).2.2 x379_3 p500 q500
                                                                  cases e500
                                                                  obtain ⟨ce500, hce500, hMe500, hcc500⟩ := Kd.S_get HO_377.out [] x379_3 p500 (by first | exact q500 | exact oD | (have e_ := (Kd.S_reads' HO_377.out).1; omega))
                                                                  obtain ⟨ve500_0, rfl, ge500_0⟩ := hMe500
                                                                  have hv500_0 := hcc500 0 _ rfl
                                                                  rw [Nat.add_zero, show ((Kd.slice 3 (Kd.int .i64))).sz = 1 from rfl, Nat.mul_one] at hv500_0
                                                                  replace hv500_0 := Option.some.inj (hv500_0.symm.trans hx500_0)
                                                                  rw [hv500_0] at ge500_0
                                                                  have HL500_0 := Aside0.mk (show Kd.R (Kd.int .i64) 3 _ _ _ _ (rd_L10 t473 x379_3) from ge500_0)
                                                                  clear hv500_0 ge500_0; clear hcc500 hce500
                                                                  have HR500_0 := Aside0.mk hi500_0
                                                                  have HC500_0 := Aside0.mk hl500_0
                                                                  clear hi500_0 hl500_0; replace p500 := eq_true p500; replace q500 := eq_true q500
                                                                  have p501 : 0 ≤ (0 : Int) := (by omega)
                                                                  have q501 : 0 < ((rd_L10 t473 x379_3).length : Int) := oD
                                                                  obtain ⟨ad501, e501, hx501_0⟩ := Kd.at_int (by repeat (first | (with_reducible exact HR500_0.out) | (with_reducible refine Kd.C_alloc ?_ _) | (with_reducible refine Kd.C_drewN ?_ _) | (with_reducible refine Kd.C_drew ?_) | exact HR500_0.out)) 0 p501 q501
                                                                  cases e501
                                                                  have qi501 : (0 < (rd_L10 t473 x379_3).length) = True := eq_true (by omega)
                                                                  (try rw [show ((0 : Int)).toNat = 0 from rfl] at hx501_0)
                                                                  (try rw [Addr.add_zero'] at hx501_0)
                                                                  replace p501 := eq_true p501; replace q501 := eq_true q501
                                                                  have p502 : 0 ≤ (1 : Int) := (by omega)
                                                                  have q502 : 1 < ((rd_L10 t473 x379_3).length : Int) := oD
                                                                  obtain ⟨ad502, e502, hx502_0⟩ := Kd.at_int (by repeat (first | (with_reducible exact HR500_0.out) | (with_reducible refine Kd.C_alloc ?_ _) | (with_reducible refine Kd.C_drewN ?_ _) | (with_reducible refine Kd.C_drew ?_) | exact HR500_0.out)) 1 p502 q502
                                                                  obtain rfl : ad501 = ad502 := (by injection e502)
                                                                  (try simp only [show (1 : Int).toNat = 1 from rfl, Nat.reduceMul, Nat.reduceEqDiff, Go.Addr.add, ↓reduceIte] at hx502_0)
                                                                  have qi502 : (1 < (rd_L10 t473 x379_3).length) = True := eq_true (by omega)
                                                                  (try rw [show ((1 : Int)).toNat = 1 from rfl] at hx502_0)
                                                                  replace p502 := eq_true p502; replace q502 := eq_true q502
                                                                  have p503 : 0 ≤ (0 : Int) := (by omega)
                                                                  have q503 : 0 < ((rd_L10 t473 x379_3).length : Int) := oD
                                                                  obtain ⟨ad503, e503, hx503_0⟩ := Kd.at_int (by repeat (first | (with_reducible exact HR500_0.out) | (with_reducible refine Kd.C_alloc ?_ _) | (with_reducible refine Kd.C_drewN ?_ _) | (with_reducible refine Kd.C_drew ?_) | exact HR500_0.out)) 0 p503 q503
                                                                  obtain rfl : ad501 = ad503 := (by injection e503)
                                                                  have qi503 : (0 < (rd_L10 t473 x379_3).length) = True := eq_true (by omega)
                                                                  (try rw [show ((0 : Int)).toNat = 0 from rfl] at hx503_0)
                                                                  (try rw [Addr.add_zero'] at hx503_0)
                                                                  replace p503 := eq_true p503; replace q503 := eq_true q503
                                                                  have p504 : 0 ≤ (1 : Int) := (by omega)
                                                                  have q504 : 1 < ((rd_L10 t473 x379_3).length : Int) := oD
                                                                  obtain ⟨ad504, e504, hx504_0⟩ := Kd.at_int (by repeat (first | (with_reducible exact HR500_0.out) | (with_reducible refine Kd.C_alloc ?_ _) | (with_reducible refine Kd.C_drewN ?_ _) | (with_reducible refine Kd.C_drew ?_) | exact HR500_0.out)) 1 p504 q504
                                                                  obtain rfl : ad501 = ad504 := (by injection e504)
                                                                  (try simp only [show (1 : Int).toNat = 1 from rfl, Nat.reduceMul, Nat.reduceEqDiff, Go.Addr.add, ↓reduceIte] at hx504_0)
                                                                  have qi504 : (1 < (rd_L10 t473 x379_3).length) = True := eq_true (by omega)
                                                                  (try rw [show ((1 : Int)).toNat = 1 from rfl] at hx504_0)
                                                                  replace p504 := eq_true p504; replace q504 := eq_true q504
                                                                  have hnb166 := NB460_427.out
                                                                  have hnc166 := NB427_460.out
                                                                  have hnb167 := NB460_485.out
                                                                  have hnc167 := NB485_460.out
                                                                  have hcz168_0 : wr.cell? ⟨gb460, 0, none⟩ = some (.int .i64 t458) := (blk_cell BK460.out 0).trans rfl
                                                                  have hcz168_1 : wr.cell? ⟨gb460, 1, none⟩ = some (.int .i64 t459) := (blk_cell BK460.out 1).trans rfl
                                                                  have hfz168_0 := blk_frozen BK460.out 0
                                                                  have hfz168_1 := blk_frozen BK460.out 1
                                                                  have p505 : 0 ≤ (0 : Int) := (by omega)
                                                                  have q505 : 0 < ((rd_L10 t473 x379_3).length : Int) := oD
                                                                  obtain ⟨ad505, e505, hx505_0⟩ := Kd.at_int (by repeat (first | (with_reducible exact HR500_0.out) | (with_reducible refine Kd.C_alloc ?_ _) | (with_reducible refine Kd.C_drewN ?_ _) | (with_reducible refine Kd.C_drew ?_) | exact HR500_0.out)) 0 p505 q505
                                                                  obtain rfl : ad501 = ad505 := (by injection e505)
                                                                  have qi505 : (0 < (rd_L10 t473 x379_3).length) = True := eq_true (by omega)
                                                                  (try rw [show ((0 : Int)).toNat = 0 from rfl] at hx505_0)
                                                                  (try rw [Addr.add_zero'] at hx505_0)
                                                                  replace p505 := eq_true p505; replace q505 := eq_true q505
                                                                  have p506 : 0 ≤ (1 : Int) := (by omega)
                                                                  have q506 : 1 < ((rd_L10 t473 x379_3).length : Int) := oD
                                                                  obtain ⟨ad506, e506, hx506_0⟩ := Kd.at_int (by repeat (first | (with_reducible exact HR500_0.out) | (with_reducible refine Kd.C_alloc ?_ _) | (with_reducible refine Kd.C_drewN ?_ _) | (with_reducible refine Kd.C_drew ?_) | exact HR500_0.out)) 1 p506 q506
                                                                  obtain rfl : ad501 = ad506 := (by injection e506)
                                                                  (try simp only [show (1 : Int).toNat = 1 from rfl, Nat.reduceMul, Nat.reduceEqDiff, Go.Addr.add, ↓reduceIte] at hx506_0)
                                                                  have qi506 : (1 < (rd_L10 t473 x379_3).length) = True := eq_true (by omega)
                                                                  (try rw [show ((1 : Int)).toNat = 1 from rfl] at hx506_0)
                                                                  replace p506 := eq_true p506; replace q506 := eq_true q506
                                                                  try go_wp2
                                                                  repeat (go_quiet (fail); try go_wp2)
                                                                  go_roundg k3
                                                                  case measure => have := HJ15.out; have := HK2.out; have := HK3.out; omega
                                                                  case rel => exact ⟨(wrap64 (x379_3 + 1)), fR, H', ⟨by have := HJ15.out; have := HK2.out; have := HK3.out; omega⟩, ⟨by (with_reducible repeat (first | apply Kd.S_alloc | apply Kd.S_drewN | apply Kd.S_drew)); exact HO_377.out⟩, ⟨bK⟩, ⟨bK⟩, ⟨bK⟩, ⟨bG⟩⟩
                                                                ·rw [if_neg c164] at H
                                                                 have c164b0 : ((rd (rd_L10 t473 x379_3) 0) == (wrap64 (t458 - 1))) = false := beq_eq_false_iff_ne.mpr c164
                                                                 have c164b1 : ((rd (rd_L10 t473 x379_3) 0) != (wrap64 (t458 - 1))) = true := bne_iff_ne.mpr c164
                                                                 have H' := Aside0.mk H
                                                                 clear H
                                                                 have p500 : 0 ≤ (x379_3 : Int) := oD
                                                                 have q500 : x379_3 < (t473.length : Int) := oD
                                                                 obtain ⟨ad500, A500_0, c500_0, e500, hx500_0, hl500_0, hi500_0⟩ := at_L10 (Kd.S_reads' HO_377.out).2.2 x379_3 p500 q500
                                                                 cases e500
                                                                 obtain ⟨ce500, hce500, hMe500, hcc500⟩ := Kd.S_get HO_377.out [] x379_3 p500 (by first | exact q500 | exact oD | (have e_ := (Kd.S_reads' HO_377.out).1; omega))
                                                                 obtain ⟨ve500_0, rfl, ge500_0⟩ := hMe500
                                                                 have hv500_0 := hcc500 0 _ rfl
                                                                 rw [Nat.add_zero, show ((Kd.slice 3 (Kd.int .i64))).sz = 1 from rfl, Nat.mul_one] at hv500_0
                                                                 replace hv500_0 := Option.some.inj (hv500_0.symm.trans hx500_0)
                                                                 rw [hv500_0] at ge500_0
                                                                 have HL500_0 := Aside0.mk (show Kd.R (Kd.int .i64) 3 _ _ _ _ (rd_L10 t473 x379_3) from ge500_0)
                                                                 clear hv500_0 ge500_0; clear hcc500 hce500
                                                                 have HR500_0 := Aside0.mk hi500_0
                                                                 have HC500_0 := Aside0.mk hl500_0
                                                                 clear hi500_0 hl500_0; replace p500 := eq_true p500; replace q500 := eq_true q500
                                                                 have p501 : 0 ≤ (0 : Int) := (by omega)
                                                                 have q501 : 0 < ((rd_L10 t473 x379_3).length : Int) := oD
                                                                 obtain ⟨ad501, e501, hx501_0⟩ := Kd.at_int (by repeat (first | (with_reducible exact HR500_0.out) | (with_reducible refine Kd.C_alloc ?_ _) | (with_reducible refine Kd.C_drewN ?_ _) | (with_reducible refine Kd.C_drew ?_) | exact HR500_0.out)) 0 p501 q501
                                                                 cases e501
                                                                 have qi501 : (0 < (rd_L10 t473 x379_3).length) = True := eq_true (by omega)
                                                                 (try rw [show ((0 : Int)).toNat = 0 from rfl] at hx501_0)
                                                                 (try rw [Addr.add_zero'] at hx501_0)
                                                                 replace p501 := eq_true p501; replace q501 := eq_true q501
                                                                 have p502 : 0 ≤ (1 : Int) := (by omega)
                                                                 have q502 : 1 < ((rd_L10 t473 x379_3).length : Int) := oD
                                                                 obtain ⟨ad502, e502, hx502_0⟩ := Kd.at_int (by repeat (first | (with_reducible exact HR500_0.out) | (with_reducible refine Kd.C_alloc ?_ _) | (with_reducible refine Kd.C_drewN ?_ _) | (with_reducible refine Kd.C_drew ?_) | exact HR500_0.out)) 1 p502 q502
                                                                 obtain rfl : ad501 = ad502 := (by injection e502)
                                                                 (try simp only [show (1 : Int).toNat = 1 from rfl, Nat.reduceMul, Nat.reduceEqDiff, Go.Addr.add, ↓reduceIte] at hx502_0)
                                                                 have qi502 : (1 < (rd_L10 t473 x379_3).length) = True := eq_true (by omega)
                                                                 (try rw [show ((1 : Int)).toNat = 1 from rfl] at hx502_0)
                                                                 replace p502 := eq_true p502; replace q502 := eq_true q502
                                                                 have p503 : 0 ≤ (0 : Int) := (by omega)
                                                                 have q503 : 0 < ((rd_L10 t473 x379_3).length : Int) := oD
                                                                 obtain ⟨ad503, e503, hx503_0⟩ := Kd.at_int (by repeat (first | (with_reducible exact HR500_0.out) | (with_reducible refine Kd.C_alloc ?_ _) | (with_reducible refine Kd.C_drewN ?_ _) | (with_reducible refine Kd.C_drew ?_) | exact HR500_0.out)) 0 p503 q503
                                                                 obtain rfl : ad501 = ad503 := (by injection e503)
                                                                 have qi503 : (0 < (rd_L10 t473 x379_3).length) = True := eq_true (by omega)
                                                                 (try rw [show ((0 : Int)).toNat = 0 from rfl] at hx503_0)
                                                                 (try rw [Addr.add_zero'] at hx503_0)
                                                                 replace p503 := eq_true p503; replace q503 := eq_true q503
                                                                 have p504 : 0 ≤ (1 : Int) := (by omega)
                                                                 have q504 : 1 < ((rd_L10 t473 x379_3).length : Int) := oD
                                                                 obtain ⟨ad504, e504, hx504_0⟩ := Kd.at_int (by repeat (first | (with_reducible exact HR500_0.out) | (with_reducible refine Kd.C_alloc ?_ _) | (with_reducible refine Kd.C_drewN ?_ _) | (with_reducible refine Kd.C_drew ?_) | exact HR500_0.out)) 1 p504 q504
                                                                 obtain rfl : ad501 = ad504 := (by injection e504)
                                                                 (try simp only [show (1 : Int).toNat = 1 from rfl, Nat.reduceMul, Nat.reduceEqDiff, Go.Addr.add, ↓reduceIte] at hx504_0)
                                                                 have qi504 : (1 < (rd_L10 t473 x379_3).length) = True := eq_true (by omega)
                                                                 (try rw [show ((1 : Int)).toNat = 1 from rfl] at hx504_0)
                                                                 replace p504 := eq_true p504; replace q504 := eq_true q504
                                                                 have hnb169 := NB460_427.out
                                                                 have hnc169 := NB427_460.out
                                                                 have hnb170 := NB460_485.out
                                                                 have hnc170 := NB485_460.out
                                                                 have hcz171_0 : wr.cell? ⟨gb460, 0, none⟩ = some (.int .i64 t458) := (blk_cell BK460.out 0).trans rfl
                                                                 have hcz171_1 : wr.cell? ⟨gb460, 1, none⟩ = some (.int .i64 t459) := (blk_cell BK460.out 1).trans rfl
                                                                 have hfz171_0 := blk_frozen BK460.out 0
                                                                 have hfz171_1 := blk_frozen BK460.out 1
                                                                 have p505 : 0 ≤ (0 : Int) := (by omega)
                                                                 have q505 : 0 < ((rd_L10 t473 x379_3).length : Int) := oD
                                                                 obtain ⟨ad505, e505, hx505_0⟩ := Kd.at_int (by repeat (first | (with_reducible exact HR500_0.out) | (with_reducible refine Kd.C_alloc ?_ _) | (with_reducible refine Kd.C_drewN ?_ _) | (with_reducible refine Kd.C_drew ?_) | exact HR500_0.out)) 0 p505 q505
                                                                 obtain rfl : ad501 = ad505 := (by injection e505)
                                                                 have qi505 : (0 < (rd_L10 t473 x379_3).length) = True := eq_true (by omega)
                                                                 (try rw [show ((0 : Int)).toNat = 0 from rfl] at hx505_0)
                                                                 (try rw [Addr.add_zero'] at hx505_0)
                                                                 replace p505 := eq_true p505; replace q505 := eq_true q505
                                                                 try go_wp2
                                                                 repeat (go_quiet (fail); try go_wp2)
                                                                 go_roundg k3
                                                                 case measure => have := HJ15.out; have := HK2.out; have := HK3.out; omega
                                                                 case rel => exact ⟨(wrap64 (x379_3 + 1)), fR, H', ⟨by have := HJ15.out; have := HK2.out; have := HK3.out; omega⟩, ⟨by (with_reducible repeat (first | apply Kd.S_alloc | apply Kd.S_drewN | apply Kd.S_drew)); exact HO_377.out⟩, ⟨bK⟩, ⟨bK⟩, ⟨bK⟩, ⟨bG⟩⟩
                                                             ·rw [if_neg c161] at H
                                                              exact absurd H (by simp)
                                                           ·rw [if_neg c159] at H
                                                            exact absurd H (by simp)
                                                          ·rw [if_neg c158] at H
                                                           exact absurd H (by simp)
                                                         ·rw [if_neg c157] at H
                                                          exact absurd H (by simp)
                                                        ·rw [if_neg c156] at H
                                                         exact absurd H (by simp)
                                                       ·rw [if_neg c155] at H
                                                        have c155b0 : decide (x379_3 < (t473.length : Int)) = false := decide_eq_false c155
                                                        clear c155
                                                        have H' := Aside0.mk H
                                                        clear H
                                                        try go_wp2
                                                        repeat (go_quiet (fail); try go_wp2)
                                                        go_meet
                                                        case rel => exact ⟨_, H', ⟨by have := HJ15.out; have := HK2.out; have := HK3.out; first | omega | exact Nat.le_refl _⟩, ⟨bK⟩, ⟨bK⟩, ⟨bK⟩, ⟨bG⟩⟩
                                                ·replace c147 := Bool.eq_false_iff.mpr c147
                                                 subst c147
                                                 have H1 : (none) = some r := by rw [if_neg (show ¬ (false = true) by decide)] at H; exact H
                                                 clear H
                                                 have H := H1
                                                 clear H1
                                                 exact absurd H (by simp)
                                               ·replace c146 := Bool.eq_false_iff.mpr c146
                                                subst c146
                                                have H1 : (none) = some r := by rw [if_neg (show ¬ (false = true) by decide)] at H; exact H
                                                clear H
                                                have H := H1
                                                clear H1
                                                exact absurd H (by simp)
                                        ·replace c127 := Bool.eq_false_iff.mpr c127
                                         subst c127
                                         have H1 : (none) = some r := by rw [if_neg (show ¬ (false = true) by decide)] at H; exact H
                                         clear H
                                         have H := H1
                                         clear H1
                                         exact absurd H (by simp)
                                      ·replace c124 := Bool.eq_false_iff.mpr c124
                                       subst c124
                                       have H1 : (laws_FnHintsPlayed.j5 kj15 t483 t484 t486 t487 t481 t482) = some r := by rw [if_neg (show ¬ (false = true) by decide)] at H; exact H
                                       clear H
                                       have H := H1
                                       clear H1
                                       have H' := Aside0.mk H
                                       clear H
                                       try go_wp2
                                       repeat (go_quiet (fail); try go_wp2)
                                       go_meet
                                       case rel => exact ⟨_, H', ⟨by have := HJ15.out; first | omega | exact Nat.le_refl _⟩, ⟨bK⟩, ⟨bK⟩, ⟨bK⟩, ⟨bG⟩⟩
                                    case rest =>
                                     as_aux_lemma =>
                                      clear HC96
                                      (try clear c1); (try clear c2); (try clear p2); (try clear c3); (try clear c4); (try clear p4); (try clear q4); (try clear hx4); (try clear qi4); (try clear c5); (try clear p5); (try clear q5); (try clear hx5); (try clear qi5); (try clear c6); (try clear p6); (try clear q6); (try clear c7); (try clear c8); (try clear c9); (try clear c10); (try clear c10b0); (try clear c10b1); (try clear c10b2); (try clear c11); (try clear c12); (try clear c13); (try clear c13b0); (try clear c13b1); (try clear c13b2); (try clear c14); (try clear c14b0); (try clear c14b1); (try clear c15); (try clear c15b0); (try clear c15b1); (try clear c15b2); (try clear c16); (try clear c17); (try clear c18); (try clear c19); (try clear c20); (try clear c21); (try clear c22); (try clear c23); (try clear c27); (try clear c29); (try clear c30); (try clear c30b0); (try clear c30b1); (try clear c31); (try clear c31b0); (try clear c31b1); (try clear c33); (try clear c33b0); (try clear c34); (try clear c34b0); (try clear c35); (try clear c35b0); (try clear c35b1); (try clear c36); (try clear c36b0); (try clear c36b1); (try clear c38); (try clear c38b0); (try clear c39); (try clear c39b0); (try clear c40); (try clear c40b0); (try clear c44); (try clear p44); (try clear q44); (try clear hx44); (try clear p45); (try clear q45); (try clear hx45); (try clear qi45); (try clear c48); (try clear c49); (try clear c49b0); (try clear c49b1); (try clear p49); (try clear q49); (try clear hx49); (try clear c50); (try clear c50b0); (try clear c50b1); (try clear p50); (try clear q50); (try clear hx50); (try clear qi50); (try clear c51); (try clear c51b0); (try clear c53); (try clear c53b0); (try clear c54); (try clear c54b0); (try clear c55); (try clear c57); (try clear c59); (try clear c60); (try clear c60b0); (try clear c61); (try clear c61b0); (try clear c61b1); (try clear c62); (try clear c62b0); (try clear c62b1); (try clear c64); (try clear p64); (try clear c65); (try clear c65b0); (try clear c65b1); (try clear c66); (try clear c66b0); (try clear c66b1); (try clear c67); (try clear c67b0); (try clear c67b1); (try clear q69); (try clear c72); (try clear c84); (try clear c84b0); (try clear c84b1); (try clear c84b2); (try clear c85); (try clear c85b0); (try clear c85b1); (try clear c86); (try clear c86b0); (try clear c86b1); (try clear c86b2); (try clear c88); (try clear c89); (try clear c89b0); (try clear c89b1); (try clear c89b2); (try clear c91); (try clear c92); (try clear c92b0); (try clear c92b1); (try clear c92b2); (try clear c93); (try clear c93b0); (try clear c93b1); (try clear c94); (try clear c94b0); (try clear c94b1); (try clear c94b2); (try clear c95); (try clear c95b0); (try clear c95b1); (try clear c95b2); (try clear c99); (try clear c114); (try clear c115); (try clear c124); (try clear c125); (try clear c125b0); (try clear c125b1); (try clear c127); (try clear c128); (try clear c128b0); (try clear c129); (try clear c129b0); (try clear c130); (try clear c130b0); (try clear c131); (try clear c131b0); (try clear c133); (try clear c133b0); (try clear c134); (try clear c135); (try clear c135b0); (try clear c135b1); (try clear c136); (try clear c137); (try clear c140); (try clear c141); (try clear c146); (try clear c147); (try clear c148); (try clear c148b0); (try clear c149); (try clear c150); (try clear c155); (try clear c155b0); (try clear c156); (try clear c156b0); (try clear c157); (try clear c157b0); (try clear c158); (try clear c158b0); (try clear c158b1); (try clear c159); (try clear c159b0); (try clear c159b1); (try clear c160); (try clear c160b0); (try clear c161); (try clear c161b0); (try clear c161b1); (try clear c162); (try clear c162b0); (try clear c163); (try clear c163b0); (try clear c164); (try clear c164b0); (try clear c164b1); (try clear c165); (try clear c165b0); (try clear c165b1); (try clear c166); (try clear c167); (try clear c169); (try clear c170); (try clear hcz100_0); (try clear hcz100_1); (try clear hcz102_0); (try clear hcz102_1); (try clear hcz104_0); (try clear hcz104_1); (try clear hcz106_0); (try clear hcz106_1); (try clear hcz108_0); (try clear hcz108_1); (try clear hcz110_0); (try clear hcz110_1); (try clear hcz116_0); (try clear hcz116_1); (try clear hcz118_0); (try clear hcz118_1); (try clear hcz138_0); (try clear hcz138_1); (try clear hcz142_0); (try clear hcz142_1); (try clear hcz151_0); (try clear hcz151_1); (try clear hcz153_0); (try clear hcz153_1); (try clear hcz168_0); (try clear hcz168_1); (try clear hcz171_0); (try clear hcz171_1); (try clear hcz19_0); (try clear hcz19_1); (try clear hcz21_0); (try clear hcz21_1); (try clear hcz23_0); (try clear hcz23_1); (try clear hcz25_0); (try clear hcz25_1); (try clear hcz37_0); (try clear hcz37_1); (try clear hcz45_0); (try clear hcz45_1); (try clear hcz45_2); (try clear hcz46_0); (try clear hcz46_1); (try clear hcz56_0); (try clear hcz56_1); (try clear hcz56_2); (try clear hcz58_0); (try clear hcz58_1); (try clear hcz58_2); (try clear hcz73_0); (try clear hcz73_1); (try clear hcz73_2); (try clear hfz100_0); (try clear hfz100_1); (try clear hfz102_0); (try clear hfz102_1); (try clear hfz104_0); (try clear hfz104_1); (try clear hfz106_0); (try clear hfz106_1); (try clear hfz108_0); (try clear hfz108_1); (try clear hfz110_0); (try clear hfz110_1); (try clear hfz116_0); (try clear hfz116_1); (try clear hfz118_0); (try clear hfz118_1); (try clear hfz138_0); (try clear hfz138_1); (try clear hfz142_0); (try clear hfz142_1); (try clear hfz151_0); (try clear hfz151_1); (try clear hfz153_0); (try clear hfz153_1); (try clear hfz168_0); (try clear hfz168_1); (try clear hfz171_0); (try clear hfz171_1); (try clear hfz19_0); (try clear hfz19_1); (try clear hfz21_0); (try clear hfz21_1); (try clear hfz23_0); (try clear hfz23_1); (try clear hfz25_0); (try clear hfz25_1); (try clear hfz37_0); (try clear hfz37_1); (try clear hfz45_0); (try clear hfz45_1); (try clear hfz45_2); (try clear hfz46_0); (try clear hfz46_1); (try clear hfz56_0); (try clear hfz56_1); (try clear hfz56_2); (try clear hfz58_0); (try clear hfz58_1); (try clear hfz58_2); (try clear hfz73_0); (try clear hfz73_1); (try clear hfz73_2); (try clear hx441_0); (try clear hx441_1); (try clear hx441_2); (try clear hx442_0); (try clear hx442_1); (try clear hx442_2); (try clear hx443_0); (try clear hx443_1); (try clear hx443_2); (try clear hx448_0); (try clear hx448_1); (try clear hx448_2); (try clear hx457_0); (try clear hx493_0); (try clear hx500_0); (try clear hx501_0); (try clear hx502_0); (try clear hx503_0); (try clear hx504_0); (try clear hx505_0); (try clear hx506_0); (try clear p2); (try clear p4); (try clear p44); (try clear p441); (try clear p442); (try clear p443); (try clear p448); (try clear p45); (try clear p457); (try clear p49); (try clear p493); (try clear p500); (try clear p501); (try clear p502); (try clear p503); (try clear p504); (try clear p505); (try clear p506); (try clear p6); (try clear p64); (try clear q4); (try clear q44); (try clear q441); (try clear q442); (try clear q443); (try clear q448); (try clear q45); (try clear q457); (try clear q49); (try clear q493); (try clear q500); (try clear q501); (try clear q502); (try clear q503); (try clear q504); (try clear q505); (try clear q506); (try clear q6); (try clear q69)
                                      obtain ⟨kq, HA, HJ95, BK427, BK460, BK485, HB⟩ := hcut
                                      cases kq with
                                      | zero => exact absurd HA.out (by simp [laws_FnHintsPlayed.j5])
                                      | succ kj95 =>
                                       have H := HA.out
                                       clear HA
                                       simp only [laws_FnHintsPlayed.j5] at H
                                       by_cases c172 : t487 = true
                                       ·subst c172
                                        have H1 : ((impl_ZeroCode.f kj95 t481 t482).bind fun bt507 => ((impl_CountFitting.f kj95 t481 t482 (([(⟨bt507.1, t483, t484⟩ : S35)] : List (S35)))).bind fun bt512 => (if bt507.2 = true then (if bt512.2 = true then (if bt512.1 = t486 then (if t484 = 0 then (some true) else (some (t486 == 0))) else (none)) else (none)) else (none)))) = some r := by rw [if_pos rfl] at H; exact H
                                        clear H
                                        have H := H1
                                        clear H1
                                        replace H := Option.bind_eq_some_iff.mp H
                                        obtain ⟨⟨t507, t508⟩, A1730, H⟩ := H
                                        (try dsimp only at H)
                                        have A173 := Aside0.mk A1730
                                        clear A1730
                                        obtain ⟨y509, hy509⟩ : ∃ y_ : List (S35), y_ = (([(⟨t507, t483, t484⟩ : S35)] : List (S35))) := ⟨_, rfl⟩
                                        replace H : ((impl_CountFitting.f kj95 t481 t482 y509).bind fun bt512 => (if t508 = true then (if bt512.2 = true then (if bt512.1 = t486 then (if t484 = 0 then (some true) else (some (t486 == 0))) else (none)) else (none)) else (none))) = some r := by first | (rw [hy509]; with_reducible exact H) | (have H2_ := (Option.bind_some _ _).symm.trans H; rw [hy509]; with_reducible exact H2_) | (have H2_ := (Option.bind_some _ _).symm.trans H; with_reducible exact H2_) | with_reducible exact H | (rw [hy509]; exact H) | exact H
                                        have Ny509 := Aside0.mk hy509
                                        clear hy509
                                        replace H := Option.bind_eq_some_iff.mp H
                                        obtain ⟨⟨t512, t513⟩, A1740, H⟩ := H
                                        (try dsimp only at H)
                                        have A174 := Aside0.mk A1740
                                        clear A1740
                                        by_cases c175 : t508 = true
                                        ·subst c175
                                         have H1 : (if t513 = true then (if t512 = t486 then (if t484 = 0 then (some true) else (some (t486 == 0))) else (none)) else (none)) = some r := by rw [if_pos rfl] at H; exact H
                                         clear H
                                         have H := H1
                                         clear H1
                                         by_cases c176 : t513 = true
                                         ·subst c176
                                          have H1 : (if t512 = t486 then (if t484 = 0 then (some true) else (some (t486 == 0))) else (none)) = some r := by rw [if_pos rfl] at H; exact H
                                          clear H
                                          have H := H1
                                          clear H1
                                          by_cases c177 : t512 = t486
                                          ·rw [if_pos c177] at H
                                           have c177b0 : (t512 == t486) = true := beq_iff_eq.mpr c177
                                           have c177b1 : (t512 != t486) = false := bne_eq_false_iff_eq.mpr c177
                                           clear c177
                                           by_cases c178 : t484 = 0
                                           ·rw [if_pos c178] at H
                                            have c178b0 : (t484 == 0) = true := beq_iff_eq.mpr c178
                                            have c178b1 : (t484 != 0) = false := bne_eq_false_iff_eq.mpr c178
                                            clear c178
                                            obtain rfl := Option.some.inj H
                                            have hnb179 := NB485_427.out
                                            have hnc179 := NB427_485.out
                                            have hnb180 := NB485_460.out
                                            have hnc180 := NB460_485.out
                                            have hcz181_0 : wc.cell? ⟨gb485, 0, none⟩ = some (.int .i64 t481) := (blk_cell BK485.out 0).trans rfl
                                            have hcz181_1 : wc.cell? ⟨gb485, 1, none⟩ = some (.int .i64 t482) := (blk_cell BK485.out 1).trans rfl
                                            have hfz181_0 := blk_frozen BK485.out 0
                                            have hfz181_1 := blk_frozen BK485.out 1
                                            go_upto_region 59 with (first | ((with_reducible refine gate_callee (f := 27) rfl ?_); refine goesL_ (some 429) rfl rfl Tryz.func27 (by kernel_rfl) rfl #[.agg #[.int .i64 t481, .int .i64 t482]] rfl lM ?_; (with_reducible refine (impl_ZeroCode.calls kj95 t481 t482 t507 true _ A173.out).mono ?_); rintro e w182 ⟨rfl, hb⟩; refine ⟨_, rfl, ?_⟩; have n0_ := Aside0.mk (blk_below (g := gb427) (o := .cells #[.int .i64 t424, .int .i64 t425] 25 (0, 0)) bK hb); have n1_ := Aside0.mk (blk_below (g := gb460) (o := .cells #[.int .i64 t458, .int .i64 t459] 25 (0, 0)) bK hb); have n2_ := Aside0.mk (blk_below (g := gb485) (o := .cells #[.int .i64 t481, .int .i64 t482] 25 (0, 0)) bK hb); have n3_ := Aside0.mk (below_step bG hb); clear BK427; clear BK460; clear BK485; clear HB; have BK427 := n0_; have BK460 := n1_; have BK485 := n2_; have HB := n3_; clear n0_ n1_ n2_ n3_; (try clear hb); (try clear hb2); (try clear hk); (try clear hi); have hcz183_0 : w182.cell? ⟨gb485, 0, none⟩ = some (.int .i64 t481) := (blk_cell BK485.out 0).trans rfl; have hcz183_1 : w182.cell? ⟨gb485, 1, none⟩ = some (.int .i64 t482) := (blk_cell BK485.out 1).trans rfl; have hfz183_0 := blk_frozen BK485.out 0; have hfz183_1 := blk_frozen BK485.out 1))
                                            try go_wp2_with (first | ((with_reducible refine gate_dst (N := 438) rfl ?_); (try (refine gate_guard (by rfl) ?_; dsimp only)); refine Kd.R_lit k35 _ 35 ?hg (N := 438) ?hd (xs := ([(⟨t507, t483, t484⟩ : S35)] : List (S35))) (inner := [.string t507, .int .i64 t483, .int .i64 t484]) (ok := fun _ => True) (okp := fun _ => True) ?hr ?hp (fun _ hk => hk) trivial (Below.refl _ _) (Nat.le_refl _) (by simp) ?_; (case hd => rfl); (case hg => rfl); (case hr => first | (go_simp; done) | (go_simp; rfl)); (case hp => exact (Reps.c3 (show Kd.M k35 _ _ _ (⟨t507, t483, t484⟩ : S35) [.string t507, .int .i64 t483, .int .i64 t484] from (k35_mkM _ _ _ (⟨t507, t483, t484⟩ : S35) )) (Reps.none _ _))); intro v510 w184 ho185 hb hg_ hnew_; clear hg_ hnew_; (first | rw [← Ny509.out] at ho185 | (simp only [Int.reduceToNat] at ho185; rw [← Ny509.out] at ho185)); have n0_ := Aside0.mk (Kd.R_lower ho185 (below_size bG)); have n1_ := Aside0.mk (blk_below (g := gb427) (o := .cells #[.int .i64 t424, .int .i64 t425] 25 (0, 0)) bK hb); have n2_ := Aside0.mk (blk_below (g := gb460) (o := .cells #[.int .i64 t458, .int .i64 t459] 25 (0, 0)) bK hb); have n3_ := Aside0.mk (blk_below (g := gb485) (o := .cells #[.int .i64 t481, .int .i64 t482] 25 (0, 0)) bK hb); have n4_ := Aside0.mk (below_step bG hb); clear BK427; clear BK460; clear BK485; clear HB; have HO511 := n0_; have BK427 := n1_; have BK460 := n2_; have BK485 := n3_; have HB := n4_; clear n0_ n1_ n2_ n3_ n4_; clear hb ho185; obtain ⟨Ao186, co186, eo186⟩ := Kd.R_slice HO511.out; subst eo186) | ((with_reducible refine gate_callee (f := 28) rfl ?_); refine goesL_ (some 439) rfl rfl Tryz.func28 (by kernel_rfl) rfl #[.agg #[.int .i64 t481, .int .i64 t482], .slice Ao186 y509.length co186] rfl lM ?_; (with_reducible refine (impl_CountFitting.calls kj95 t481 t482 _ _ y509 t512 true _ ?side1 ?side2 A174.out).mono ?_); (case side1 => repeat (first | exact (Kd.R_reads' HO511.out).2.2 | (with_reducible refine Kd.C_alloc ?_ _) | (with_reducible refine Kd.C_drewN ?_ _) | (with_reducible refine Kd.C_drew ?_))); (case side2 => exact (Kd.R_reads' HO511.out).2.1); rintro e w187 ⟨rfl, hb⟩; refine ⟨_, rfl, ?_⟩; have n0_ := Aside0.mk (Kd.R_below (by (with_reducible repeat (first | apply Kd.R_alloc | apply Kd.R_drewN | apply Kd.R_drew)); exact HO511.out) hb); have n1_ := Aside0.mk (blk_below (g := gb427) (o := .cells #[.int .i64 t424, .int .i64 t425] 25 (0, 0)) bK hb); have n2_ := Aside0.mk (blk_below (g := gb460) (o := .cells #[.int .i64 t458, .int .i64 t459] 25 (0, 0)) bK hb); have n3_ := Aside0.mk (blk_below (g := gb485) (o := .cells #[.int .i64 t481, .int .i64 t482] 25 (0, 0)) bK hb); have n4_ := Aside0.mk (below_step bG hb); clear HO511; clear BK427; clear BK460; clear BK485; clear HB; have HO511 := n0_; have BK427 := n1_; have BK460 := n2_; have BK485 := n3_; have HB := n4_; clear n0_ n1_ n2_ n3_ n4_; (try clear hb); (try clear hb2); (try clear hk); (try clear hi)))
                                            go_ret
                                            exact ⟨by first | rfl | (simp [errW_none, errW_some] <;> rfl) | (simp [*, errW_none, errW_some] <;> rfl), bG⟩
                                           ·rw [if_neg c178] at H
                                            have c178b0 : (t484 == 0) = false := beq_eq_false_iff_ne.mpr c178
                                            have c178b1 : (t484 != 0) = true := bne_iff_ne.mpr c178
                                            obtain rfl := Option.some.inj H
                                            have hnb188 := NB485_427.out
                                            have hnc188 := NB427_485.out
                                            have hnb189 := NB485_460.out
                                            have hnc189 := NB460_485.out
                                            have hcz190_0 : wc.cell? ⟨gb485, 0, none⟩ = some (.int .i64 t481) := (blk_cell BK485.out 0).trans rfl
                                            have hcz190_1 : wc.cell? ⟨gb485, 1, none⟩ = some (.int .i64 t482) := (blk_cell BK485.out 1).trans rfl
                                            have hfz190_0 := blk_frozen BK485.out 0
                                            have hfz190_1 := blk_frozen BK485.out 1
                                            go_upto_region 59 with (first | ((with_reducible refine gate_callee (f := 27) rfl ?_); refine goesL_ (some 429) rfl rfl Tryz.func27 (by kernel_rfl) rfl #[.agg #[.int .i64 t481, .int .i64 t482]] rfl lM ?_; (with_reducible refine (impl_ZeroCode.calls kj95 t481 t482 t507 true _ A173.out).mono ?_); rintro e w191 ⟨rfl, hb⟩; refine ⟨_, rfl, ?_⟩; have n0_ := Aside0.mk (blk_below (g := gb427) (o := .cells #[.int .i64 t424, .int .i64 t425] 25 (0, 0)) bK hb); have n1_ := Aside0.mk (blk_below (g := gb460) (o := .cells #[.int .i64 t458, .int .i64 t459] 25 (0, 0)) bK hb); have n2_ := Aside0.mk (blk_below (g := gb485) (o := .cells #[.int .i64 t481, .int .i64 t482] 25 (0, 0)) bK hb); have n3_ := Aside0.mk (below_step bG hb); clear BK427; clear BK460; clear BK485; clear HB; have BK427 := n0_; have BK460 := n1_; have BK485 := n2_; have HB := n3_; clear n0_ n1_ n2_ n3_; (try clear hb); (try clear hb2); (try clear hk); (try clear hi); have hcz192_0 : w191.cell? ⟨gb485, 0, none⟩ = some (.int .i64 t481) := (blk_cell BK485.out 0).trans rfl; have hcz192_1 : w191.cell? ⟨gb485, 1, none⟩ = some (.int .i64 t482) := (blk_cell BK485.out 1).trans rfl; have hfz192_0 := blk_frozen BK485.out 0; have hfz192_1 := blk_frozen BK485.out 1))
                                            try go_wp2_with (first | ((with_reducible refine gate_dst (N := 438) rfl ?_); (try (refine gate_guard (by rfl) ?_; dsimp only)); refine Kd.R_lit k35 _ 35 ?hg (N := 438) ?hd (xs := ([(⟨t507, t483, t484⟩ : S35)] : List (S35))) (inner := [.string t507, .int .i64 t483, .int .i64 t484]) (ok := fun _ => True) (okp := fun _ => True) ?hr ?hp (fun _ hk => hk) trivial (Below.refl _ _) (Nat.le_refl _) (by simp) ?_; (case hd => rfl); (case hg => rfl); (case hr => first | (go_simp; done) | (go_simp; rfl)); (case hp => exact (Reps.c3 (show Kd.M k35 _ _ _ (⟨t507, t483, t484⟩ : S35) [.string t507, .int .i64 t483, .int .i64 t484] from (k35_mkM _ _ _ (⟨t507, t483, t484⟩ : S35) )) (Reps.none _ _))); intro v510 w193 ho194 hb hg_ hnew_; clear hg_ hnew_; (first | rw [← Ny509.out] at ho194 | (simp only [Int.reduceToNat] at ho194; rw [← Ny509.out] at ho194)); have n0_ := Aside0.mk (Kd.R_lower ho194 (below_size bG)); have n1_ := Aside0.mk (blk_below (g := gb427) (o := .cells #[.int .i64 t424, .int .i64 t425] 25 (0, 0)) bK hb); have n2_ := Aside0.mk (blk_below (g := gb460) (o := .cells #[.int .i64 t458, .int .i64 t459] 25 (0, 0)) bK hb); have n3_ := Aside0.mk (blk_below (g := gb485) (o := .cells #[.int .i64 t481, .int .i64 t482] 25 (0, 0)) bK hb); have n4_ := Aside0.mk (below_step bG hb); clear BK427; clear BK460; clear BK485; clear HB; have HO511 := n0_; have BK427 := n1_; have BK460 := n2_; have BK485 := n3_; have HB := n4_; clear n0_ n1_ n2_ n3_ n4_; clear hb ho194; obtain ⟨Ao195, co195, eo195⟩ := Kd.R_slice HO511.out; subst eo195) | ((with_reducible refine gate_callee (f := 28) rfl ?_); refine goesL_ (some 439) rfl rfl Tryz.func28 (by kernel_rfl) rfl #[.agg #[.int .i64 t481, .int .i64 t482], .slice Ao195 y509.length co195] rfl lM ?_; (with_reducible refine (impl_CountFitting.calls kj95 t481 t482 _ _ y509 t512 true _ ?side1 ?side2 A174.out).mono ?_); (case side1 => repeat (first | exact (Kd.R_reads' HO511.out).2.2 | (with_reducible refine Kd.C_alloc ?_ _) | (with_reducible refine Kd.C_drewN ?_ _) | (with_reducible refine Kd.C_drew ?_))); (case side2 => exact (Kd.R_reads' HO511.out).2.1); rintro e w196 ⟨rfl, hb⟩; refine ⟨_, rfl, ?_⟩; have n0_ := Aside0.mk (Kd.R_below (by (with_reducible repeat (first | apply Kd.R_alloc | apply Kd.R_drewN | apply Kd.R_drew)); exact HO511.out) hb); have n1_ := Aside0.mk (blk_below (g := gb427) (o := .cells #[.int .i64 t424, .int .i64 t425] 25 (0, 0)) bK hb); have n2_ := Aside0.mk (blk_below (g := gb460) (o := .cells #[.int .i64 t458, .int .i64 t459] 25 (0, 0)) bK hb); have n3_ := Aside0.mk (blk_below (g := gb485) (o := .cells #[.int .i64 t481, .int .i64 t482] 25 (0, 0)) bK hb); have n4_ := Aside0.mk (below_step bG hb); clear HO511; clear BK427; clear BK460; clear BK485; clear HB; have HO511 := n0_; have BK427 := n1_; have BK460 := n2_; have BK485 := n3_; have HB := n4_; clear n0_ n1_ n2_ n3_ n4_; (try clear hb); (try clear hb2); (try clear hk); (try clear hi)))
                                            go_ret
                                            exact ⟨by first | rfl | (simp [errW_none, errW_some] <;> rfl) | (simp [*, errW_none, errW_some] <;> rfl), bG⟩
                                          ·rw [if_neg c177] at H
                                           exact absurd H (by simp)
                                         ·replace c176 := Bool.eq_false_iff.mpr c176
                                          subst c176
                                          have H1 : (none) = some r := by rw [if_neg (show ¬ (false = true) by decide)] at H; exact H
                                          clear H
                                          have H := H1
                                          clear H1
                                          exact absurd H (by simp)
                                        ·replace c175 := Bool.eq_false_iff.mpr c175
                                         subst c175
                                         have H1 : (none) = some r := by rw [if_neg (show ¬ (false = true) by decide)] at H; exact H
                                         clear H
                                         have H := H1
                                         clear H1
                                         exact absurd H (by simp)
                                       ·replace c172 := Bool.eq_false_iff.mpr c172
                                        subst c172
                                        have H1 : (some true) = some r := by rw [if_neg (show ¬ (false = true) by decide)] at H; exact H
                                        clear H
                                        have H := H1
                                        clear H1
                                        obtain rfl := Option.some.inj H
                                        try go_wp2
                                        repeat (go_quiet (fail); try go_wp2)
                                        go_ret
                                        exact ⟨by first | rfl | (simp [errW_none, errW_some] <;> rfl) | (simp [*, errW_none, errW_some] <;> rfl), bG⟩
                       ·rw [if_neg c93] at H
                        exact absurd H (by simp)
                     ·replace c91 := Bool.eq_false_iff.mpr c91
                      subst c91
                      have H1 : (none) = some r := by rw [if_neg (show ¬ (false = true) by decide)] at H; exact H
                      clear H
                      have H := H1
                      clear H1
                      exact absurd H (by simp)
                   ·replace c88 := Bool.eq_false_iff.mpr c88
                    subst c88
                    have H1 : (none) = some r := by rw [if_neg (show ¬ (false = true) by decide)] at H; exact H
                    clear H
                    have H := H1
                    clear H1
                    exact absurd H (by simp)
                 ·rw [if_neg c85] at H
                  exact absurd H (by simp)
     ·rw [if_neg c14] at H
      exact absurd H (by simp)
   ·replace c12 := Bool.eq_false_iff.mpr c12
    subst c12
    have H1 : (none) = some r := by rw [if_neg (show ¬ (false = true) by decide)] at H; exact H
    clear H
    have H := H1
    clear H1
    exact absurd H (by simp)
/-- THE ONE PURE STATEMENT of laws_FnHintsPlayed: yours. -/
def laws_FnHintsPlayed.Pure : Prop := ∀ (l0 : List Int) (l1 : List Int), l0.length ≤ maxLen → l0.length * 1 ≤ 140737488351232 → (∀ x ∈ l0, (Lit.int .u8 x).wf = true) → l1.length ≤ maxLen → l1.length * 1 ≤ 140737488351232 → (∀ x ∈ l1, (Lit.int .u8 x).wf = true) → ∃ k, laws_FnHintsPlayed.f k l0 l1 = some true
theorem laws_FnHintsPlayed.walk (P : laws_FnHintsPlayed.Pure) (a0 : Option Addr) (len0 cap0 : Nat) (z0 : List Int) (a1 : Option Addr) (len1 cap1 : Nat) (z1 : List Int) (w : World) (w0 : (a0 = none ∧ len0 = 0 ∧ cap0 = 0 ∧ z0 = []) ∨ ∃ x, a0 = some x ∧ len0 ≤ cap0 ∧ cap0 ≤ maxLen ∧ z0.length = cap0 ∧ (∀ i, i < z0.length → w.cell? (x.add i) = some (.int .u8 (z0.getD i 0))) ∧ ∀ n ∈ z0, (Lit.int .u8 n).wf = true) (y0 : len0 * 1 ≤ 140737488351232) (w1 : (a1 = none ∧ len1 = 0 ∧ cap1 = 0 ∧ z1 = []) ∨ ∃ x, a1 = some x ∧ len1 ≤ cap1 ∧ cap1 ≤ maxLen ∧ z1.length = cap1 ∧ (∀ i, i < z1.length → w.cell? (x.add i) = some (.int .u8 (z1.getD i 0))) ∧ ∀ n ∈ z1, (Lit.int .u8 n).wf = true) (y1 : len1 * 1 ≤ 140737488351232) :
  Calls Tryz.prog 3 #[.slice a0 len0 cap0, .slice a1 len1 cap1] w fun e w' => e = .returned (.bool true) ∧ Below w.heap.size w w' := by
 obtain ⟨l0, rfl, hr0, hm0, hw0, hc0⟩ := ReadsInt.ofRowC w0
 obtain ⟨l1, rfl, hr1, hm1, hw1, hc1⟩ := ReadsInt.ofRowC w1
 obtain ⟨k, h⟩ := P l0 l1 hm0 y0 hw0 hm1 y1 hw1
 refine (laws_FnHintsPlayed.calls k _ _ l0 _ _ l1 true w (Kd.C_of_reads (d := (0 : Int)) (h1 := fun _ => rfl) hr0) hc0 (Kd.C_of_reads (d := (0 : Int)) (h1 := fun _ => rfl) hr1) hc1 h).mono ?_
 rintro e w' ⟨rfl, hd⟩
 exact ⟨rfl, hd⟩

end Go.Proofs.YtcpnmiempaofdaaGreat.C
