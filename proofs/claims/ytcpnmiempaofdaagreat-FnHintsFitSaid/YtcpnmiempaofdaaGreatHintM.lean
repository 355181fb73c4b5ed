import Derived.Test.YtcpnmiempaofdaaGreatHintZ
namespace Go.Proofs.YtcpnmiempaofdaaGreat.Pure
open Go.RowKit Go.Proofs.YtcpnmiempaofdaaGreat.G Go.Proofs.YtcpnmiempaofdaaGreatW.PrintWords Go.Proofs.YtcpnmiempaofdaaGreatW.PrintLast Go.Proofs.YtcpnmiempaofdaaGreatW.PrintMore
set_option linter.unusedVariables false
theorem eTexts_ev (xs : List ByteArray) (hn : xs.length < 9223372036854775808) : Ev (fun k => laws_eTexts.f k xs xs) true := by
 have key : ∀ (d i : Nat), i + d = xs.length → Ev (fun k => laws_eTexts.l0 k xs xs (xs.length : Int) (i : Int)) true := by
  intro d
  induction d with
  | zero =>
   intro i hi
   refine Ev.step (fun k => by rw [laws_eTexts.l0]) ?_
   exact Ev.neg (by omega) (Ev.now _)
  | succ d ih =>
   intro i hi
   refine Ev.step (fun k => by rw [laws_eTexts.l0]) ?_
   refine Ev.pos (by omega) (Ev.pos (by omega) (Ev.pos (by omega) (Ev.pos (by omega) (Ev.pos rfl ?_))))
   rw [w64n (by omega)]
   exact ih (i + 1) (by omega)
 unfold laws_eTexts.f
 exact Ev.pos rfl (key xs.length 0 (by omega))
theorem eSame_ev (xs : List Int) (hn : xs.length < 9223372036854775808) : Ev (fun k => laws_eSame.f k xs xs) true := by
 have key : ∀ (d i : Nat), i + d = xs.length → Ev (fun k => laws_eSame.l0 k xs xs (xs.length : Int) (i : Int)) true := by
  intro d
  induction d with
  | zero =>
   intro i hi
   refine Ev.step (fun k => by rw [laws_eSame.l0]) ?_
   exact Ev.neg (by omega) (Ev.now _)
  | succ d ih =>
   intro i hi
   refine Ev.step (fun k => by rw [laws_eSame.l0]) ?_
   refine Ev.pos (by omega) (Ev.pos (by omega) (Ev.pos (by omega) (Ev.pos (by omega) (Ev.pos rfl ?_))))
   rw [w64n (by omega)]
   exact ih (i + 1) (by omega)
 unfold laws_eSame.f
 exact Ev.pos rfl (key xs.length 0 (by omega))
theorem rdRows_nat {xs : List (List Int)} {i : Nat} (h : i < xs.length) : rd_L7 xs (i : Int) = xs[i] := by
 unfold rd_L7
 simp [h]
theorem eRows_ev (xs : List (List Int)) (hn : xs.length < 9223372036854775808) (hx : ∀ x ∈ xs, x.length < 9223372036854775808) : Ev (fun k => laws_eRows.f k xs xs) true := by
 have key : ∀ (d i : Nat), i + d = xs.length → Ev (fun k => laws_eRows.l0 k xs xs (xs.length : Int) (i : Int)) true := by
  intro d
  induction d with
  | zero =>
   intro i hi
   refine Ev.step (fun k => by rw [laws_eRows.l0]) ?_
   exact Ev.neg (by omega) (Ev.now _)
  | succ d ih =>
   intro i hi
   have h1 : i < xs.length := by omega
   refine Ev.step (fun k => by rw [laws_eRows.l0]) ?_
   refine Ev.pos (by omega) (Ev.pos (by omega) (Ev.pos (by omega) (Ev.pos (by omega) ?_)))
   rw [w64n (by omega), rdRows_nat h1]
   exact Ev.bind (eSame_ev _ (hx _ (List.getElem_mem h1))) (Ev.pos rfl (ih (i + 1) (by omega)))
 unfold laws_eRows.f
 exact Ev.pos rfl (key xs.length 0 (by omega))
theorem eSorted_ev (xs : List ByteArray) (hn : xs.length < 9223372036854775808) (hs : xs.Pairwise befT) : Ev (fun k => laws_eSorted.f k xs) true := by
 have hg : ∀ (i : Nat) (h : i < xs.length), rdOf ByteArray.empty xs (i : Int) = xs[i] := fun i h => by unfold rdOf; simp [h]
 have key : ∀ (d i : Nat), i + d = xs.length → Ev (fun k => laws_eSorted.l0 k xs ((i + 1 : Nat) : Int)) true := by
  intro d
  induction d with
  | zero =>
   intro i hi
   refine Ev.step (fun k => by rw [laws_eSorted.l0]) ?_
   exact Ev.neg (by omega) (Ev.now _)
  | succ d ih =>
   intro i hi
   refine Ev.step (fun k => by rw [laws_eSorted.l0]) ?_
   by_cases h1 : i + 1 < xs.length
   ·have e : wrap64 (((i + 1 : Nat) : Int) - 1) = (i : Int) := by rw [w64 (by omega) (by omega)]; omega
    rw [e, w64n (i := i + 1) (by omega)]
    refine Ev.pos (by omega) (Ev.pos (by omega) (Ev.pos (by omega) (Ev.pos (by omega) (Ev.pos ?_ (ih (i + 1) (by omega))))))
    rw [hg i (by omega), hg (i + 1) h1]
    exact List.pairwise_iff_getElem.mp hs i (i + 1) (by omega) h1 (by omega)
   ·exact Ev.neg (by omega) (Ev.now _)
 unfold laws_eSorted.f
 exact key xs.length 0 (by omega)
end Go.Proofs.YtcpnmiempaofdaaGreat.Pure
