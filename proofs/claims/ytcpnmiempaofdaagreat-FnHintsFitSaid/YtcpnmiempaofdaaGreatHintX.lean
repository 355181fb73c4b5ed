import Derived.Test.YtcpnmiempaofdaaGreatGx13
import Derived.Test.YtcpnmiempaofdaaGreatHintW
namespace Go.Proofs.YtcpnmiempaofdaaGreat.Pure
open Go.RowKit Go.Proofs.YtcpnmiempaofdaaGreat.G Go.Proofs.YtcpnmiempaofdaaGreatW.PrintWords Go.Proofs.YtcpnmiempaofdaaGreatW.PrintLast Go.Proofs.YtcpnmiempaofdaaGreatW.PrintMore
set_option linter.unusedVariables false
def worstV (w : Nat) (g : ByteArray) (codes : List ByteArray) : Int := (partsL w g codes).foldl max 0
theorem foldl_max_filter (F : Nat → Int) (hF : ∀ q, 0 ≤ F q) : ∀ (l : List Nat) (m : Int), 0 ≤ m → ((l.filter (fun q => decide (0 < F q))).map F).foldl max m = (l.map F).foldl max m
 | [], m, _ => rfl
 | q :: l, m, hm => by
  by_cases h : 0 < F q
  ·rw [List.filter_cons_of_pos (by simpa using h), List.map_cons, List.map_cons, List.foldl_cons, List.foldl_cons]
   exact foldl_max_filter F hF l _ (by omega)
  ·have := hF q
   rw [List.filter_cons_of_neg (by simpa using h), List.map_cons, List.foldl_cons, show max m (F q) = m by omega]
   exact foldl_max_filter F hF l _ hm
theorem rowsMost_tab (w : Nat) (g : ByteArray) (codes : List ByteArray) : rowsMost (tabV w g codes) = worstV w g codes := by
 unfold rowsMost tabV worstV partsL
 rw [← foldl_max_filter (partsF w g codes) (fun q => by unfold partsF; omega) _ 0 (by omega), List.foldl_map, List.foldl_map]
 rfl
theorem implWorst_ev (w : Nat) (g : ByteArray) (hg : digsB g ∧ g.size = w) (codes : List ByteArray) (hn : codes.length ≤ 1000) (hc : ∀ c ∈ codes, digsB c ∧ c.size = w) : Ev (fun K => impl_worst.f K codes g) (worstV w g codes) := by
 obtain ⟨K, hK⟩ := implTable_ev w g hg codes hn hc
 refine ⟨K, fun k hk => ?_⟩
 show impl_worst.f k codes g = _
 unfold impl_worst.f
 rw [show impl_table.f k codes g = _ from hK k hk, ← rowsMost_tab]
 rfl
theorem hiWorst_ev (w : Nat) (hw1 : 1 ≤ w) (hw : w ≤ 6) (g : ByteArray) (hg : digsB g ∧ g.size = w) (codes : List ByteArray) (hn : codes.length ≤ 10000000) (hc : ∀ c ∈ codes, digsB c ∧ c.size = w) : Ev (fun K => spec_hiWorst.f K (w : Int) g codes) (worstV w g codes) := by
 unfold spec_hiWorst.f
 refine Ev.bind (hiParts_ev w hw1 hw g hg codes hn hc) ?_
 have hM : (w + 1) * (w + 1) ≤ 49 := Nat.mul_le_mul (show w + 1 ≤ 7 by omega) (show w + 1 ≤ 7 by omega)
 have hlen : (partsL w g codes).length = (w + 1) * (w + 1) := by simp [partsL]
 unfold worstV
 generalize partsL w g codes = l at hlen
 have key : ∀ (d i : Nat) (m : Int), i + d = l.length → Ev (fun K => spec_hiWorst.l0 K m l (l.length : Int) i) ((l.drop i).foldl max m) := by
  intro d
  induction d with
  | zero =>
   intro i m hi
   refine Ev.step (fun k => by rw [spec_hiWorst.l0]) ?_
   refine Ev.neg (by omega) (Ev.val (Ev.now _) ?_)
   rw [List.drop_eq_nil_of_le (by omega)]
   rfl
  | succ d ih =>
   intro i m hi
   have h1 : i < l.length := by omega
   refine Ev.step (fun k => by rw [spec_hiWorst.l0]) ?_
   refine Ev.pos (by omega) (Ev.pos (by omega) (Ev.pos (by omega) ?_))
   rw [rd_nat h1, w64n (by omega)]
   refine Ev.let_ (show spec_l1Most.f m l[i] = some (max m l[i]) from ?_) ?_
   ·unfold spec_l1Most.f
    split
    ·rw [show max m l[i] = m by omega]
    ·rw [show max m l[i] = l[i] by omega]
   ·rw [List.drop_eq_getElem_cons h1, List.foldl_cons]
    exact ih (i + 1) _ (by omega)
 exact key l.length 0 0 (by omega)
end Go.Proofs.YtcpnmiempaofdaaGreat.Pure
