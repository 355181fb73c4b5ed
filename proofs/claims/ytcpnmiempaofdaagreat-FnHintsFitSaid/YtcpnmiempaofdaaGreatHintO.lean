import Derived.Test.YtcpnmiempaofdaaGreatGx11
import Derived.Test.YtcpnmiempaofdaaGreatHintD
namespace Go.Proofs.YtcpnmiempaofdaaGreat.Pure
open Go.RowKit Go.Proofs.YtcpnmiempaofdaaGreat.G Go.Proofs.YtcpnmiempaofdaaGreatW.PrintWords Go.Proofs.YtcpnmiempaofdaaGreatW.PrintLast Go.Proofs.YtcpnmiempaofdaaGreatW.PrintMore
set_option linter.unusedVariables false
theorem com_next (g c : ByteArray) (n : Nat) : ∀ j : Nat, comN g c n j + (if bt g (n : Int) = bt c (n : Int) ∧ 48 ≤ bt g (n : Int) ∧ bt g (n : Int) < 48 + (j : Int) then 1 else 0) ≤ comN g c (n + 1) j
 | 0 => by
  rw [if_neg (by omega)]
  simp [comN]
 | j + 1 => by
  have ih := com_next g c n j
  rw [comN, comN]
  have e1 : cntN g (48 + (j : Int)) (n + 1) = cntN g (48 + (j : Int)) n + if bt g (n : Int) = 48 + (j : Int) then 1 else 0 := rfl
  have e2 : cntN c (48 + (j : Int)) (n + 1) = cntN c (48 + (j : Int)) n + if bt c (n : Int) = 48 + (j : Int) then 1 else 0 := rfl
  rw [e1, e2]
  generalize cntN g (48 + (j : Int)) n = a at *
  generalize cntN c (48 + (j : Int)) n = b at *
  generalize comN g c n j = u at *
  generalize comN g c (n + 1) j = v at *
  generalize bt g (n : Int) = x at *
  generalize bt c (n : Int) = y at *
  by_cases h1 : x = y ∧ 48 ≤ x ∧ x < 48 + (j : Int)
  ·rw [if_pos h1] at ih
   rw [if_pos (show x = y ∧ 48 ≤ x ∧ x < 48 + ((j + 1 : Nat) : Int) by omega), if_neg (show ¬ x = 48 + (j : Int) by omega), if_neg (show ¬ y = 48 + (j : Int) by omega)]
   simp only [Int.add_zero]
   omega
  ·rw [if_neg h1] at ih
   by_cases h2 : x = 48 + (j : Int)
   ·by_cases h3 : y = 48 + (j : Int)
    ·rw [if_pos h2, if_pos h3, if_pos (show x = y ∧ 48 ≤ x ∧ x < 48 + ((j + 1 : Nat) : Int) by omega)]
     split <;> split <;> omega
    ·rw [if_pos h2, if_neg h3, if_neg (show ¬ (x = y ∧ 48 ≤ x ∧ x < 48 + ((j + 1 : Nat) : Int)) by omega)]
     split <;> split <;> omega
   ·rw [if_neg h2, if_neg (show ¬ (x = y ∧ 48 ≤ x ∧ x < 48 + ((j + 1 : Nat) : Int)) by omega)]
    by_cases h3 : y = 48 + (j : Int)
    ·rw [if_pos h3]
     split <;> split <;> omega
    ·rw [if_neg h3]
     split <;> split <;> omega
theorem com_zero (g c : ByteArray) : ∀ j : Nat, comN g c 0 j = 0
 | 0 => rfl
 | j + 1 => by
  rw [comN, com_zero g c j]
  simp [cntN]
theorem plc_com (g c : ByteArray) : ∀ n : Nat, (∀ i : Nat, i < n → 48 ≤ bt g (i : Int) ∧ bt g (i : Int) ≤ 57) → plcN g c n ≤ comN g c n 10
 | 0, _ => by rw [com_zero]; simp [plcN]
 | n + 1, h => by
  have ih := plc_com g c n (fun i hi => h i (by omega))
  have h1 := com_next g c n 10
  have h2 := h n (by omega)
  rw [plcN]
  by_cases e : bt g (n : Int) = bt c (n : Int)
  ·rw [if_pos e]
   rw [if_pos ⟨e, h2.1, by omega⟩] at h1
   omega
  ·rw [if_neg e]
   rw [if_neg (fun hc => e hc.1)] at h1
   omega
def sumC (c : ByteArray) (n : Nat) : Nat → Int
 | 0 => 0
 | j + 1 => sumC c n j + cntN c (48 + (j : Int)) n
theorem sumC_succ (c : ByteArray) (n : Nat) : ∀ j : Nat, sumC c (n + 1) j = sumC c n j + if 48 ≤ bt c (n : Int) ∧ bt c (n : Int) < 48 + (j : Int) then 1 else 0
 | 0 => by rw [if_neg (by omega)]; rfl
 | j + 1 => by
  rw [sumC, sumC, sumC_succ c n j]
  have e2 : cntN c (48 + (j : Int)) (n + 1) = cntN c (48 + (j : Int)) n + if bt c (n : Int) = 48 + (j : Int) then 1 else 0 := rfl
  rw [e2]
  split <;> split <;> split <;> omega
theorem sumC_zero (c : ByteArray) : ∀ j : Nat, sumC c 0 j = 0
 | 0 => rfl
 | j + 1 => by rw [sumC, sumC_zero c j]; rfl
theorem sumC_le (c : ByteArray) (j : Nat) : ∀ n : Nat, sumC c n j ≤ (n : Int)
 | 0 => by rw [sumC_zero]; simp
 | n + 1 => by
  have := sumC_le c j n
  rw [sumC_succ]
  split <;> omega
theorem com_le (g c : ByteArray) (n : Nat) : ∀ j : Nat, comN g c n j ≤ sumC c n j
 | 0 => by simp [comN, sumC]
 | j + 1 => by
  have := com_le g c n j
  rw [comN, sumC]
  split <;> omega
theorem hint_bd (g c : ByteArray) (hg : digsB g) : 0 ≤ (hintV g c).1 ∧ 0 ≤ (hintV g c).2 ∧ (hintV g c).1 + (hintV g c).2 ≤ (g.size : Int) := by
 have h1 := plc_com g c g.size hg.2
 have h2 := com_le g c g.size 10
 have h3 := sumC_le c 10 g.size
 have h4 := plcN_bd g c g.size
 unfold hintV
 simp only
 omega
def ixW (w : Nat) (g s : ByteArray) : Nat := ((hintV g s).1 * ((w : Int) + 1) + (hintV g s).2).toNat
theorem ix_small (N : Nat) {p o : Int} (hp : 0 ≤ p) (ho : 0 ≤ o) (hN : p + o < (N : Int)) (hb : N ≤ 7) : 0 ≤ p * (N : Int) + o ∧ p * (N : Int) + o < ((N * N : Nat) : Int) := by
 obtain ⟨a, rfl⟩ := Int.eq_ofNat_of_zero_le hp
 obtain ⟨b, rfl⟩ := Int.eq_ofNat_of_zero_le ho
 have h1 : a + b < N := by omega
 have h2 : a * N + b < N * N := by
  have : (a + 1) * N ≤ N * N := Nat.mul_le_mul_right N (by omega)
  rw [Nat.add_mul, Nat.one_mul] at this
  omega
 constructor
 ·have : (0 : Int) ≤ ((a * N + b : Nat) : Int) := Int.natCast_nonneg _
  simpa using this
 ·have := Int.ofNat_lt.mpr h2
  simpa using this
def partsF (w : Nat) (g : ByteArray) (codes : List ByteArray) (q : Nat) : Int := ((codes.filter (fun s => decide (ixW w g s = q))).length : Int)
def partsL (w : Nat) (g : ByteArray) (codes : List ByteArray) : List Int := (List.range ((w + 1) * (w + 1))).map (partsF w g codes)
theorem range_map_get (M : Nat) (F : Nat → Int) (q : Nat) (h : q < M) : rd ((List.range M).map F) (q : Int) = F q := by
 rw [rd_nat (by simpa using h)]
 simp
theorem range_map_set (M : Nat) (F G : Nat → Int) (q : Nat) (h : q < M) (hq : ∀ j, j < M → j ≠ q → G j = F j) : ((List.range M).map F).set q (G q) = (List.range M).map G := by
 apply List.ext_getElem
 ·simp
 ·intro i h1 h2
  rw [List.getElem_set]
  by_cases e : q = i
  ·subst e; simp
  ·rw [if_neg e]
   simp only [List.getElem_map, List.getElem_range]
   exact (hq i (by simpa using h2) (Ne.symm e)).symm
theorem parts_snoc (w : Nat) (g : ByteArray) (l : List ByteArray) (s : ByteArray) (q : Nat) : partsF w g (l ++ [s]) q = partsF w g l q + if ixW w g s = q then 1 else 0 := by
 unfold partsF
 rw [List.filter_append, List.length_append]
 by_cases h : ixW w g s = q
 ·simp [h]
 ·simp [h]
theorem hiParts_l0 (w : Nat) (hw1 : 1 ≤ w) (hw : w ≤ 6) (g : ByteArray) (hg : digsB g ∧ g.size = w) (codes : List ByteArray) (hn : codes.length ≤ 10000000) (hc : ∀ c ∈ codes, digsB c ∧ c.size = w) : ∀ (d i : Nat), i + d = codes.length →
  Ev (fun K => spec_hiParts.l0 K (w : Int) g (partsL w g (codes.take i)) codes (codes.length : Int) i) (partsL w g codes) := by
 intro d
 induction d with
 | zero =>
  intro i hi
  refine Ev.step (fun k => by rw [spec_hiParts.l0]) ?_
  refine Ev.neg (by omega) (Ev.val (Ev.now _) ?_)
  rw [List.take_of_length_le (by omega)]
 | succ d ih =>
  intro i hi
  have h1 : i < codes.length := by omega
  have hr : rdOf ByteArray.empty codes (i : Int) = codes[i] := by unfold rdOf; simp [h1]
  have hs := hc _ (List.getElem_mem h1)
  have hb := hint_bd g codes[i] hg.1
  rw [hg.2] at hb
  have hix := ix_small (w + 1) hb.1 hb.2.1 (by omega) (by omega)
  have he : ((ixW w g codes[i] : Nat) : Int) = (hintV g codes[i]).1 * ((w : Int) + 1) + (hintV g codes[i]).2 := by
   unfold ixW
   have : ((w + 1 : Nat) : Int) = (w : Int) + 1 := rfl
   rw [this] at hix
   omega
  have hlt : ixW w g codes[i] < (w + 1) * (w + 1) := by
   have h2 := hix.2
   have : ((w + 1 : Nat) : Int) = (w : Int) + 1 := rfl
   rw [this, ← he] at h2
   exact Int.ofNat_lt.mp h2
  have hM : (w + 1) * (w + 1) ≤ 49 := Nat.mul_le_mul (show w + 1 ≤ 7 by omega) (show w + 1 ≤ 7 by omega)
  have hmul : 0 ≤ (hintV g codes[i]).1 * ((w : Int) + 1) ∧ (hintV g codes[i]).1 * ((w : Int) + 1) ≤ 49 := by
   have : 0 ≤ (hintV g codes[i]).1 * ((w : Int) + 1) := Int.mul_nonneg hb.1 (by omega)
   omega
  refine Ev.step (fun k => by rw [spec_hiParts.l0]) ?_
  refine Ev.pos (by omega) (Ev.pos (by omega) (Ev.pos (by omega) ?_))
  rw [hr]
  refine Ev.let_ (specHint_some g codes[i] hg.1 (by rw [hg.2, hs.2])) ?_
  rw [w64 (x := (w : Int) + 1) (by omega) (by omega), w64 (x := (hintV g codes[i]).1 * ((w : Int) + 1)) (by omega) (by omega), w64 (x := (hintV g codes[i]).1 * ((w : Int) + 1) + (hintV g codes[i]).2) (by omega) (by omega), ← he]
  refine Ev.pos (by omega) (Ev.pos (by rw [show (partsL w g (codes.take i)).length = (w + 1) * (w + 1) by simp [partsL]]; exact Int.ofNat_lt.mpr hlt) ?_)
  have hp : 0 ≤ partsF w g (codes.take i) (ixW w g codes[i]) ∧ partsF w g (codes.take i) (ixW w g codes[i]) ≤ 10000000 := by
   unfold partsF
   have := List.length_filter_le (fun s => decide (ixW w g s = ixW w g codes[i])) (codes.take i)
   rw [List.length_take] at this
   omega
  unfold partsL
  rw [range_map_get _ _ _ hlt, w64 (by omega) (by omega), w64n (by omega), Int.toNat_natCast]
  have hset := range_map_set ((w + 1) * (w + 1)) (partsF w g (codes.take i)) (partsF w g (codes.take (i + 1))) (ixW w g codes[i]) hlt (fun j _ hj => by
   rw [List.take_succ_eq_append_getElem h1, parts_snoc, if_neg (Ne.symm hj)]; omega)
  have hval : partsF w g (codes.take (i + 1)) (ixW w g codes[i]) = partsF w g (codes.take i) (ixW w g codes[i]) + 1 := by
   rw [List.take_succ_eq_append_getElem h1, parts_snoc, if_pos rfl]
  rw [hval] at hset
  rw [hset]
  exact ih (i + 1) (by omega)
theorem hiParts_ev (w : Nat) (hw1 : 1 ≤ w) (hw : w ≤ 6) (g : ByteArray) (hg : digsB g ∧ g.size = w) (codes : List ByteArray) (hn : codes.length ≤ 10000000) (hc : ∀ c ∈ codes, digsB c ∧ c.size = w) : Ev (fun K => spec_hiParts.f K (w : Int) g codes) (partsL w g codes) := by
 have hM : (w + 1) * (w + 1) ≤ 49 := Nat.mul_le_mul (show w + 1 ≤ 7 by omega) (show w + 1 ≤ 7 by omega)
 have e : wrap64 ((wrap64 ((w : Int) + 1)) * (wrap64 ((w : Int) + 1))) = (((w + 1) * (w + 1) : Nat) : Int) := by
  rw [w64 (x := (w : Int) + 1) (by omega) (by omega)]
  have : ((w : Int) + 1) * ((w : Int) + 1) = (((w + 1) * (w + 1) : Nat) : Int) := by simp
  rw [this, w64 (by omega) (by omega)]
 unfold spec_hiParts.f
 rw [e]
 refine Ev.pos (by omega) (Ev.pos (by omega) ?_)
 rw [Int.toNat_natCast]
 have h0 : List.replicate ((w + 1) * (w + 1)) 0 = partsL w g (codes.take 0) := by
  unfold partsL
  apply List.ext_getElem
  ·simp
  ·intro i h1 h2; simp [partsF]
 rw [h0]
 exact hiParts_l0 w hw1 hw g hg codes hn hc codes.length 0 (by omega)
end Go.Proofs.YtcpnmiempaofdaaGreat.Pure
