import Derived.Test.YtcpnmiempaofdaaGreatHintO
namespace Go.Proofs.YtcpnmiempaofdaaGreat.Pure
open Go.RowKit Go.Proofs.YtcpnmiempaofdaaGreat.G Go.Proofs.YtcpnmiempaofdaaGreatW.PrintWords Go.Proofs.YtcpnmiempaofdaaGreatW.PrintLast Go.Proofs.YtcpnmiempaofdaaGreatW.PrintMore
set_option linter.unusedVariables false
theorem plcN_comm (g c : ByteArray) : ∀ n, plcN g c n = plcN c g n
 | 0 => rfl
 | n + 1 => by
  rw [plcN, plcN, plcN_comm g c n]
  by_cases h : bt g (n : Int) = bt c (n : Int)
  ·rw [if_pos h, if_pos h.symm]
  ·rw [if_neg h, if_neg (fun e => h e.symm)]
theorem comN_comm (g c : ByteArray) (n : Nat) : ∀ j, comN g c n j = comN c g n j
 | 0 => rfl
 | j + 1 => by
  rw [comN, comN, comN_comm g c n j]
  split <;> split <;> omega
theorem hintV_comm (g c : ByteArray) (h : g.size = c.size) : hintV g c = hintV c g := by
 unfold hintV
 rw [plcN_comm g c, comN_comm g c, h]
theorem cnt_full (g c : ByteArray) (d : Int) : ∀ n : Nat, plcN g c n = (n : Int) → cntN g d n = cntN c d n
 | 0, _ => rfl
 | n + 1, h => by
  rw [plcN] at h
  have hb := plcN_bd g c n
  by_cases he : bt g (n : Int) = bt c (n : Int)
  ·rw [if_pos he] at h
   rw [cntN, cntN, cnt_full g c d n (by omega), he]
  ·rw [if_neg he] at h
   omega
theorem cnt_but1 (g c : ByteArray) : ∀ n : Nat, plcN g c n = (n : Int) - 1 → ∃ i, i < n ∧ cntN c (bt c (i : Int)) n = cntN g (bt c (i : Int)) n + 1
 | 0, h => by
  have : plcN g c 0 = 0 := rfl
  omega
 | n + 1, h => by
  rw [plcN] at h
  have hb := plcN_bd g c n
  by_cases he : bt g (n : Int) = bt c (n : Int)
  ·rw [if_pos he] at h
   obtain ⟨i, hi, h2⟩ := cnt_but1 g c n (by omega)
   refine ⟨i, by omega, ?_⟩
   rw [cntN, cntN, h2, he]
   omega
  ·rw [if_neg he] at h
   refine ⟨n, by omega, ?_⟩
   have := cnt_full g c (bt c (n : Int)) n (by omega)
   rw [cntN, cntN, this, if_pos rfl, if_neg he]
   omega
theorem com_lt (g c : ByteArray) (n v : Nat) (hv : cntN g (48 + (v : Int)) n < cntN c (48 + (v : Int)) n) : ∀ j : Nat, v < j → comN g c n j < sumC c n j
 | 0, h => by omega
 | j + 1, h => by
  have h1 := com_le g c n j
  rw [comN, sumC]
  by_cases e : v = j
  ·subst e
   rw [if_pos hv]
   omega
  ·have := com_lt g c n v hv j (by omega)
   split <;> omega
theorem hint_but1 (g c : ByteArray) (hc : digsB c) (hs : g.size = c.size) (h : (hintV g c).1 = (g.size : Int) - 1) : ¬ (hintV g c).2 = 1 := by
 unfold hintV at h ⊢
 simp only at h ⊢
 obtain ⟨i, hi, h2⟩ := cnt_but1 g c g.size h
 have hb := hc.2 i (by omega)
 obtain ⟨v, hv⟩ := Int.eq_ofNat_of_zero_le (show 0 ≤ bt c (i : Int) - 48 by omega)
 have e : bt c (i : Int) = 48 + (v : Int) := by omega
 rw [e] at h2
 have h3 := com_lt g c g.size v (by omega) 10 (by omega)
 have h4 := sumC_le c 10 g.size
 omega
theorem hint_full (g c : ByteArray) (hs : g.size = c.size) : (hintV g c).1 = (g.size : Int) ↔ g = c := by
 unfold hintV
 simp only
 constructor
 ·intro h
  have : ∀ n : Nat, plcN g c n = n → ∀ i, i < n → bt g (i : Int) = bt c (i : Int) := by
   intro n
   induction n with
   | zero => intro _ i hi; omega
   | succ n ih =>
    intro h i hi
    rw [plcN] at h
    have hb := plcN_bd g c n
    by_cases he : bt g (n : Int) = bt c (n : Int)
    ·rw [if_pos he] at h
     rcases Nat.lt_succ_iff_lt_or_eq.mp hi with h1 | h1
     ·exact ih (by omega) i h1
     ·rw [h1]; exact he
    ·rw [if_neg he] at h
     omega
  have hall := this g.size h
  apply ByteArray.ext
  apply Array.ext
  ·exact hs
  ·intro i h1 h2
   have h1' : i < g.size := h1
   have h2' : i < c.size := h2
   have := hall i h1'
   unfold bt at this
   simp only [Int.toNat_natCast, h1', h2', dif_pos] at this
   have h3 : (g[i]'h1').toNat = (c[i]'h2').toNat := by omega
   exact UInt8.toNat.inj h3
 ·rintro rfl
  have : ∀ n : Nat, plcN g g n = n := by
   intro n
   induction n with
   | zero => rfl
   | succ n ih => rw [plcN, ih, if_pos rfl]; omega
  exact this _
end Go.Proofs.YtcpnmiempaofdaaGreat.Pure
