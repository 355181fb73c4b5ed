import Derived.Test.YtcpnmiempaofdaaGreatHintA
namespace Go.Proofs.YtcpnmiempaofdaaGreat.Pure
open Go.RowKit Go.Proofs.YtcpnmiempaofdaaGreat.G Go.Proofs.YtcpnmiempaofdaaGreatW.PrintWords Go.Proofs.YtcpnmiempaofdaaGreatW.PrintLast Go.Proofs.YtcpnmiempaofdaaGreatW.PrintMore
set_option linter.unusedVariables false
def digsB (s : ByteArray) : Prop := s.size ≤ 6 ∧ ∀ i : Nat, i < s.size → 48 ≤ bt s (i : Int) ∧ bt s (i : Int) ≤ 57
theorem digs_code {a b : Int} (h : lockB a b = true) {s : ByteArray} (hs : codeB a b s = true) : digsB s := by
 have h1 := lockB_iff.mp h
 have h2 := codeB_iff.mp hs
 exact ⟨by omega, fun i hi => by have := h2.2 i hi; omega⟩
def dgL (s : ByteArray) : List Int := (List.range s.size).map (fun (i : Nat) => bt s (i : Int) - 48)
theorem dgL_length (s : ByteArray) : (dgL s).length = s.size := by simp [dgL]
theorem digits_l0 (s : ByteArray) (hs : digsB s) : ∀ (d i : Nat), i + d = s.size → Ev (fun K => impl_digits.l0 K s ((List.range i).map (fun (i : Nat) => bt s (i : Int) - 48)) (s.size : Int) i) (dgL s) := by
 intro d
 induction d with
 | zero =>
  intro i hi
  refine Ev.step (fun k => by rw [impl_digits.l0]) ?_
  refine Ev.neg (by omega) (Ev.val (Ev.now _) ?_)
  unfold dgL
  rw [show i = s.size by omega]
 | succ d ih =>
  intro i hi
  have h1 : i < s.size := by omega
  have hb := hs.2 i h1
  have hs6 := hs.1
  refine Ev.step (fun k => by rw [impl_digits.l0]) ?_
  refine Ev.pos (by omega) (Ev.pos (by omega) (Ev.pos (by omega) (Ev.pos (by simp; omega) ?_)))
  rw [show (bt s (i : Int) - 48) % 256 = bt s (i : Int) - 48 by omega, w64n (by omega)]
  have := ih (i + 1) (by omega)
  rw [List.range_succ, List.map_append] at this
  exact this
theorem digits_ev (s : ByteArray) (hs : digsB s) : Ev (fun K => impl_digits.f K s) (dgL s) := by
 unfold impl_digits.f
 exact digits_l0 s hs s.size 0 (by omega)
def useN (c : ByteArray) (i : Nat) : List Int := (List.range 10).map (fun (d : Nat) => cntN c (48 + (d : Int)) i)
theorem rd_useN (c : ByteArray) (i d : Nat) (hd : d < 10) : rd (useN c i) (d : Int) = cntN c (48 + (d : Int)) i := by
 unfold rd useN
 simp [List.getD, hd]
theorem useN_set (c : ByteArray) (i d : Nat) (hd : d < 10) (hb : bt c (i : Int) = 48 + (d : Int)) : (useN c i).set d (cntN c (48 + (d : Int)) i + 1) = useN c (i + 1) := by
 apply List.ext_getElem?
 intro j
 by_cases hj : j < 10
 ·by_cases e : d = j
  ·subst e
   rw [List.getElem?_set_self (by simp [useN]; omega)]
   unfold useN
   simp [hj, cntN, hb]
  ·rw [List.getElem?_set_ne e]
   unfold useN
   have : ¬ bt c (i : Int) = 48 + (j : Int) := by omega
   simp [hj, cntN, this]
 ·rw [List.getElem?_eq_none (by simp [useN]; omega), List.getElem?_eq_none (by simp [useN]; omega)]
theorem hintL1_val (g c : ByteArray) (hc : digsB c) (hg : g.size = c.size) : ∀ (d i : Nat), i + d = c.size → hintL1 g c ((dgL c).drop i) (i : Int) (plcN g c i) (useN c i) = some (plcN g c c.size, useN c c.size) := by
 intro d
 induction d with
 | zero =>
  intro i hi
  rw [List.drop_eq_nil_of_le (by rw [dgL_length]; omega), hintL1, show i = c.size by omega]
 | succ d ih =>
  intro i hi
  have h1 : i < c.size := by omega
  have hb := hc.2 i h1
  have hc6 := hc.1
  have hp := plcN_bd g c i
  obtain ⟨x, hx⟩ := Int.eq_ofNat_of_zero_le (show 0 ≤ bt c (i : Int) - 48 by omega)
  have hxx : x < 10 := by omega
  have hu := cntN_bd c (48 + (x : Int)) i
  have hget : (dgL c)[i]'(by rw [dgL_length]; exact h1) = (x : Int) := by unfold dgL; simp [hx]
  rw [List.drop_eq_getElem_cons (by rw [dgL_length]; exact h1), hget, hintL1, rd_useN _ _ _ hxx]
  rw [if_pos ⟨⟨by omega, by omega, by omega⟩, ⟨by omega, by omega⟩, ⟨by omega, by omega⟩, by omega, by omega⟩]
  rw [Int.toNat_natCast, useN_set c i x hxx (by omega)]
  have e : (if bt g (i : Int) = bt c (i : Int) then plcN g c i + 1 else plcN g c i) = plcN g c (i + 1) := by
   rw [show plcN g c (i + 1) = plcN g c i + if bt g (i : Int) = bt c (i : Int) then 1 else 0 from rfl]
   split <;> omega
  rw [e]
  exact ih (i + 1) (by omega)
def comI (g c : ByteArray) (n i : Nat) : Nat → Int
 | 0 => 0
 | j + 1 => comI g c n i j + if cntN g (48 + (j : Int)) i < cntN c (48 + (j : Int)) n then cntN g (48 + (j : Int)) i else cntN c (48 + (j : Int)) n
theorem comI_all (g c : ByteArray) (n : Nat) : ∀ j, comI g c n n j = comN g c n j
 | 0 => rfl
 | j + 1 => by rw [comI, comN, comI_all g c n j]
theorem comI_zero (g c : ByteArray) (n : Nat) : ∀ j, comI g c n 0 j = 0
 | 0 => rfl
 | j + 1 => by
  have := cntN_bd c (48 + (j : Int)) n
  rw [comI, comI_zero g c n j]
  have e : cntN g (48 + (j : Int)) 0 = 0 := rfl
  rw [e]
  by_cases h : (0 : Int) < cntN c (48 + (j : Int)) n
  ·rw [if_pos h]; omega
  ·rw [if_neg h]; omega
theorem comI_step (g c : ByteArray) (n i x : Nat) (hx : bt g (i : Int) = 48 + (x : Int)) : ∀ j : Nat, comI g c n (i + 1) j = comI g c n i j + if x < j ∧ cntN g (48 + (x : Int)) i < cntN c (48 + (x : Int)) n then 1 else 0
 | 0 => by simp [comI]
 | j + 1 => by
  rw [comI, comI, comI_step g c n i x hx j]
  by_cases e : x = j
  ·subst e
   have e1 : cntN g (48 + (x : Int)) (i + 1) = cntN g (48 + (x : Int)) i + 1 := by simp [cntN, hx]
   rw [e1, if_neg (by omega)]
   by_cases h : cntN g (48 + (x : Int)) i < cntN c (48 + (x : Int)) n
   ·rw [if_pos h, if_pos (show x < x + 1 ∧ cntN g (48 + (x : Int)) i < cntN c (48 + (x : Int)) n from ⟨by omega, h⟩)]
    split <;> omega
   ·rw [if_neg h, if_neg (by omega), if_neg (show ¬ (x < x + 1 ∧ cntN g (48 + (x : Int)) i < cntN c (48 + (x : Int)) n) from fun hc => h hc.2)]
    omega
  ·have e1 : cntN g (48 + (j : Int)) (i + 1) = cntN g (48 + (j : Int)) i := by
    have : ¬ bt g (i : Int) = 48 + (j : Int) := by omega
    simp [cntN, this]
   rw [e1]
   by_cases h : x < j ∧ cntN g (48 + (x : Int)) i < cntN c (48 + (x : Int)) n
   ·rw [if_pos h, if_pos (show x < j + 1 ∧ cntN g (48 + (x : Int)) i < cntN c (48 + (x : Int)) n from ⟨by omega, h.2⟩)]
    omega
   ·rw [if_neg h, if_neg (show ¬ (x < j + 1 ∧ cntN g (48 + (x : Int)) i < cntN c (48 + (x : Int)) n) from fun hc => h ⟨by omega, hc.2⟩)]
    omega
theorem comI_bd (g c : ByteArray) (n i : Nat) : ∀ j, 0 ≤ comI g c n i j ∧ comI g c n i j ≤ (n : Int) * (j : Int)
 | 0 => by simp [comI]
 | j + 1 => by
  have h1 := comI_bd g c n i j
  have h2 := cntN_bd g (48 + (j : Int)) i
  have h3 := cntN_bd c (48 + (j : Int)) n
  have h4 : (n : Int) * ((j + 1 : Nat) : Int) = (n : Int) * (j : Int) + (n : Int) := by rw [Int.natCast_add, Int.mul_add]; omega
  unfold comI
  rw [h4]
  split <;> omega
def leftN (g c : ByteArray) (n i : Nat) : List Int := (List.range 10).map (fun (d : Nat) => cntN c (48 + (d : Int)) n - if cntN g (48 + (d : Int)) i < cntN c (48 + (d : Int)) n then cntN g (48 + (d : Int)) i else cntN c (48 + (d : Int)) n)
theorem rd_leftN (g c : ByteArray) (n i d : Nat) (hd : d < 10) : rd (leftN g c n i) (d : Int) = cntN c (48 + (d : Int)) n - if cntN g (48 + (d : Int)) i < cntN c (48 + (d : Int)) n then cntN g (48 + (d : Int)) i else cntN c (48 + (d : Int)) n := by
 unfold rd leftN
 simp [List.getD, hd]
theorem leftN_set (g c : ByteArray) (n i x : Nat) (hx : x < 10) (hb : bt g (i : Int) = 48 + (x : Int)) (h : cntN g (48 + (x : Int)) i < cntN c (48 + (x : Int)) n) : (leftN g c n i).set x (rd (leftN g c n i) (x : Int) - 1) = leftN g c n (i + 1) := by
 apply List.ext_getElem?
 intro j
 by_cases hj : j < 10
 ·by_cases e : x = j
  ·subst e
   rw [List.getElem?_set_self (by simp [leftN]; omega), rd_leftN _ _ _ _ _ hx, if_pos h]
   unfold leftN
   have e1 : cntN g (48 + (x : Int)) (i + 1) = cntN g (48 + (x : Int)) i + 1 := by simp [cntN, hb]
   simp only [List.getElem?_map, List.getElem?_range hj, Option.map_some, e1]
   congr 1
   split <;> omega
  ·rw [List.getElem?_set_ne e]
   unfold leftN
   have : ¬ bt g (i : Int) = 48 + (j : Int) := by omega
   simp [hj, cntN, this]
 ·rw [List.getElem?_eq_none (by simp [leftN]; omega), List.getElem?_eq_none (by simp [leftN]; omega)]
theorem leftN_same (g c : ByteArray) (n i x : Nat) (hb : bt g (i : Int) = 48 + (x : Int)) (h : ¬ cntN g (48 + (x : Int)) i < cntN c (48 + (x : Int)) n) : leftN g c n (i + 1) = leftN g c n i := by
 unfold leftN
 apply List.map_congr_left
 intro j _
 by_cases e : x = j
 ·subst e
  have e1 : cntN g (48 + (x : Int)) (i + 1) = cntN g (48 + (x : Int)) i + 1 := by simp [cntN, hb]
  rw [e1, if_neg h, if_neg (by omega)]
 ·have : ¬ bt g (i : Int) = 48 + (j : Int) := by omega
  simp [cntN, this]
theorem leftN_zero (g c : ByteArray) (n : Nat) : leftN g c n 0 = useN c n := by
 unfold leftN useN
 apply List.map_congr_left
 intro j _
 have := cntN_bd c (48 + (j : Int)) n
 have e : cntN g (48 + (j : Int)) 0 = 0 := rfl
 rw [e]
 by_cases h : (0 : Int) < cntN c (48 + (j : Int)) n
 ·rw [if_pos h]; omega
 ·rw [if_neg h]; omega
theorem hintL2_val (g c : ByteArray) (n : Nat) (hn : n ≤ 6) (hg : digsB g) : ∀ (d i : Nat), i + d = g.size → hintL2 ((dgL g).drop i) (comI g c n i 10) (leftN g c n i) = some (comI g c n g.size 10) := by
 intro d
 induction d with
 | zero =>
  intro i hi
  rw [List.drop_eq_nil_of_le (by rw [dgL_length]; omega), hintL2, show i = g.size by omega]
 | succ d ih =>
  intro i hi
  have h1 : i < g.size := by omega
  have hb := hg.2 i h1
  have hg6 := hg.1
  obtain ⟨x, hx⟩ := Int.eq_ofNat_of_zero_le (show 0 ≤ bt g (i : Int) - 48 by omega)
  have hxx : x < 10 := by omega
  have hbx : bt g (i : Int) = 48 + (x : Int) := by omega
  have hu := cntN_bd c (48 + (x : Int)) n
  have hv := cntN_bd g (48 + (x : Int)) i
  have hcb := comI_bd g c n i 10
  have hget : (dgL g)[i]'(by rw [dgL_length]; exact h1) = (x : Int) := by unfold dgL; simp [hx]
  have hrd := rd_leftN g c n i x hxx
  have hst := comI_step g c n i x hbx 10
  rw [List.drop_eq_getElem_cons (by rw [dgL_length]; exact h1), hget, hintL2]
  rw [if_pos ⟨⟨by omega, by omega⟩, ⟨by omega, by omega⟩, by rw [hrd]; split <;> omega, by rw [hrd]; split <;> omega⟩]
  by_cases h : cntN g (48 + (x : Int)) i < cntN c (48 + (x : Int)) n
  ·rw [if_pos (by rw [hrd, if_pos h]; omega), Int.toNat_natCast, leftN_set g c n i x hxx hbx h]
   rw [if_pos (show x < 10 ∧ _ from ⟨hxx, h⟩)] at hst
   rw [← hst]
   exact ih (i + 1) (by omega)
  ·rw [if_neg (by rw [hrd, if_neg h]; omega), ← leftN_same g c n i x hbx h]
   rw [if_neg (fun hc => h hc.2), Int.add_zero] at hst
   rw [← hst]
   exact ih (i + 1) (by omega)
def hintV (g c : ByteArray) : Int × Int := (plcN g c g.size, comN g c g.size 10 - plcN g c g.size)
theorem implHint_ev (g c : ByteArray) (hg : digsB g) (hc : digsB c) (hs : g.size = c.size) : Ev (fun K => impl_hint.f K g c) (hintV g c) := by
 unfold impl_hint.f
 have hg6 := hg.1
 refine Ev.bind (digits_ev c hc) (Ev.bind (digits_ev g hg) ?_)
 refine Ev.pos (by rw [dgL_length, dgL_length]; omega) ?_
 have e1 := hintL1_val g c hc hs c.size 0 (by omega)
 have e0 : useN c 0 = List.replicate 10 0 := rfl
 rw [List.drop_zero, e0] at e1
 refine Ev.let_ e1 ?_
 have e2 := hintL2_val g c c.size (by omega) hg g.size 0 (by omega)
 rw [List.drop_zero, comI_zero, leftN_zero] at e2
 refine Ev.let_ e2 ?_
 have hp := plcN_bd g c c.size
 have hcb := comI_bd g c c.size g.size 10
 refine Ev.pos ⟨by omega, by omega, by omega, by omega⟩ (Ev.val (Ev.now _) ?_)
 unfold hintV
 rw [hs, comI_all]
theorem specHint_some (g c : ByteArray) (hg : digsB g) (hs : g.size = c.size) : spec_hiOf.f g c = some (hintV g c) := by
 unfold spec_hiOf.f
 have hg6 := hg.1
 have ha : ascii g = true := by
  unfold ascii
  rw [List.all_eq_true]
  intro b hb
  obtain ⟨i, hi, rfl⟩ := List.mem_iff_getElem.mp hb
  have hi' : i < g.size := by simpa using hi
  have h1 := hg.2 i hi'
  have e : bt g (i : Int) = ((g[i]'hi').toNat : Int) := by unfold bt; simp [hi']
  have e2 : g.data.toList[i] = g[i]'hi' := by simp; rfl
  rw [e2]
  exact decide_eq_true (by omega)
 rw [if_pos ⟨ha, hs, by omega⟩]
 rfl
end Go.Proofs.YtcpnmiempaofdaaGreat.Pure
