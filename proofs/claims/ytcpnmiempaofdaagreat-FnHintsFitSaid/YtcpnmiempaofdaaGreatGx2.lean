-- Printed by hp.py, a program of this session: a machine's side of laws, out of the translation; Lean checks it.
import Derived.Test.YtcpnmiempaofdaaGreatGx0
import Derived.Test.YtcpnmiempaofdaaGreatGx1
namespace Go.Proofs.YtcpnmiempaofdaaGreat.G
open Go.RowKit Go.Proofs.YtcpnmiempaofdaaGreatW.PrintWords Go.Proofs.YtcpnmiempaofdaaGreatW.PrintLast Go.Proofs.YtcpnmiempaofdaaGreatW.PrintMore
attribute [local go_sem] max2_int min2_int max_two min_two max_three min_three max_four min_four   -- for this text's walks alone
set_option maxHeartbeats 8000000
set_option maxRecDepth 100000
set_option linter.unusedVariables false
set_option linter.unusedSimpArgs false

/-! ### spec_hiOf: function 75 -/
/-- In how many of the first n places both texts have the same byte. -/
def plcN (g c : ByteArray) : Nat → Int
 | 0 => 0
 | k + 1 => plcN g c k + if bt g (k : Int) = bt c (k : Int) then 1 else 0
/-- How often a byte is among the first n. -/
def cntN (s : ByteArray) (d : Int) : Nat → Int
 | 0 => 0
 | k + 1 => cntN s d k + if bt s (k : Int) = d then 1 else 0
def comN (g c : ByteArray) (n : Nat) : Nat → Int
 | 0 => 0
 | j + 1 => comN g c n j + if cntN g (48 + (j : Int)) n < cntN c (48 + (j : Int)) n then cntN g (48 + (j : Int)) n else cntN c (48 + (j : Int)) n
def ascii (s : ByteArray) : Bool := s.data.toList.all (fun b => decide (b.toNat < 128))
def spec_hiOf.f (a0 a1 : ByteArray) : Option (Int × Int) := if ascii a0 = true ∧ a0.size = a1.size ∧ a0.size ≤ 1000 then some (plcN a0 a1 a0.size, comN a0 a1 a0.size 10 - plcN a0 a1 a0.size) else none
theorem plcN_bd (g c : ByteArray) : ∀ n, 0 ≤ plcN g c n ∧ plcN g c n ≤ (n : Int)
 | 0 => by simp [plcN]
 | n + 1 => by
  have := plcN_bd g c n
  unfold plcN
  split <;> omega
theorem cntN_bd (s : ByteArray) (d : Int) : ∀ n, 0 ≤ cntN s d n ∧ cntN s d n ≤ (n : Int)
 | 0 => by simp [cntN]
 | n + 1 => by
  have := cntN_bd s d n
  unfold cntN
  split <;> omega
theorem comN_bd (g c : ByteArray) (n : Nat) : ∀ j, 0 ≤ comN g c n j ∧ comN g c n j ≤ (n : Int) * (j : Int)
 | 0 => by simp [comN]
 | j + 1 => by
  have h1 := comN_bd g c n j
  have h2 := cntN_bd g (48 + (j : Int)) n
  have h3 := cntN_bd c (48 + (j : Int)) n
  have h4 : (n : Int) * ((j + 1 : Nat) : Int) = (n : Int) * (j : Int) + (n : Int) := by rw [Int.natCast_add, Int.mul_add]; omega
  unfold comN
  rw [h4]
  split <;> omega
theorem ascii_at {s : ByteArray} (h : ascii s = true) (p : Nat) (hp : p < s.size) : (s[p]'hp).toNat < 128 := by
 unfold ascii at h
 rw [List.all_eq_true] at h
 exact of_decide_eq_true (h s[p] (by simp [ByteArray.getElem_eq_getElem_data]))
theorem spec_hiOf.calls (a0 a1 : ByteArray) (r1 r2 : Int) (w : World) (h : spec_hiOf.f a0 a1 = some (r1, r2)) :
  Calls Tryz.prog 75 #[.string a0, .string a1] w fun e w' => e = .returned (.tuple #[.int .i64 r1, .int .i64 r2]) ∧ Below w.heap.size w w' := by
 have hu9 := Tryz.underlying9
 unfold spec_hiOf.f at h
 by_cases hA : ascii a0 = true ∧ a0.size = a1.size ∧ a0.size ≤ 1000
 case neg => rw [if_neg hA] at h; exact absurd h (by simp)
 rw [if_pos hA] at h
 obtain ⟨hasc, hsz, hle⟩ := hA
 simp only [Option.some.injEq, Prod.mk.injEq] at h
 obtain ⟨rfl, rfl⟩ := h
 have HAsc := Aside0.mk hasc
 have HSz := Aside0.mk hsz
 obtain ⟨n, hn⟩ : ∃ n, n = a0.size := ⟨_, rfl⟩
 have HN := Aside0.mk hn
 rw [← hn] at hle ⊢
 clear hasc hsz hn
 go_enter Tryz.func75, Tryz.ntmps75
 go_wp2
 go_loopw [6] (fun v6 wr => ∃ pos q : Nat, pos ≤ n ∧ v6 = .int .i64 (plcN a0 a1 pos) ∧ wr = (w.drewN q).iter a0 pos) (fun _ wr => n - wr.iterPos w.heap.size)
 case atStart => exact ⟨0, 0, Nat.zero_le _, rfl, rfl⟩
 case round =>
  obtain ⟨pos, q, hpos, rfl, rfl⟩ := hrel
  have hbd := plcN_bd a0 a1 pos
  by_cases hp : pos < n
  ·have hp0 : pos < a0.size := by rw [← HN.out]; exact hp
   have hp1 : pos < a1.size := by rw [← HSz.out]; exact hp0
   obtain ⟨x, hxp⟩ : ∃ x : Int, x = (pos : Int) := ⟨_, rfl⟩
   have ha := ascii_at HAsc.out pos hp0
   have hnx : ∀ ty, (Instr.next (.pointer (some ⟨w.heap.size, 0, none⟩)) true ty).run Tryz.prog ((w.drewN q).iter a0 pos) = .ok (.tuple #[.bool true, .int .i64 x, .int .i32 (a0[pos]'hp0).toNat]) ((w.drewN q).iter a0 (pos + 1)) := fun ty => by subst hxp; exact run_next_ascii (w.drewN q) a0 pos ty hp0 ha
   have p6 : 0 ≤ x := by omega
   have q6 : x < a0.size := by omega
   have q7 : x < a1.size := by omega
   have hx6 := bt_at a0 x
   have hx7 := bt_at a1 x
   have HP : Aside0 (plcN a0 a1 (pos + 1) = plcN a0 a1 pos + if bt a0 x = bt a1 x then 1 else 0) := ⟨by subst hxp; rfl⟩
   have HXP := Aside0.mk hxp
   replace p6 := eq_true p6
   replace q6 := eq_true q6
   replace q7 := eq_true q7
   have HPn := Aside0.mk hp
   generalize ((a0[pos]'hp0).toNat : Int) = rune at hnx
   clear ha hxp hp0 hp1 hp
   by_cases hc : bt a0 x = bt a1 x
   ·have hcb : (bt a0 x == bt a1 x) = true := by simpa using hc
    rw [if_pos hc] at HP
    clear hc
    go_wp2
    go_quiet (fail)
    go_wp2
    go_roundw
    case rel => exact ⟨pos + 1, q + nq, by have := HPn.out; omega, by rw [HP.out], by rw [← World.drewN_drewN]; rfl⟩
    case measure =>
     have := HPn.out
     have e1 : ((w.drewN q).iter a0 pos).iterPos w.heap.size = pos := World.iterPos_iter (w.drewN q) a0 pos
     have e2 : (((w.drewN q).iter a0 (pos + 1)).drewN nq).iterPos w.heap.size = pos + 1 := World.iterPos_iter (w.drewN q) a0 (pos + 1)
     show n - (((w.drewN q).iter a0 (pos + 1)).drewN nq).iterPos w.heap.size < n - ((w.drewN q).iter a0 pos).iterPos w.heap.size
     omega
   ·have hcb : (bt a0 x == bt a1 x) = false := by simpa using hc
    rw [if_neg hc, Int.add_zero] at HP
    clear hc
    go_wp2
    go_quiet (fail)
    go_wp2
    go_roundw
    case rel => exact ⟨pos + 1, q + nq, by have := HPn.out; omega, by rw [HP.out], by rw [← World.drewN_drewN]; rfl⟩
    case measure =>
     have := HPn.out
     have e1 : ((w.drewN q).iter a0 pos).iterPos w.heap.size = pos := World.iterPos_iter (w.drewN q) a0 pos
     have e2 : (((w.drewN q).iter a0 (pos + 1)).drewN nq).iterPos w.heap.size = pos + 1 := World.iterPos_iter (w.drewN q) a0 (pos + 1)
     show n - (((w.drewN q).iter a0 (pos + 1)).drewN nq).iterPos w.heap.size < n - ((w.drewN q).iter a0 pos).iterPos w.heap.size
     omega
  ·obtain rfl : pos = n := by omega
   have hnx : ∀ ty, (Instr.next (.pointer (some ⟨w.heap.size, 0, none⟩)) true ty).run Tryz.prog ((w.drewN q).iter a0 pos) = _ := fun ty => run_next_end (w.drewN q) a0 pos ty (by have := HN.out; omega)
   have HBB : Aside0 (Below w.heap.size w ((w.drewN q).iter a0 pos)) := ⟨below_alloc (pw_below_drewN (Below.refl _ _) _) _⟩
   have HPB := Aside0.mk (plcN_bd a0 a1 pos)
   generalize (w.drewN q).iter a0 pos = W1 at hnx HBB
   go_wp2
   go_loopg [7, 9] 10 (fun gg v7 v9 wx => ∃ j : Nat, v9 = .int .u8 (48 + (j : Int)) ∧ v7 = .int .i64 (comN a0 a1 pos j) ∧ j ≤ 10 ∧ 10 - j ≤ gg ∧ Aside0 (Below w.heap.size w wx))
   case atStart => exact ⟨0, rfl, rfl, by omega, by omega, HBB⟩
   case round =>
    clear HBB
    obtain ⟨j, rfl, rfl, hj, hgj, HBB⟩ := hrel
    have hcb := comN_bd a0 a1 pos j
    have hcb2 : (pos : Int) * (j : Int) ≤ 1000 * 10 := Int.mul_le_mul (by omega) (by omega) (by omega) (by omega)
    have hcb3 : 0 ≤ comN a0 a1 pos j ∧ comN a0 a1 pos j ≤ 10000 := ⟨hcb.1, by omega⟩
    clear hcb hcb2
    by_cases hjt : j < 10
    ·have hjz : 48 + (j : Int) ≤ 57 := by omega
     obtain ⟨W2, hW2⟩ : ∃ W2, W2 = wr := ⟨_, rfl⟩
     rw [← hW2] at HBB ⊢
     clear hW2
     go_wp2
     go_loopw [10, 11] (fun v10 v11 wy => ∃ pos2 q2 : Nat, pos2 ≤ pos ∧ v10 = .int .i64 (cntN a0 (48 + (j : Int)) pos2) ∧ v11 = .int .i64 (cntN a1 (48 + (j : Int)) pos2) ∧ wy = (W2.drewN q2).iter a0 pos2) (fun _ _ wy => pos - wy.iterPos W2.heap.size)
     case atStart => exact ⟨0, 0, Nat.zero_le _, rfl, rfl, rfl⟩
     case round =>
      obtain ⟨pos2, q2, hpos2, rfl, rfl, rfl⟩ := hrel
      have hbd1 := cntN_bd a0 (48 + (j : Int)) pos2
      have hbd2 := cntN_bd a1 (48 + (j : Int)) pos2
      by_cases hp2 : pos2 < pos
      ·have hp0 : pos2 < a0.size := by rw [← HN.out]; exact hp2
       have hp1 : pos2 < a1.size := by rw [← HSz.out]; exact hp0
       obtain ⟨x, hxp⟩ : ∃ x : Int, x = (pos2 : Int) := ⟨_, rfl⟩
       have ha := ascii_at HAsc.out pos2 hp0
       have hnx : ∀ ty, (Instr.next (.pointer (some ⟨W2.heap.size, 0, none⟩)) true ty).run Tryz.prog ((W2.drewN q2).iter a0 pos2) = .ok (.tuple #[.bool true, .int .i64 x, .int .i32 (a0[pos2]'hp0).toNat]) ((W2.drewN q2).iter a0 (pos2 + 1)) := fun ty => by subst hxp; exact run_next_ascii (W2.drewN q2) a0 pos2 ty hp0 ha
       have p6 : 0 ≤ x := by omega
       have q6 : x < a0.size := by omega
       have q7 : x < a1.size := by omega
       have hx6 := bt_at a0 x
       have hx7 := bt_at a1 x
       have HC1 : Aside0 (cntN a0 (48 + (j : Int)) (pos2 + 1) = cntN a0 (48 + (j : Int)) pos2 + if bt a0 x = 48 + (j : Int) then 1 else 0) := ⟨by subst hxp; rfl⟩
       have HC2 : Aside0 (cntN a1 (48 + (j : Int)) (pos2 + 1) = cntN a1 (48 + (j : Int)) pos2 + if bt a1 x = 48 + (j : Int) then 1 else 0) := ⟨by subst hxp; rfl⟩
       replace p6 := eq_true p6
       replace q6 := eq_true q6
       replace q7 := eq_true q7
       have HPn := Aside0.mk hp2
       generalize ((a0[pos2]'hp0).toNat : Int) = rune at hnx
       clear ha hxp hp0 hp1 hp2
       by_cases h1 : bt a0 x = 48 + (j : Int) <;> by_cases h2 : bt a1 x = 48 + (j : Int)
       ·have hb1 : (bt a0 x == 48 + (j : Int)) = true := by simpa using h1
        have hb2 : (bt a1 x == 48 + (j : Int)) = true := by simpa using h2
        rw [if_pos h1] at HC1
        rw [if_pos h2] at HC2
        clear h1 h2
        go_wp2
        go_roundw
        case rel => exact ⟨pos2 + 1, q2, by have := HPn.out; omega, by rw [HC1.out], by rw [HC2.out], rfl⟩
        case measure =>
         have := HPn.out
         have e1 : ((W2.drewN q2).iter a0 pos2).iterPos W2.heap.size = pos2 := World.iterPos_iter (W2.drewN q2) a0 pos2
         have e2 : ((W2.drewN q2).iter a0 (pos2 + 1)).iterPos W2.heap.size = pos2 + 1 := World.iterPos_iter (W2.drewN q2) a0 (pos2 + 1)
         show pos - ((W2.drewN q2).iter a0 (pos2 + 1)).iterPos W2.heap.size < pos - ((W2.drewN q2).iter a0 pos2).iterPos W2.heap.size
         omega
       ·have hb1 : (bt a0 x == 48 + (j : Int)) = true := by simpa using h1
        have hb2 : (bt a1 x == 48 + (j : Int)) = false := by simpa using h2
        rw [if_pos h1] at HC1
        rw [if_neg h2, Int.add_zero] at HC2
        clear h1 h2
        go_wp2
        go_roundw
        case rel => exact ⟨pos2 + 1, q2, by have := HPn.out; omega, by rw [HC1.out], by rw [HC2.out], rfl⟩
        case measure =>
         have := HPn.out
         have e1 : ((W2.drewN q2).iter a0 pos2).iterPos W2.heap.size = pos2 := World.iterPos_iter (W2.drewN q2) a0 pos2
         have e2 : ((W2.drewN q2).iter a0 (pos2 + 1)).iterPos W2.heap.size = pos2 + 1 := World.iterPos_iter (W2.drewN q2) a0 (pos2 + 1)
         show pos - ((W2.drewN q2).iter a0 (pos2 + 1)).iterPos W2.heap.size < pos - ((W2.drewN q2).iter a0 pos2).iterPos W2.heap.size
         omega
       ·have hb1 : (bt a0 x == 48 + (j : Int)) = false := by simpa using h1
        have hb2 : (bt a1 x == 48 + (j : Int)) = true := by simpa using h2
        rw [if_neg h1, Int.add_zero] at HC1
        rw [if_pos h2] at HC2
        clear h1 h2
        go_wp2
        go_roundw
        case rel => exact ⟨pos2 + 1, q2, by have := HPn.out; omega, by rw [HC1.out], by rw [HC2.out], rfl⟩
        case measure =>
         have := HPn.out
         have e1 : ((W2.drewN q2).iter a0 pos2).iterPos W2.heap.size = pos2 := World.iterPos_iter (W2.drewN q2) a0 pos2
         have e2 : ((W2.drewN q2).iter a0 (pos2 + 1)).iterPos W2.heap.size = pos2 + 1 := World.iterPos_iter (W2.drewN q2) a0 (pos2 + 1)
         show pos - ((W2.drewN q2).iter a0 (pos2 + 1)).iterPos W2.heap.size < pos - ((W2.drewN q2).iter a0 pos2).iterPos W2.heap.size
         omega
       ·have hb1 : (bt a0 x == 48 + (j : Int)) = false := by simpa using h1
        have hb2 : (bt a1 x == 48 + (j : Int)) = false := by simpa using h2
        rw [if_neg h1, Int.add_zero] at HC1
        rw [if_neg h2, Int.add_zero] at HC2
        clear h1 h2
        go_wp2
        go_roundw
        case rel => exact ⟨pos2 + 1, q2, by have := HPn.out; omega, by rw [HC1.out], by rw [HC2.out], rfl⟩
        case measure =>
         have := HPn.out
         have e1 : ((W2.drewN q2).iter a0 pos2).iterPos W2.heap.size = pos2 := World.iterPos_iter (W2.drewN q2) a0 pos2
         have e2 : ((W2.drewN q2).iter a0 (pos2 + 1)).iterPos W2.heap.size = pos2 + 1 := World.iterPos_iter (W2.drewN q2) a0 (pos2 + 1)
         show pos - ((W2.drewN q2).iter a0 (pos2 + 1)).iterPos W2.heap.size < pos - ((W2.drewN q2).iter a0 pos2).iterPos W2.heap.size
         omega
      ·obtain rfl : pos2 = pos := by omega
       have hnx : ∀ ty, (Instr.next (.pointer (some ⟨W2.heap.size, 0, none⟩)) true ty).run Tryz.prog ((W2.drewN q2).iter a0 pos2) = _ := fun ty => run_next_end (W2.drewN q2) a0 pos2 ty (by have := HN.out; omega)
       have HB2 : Aside0 (Below w.heap.size w ((W2.drewN q2).iter a0 pos2)) := ⟨below_alloc (pw_below_drewN HBB.out _) _⟩
       have hmn : ∃ z, z = (if cntN a0 (48 + (j : Int)) pos2 < cntN a1 (48 + (j : Int)) pos2 then cntN a0 (48 + (j : Int)) pos2 else cntN a1 (48 + (j : Int)) pos2) ∧ 0 ≤ z ∧ z ≤ 1000 := ⟨_, rfl, by split <;> omega, by split <;> omega⟩
       obtain ⟨z, hz, hz0, hz1⟩ := hmn
       have hles : ∀ W, Calls Tryz.prog 93 #[.int .i64 (cntN a0 (48 + (j : Int)) pos2), .int .i64 (cntN a1 (48 + (j : Int)) pos2)] W fun e w' => e = .returned (.int .i64 z) ∧ Drawn0 W w' := fun W => spec_l1Least.calls _ _ z W (by rw [hz]; unfold spec_l1Least.f; split <;> rfl)
       have HZ : Aside0 (comN a0 a1 pos2 (j + 1) = comN a0 a1 pos2 j + z) := ⟨by rw [hz]; rfl⟩
       generalize (W2.drewN q2).iter a0 pos2 = W3 at hnx HB2
       clear hz
       go_wp2_with (go_at_call 93; refine (hles _).mono ?_; rintro e w' ⟨rfl, ⟨nd, rfl⟩⟩)
       go_roundg (10 - (j + 1))
       case measure => omega
       case rel => exact ⟨j + 1, by first | rfl | (congr 1; omega), by rw [HZ.out], by omega, by omega, ⟨pw_below_drewN HB2.out _⟩⟩
    ·obtain rfl : j = 10 := by omega
     have hjz : ¬ 48 + ((10 : Nat) : Int) ≤ 57 := by omega
     have HPB2 := HPB.out
     clear HPB
     go_wp2
     go_ret2
     exact ⟨rfl, HBB.out⟩


/-! ### impl_digits: function 100 -/
def impl_digits.l0 : Nat → ByteArray → List Int → Int → Int → Option (List Int)
 | 0, _, _, _, _ => none
 | k + 1, x0, x3, x7, x8 => if x8 < x7 then (if 0 ≤ x8 then (if x8 < (x0.size : Int) then (if x3.length < 17592186044416 then (impl_digits.l0 k x0 (x3 ++ [((bt x0 x8) - 48) % 256]) x7 (wrap64 (x8 + 1))) else (none)) else (none)) else (none)) else (some x3)
def impl_digits.f (k : Nat) (a0 : ByteArray) : Option (List Int) := impl_digits.l0 k a0 (([] : List Int)) (a0.size : Int) 0
theorem impl_digits.mono_l : ∀ k, (∀ y0 y1 y2 y3, LeO (impl_digits.l0 k y0 y1 y2 y3) (impl_digits.l0 (k + 1) y0 y1 y2 y3))
 | 0 => fun _ _ _ _ r h => by simp [impl_digits.l0] at h
 | k + 1 => by
  have ih0 := impl_digits.mono_l k
  ·intro y0 y1 y2 y3
   unfold impl_digits.l0
   repeat' first
   | (with_reducible first | exact ih0 _ _ _ _ | exact LeO.refl _ | exact LeO.none _ | refine LeO.ite ?_ ?_ | refine LeO.bind ?_ (fun _ => ?_))
   | exact ih0 _ _ _ _
   | exact LeO.none _
   | refine LeO.ite ?_ ?_
   | refine LeO.bind ?_ (fun _ => ?_)
theorem impl_digits.mono : ∀ a0 k, LeO (impl_digits.f k a0) (impl_digits.f (k + 1) a0) := by
 intro a0 k
 have ih0 := impl_digits.mono_l k
 unfold impl_digits.f
 repeat' first
   | (with_reducible first | exact ih0 _ _ _ _ | exact LeO.refl _ | exact LeO.none _ | refine LeO.ite ?_ ?_ | refine LeO.bind ?_ (fun _ => ?_))
   | exact ih0 _ _ _ _
   | exact LeO.none _
   | refine LeO.ite ?_ ?_
   | refine LeO.bind ?_ (fun _ => ?_)
theorem impl_digits.calls (k : Nat) (a0 : ByteArray) (r : List Int) (w : World) (h : impl_digits.f k a0 = some r) :
  Calls Tryz.prog 100 #[.string a0] w fun e w' => ∃ v0_ : Value, e = .returned (v0_) ∧ Kd.R (Kd.int .i64) 3 w' w.heap.size (fun _ => True) v0_ r ∧ Below w.heap.size w w' := by
 have HB := Aside0.mk (Below.refl w.heap.size w)
 have H := h
 unfold impl_digits.f at H
 clear h
 obtain ⟨y120, hy120⟩ : ∃ y_ : List Int, y_ = (([] : List Int)) := ⟨_, rfl⟩
 replace H : (impl_digits.l0 k a0 y120 (a0.size : Int) 0) = some r := hZ hy120 H
 have Ny120 := Aside0.mk hy120
 clear hy120
 have H' := Aside0.mk H
 clear H
 go_enter Tryz.func100, Tryz.ntmps100
 go_wp2_with (first | ((with_reducible refine gate_dst (N := 5) rfl ?_); refine Kd.R_lit (Kd.int .i64) _ 3 ?hg (N := 5) ?hd (xs := ([] : List Int)) (inner := []) (ok := fun _ => True) (okp := fun _ => True) ?hr ?hp (fun _ hk => hk) trivial (Below.refl _ _) (Nat.le_refl _) (by simp) ?_; (case hd => rfl); (case hg => rfl); (case hr => first | (go_simp; done) | (go_simp; rfl)); (case hp => exact (Reps.none _ _)); intro v121 w2 ho3 hb hg_ hnew_; clear hg_ hnew_; (first | rw [← Ny120.out] at ho3 | (simp only [Int.reduceToNat] at ho3; rw [← Ny120.out] at ho3)); have HO122 := Aside0.mk (Kd.R_lower ho3 (below_size bB)); replace HB := Aside0.mk (below_step bB hb); clear hb ho3))
 go_loopg [3, 8] k (fun kq v3 v8 w' => ∃ (x3_1 : List Int) (x8_1 : Int), v8 = .int .i64 x8_1 ∧ Aside0 (impl_digits.l0 kq a0 x3_1 (a0.size : Int) x8_1 = some r) ∧ Aside0 (kq ≤ k) ∧ Aside0 (Kd.R (Kd.int .i64) 3 w' w.heap.size (fun _ => True) v3 x3_1) ∧ Aside0 (Below w.heap.size w w'))
 case atStart => exact ⟨(y120), (0), fR, H', ⟨Nat.le_refl _⟩, ⟨kR HO122⟩, ⟨bB⟩⟩
 case round =>
  clear H'
  try clear c1
  try clear p2
  obtain ⟨x3_1, x8_1, rfl, HA, HK1, HO_3, HB⟩ := hrel
  cases gk with
  | zero => exact absurd HA.out (by simp [impl_digits.l0])
  | succ k1 =>
   have H := HA.out
   clear HA
   simp only [impl_digits.l0] at H
   by_cases c4 : x8_1 < (a0.size : Int)
   ·rw [if_pos c4] at H
    have c4b0 : decide (x8_1 < (a0.size : Int)) = true := decide_eq_true c4
    clear c4
    replace H := nz H; obtain ⟨c5, H⟩ := H
    have c5b0 : decide (0 ≤ x8_1) = true := decide_eq_true c5
    clear c5
    replace H := nz H; obtain ⟨c6, H⟩ := H
    have c6b0 : decide (x8_1 < (a0.size : Int)) = true := decide_eq_true c6
    clear c6
    replace H := nz H; obtain ⟨c8, H⟩ := H
    have LMc8 := Aside0.mk c8
    clear c8
    obtain ⟨y123, hy123⟩ : ∃ y_ : List Int, y_ = (x3_1 ++ [((bt a0 x8_1) - 48) % 256]) := ⟨_, rfl⟩
    replace H : (impl_digits.l0 k1 a0 y123 (a0.size : Int) (wrap64 (x8_1 + 1))) = some r := hZ hy123 H
    have Ny123 := Aside0.mk hy123
    clear hy123
    have H' := Aside0.mk H
    clear H
    have p7 : 0 ≤ (x8_1 : Int) := oD
    have q7 : x8_1 < (a0.size : Int) := oD
    have hx7 := bt_at a0 x8_1
    replace p7 := eq_true p7
    replace q7 := eq_true q7
    go_wp2_with (first | ((with_reducible refine gate_builtin (b := .append) (xs := #[.tmp 11, .tmp 17]) rfl ?_); at_builtin; refine Kd.R_append (Kd.int .i64) (w0 := w) w.heap.size rfl (.tmp 11) (.tmp 17) 55 3 (.int .i64 0) 8 rfl Tryz.underlying55 info3 rfl (by decide) (by omega) u3 x3_1 (((bt a0 x8_1) - 48) % 256) [.int .i64 (((bt a0 x8_1) - 48) % 256)] (fun _ => True) (fun _ => False) rfl rfl ?aP (fun _ hk => hk.elim) ?aF ?aO ?aB ?aS ?aL ?_; (case aP => exact rfl); (case aB => exact bB); (case aF => exact (fun _ _ => trivial)); (case aO => exact (kR HO_3)); (case aS => exact (below_size bB)); (case aL => have := LMc8.out; omega); intro v124 w9 ho hb hg hat; rw [← Ny123.out] at ho; have n0_ := Aside0.mk (hb); have n1_ := Aside0.mk (ho); clear HB; clear HO_3; have HB := n0_; have HO125 := n1_; clear n0_ n1_; clear ho hb hg hat))
    go_roundg k1
    case measure => have := HK1.out; omega
    case rel => exact ⟨(y123), (wrap64 (x8_1 + 1)), fR, H', ⟨by have := HK1.out; omega⟩, ⟨kR HO125⟩, ⟨bB⟩⟩
   ·rw [if_neg c4] at H
    have c4b0 : decide (x8_1 < (a0.size : Int)) = false := decide_eq_false c4
    clear c4
    obtain rfl := Option.some.inj H
    go_wp2
    go_ret
    exact ⟨_, rE, kR HO_3, bB⟩

/-! ### impl_hint: function 56 -/
/-- The first loop of impl.hint: over the digits of the code. -/
def hintL1 (g c : ByteArray) : List Int → Int → Int → List Int → Option (Int × List Int)
 | [], _, p, u => some (p, u)
 | d :: ds, i, p, u => if (0 ≤ i ∧ i < g.size ∧ i < c.size) ∧ (0 ≤ d ∧ d < 10) ∧ (0 ≤ p ∧ p ≤ 100000) ∧ 0 ≤ rd u d ∧ rd u d ≤ 100000 then hintL1 g c ds (i + 1) (if bt g i = bt c i then p + 1 else p) (u.set d.toNat (rd u d + 1)) else none
/-- The second one: over those of the guess. -/
def hintL2 : List Int → Int → List Int → Option Int
 | [], cm, _ => some cm
 | d :: ds, cm, u => if (0 ≤ d ∧ d < 10) ∧ (0 ≤ cm ∧ cm ≤ 100000) ∧ 0 ≤ rd u d ∧ rd u d ≤ 100000 then (if 0 < rd u d then hintL2 ds (cm + 1) (u.set d.toNat (rd u d - 1)) else hintL2 ds cm u) else none
def impl_hint.f (k : Nat) (g c : ByteArray) : Option (Int × Int) :=
 (impl_digits.f k c).bind fun dc => (impl_digits.f k g).bind fun dg => if dc.length ≤ 1000 ∧ dg.length ≤ 1000 then (hintL1 g c dc 0 0 (List.replicate 10 0)).bind fun pu => (hintL2 dg 0 pu.2).bind fun cm => if 0 ≤ pu.1 ∧ pu.1 ≤ 200000 ∧ 0 ≤ cm ∧ cm ≤ 200000 then some (pu.1, cm - pu.1) else none else none
theorem impl_hint.mono : ∀ a0 a1 k, LeO (impl_hint.f k a0 a1) (impl_hint.f (k + 1) a0 a1) := by
 intro a0 a1 k
 unfold impl_hint.f
 exact LeO.bind (impl_digits.mono _ _) (fun _ => LeO.bind (impl_digits.mono _ _) (fun _ => LeO.refl _))
structure hintInv (w W : World) (B : Nat) (u : List Int) : Prop where
 bel : Below w.heap.size w W
 len : u.length = 10
 cells : ∀ d : Nat, d < 10 → W.cell? ⟨B, d, none⟩ = some (.int .i64 (rd u (d : Int))) ∧ W.frozen? ⟨B, d, none⟩ = false
theorem hintInv.grow {w W W' : World} {B : Nat} {u : List Int} (h : hintInv w W B u) (hb : Below W.heap.size W W') : hintInv w W' B u :=
 ⟨h.bel.trans (hb.mono h.bel.size), h.len, fun d hd => ⟨pw_cell_below hb (h.cells d hd).1, (hb.frozen (p := ⟨B, d, none⟩) (World.block_lt_of_cell? W ⟨B, d, none⟩ (h.cells d hd).1)).trans (h.cells d hd).2⟩⟩
theorem hintInv.drew {w W : World} {B : Nat} {u : List Int} (h : hintInv w W B u) (q : Nat) : hintInv w (W.drewN q) B u := h.grow (pw_below_drewN (Below.refl _ _) q)
theorem hintInv.set {w W : World} {B : Nat} {u : List Int} (h : hintInv w W B u) (hB : w.heap.size ≤ B) (d : Nat) (hd : d < 10) (x : Int) : hintInv w (W.setCell ⟨B, d, none⟩ (.int .i64 x)) B (u.set d x) := by
 refine ⟨below_set h.bel hB, by rw [List.length_set]; exact h.len, fun j hj => ⟨?_, by rw [World.frozen?_setCell]; exact (h.cells j hj).2⟩⟩
 by_cases e : d = j
 ·subst e
  rw [World.cell?_setCell_same _ _ _ (h.cells d hd).1]
  have : rd (u.set d x) (d : Int) = x := by simp [rd, List.getD, h.len, hd]
  rw [this]
 ·rw [World.cell?_setCell_other _ _ _ _ (fun h2 => e (congrArg Addr.off h2)), (h.cells j hj).1]
  have : rd (u.set d x) (j : Int) = rd u (j : Int) := by simp [rd, List.getD, List.getElem?_set_ne e]
  rw [this]
theorem impl_hint.calls (k : Nat) (a0 a1 : ByteArray) (r1 r2 : Int) (w : World) (h : impl_hint.f k a0 a1 = some (r1, r2)) :
  Calls Tryz.prog 56 #[.string a0, .string a1] w fun e w' => e = .returned (.tuple #[.int .i64 r1, .int .i64 r2]) ∧ Below w.heap.size w w' := by
 unfold impl_hint.f at h
 obtain ⟨dc, hdc, h⟩ := Option.bind_eq_some_iff.mp h
 obtain ⟨dg, hdg, h⟩ := Option.bind_eq_some_iff.mp h
 by_cases hL : dc.length ≤ 1000 ∧ dg.length ≤ 1000
 case neg => rw [if_neg hL] at h; exact absurd h (by simp)
 rw [if_pos hL] at h
 obtain ⟨⟨p, u⟩, h1, h⟩ := Option.bind_eq_some_iff.mp h
 obtain ⟨cm, h2, h⟩ := Option.bind_eq_some_iff.mp h
 simp only at h h2
 by_cases hP : 0 ≤ p ∧ p ≤ 200000 ∧ 0 ≤ cm ∧ cm ≤ 200000
 case neg => rw [if_neg hP] at h; exact absurd h (by simp)
 rw [if_pos hP] at h
 simp only [Option.some.injEq, Prod.mk.injEq] at h
 obtain ⟨rfl, rfl⟩ := h
 obtain ⟨hL1, hL2⟩ := hL
 have hcc : ∀ W, Calls Tryz.prog 100 #[.string a1] W _ := fun W => impl_digits.calls k a1 dc W hdc
 have hcg : ∀ W, Calls Tryz.prog 100 #[.string a0] W _ := fun W => impl_digits.calls k a0 dg W hdg
 have H1 := Aside0.mk h1
 have H2 := Aside0.mk h2
 have HP := Aside0.mk hP
 have HHC := Aside0.mk hcg
 clear hdc hdg h1 h2 hP hcg
 go_enter Tryz.func56, Tryz.ntmps56
 go_wp2_with (go_at_call 100; refine (hcc _).mono ?_; rintro e w1 ⟨v15, rfl, hr, hb⟩; obtain ⟨A15, c15, rfl⟩ := Kd.R_slice hr; have HR := Aside0.mk hr; have HB := Aside0.mk hb; clear hr hb)
 have hsz : w.heap.size + 1 ≤ w1.heap.size := by have := HB.out.size; rw [World.size_alloc] at this; exact this
 have HI : Aside0 (hintInv w w1 w.heap.size (List.replicate 10 0)) := by
  refine ⟨hintInv.grow (W := w.alloc _) ⟨below_alloc (Below.refl _ _) _, by simp, fun d hd => ?_⟩ HB.out⟩
  have hd2 : d = 0 ∨ d = 1 ∨ d = 2 ∨ d = 3 ∨ d = 4 ∨ d = 5 ∨ d = 6 ∨ d = 7 ∨ d = 8 ∨ d = 9 := by omega
  rcases hd2 with rfl | rfl | rfl | rfl | rfl | rfl | rfl | rfl | rfl | rfl <;> exact ⟨by simp [rd], by simp⟩
 have HR2 := Aside0.mk (Kd.R_mono (Kd.R_bound HR.out) (ok' := fun k => w.heap.size < k) (fun k hk => by have := hk.2.1; rw [World.size_alloc] at this; omega))
 obtain ⟨B0, hB0⟩ : ∃ B0, B0 = (w.alloc (Obj.cells #[Value.int .i64 0, .int .i64 0, .int .i64 0, .int .i64 0, .int .i64 0, .int .i64 0, .int .i64 0, .int .i64 0, .int .i64 0, .int .i64 0] 121)).heap.size := ⟨_, rfl⟩
 rw [← hB0] at HR2
 clear hB0 HR HB hcc
 go_loopg [6, 17] dc.length (fun gg v6 v17 wr => ∃ (i : Nat) (pl : Int) (us : List Int), v6 = .int .i64 pl ∧ v17 = .int .i64 (i : Int) ∧ i ≤ dc.length ∧ dc.length - i ≤ gg ∧ Aside0 (hintL1 a0 a1 (dc.drop i) (i : Int) pl us = some (p, u)) ∧ Aside0 (hintInv w wr w.heap.size us) ∧ Aside0 (Kd.R (Kd.int .i64) 3 wr B0 (fun k => w.heap.size < k) (.slice A15 dc.length c15) dc))
 case atStart => exact ⟨0, 0, List.replicate 10 0, rfl, rfl, by omega, by omega, H1, HI, HR2⟩
 case round =>
  clear H1 HI HR2 hsz
  obtain ⟨i, pl, us, rfl, rfl, hi, hgi, H1, HI, HR⟩ := hrel
  by_cases hlt : i < dc.length
  ·have hltz : (i : Int) < (dc.length : Int) := by omega
   have h1 := H1.out
   clear H1
   rw [List.drop_eq_getElem_cons hlt, hintL1] at h1
   obtain ⟨ad, e1, hx⟩ := Kd.at_int (Kd.R_reads' HR.out).2.2 (i : Int) (by omega) hltz
   rw [Int.toNat_natCast, show rd dc (i : Int) = dc[i] by simp [rd, List.getD, hlt]] at hx
   generalize dc[i] = d at h1 hx
   by_cases hg : (0 ≤ (i : Int) ∧ (i : Int) < a0.size ∧ (i : Int) < a1.size) ∧ (0 ≤ d ∧ d < 10) ∧ (0 ≤ pl ∧ pl ≤ 100000) ∧ 0 ≤ rd us d ∧ rd us d ≤ 100000
   case neg => rw [if_neg hg] at h1; exact absurd h1 (by simp)
   rw [if_pos hg] at h1
   have HX1 := Aside0.mk h1
   obtain ⟨⟨p6, q6, q7⟩, ⟨hd0, hd1⟩, ⟨hp0, hp1⟩, hu0, hu1⟩ := hg
   obtain ⟨dn, rfl⟩ := Int.eq_ofNat_of_zero_le hd0
   have hdn : dn < 10 := by omega
   obtain ⟨hcell, hfr⟩ := HI.out.cells dn hdn
   have HS := Aside0.mk (HI.out.set (Nat.le_refl _) dn hdn (rd us (dn : Int) + 1))
   have HRs := Aside0.mk (Kd.R_far HR.out (p := ⟨w.heap.size, dn, none⟩) (fun k hk => by simp only; omega) (.int .i64 (rd us (dn : Int) + 1)))
   obtain ⟨g15, cp, e15, _⟩ := Kd.R_form HR.out (by omega)
   obtain ⟨rfl, rfl⟩ : A15 = some ⟨g15, 0, none⟩ ∧ c15 = cp := by injection e15 with a b c; exact ⟨a, c⟩
   have e2 : (⟨g15, 0, none⟩ : Addr) = ad := by injection e1
   subst e2
   rw [add_at, Nat.zero_add] at hx
   have hs0 : i < a0.size := by omega
   have hs1 : i < a1.size := by omega
   have eb0 : bt a0 (i : Int) = ((a0[i]'hs0).toNat : Int) := by unfold bt; simp [hs0]
   have eb1 : bt a1 (i : Int) = ((a1[i]'hs1).toNat : Int) := by unfold bt; simp [hs1]
   clear h1 e1 e15
   by_cases hc : bt a0 (i : Int) = bt a1 (i : Int)
   ·have hcb : (((a0[i]'hs0).toNat : Int) == ((a1[i]'hs1).toNat : Int)) = true := by rw [eb0, eb1] at hc; simpa using hc
    rw [if_pos hc] at HX1
    clear hc eb0 eb1
    go_wp2
    go_quiet (fail)
    go_wp2
    go_roundg (dc.length - (i + 1))
    case measure => omega
    case rel => exact ⟨i + 1, _, us.set dn (rd us (dn : Int) + 1), rfl, by go_num, by omega, by omega, HX1, ⟨hintInv.drew HS.out nq⟩, ⟨by have := Kd.R_drewN HRs.out nq; exact this⟩⟩
   ·have hcb : (((a0[i]'hs0).toNat : Int) == ((a1[i]'hs1).toNat : Int)) = false := by rw [eb0, eb1] at hc; simpa using hc
    rw [if_neg hc] at HX1
    clear hc eb0 eb1
    go_wp2
    go_quiet (fail)
    go_wp2
    go_roundg (dc.length - (i + 1))
    case measure => omega
    case rel => exact ⟨i + 1, _, us.set dn (rd us (dn : Int) + 1), rfl, by go_num, by omega, by omega, HX1, ⟨hintInv.drew HS.out nq⟩, ⟨by have := Kd.R_drewN HRs.out nq; exact this⟩⟩
  ·obtain rfl : i = dc.length := by omega
   have hltz : ¬ (dc.length : Int) < (dc.length : Int) := by omega
   have h1 := H1.out
   rw [List.drop_length, hintL1] at h1
   simp only [Option.some.injEq, Prod.mk.injEq] at h1
   obtain ⟨rfl, rfl⟩ := h1
   obtain ⟨W1, hW1⟩ : ∃ W1, W1 = wr := ⟨_, rfl⟩
   rw [← hW1] at HI ⊢
   have hcg := HHC.out W1
   clear H1 HR hW1 HHC hgi hi
   go_wp2_with (go_at_call 100; refine hcg.mono ?_; rintro e w1 ⟨v38, rfl, hr, hb⟩; obtain ⟨A38, c38, rfl⟩ := Kd.R_slice hr; have HR := Aside0.mk hr; have HI2 := Aside0.mk (HI.out.grow hb); clear hr hb)
   have HR2 := Aside0.mk (Kd.R_mono (Kd.R_bound HR.out) (ok' := fun k => w.heap.size < k) (fun k hk => by have := hk.2.1; have h9 := HI.out.cells 0 (by omega); have := World.block_lt_of_cell? _ _ h9.1; simp only at this; omega))
   obtain ⟨B1, hB1⟩ : ∃ B1, B1 = W1.heap.size := ⟨_, rfl⟩
   rw [← hB1] at HR2
   clear hB1 HR HI
   go_loopg [7, 40] dg.length (fun gg v7 v40 wr => ∃ (i : Nat) (cn : Int) (vs : List Int), v7 = .int .i64 cn ∧ v40 = .int .i64 (i : Int) ∧ i ≤ dg.length ∧ dg.length - i ≤ gg ∧ Aside0 (hintL2 (dg.drop i) cn vs = some cm) ∧ Aside0 (hintInv w wr w.heap.size vs) ∧ Aside0 (Kd.R (Kd.int .i64) 3 wr B1 (fun k => w.heap.size < k) (.slice A38 dg.length c38) dg))
   case atStart => exact ⟨0, 0, us, rfl, rfl, by omega, by omega, H2, HI2, HR2⟩
   case round =>
    clear H2 HI2 HR2
    obtain ⟨i, cn, vs, rfl, rfl, hi, hgi, H1, HI, HR⟩ := hrel
    by_cases hlt : i < dg.length
    ·have hltz : (i : Int) < (dg.length : Int) := by omega
     have h1 := H1.out
     clear H1
     rw [List.drop_eq_getElem_cons hlt, hintL2] at h1
     obtain ⟨ad, e1, hx⟩ := Kd.at_int (Kd.R_reads' HR.out).2.2 (i : Int) (by omega) hltz
     rw [Int.toNat_natCast, show rd dg (i : Int) = dg[i] by simp [rd, List.getD, hlt]] at hx
     generalize dg[i] = d at h1 hx
     by_cases hg : (0 ≤ d ∧ d < 10) ∧ (0 ≤ cn ∧ cn ≤ 100000) ∧ 0 ≤ rd vs d ∧ rd vs d ≤ 100000
     case neg => rw [if_neg hg] at h1; exact absurd h1 (by simp)
     rw [if_pos hg] at h1
     obtain ⟨⟨hd0, hd1⟩, ⟨hp0, hp1⟩, hu0, hu1⟩ := hg
     obtain ⟨dn, rfl⟩ := Int.eq_ofNat_of_zero_le hd0
     have hdn : dn < 10 := by omega
     obtain ⟨hcell, hfr⟩ := HI.out.cells dn hdn
     have HS := Aside0.mk (HI.out.set (Nat.le_refl _) dn hdn (rd vs (dn : Int) - 1))
     have HRs := Aside0.mk (Kd.R_far HR.out (p := ⟨w.heap.size, dn, none⟩) (fun k hk => by simp only; omega) (.int .i64 (rd vs (dn : Int) - 1)))
     obtain ⟨g38, cp, e38, _⟩ := Kd.R_form HR.out (by omega)
     obtain ⟨rfl, rfl⟩ : A38 = some ⟨g38, 0, none⟩ ∧ c38 = cp := by injection e38 with a b c; exact ⟨a, c⟩
     have e2 : (⟨g38, 0, none⟩ : Addr) = ad := by injection e1
     subst e2
     rw [add_at, Nat.zero_add] at hx
     clear e1 e38
     by_cases hc : 0 < rd vs (dn : Int)
     ·rw [if_pos hc] at h1
      have HX1 := Aside0.mk h1
      clear h1
      go_wp2
      go_roundg (dg.length - (i + 1))
      case measure => omega
      case rel => exact ⟨i + 1, cn + 1, vs.set dn (rd vs (dn : Int) - 1), rfl, by go_num, by omega, by omega, HX1, HS, HRs⟩
     ·rw [if_neg hc] at h1
      have HX1 := Aside0.mk h1
      clear h1
      go_wp2
      go_roundg (dg.length - (i + 1))
      case measure => omega
      case rel => exact ⟨i + 1, cn, vs, rfl, by go_num, by omega, by omega, HX1, HI, HR⟩
    ·obtain rfl : i = dg.length := by omega
     have hltz : ¬ (dg.length : Int) < (dg.length : Int) := by omega
     have h1 := H1.out
     rw [List.drop_length, hintL2] at h1
     simp only [Option.some.injEq] at h1
     subst h1
     obtain ⟨hq1, hq2, hq3, hq4⟩ := HP.out
     clear H1 HR HP
     go_wp2
     go_ret2
     exact ⟨rfl, HI.out.bel⟩

/-! ### impl_HintOf: function 12 -/
def impl_HintOf.f (k : Nat) (a0_0 : Int) (a0_1 : Int) (a1 : ByteArray) (a2 : ByteArray) : Option (Int × Int × Bool) := (impl_isHinted.f k a0_0 a0_1 (([a1, a2] : List ByteArray))).bind fun t130 => (if t130 = true then ((impl_hint.f k a1 a2).bind fun bt131 => (some (bt131.1, bt131.2, true))) else (some (0, 0, false)))
theorem impl_HintOf.mono : ∀ a0 a1 a2 a3 k, LeO (impl_HintOf.f k a0 a1 a2 a3) (impl_HintOf.f (k + 1) a0 a1 a2 a3) := by
 intro a0 a1 a2 a3 k
 unfold impl_HintOf.f
 repeat' first
   | (with_reducible first | exact impl_hint.mono _ _ _ | exact impl_isHinted.mono _ _ _ _ | exact LeO.refl _ | exact LeO.none _ | refine LeO.ite ?_ ?_ | refine LeO.bind ?_ (fun _ => ?_))
   | exact impl_hint.mono _ _ _
   | exact impl_isHinted.mono _ _ _ _
   | exact LeO.none _
   | refine LeO.ite ?_ ?_
   | refine LeO.bind ?_ (fun _ => ?_)
theorem impl_HintOf.calls (k : Nat) (a0_0 : Int) (a0_1 : Int) (a1 : ByteArray) (a2 : ByteArray) (r1 : Int) (r2 : Int) (r3 : Bool) (w : World) (h : impl_HintOf.f k a0_0 a0_1 a1 a2 = some (r1, r2, r3)) :
  Calls Tryz.prog 12 #[.agg #[.int .i64 a0_0, .int .i64 a0_1], .string a1, .string a2] w fun e w' => e = .returned (.tuple #[.int .i64 r1, .int .i64 r2, .bool r3]) ∧ Below w.heap.size w w' := by
 have hu25 := Tryz.underlying25
 have HB := Aside0.mk (Below.refl w.heap.size w)
 have H := h
 unfold impl_HintOf.f at H
 clear h
 obtain ⟨y127, hy127⟩ : ∃ y_ : List ByteArray, y_ = (([a1, a2] : List ByteArray)) := ⟨_, rfl⟩
 replace H : ((impl_isHinted.f k a0_0 a0_1 y127).bind fun t130 => (if t130 = true then ((impl_hint.f k a1 a2).bind fun bt131 => (some (bt131.1, bt131.2, true))) else (some (0, 0, false)))) = some (r1, r2, r3) := hZ hy127 H
 have Ny127 := Aside0.mk hy127
 clear hy127
 replace H := Option.bind_eq_some_iff.mp H
 obtain ⟨t130, A40, H⟩ := H
 (try dsimp only at H)
 have A4 := Aside0.mk A40
 clear A40
 by_cases c5 : t130 = true
 ·subst c5
  replace H := zt H
  replace H := Option.bind_eq_some_iff.mp H
  obtain ⟨⟨t131, t132⟩, A60, H⟩ := H
  (try dsimp only at H)
  have A6 := Aside0.mk A60
  clear A60
  simp only [Option.some.injEq, Prod.mk.injEq] at H
  obtain ⟨rfl, rfl, rfl⟩ := H
  go_enter Tryz.func12, Tryz.ntmps12
  go_wp2_with (first | ((with_reducible refine gate_dst (N := 3) rfl ?_); refine box_event ?hg (N := 3) ?hd (cs := #[.int .i64 a0_0, .int .i64 a0_1]) (t := 25) ?hr ?_; (case hd => rfl); (case hg => rfl); (case hr => first | (go_simp; done) | (go_simp; rfl)); intro gb126 hg w7 hbox hb; have BK126 := Aside0.mk (hbox); have GW126 : Aside0 (w.heap.size ≤ gb126) := gW hg; have GE126 := GW126; replace HB := Aside0.mk (below_step bB hb); clear hb hbox hg; have hcz8_0 := cZ BK126 0 (.int .i64 a0_0); have hcz8_1 := cZ BK126 1 (.int .i64 a0_1); have hfz8_0 := blk_frozen BK126.out 0; have hfz8_1 := blk_frozen BK126.out 1) | ((with_reducible refine gate_dst (N := 14) rfl ?_); refine Kd.R_lit Kd.string _ 9 ?hg (N := 14) ?hd (xs := ([a1, a2] : List ByteArray)) (inner := [.string a1, .string a2]) (ok := fun _ => True) (okp := fun _ => True) ?hr ?hp (fun _ hk => hk) trivial (Below.refl _ _) (Nat.le_refl _) (by simp) ?_; (case hd => rfl); (case hg => rfl); (case hr => first | (go_simp; done) | (go_simp; rfl)); (case hp => exact (Reps.one (show Kd.M Kd.string _ _ _ a1 [.string a1] from rfl) (Reps.one (show Kd.M Kd.string _ _ _ a2 [.string a2] from rfl) (Reps.none _ _)))); intro v128 w9 ho10 hb hg_ hnew_; clear hg_ hnew_; (first | rw [← Ny127.out] at ho10 | (simp only [Int.reduceToNat] at ho10; rw [← Ny127.out] at ho10)); have HO129 := Aside0.mk (Kd.R_lower ho10 (below_size bG)); replace BK126 := bW BK126 hb; replace HB := Aside0.mk (below_step bG hb); clear hb ho10; obtain ⟨Ao11, co11, eo11⟩ := Kd.R_slice HO129.out; subst eo11) | ((with_reducible refine gate_callee (f := 51) rfl ?_); refine goesL_ (some 15) rfl rfl Tryz.func51 (by kernel_rfl) rfl #[.agg #[.int .i64 a0_0, .int .i64 a0_1], .slice Ao11 y127.length co11] rfl lM ?_; (with_reducible refine (impl_isHinted.calls k a0_0 a0_1 _ _ y127 true _ ?side1 ?side2 A4.out).mono ?_); (case side1 => exact cS ((Kd.R_reads' HO129.out).2.2)); (case side2 => exact (Kd.R_reads' HO129.out).2.1); rintro e w12 ⟨rfl, hb⟩; refine ⟨_, rfl, ?_⟩; replace HO129 := Aside0.mk (Kd.R_below (kR HO129) hb); replace BK126 := bW BK126 hb; replace HB := Aside0.mk (below_step bG hb); (try clear hb)) | ((with_reducible refine gate_callee (f := 56) rfl ?_); refine goesL_ (some 20) rfl rfl Tryz.func56 (by kernel_rfl) rfl #[.string a1, .string a2] rfl lM ?_; (with_reducible refine (impl_hint.calls k a1 a2 t131 t132 _ A6.out).mono ?_); rintro e w13 ⟨rfl, hb⟩; refine ⟨_, rfl, ?_⟩; replace HO129 := Aside0.mk (Kd.R_below (kR HO129) hb); replace BK126 := bW BK126 hb; replace HB := Aside0.mk (below_step bG hb); (try clear hb)))
  go_ret3
  exact ⟨rE, bG⟩
 ·replace c5 := Bool.eq_false_iff.mpr c5
  subst c5
  replace H := zf H
  simp only [Option.some.injEq, Prod.mk.injEq] at H
  obtain ⟨rfl, rfl, rfl⟩ := H
  go_enter Tryz.func12, Tryz.ntmps12
  go_wp2_with (first | ((with_reducible refine gate_dst (N := 3) rfl ?_); refine box_event ?hg (N := 3) ?hd (cs := #[.int .i64 a0_0, .int .i64 a0_1]) (t := 25) ?hr ?_; (case hd => rfl); (case hg => rfl); (case hr => first | (go_simp; done) | (go_simp; rfl)); intro gb126 hg w14 hbox hb; have BK126 := Aside0.mk (hbox); have GW126 : Aside0 (w.heap.size ≤ gb126) := gW hg; have GE126 := GW126; replace HB := Aside0.mk (below_step bB hb); clear hb hbox hg; have hcz15_0 := cZ BK126 0 (.int .i64 a0_0); have hcz15_1 := cZ BK126 1 (.int .i64 a0_1); have hfz15_0 := blk_frozen BK126.out 0; have hfz15_1 := blk_frozen BK126.out 1) | ((with_reducible refine gate_dst (N := 14) rfl ?_); refine Kd.R_lit Kd.string _ 9 ?hg (N := 14) ?hd (xs := ([a1, a2] : List ByteArray)) (inner := [.string a1, .string a2]) (ok := fun _ => True) (okp := fun _ => True) ?hr ?hp (fun _ hk => hk) trivial (Below.refl _ _) (Nat.le_refl _) (by simp) ?_; (case hd => rfl); (case hg => rfl); (case hr => first | (go_simp; done) | (go_simp; rfl)); (case hp => exact (Reps.one (show Kd.M Kd.string _ _ _ a1 [.string a1] from rfl) (Reps.one (show Kd.M Kd.string _ _ _ a2 [.string a2] from rfl) (Reps.none _ _)))); intro v128 w16 ho17 hb hg_ hnew_; clear hg_ hnew_; (first | rw [← Ny127.out] at ho17 | (simp only [Int.reduceToNat] at ho17; rw [← Ny127.out] at ho17)); have HO129 := Aside0.mk (Kd.R_lower ho17 (below_size bG)); replace BK126 := bW BK126 hb; replace HB := Aside0.mk (below_step bG hb); clear hb ho17; obtain ⟨Ao18, co18, eo18⟩ := Kd.R_slice HO129.out; subst eo18) | ((with_reducible refine gate_callee (f := 51) rfl ?_); refine goesL_ (some 15) rfl rfl Tryz.func51 (by kernel_rfl) rfl #[.agg #[.int .i64 a0_0, .int .i64 a0_1], .slice Ao18 y127.length co18] rfl lM ?_; (with_reducible refine (impl_isHinted.calls k a0_0 a0_1 _ _ y127 false _ ?side1 ?side2 A4.out).mono ?_); (case side1 => exact cS ((Kd.R_reads' HO129.out).2.2)); (case side2 => exact (Kd.R_reads' HO129.out).2.1); rintro e w19 ⟨rfl, hb⟩; refine ⟨_, rfl, ?_⟩; replace HO129 := Aside0.mk (Kd.R_below (kR HO129) hb); replace BK126 := bW BK126 hb; replace HB := Aside0.mk (below_step bG hb); (try clear hb)))
  go_ret3
  exact ⟨rE, bG⟩

/-! ### impl_Hint_117: function 117 -/
set_option maxHeartbeats 4000000 in
set_option maxRecDepth 100000 in
theorem idxH_calls (g : Nat) (caps : Array Value) (p : S35 → Option Bool) (A0 : Option Addr) (c0 : Nat) (l0 : List S35) (r : Bool) (w : World) (eg : ∀ args w, (callFunc g args).run Tryz.prog w = .ok (.enter g args) w)
  (hr0 : Kd.C k35 w A0 l0.length l0) (hlen : l0.length ≤ 1000000000000000000) (h : anyO p l0 = some r)
  (hp : ∀ (x : S35) (b : Bool) (W : World), p x = some b → Below w.heap.size w W → Calls Tryz.prog g (#[.agg #[.string x.f0, .int .i64 x.f1, .int .i64 x.f2]] ++ caps) W fun e w' => e = .returned (.bool b) ∧ Below W.heap.size W w') :
  Calls Tryz.prog 117 #[.slice A0 l0.length c0, .func (.func g) #[] caps] w fun e w' => (∃ v : Int, e = .returned (.int .i64 v) ∧ (decide (0 ≤ v) = r)) ∧ Below w.heap.size w w' := by
 have hu75 := Tryz.underlying35
 have hu9 := Tryz.underlying9
 have HR0 := Aside0.mk hr0
 have HH := Aside0.mk h
 clear hr0 h
 go_enter Tryz.func117, Tryz.ntmps117
 go_wp2
 go_loopg [5, 8] l0.length (fun gg _ s8 wr => ∃ kk : Nat, kk ≤ l0.length ∧ l0.length - kk ≤ gg ∧ s8 = .int .i64 kk ∧ Aside0 (Below w.heap.size w wr) ∧ Aside0 (anyO p (l0.drop kk) = some r))
 case atStart => exact ⟨0, Nat.zero_le _, by omega, rfl, ⟨Below.refl _ _⟩, HH⟩
 case round =>
  obtain ⟨kk, hkk, hg, rfl, HB, HA⟩ := hrel
  clear HH
  by_cases hlt : kk < l0.length
  ·have hltz : (kk : Int) < (l0.length : Int) := by omega
   obtain ⟨ad, e1, hx0, hx1, hx2⟩ := at_T35 (Kd.C_below HR0.out HB.out) (kk : Int) (by omega) hltz
   rw [Int.toNat_natCast] at hx0 hx1 hx2
   have hget : rd_T35 l0 (kk : Int) = l0[kk] := by simp [rd_T35, List.getD, hlt]
   rw [hget] at hx0 hx1 hx2
   cases e1
   have H := HA.out
   clear HA
   rw [List.drop_eq_getElem_cons hlt, anyO] at H
   replace H := Option.bind_eq_some_iff.mp H
   obtain ⟨b, hb, H⟩ := H
   have hcall := hp l0[kk] b wr hb HB.out
   clear hp hb hget
   generalize l0[kk] = x at hx0 hx1 hx2 hcall
   have HX := Aside0.mk H
   clear H
   cases b with
   | true =>
    go_wp2_with (go_at_fn g; refine hcall.mono ?_; rintro e w' ⟨rfl, hb⟩; have HB2 := Aside0.mk (below_then HB.out HB.out.size hb); clear hb)
    go_ret
    refine ⟨⟨_, rfl, ?_⟩, HB2.out⟩
    have := HX.out
    simp only [if_true, Option.some.injEq] at this
    subst this
    simp
   | false =>
    go_wp2_with (go_at_fn g; refine hcall.mono ?_; rintro e w' ⟨rfl, hb⟩; have HB2 := Aside0.mk (below_then HB.out HB.out.size hb); clear hb)
    go_roundg (l0.length - (kk + 1))
    case measure => omega
    case rel =>
     refine ⟨kk + 1, by omega, by omega, by go_num, HB2, ⟨?_⟩⟩
     have := HX.out
     rwa [if_neg (by decide)] at this
  ·have hltz : ¬ (kk : Int) < (l0.length : Int) := by omega
   have : kk = l0.length := by omega
   subst this
   clear hp
   go_wp2
   go_ret
   refine ⟨⟨_, rfl, ?_⟩, HB.out⟩
   have := HA.out
   rw [List.drop_length, anyO] at this
   simp only [Option.some.injEq] at this
   subst this
   simp


/-! ### impl_Hint_101: function 101 -/
set_option maxHeartbeats 4000000 in
set_option maxRecDepth 100000 in
theorem conH_calls (g : Nat) (caps : Array Value) (p : S35 → Option Bool) (A0 : Option Addr) (c0 : Nat) (l0 : List S35) (r : Bool) (w : World) (eg : ∀ args w, (callFunc g args).run Tryz.prog w = .ok (.enter g args) w)
  (hr0 : Kd.C k35 w A0 l0.length l0) (hlen : l0.length ≤ 1000000000000000000) (h : anyO p l0 = some r)
  (hp : ∀ (x : S35) (b : Bool) (W : World), p x = some b → Below w.heap.size w W → Calls Tryz.prog g (#[.agg #[.string x.f0, .int .i64 x.f1, .int .i64 x.f2]] ++ caps) W fun e w' => e = .returned (.bool b) ∧ Below W.heap.size W w') :
  Calls Tryz.prog 101 #[.slice A0 l0.length c0, .func (.func g) #[] caps] w fun e w' => e = .returned (.bool r) ∧ Below w.heap.size w w' := by
 have hc := idxH_calls g caps p A0 c0 l0 r w eg hr0 hlen h hp
 clear hr0 hp eg hlen h
 go_enter Tryz.func101, Tryz.ntmps101
 go_wp2_with (go_at_call 117; refine hc.mono ?_; rintro e w' ⟨⟨v, rfl, hr⟩, hb⟩; have HR := Aside0.mk hr; have HB := Aside0.mk hb; clear hr hb)
 go_ret
 exact ⟨by have := HR.out; simp [← this], HB.out⟩


/-! ### impl_Lock_isTold: function 69 -/
def impl_Lock_isTold.f (a0_0 : Int) (a0_1 : Int) (a1 : Int) (a2 : Int) : Option (Bool) := (impl_within.f a1 0 a0_0).bind fun t134 => (if t134 = true then ((impl_within.f a2 0 (wrap64 (a0_0 - a1))).bind fun t135 => (some t135)) else (some false))
theorem impl_Lock_isTold.calls (a0_0 : Int) (a0_1 : Int) (a1 : Int) (a2 : Int) (r : Bool) (w : World) (h : impl_Lock_isTold.f a0_0 a0_1 a1 a2 = some r) :
  Calls Tryz.prog 69 #[.agg #[.int .i64 a0_0, .int .i64 a0_1], .int .i64 a1, .int .i64 a2] w fun e w' => e = .returned (.bool r) ∧ Below w.heap.size w w' := by
 have hu25 := Tryz.underlying25
 have HB := Aside0.mk (Below.refl w.heap.size w)
 have H := h
 unfold impl_Lock_isTold.f at H
 clear h
 replace H := Option.bind_eq_some_iff.mp H
 obtain ⟨t134, A40, H⟩ := H
 (try dsimp only at H)
 have A4 := Aside0.mk A40
 clear A40
 by_cases c5 : t134 = true
 ·subst c5
  replace H := zt H
  replace H := Option.bind_eq_some_iff.mp H
  obtain ⟨t135, A60, H⟩ := H
  (try dsimp only at H)
  have A6 := Aside0.mk A60
  clear A60
  obtain rfl := Option.some.inj H
  go_enter Tryz.func69, Tryz.ntmps69
  go_wp2_with (first | ((with_reducible refine gate_dst (N := 3) rfl ?_); refine box_event ?hg (N := 3) ?hd (cs := #[.int .i64 a0_0, .int .i64 a0_1]) (t := 25) ?hr ?_; (case hd => rfl); (case hg => rfl); (case hr => first | (go_simp; done) | (go_simp; rfl)); intro gb133 hg w7 hbox hb; have BK133 := Aside0.mk (hbox); have GW133 : Aside0 (w.heap.size ≤ gb133) := gW hg; have GE133 := GW133; replace HB := Aside0.mk (below_step bB hb); clear hb hbox hg; have hcz8_0 := cZ BK133 0 (.int .i64 a0_0); have hcz8_1 := cZ BK133 1 (.int .i64 a0_1); have hfz8_0 := blk_frozen BK133.out 0; have hfz8_1 := blk_frozen BK133.out 1) | ((with_reducible refine gate_callee (f := 108) rfl ?_); refine goesL_ (some 10) rfl rfl Tryz.func108 (by kernel_rfl) rfl #[.int .i64 a1, .int .i64 0, .int .i64 a0_0] rfl lM ?_; (with_reducible refine (impl_within.calls a1 0 a0_0 true _ A4.out).mono ?_); rintro e w' ⟨rfl, ⟨nd, rfl⟩⟩; refine ⟨_, rfl, ?_⟩) | (go_at_call 108; (with_reducible refine (impl_within.calls a2 0 (wrap64 (a0_0 - a1)) t135 _ A6.out).mono ?_); rintro e w' ⟨rfl, ⟨nd, rfl⟩⟩))
  go_ret
  exact ⟨rE, bG⟩
 ·replace c5 := Bool.eq_false_iff.mpr c5
  subst c5
  replace H := zf H
  obtain rfl := Option.some.inj H
  go_enter Tryz.func69, Tryz.ntmps69
  go_wp2_with (first | ((with_reducible refine gate_dst (N := 3) rfl ?_); refine box_event ?hg (N := 3) ?hd (cs := #[.int .i64 a0_0, .int .i64 a0_1]) (t := 25) ?hr ?_; (case hd => rfl); (case hg => rfl); (case hr => first | (go_simp; done) | (go_simp; rfl)); intro gb133 hg w9 hbox hb; have BK133 := Aside0.mk (hbox); have GW133 : Aside0 (w.heap.size ≤ gb133) := gW hg; have GE133 := GW133; replace HB := Aside0.mk (below_step bB hb); clear hb hbox hg; have hcz10_0 := cZ BK133 0 (.int .i64 a0_0); have hcz10_1 := cZ BK133 1 (.int .i64 a0_1); have hfz10_0 := blk_frozen BK133.out 0; have hfz10_1 := blk_frozen BK133.out 1) | ((with_reducible refine gate_callee (f := 108) rfl ?_); refine goesL_ (some 10) rfl rfl Tryz.func108 (by kernel_rfl) rfl #[.int .i64 a1, .int .i64 0, .int .i64 a0_0] rfl lM ?_; (with_reducible refine (impl_within.calls a1 0 a0_0 false _ A4.out).mono ?_); rintro e w' ⟨rfl, ⟨nd, rfl⟩⟩; refine ⟨_, rfl, ?_⟩))
  go_ret
  exact ⟨rE, bG⟩

/-! ### impl_areHints_1: function 102 -/
def areHints1 (k : Nat) (a b : Int) (x : S35) : Option Bool := (impl_Lock_isCode.f k a b x.f0).bind fun t => if t = true then (impl_Lock_isTold.f a b x.f1 x.f2).map (fun b => !b) else some true
set_option maxHeartbeats 4000000 in
set_option maxRecDepth 100000 in
theorem areHints1_calls (k : Nat) (a b : Int) (B : Nat) (x : S35) (r : Bool) (w : World) (hc0 : w.cell? ⟨B, 0, none⟩ = some (.int .i64 a)) (hc1 : w.cell? ⟨B, 1, none⟩ = some (.int .i64 b)) (h : areHints1 k a b x = some r) :
  Calls Tryz.prog 102 #[.agg #[.string x.f0, .int .i64 x.f1, .int .i64 x.f2], .pointer (some ⟨B, 0, none⟩)] w fun e w' => e = .returned (.bool r) ∧ Below w.heap.size w w' := by
 have hu75 := Tryz.underlying35
 have hu9 := Tryz.underlying9
 have hu26 := Tryz.underlying25
 unfold areHints1 at h
 obtain ⟨t, ht, h⟩ := Option.bind_eq_some_iff.mp h
 have hcode : ∀ W, Calls Tryz.prog 103 #[.agg #[.int .i64 a, .int .i64 b], .string x.f0] W _ := fun W => impl_Lock_isCode.calls k a b x.f0 t W ht
 have hlt : B < w.heap.size := World.block_lt_of_cell? w ⟨B, 0, none⟩ hc0
 have HS := Aside0.mk hlt
 have Hb0 := Aside0.mk (hw_cell_old w (.cells #[.string x.f0, .int .i64 x.f1, .int .i64 x.f2] 35) hc0)
 have Hb1 := Aside0.mk (hw_cell_old w (.cells #[.string x.f0, .int .i64 x.f1, .int .i64 x.f2] 35) hc1)
 have hbx0 := Hb0.out
 have hbx1 := Hb1.out
 clear ht hlt hc0 hc1
 cases t with
 | false =>
  rw [if_neg (by decide)] at h
  obtain rfl := Option.some.inj h
  clear h
  go_enter Tryz.func102, Tryz.ntmps102
  go_wp2_with (go_at_call 103; refine (hcode _).mono ?_; rintro e w1 ⟨rfl, hb⟩; have HB := Aside0.mk hb; clear hb)
  go_ret
  exact ⟨rfl, below_then (below_alloc (Below.refl _ _) _) (by simp) HB.out⟩
 | true =>
  rw [if_pos rfl] at h
  obtain ⟨t2, ht2, e1⟩ := Option.map_eq_some_iff.mp h
  subst e1
  have htold : ∀ W, Calls Tryz.prog 69 #[.agg #[.int .i64 a, .int .i64 b], .int .i64 x.f1, .int .i64 x.f2] W _ := fun W => impl_Lock_isTold.calls a b x.f1 x.f2 t2 W ht2
  clear h ht2
  go_enter Tryz.func102, Tryz.ntmps102
  go_wp2_with (first | (go_at_call 103; refine (hcode _).mono ?_; rintro e w1 ⟨rfl, hb⟩; have HB := Aside0.mk hb; have k0 := pw_cell_below hb Hb0.out; have k1 := pw_cell_below hb Hb1.out; have m1 := pw_cell_below hb (show (w.alloc (.cells #[.string x.f0, .int .i64 x.f1, .int .i64 x.f2] 35)).cell? ⟨w.heap.size, 1, none⟩ = some (.int .i64 x.f1) by simp); have m2 := pw_cell_below hb (show (w.alloc (.cells #[.string x.f0, .int .i64 x.f1, .int .i64 x.f2] 35)).cell? ⟨w.heap.size, 2, none⟩ = some (.int .i64 x.f2) by simp); clear hb) | (go_at_call 69; refine (htold _).mono ?_; rintro e w2 ⟨rfl, hb⟩; have HB2 := Aside0.mk hb; clear hb))
  go_ret
  exact ⟨rfl, below_then (below_then (below_alloc (Below.refl _ _) _) (by simp) HB.out) (by have := HB.out.size; simp at this; omega) HB2.out⟩


/-! ### impl_areHints: function 57 -/
def impl_areHints.f (k : Nat) (a b : Int) (l : List S35) : Option Bool := if l.length ≤ 1000000000000000000 then (impl_isHinted.f k a b []).bind fun t => if t = true then (if l.length ≤ 10 then (anyO (areHints1 k a b) l).map (fun b => !b) else some false) else some false else none
theorem areHints1_mono (k : Nat) (a b : Int) (x : S35) : LeO (areHints1 k a b x) (areHints1 (k + 1) a b x) := LeO.bind (impl_Lock_isCode.mono _ _ _ _) (fun _ => LeO.refl _)
theorem impl_areHints.mono : ∀ a b l k, LeO (impl_areHints.f k a b l) (impl_areHints.f (k + 1) a b l) := by
 intro a b l k
 unfold impl_areHints.f
 exact LeO.ite (LeO.bind (impl_isHinted.mono _ _ _ _) (fun _ => LeO.ite (LeO.ite (LeO.map _ (anyO_mono (fun x => areHints1_mono k a b x) _)) (LeO.refl _)) (LeO.refl _))) (LeO.none _)
set_option maxHeartbeats 4000000 in
set_option maxRecDepth 100000 in
theorem impl_areHints.calls (k : Nat) (a b : Int) (A1 : Option Addr) (c1 : Nat) (l1 : List S35) (r : Bool) (w : World) (hr1 : Kd.C k35 w A1 l1.length l1) (hc1 : l1.length ≤ c1) (h : impl_areHints.f k a b l1 = some r) :
  Calls Tryz.prog 57 #[.agg #[.int .i64 a, .int .i64 b], .slice A1 l1.length c1] w fun e w' => e = .returned (.bool r) ∧ Below w.heap.size w w' := by
 have hu26 := Tryz.underlying25
 unfold impl_areHints.f at h
 by_cases hlen : l1.length ≤ 1000000000000000000
 case neg => rw [if_neg hlen] at h; exact absurd h (by simp)
 rw [if_pos hlen] at h
 obtain ⟨t, ht, h⟩ := Option.bind_eq_some_iff.mp h
 have hhin : ∀ W, Calls Tryz.prog 51 #[.agg #[.int .i64 a, .int .i64 b], .slice none 0 0] W _ := fun W => impl_isHinted.calls k a b none 0 [] t W (Kd.C_nil _ _) (by simp) ht
 have HC := Aside0.mk (Kd.C_alloc hr1 (.cells #[.int .i64 a, .int .i64 b] 25))
 have c0 : (w.alloc (.cells #[.int .i64 a, .int .i64 b] 25)).cell? ⟨w.heap.size, 0, none⟩ = some (.int .i64 a) := by simp
 have cc1 : (w.alloc (.cells #[.int .i64 a, .int .i64 b] 25)).cell? ⟨w.heap.size, 1, none⟩ = some (.int .i64 b) := by simp
 have C0 := Aside0.mk c0
 have C1 := Aside0.mk cc1
 clear ht hr1 hc1 c0 cc1
 cases t with
 | false =>
  rw [if_neg (by decide)] at h
  obtain rfl := Option.some.inj h
  clear h
  go_enter Tryz.func57, Tryz.ntmps57
  go_wp2_with (go_at_call 51; refine (hhin _).mono ?_; rintro e w1 ⟨rfl, hb⟩; have HB := Aside0.mk hb; clear hb)
  go_ret
  exact ⟨rfl, below_then (below_alloc (Below.refl _ _) _) (by simp) HB.out⟩
 | true =>
  rw [if_pos rfl] at h
  by_cases hL : l1.length ≤ 10
  case neg =>
   rw [if_neg hL] at h
   obtain rfl := Option.some.inj h
   have hb2 : decide ((l1.length : Int) ≤ 10) = false := decide_eq_false (by omega)
   clear h hL
   go_enter Tryz.func57, Tryz.ntmps57
   go_wp2_with (go_at_call 51; refine (hhin _).mono ?_; rintro e w1 ⟨rfl, hb⟩; have HB := Aside0.mk hb; clear hb)
   go_ret
   exact ⟨rfl, below_then (below_alloc (Below.refl _ _) _) (by simp) HB.out⟩
  rw [if_pos hL] at h
  obtain ⟨b2, hb2, e1⟩ := Option.map_eq_some_iff.mp h
  subst e1
  have eg : ∀ args w, (callFunc 102 args).run Tryz.prog w = .ok (.enter 102 args) w := enters_of Tryz.func102 (by kernel_rfl) rfl
  have hcon : ∀ W, Below (w.heap.size + 1) (w.alloc (.cells #[.int .i64 a, .int .i64 b] 25)) W → Calls Tryz.prog 101 #[.slice A1 l1.length c1, .func (.func 102) #[] #[.pointer (some ⟨w.heap.size, 0, none⟩)]] W fun e w' => e = .returned (.bool b2) ∧ Below W.heap.size W w' := by
   intro W hW
   have hWs : (w.alloc (.cells #[.int .i64 a, .int .i64 b] 25)).heap.size = w.heap.size + 1 := World.size_alloc _ _
   have hW' : Below (w.alloc (.cells #[.int .i64 a, .int .i64 b] 25)).heap.size (w.alloc (.cells #[.int .i64 a, .int .i64 b] 25)) W := by rw [hWs]; exact hW
   exact conH_calls 102 #[.pointer (some ⟨w.heap.size, 0, none⟩)] (areHints1 k a b) A1 c1 l1 b2 W eg (Kd.C_below HC.out hW') hlen hb2 (fun x r W2 hx hB => areHints1_calls k a b w.heap.size x r W2 (pw_cell_below hB (pw_cell_below hW' C0.out)) (pw_cell_below hB (pw_cell_below hW' C1.out)) hx)
  have hbL : decide ((l1.length : Int) ≤ 10) = true := decide_eq_true (by omega)
  clear h hL hb2 eg hlen
  go_enter Tryz.func57, Tryz.ntmps57
  go_wp2_with (first | (go_at_call 51; refine (hhin _).mono ?_; rintro e w1 ⟨rfl, hb⟩; have HB := Aside0.mk hb; clear hb) | (go_at_call 101; refine (hcon _ (HB.out.mono (by simp))).mono ?_; rintro e w2 ⟨rfl, hb⟩; have HB2 := Aside0.mk hb; clear hb))
  go_ret
  exact ⟨by simp, below_then (below_then (below_alloc (Below.refl _ _) _) (by simp) HB.out) (by have := HB.out.size; simp at this; omega) HB2.out⟩


end Go.Proofs.YtcpnmiempaofdaaGreat.G
