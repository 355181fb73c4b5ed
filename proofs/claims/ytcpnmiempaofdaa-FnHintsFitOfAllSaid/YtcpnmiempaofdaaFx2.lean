-- Printed by hp.py, a program of this session: a machine's side of laws, out of the translation; Lean checks it.
import Derived.Test.YtcpnmiempaofdaaFx0
import Derived.Test.YtcpnmiempaofdaaFx1
namespace Go.Proofs.Ytcpnmiempaofdaa.F
open Go.RowKit Go.Proofs.YtcpnmiempaofdaaW.PrintWords Go.Proofs.YtcpnmiempaofdaaW.PrintLast Go.Proofs.YtcpnmiempaofdaaW.PrintMore
attribute [local go_sem] max2_int min2_int max_two min_two max_three min_three max_four min_four   -- for this text's walks alone
set_option maxHeartbeats 8000000
set_option maxRecDepth 100000
set_option linter.unusedVariables false
set_option linter.unusedSimpArgs false

/-! ### impl_digits: function 83 -/
def impl_digits.l0 : Nat → ByteArray → List Int → Int → Int → Option (List Int)
 | 0, _, _, _, _ => none
 | k + 1, x0, x3, x7, x8 => if x8 < x7 then (if 0 ≤ x8 then (if x8 < (x0.size : Int) then (if x3.length < 17592186044416 then (impl_digits.l0 k x0 (x3 ++ [((bt x0 x8) - 48) % 256]) x7 (wrap64 (x8 + 1))) else (none)) else (none)) else (none)) else (some x3)
def impl_digits.f (k : Nat) (a0 : ByteArray) : Option (List Int) := impl_digits.l0 k a0 (([] : List Int)) (a0.size : Int) 0
theorem impl_digits.mono_l : ∀ k, (∀ y0 y1 y2 y3, LeO (impl_digits.l0 k y0 y1 y2 y3) (impl_digits.l0 (k + 1) y0 y1 y2 y3))
 | 0 => fun _ _ _ _ r h => by simp [impl_digits.l0] at h
 | k + 1 => by
  have ih0 := impl_digits.mono_l k
  ·intro y0 y1 y2 y3
   unfold impl_digits.l0
   repeat' first
   | (with_reducible first | exact ih0 _ _ _ _ | exact LeO.refl _ | exact LeO.none _ | refine LeO.ite ?_ ?_ | refine LeO.bind ?_ (fun _ => ?_))
   | exact ih0 _ _ _ _
   | exact LeO.none _
   | refine LeO.ite ?_ ?_
   | refine LeO.bind ?_ (fun _ => ?_)
theorem impl_digits.mono : ∀ a0 k, LeO (impl_digits.f k a0) (impl_digits.f (k + 1) a0) := by
 intro a0 k
 have ih0 := impl_digits.mono_l k
 unfold impl_digits.f
 repeat' first
   | (with_reducible first | exact ih0 _ _ _ _ | exact LeO.refl _ | exact LeO.none _ | refine LeO.ite ?_ ?_ | refine LeO.bind ?_ (fun _ => ?_))
   | exact ih0 _ _ _ _
   | exact LeO.none _
   | refine LeO.ite ?_ ?_
   | refine LeO.bind ?_ (fun _ => ?_)
theorem impl_digits.calls (k : Nat) (a0 : ByteArray) (r : List Int) (w : World) (h : impl_digits.f k a0 = some r) :
  Calls Try.prog 83 #[.string a0] w fun e w' => ∃ v0_ : Value, e = .returned (v0_) ∧ Kd.R (Kd.int .i64) 3 w' w.heap.size (fun _ => True) v0_ r ∧ Below w.heap.size w w' := by
 have HB := Aside0.mk (Below.refl w.heap.size w)
 have H := h
 unfold impl_digits.f at H
 clear h
 obtain ⟨y120, hy120⟩ : ∃ y_ : List Int, y_ = (([] : List Int)) := ⟨_, rfl⟩
 replace H : (impl_digits.l0 k a0 y120 (a0.size : Int) 0) = some r := hZ hy120 H
 have Ny120 := Aside0.mk hy120
 clear hy120
 have H' := Aside0.mk H
 clear H
 go_enter Try.func83, Try.ntmps83
 go_wp2_with (first | ((with_reducible refine gate_dst (N := 5) rfl ?_); refine Kd.R_lit (Kd.int .i64) _ 3 ?hg (N := 5) ?hd (xs := ([] : List Int)) (inner := []) (ok := fun _ => True) (okp := fun _ => True) ?hr ?hp (fun _ hk => hk) trivial (Below.refl _ _) (Nat.le_refl _) (by simp) ?_; (case hd => rfl); (case hg => rfl); (case hr => first | (go_simp; done) | (go_simp; rfl)); (case hp => exact (Reps.none _ _)); intro v121 w2 ho3 hb hg_ hnew_; clear hg_ hnew_; (first | rw [← Ny120.out] at ho3 | (simp only [Int.reduceToNat] at ho3; rw [← Ny120.out] at ho3)); have HO122 := Aside0.mk (Kd.R_lower ho3 (below_size bB)); replace HB := Aside0.mk (below_step bB hb); clear hb ho3))
 go_loopg [3, 8] k (fun kq v3 v8 w' => ∃ (x3_1 : List Int) (x8_1 : Int), v8 = .int .i64 x8_1 ∧ Aside0 (impl_digits.l0 kq a0 x3_1 (a0.size : Int) x8_1 = some r) ∧ Aside0 (kq ≤ k) ∧ Aside0 (Kd.R (Kd.int .i64) 3 w' w.heap.size (fun _ => True) v3 x3_1) ∧ Aside0 (Below w.heap.size w w'))
 case atStart => exact ⟨(y120), (0), fR, H', ⟨Nat.le_refl _⟩, ⟨kR HO122⟩, ⟨bB⟩⟩
 case round =>
  clear H'
  try clear p2
  obtain ⟨x3_1, x8_1, rfl, HA, HK1, HO_3, HB⟩ := hrel
  cases gk with
  | zero => exact absurd HA.out (by simp [impl_digits.l0])
  | succ k1 =>
   have H := HA.out
   clear HA
   simp only [impl_digits.l0] at H
   by_cases c4 : x8_1 < (a0.size : Int)
   ·rw [if_pos c4] at H
    have c4b0 : decide (x8_1 < (a0.size : Int)) = true := decide_eq_true c4
    clear c4
    replace H := nz H; obtain ⟨c5, H⟩ := H
    have c5b0 : decide (0 ≤ x8_1) = true := decide_eq_true c5
    clear c5
    replace H := nz H; obtain ⟨c6, H⟩ := H
    have c6b0 : decide (x8_1 < (a0.size : Int)) = true := decide_eq_true c6
    clear c6
    replace H := nz H; obtain ⟨c8, H⟩ := H
    have LMc8 := Aside0.mk c8
    clear c8
    obtain ⟨y123, hy123⟩ : ∃ y_ : List Int, y_ = (x3_1 ++ [((bt a0 x8_1) - 48) % 256]) := ⟨_, rfl⟩
    replace H : (impl_digits.l0 k1 a0 y123 (a0.size : Int) (wrap64 (x8_1 + 1))) = some r := hZ hy123 H
    have Ny123 := Aside0.mk hy123
    clear hy123
    have H' := Aside0.mk H
    clear H
    have p7 : 0 ≤ (x8_1 : Int) := oD
    have q7 : x8_1 < (a0.size : Int) := oD
    have hx7 := bt_at a0 x8_1
    replace p7 := eq_true p7
    replace q7 := eq_true q7
    go_wp2_with (first | ((with_reducible refine gate_builtin (b := .append) (xs := #[.tmp 11, .tmp 17]) rfl ?_); at_builtin; refine Kd.R_append (Kd.int .i64) (w0 := w) w.heap.size rfl (.tmp 11) (.tmp 17) 48 3 (.int .i64 0) 8 rfl Try.underlying48 info3 rfl (by decide) (by omega) u3 x3_1 (((bt a0 x8_1) - 48) % 256) [.int .i64 (((bt a0 x8_1) - 48) % 256)] (fun _ => True) (fun _ => False) rfl rfl ?aP (fun _ hk => hk.elim) ?aF ?aO ?aB ?aS ?aL ?_; (case aP => exact rfl); (case aB => exact bB); (case aF => exact (fun _ _ => trivial)); (case aO => exact (kR HO_3)); (case aS => exact (below_size bB)); (case aL => have := LMc8.out; omega); intro v124 w9 ho hb hg hat; rw [← Ny123.out] at ho; have n0_ := Aside0.mk (hb); have n1_ := Aside0.mk (ho); clear HB; clear HO_3; have HB := n0_; have HO125 := n1_; clear n0_ n1_; clear ho hb hg hat))
    go_roundg k1
    case measure => have := HK1.out; omega
    case rel => exact ⟨(y123), (wrap64 (x8_1 + 1)), fR, H', ⟨by have := HK1.out; omega⟩, ⟨kR HO125⟩, ⟨bB⟩⟩
   ·rw [if_neg c4] at H
    have c4b0 : decide (x8_1 < (a0.size : Int)) = false := decide_eq_false c4
    clear c4
    obtain rfl := Option.some.inj H
    go_wp2
    go_ret
    exact ⟨_, rE, kR HO_3, bB⟩

/-! ### impl_hint: function 48 -/
/-- The first loop of impl.hint: over the digits of the code. -/
def hintL1 (g c : ByteArray) : List Int → Int → Int → List Int → Option (Int × List Int)
 | [], _, p, u => some (p, u)
 | d :: ds, i, p, u => if (0 ≤ i ∧ i < g.size ∧ i < c.size) ∧ (0 ≤ d ∧ d < 10) ∧ (0 ≤ p ∧ p ≤ 100000) ∧ 0 ≤ rd u d ∧ rd u d ≤ 100000 then hintL1 g c ds (i + 1) (if bt g i = bt c i then p + 1 else p) (u.set d.toNat (rd u d + 1)) else none
/-- The second one: over those of the guess. -/
def hintL2 : List Int → Int → List Int → Option Int
 | [], cm, _ => some cm
 | d :: ds, cm, u => if (0 ≤ d ∧ d < 10) ∧ (0 ≤ cm ∧ cm ≤ 100000) ∧ 0 ≤ rd u d ∧ rd u d ≤ 100000 then (if 0 < rd u d then hintL2 ds (cm + 1) (u.set d.toNat (rd u d - 1)) else hintL2 ds cm u) else none
def impl_hint.f (k : Nat) (g c : ByteArray) : Option (Int × Int) :=
 (impl_digits.f k c).bind fun dc => (impl_digits.f k g).bind fun dg => if dc.length ≤ 1000 ∧ dg.length ≤ 1000 then (hintL1 g c dc 0 0 (List.replicate 10 0)).bind fun pu => (hintL2 dg 0 pu.2).bind fun cm => if 0 ≤ pu.1 ∧ pu.1 ≤ 200000 ∧ 0 ≤ cm ∧ cm ≤ 200000 then some (pu.1, cm - pu.1) else none else none
theorem impl_hint.mono : ∀ a0 a1 k, LeO (impl_hint.f k a0 a1) (impl_hint.f (k + 1) a0 a1) := by
 intro a0 a1 k
 unfold impl_hint.f
 exact LeO.bind (impl_digits.mono _ _) (fun _ => LeO.bind (impl_digits.mono _ _) (fun _ => LeO.refl _))
structure hintInv (w W : World) (B : Nat) (u : List Int) : Prop where
 bel : Below w.heap.size w W
 len : u.length = 10
 cells : ∀ d : Nat, d < 10 → W.cell? ⟨B, d, none⟩ = some (.int .i64 (rd u (d : Int))) ∧ W.frozen? ⟨B, d, none⟩ = false
theorem hintInv.grow {w W W' : World} {B : Nat} {u : List Int} (h : hintInv w W B u) (hb : Below W.heap.size W W') : hintInv w W' B u :=
 ⟨h.bel.trans (hb.mono h.bel.size), h.len, fun d hd => ⟨pw_cell_below hb (h.cells d hd).1, (hb.frozen (p := ⟨B, d, none⟩) (World.block_lt_of_cell? W ⟨B, d, none⟩ (h.cells d hd).1)).trans (h.cells d hd).2⟩⟩
theorem hintInv.drew {w W : World} {B : Nat} {u : List Int} (h : hintInv w W B u) (q : Nat) : hintInv w (W.drewN q) B u := h.grow (pw_below_drewN (Below.refl _ _) q)
theorem hintInv.set {w W : World} {B : Nat} {u : List Int} (h : hintInv w W B u) (hB : w.heap.size ≤ B) (d : Nat) (hd : d < 10) (x : Int) : hintInv w (W.setCell ⟨B, d, none⟩ (.int .i64 x)) B (u.set d x) := by
 refine ⟨below_set h.bel hB, by rw [List.length_set]; exact h.len, fun j hj => ⟨?_, by rw [World.frozen?_setCell]; exact (h.cells j hj).2⟩⟩
 by_cases e : d = j
 ·subst e
  rw [World.cell?_setCell_same _ _ _ (h.cells d hd).1]
  have : rd (u.set d x) (d : Int) = x := by simp [rd, List.getD, h.len, hd]
  rw [this]
 ·rw [World.cell?_setCell_other _ _ _ _ (fun h2 => e (congrArg Addr.off h2)), (h.cells j hj).1]
  have : rd (u.set d x) (j : Int) = rd u (j : Int) := by simp [rd, List.getD, List.getElem?_set_ne e]
  rw [this]
theorem impl_hint.calls (k : Nat) (a0 a1 : ByteArray) (r1 r2 : Int) (w : World) (h : impl_hint.f k a0 a1 = some (r1, r2)) :
  Calls Try.prog 48 #[.string a0, .string a1] w fun e w' => e = .returned (.tuple #[.int .i64 r1, .int .i64 r2]) ∧ Below w.heap.size w w' := by
 unfold impl_hint.f at h
 obtain ⟨dc, hdc, h⟩ := Option.bind_eq_some_iff.mp h
 obtain ⟨dg, hdg, h⟩ := Option.bind_eq_some_iff.mp h
 by_cases hL : dc.length ≤ 1000 ∧ dg.length ≤ 1000
 case neg => rw [if_neg hL] at h; exact absurd h (by simp)
 rw [if_pos hL] at h
 obtain ⟨⟨p, u⟩, h1, h⟩ := Option.bind_eq_some_iff.mp h
 obtain ⟨cm, h2, h⟩ := Option.bind_eq_some_iff.mp h
 simp only at h h2
 by_cases hP : 0 ≤ p ∧ p ≤ 200000 ∧ 0 ≤ cm ∧ cm ≤ 200000
 case neg => rw [if_neg hP] at h; exact absurd h (by simp)
 rw [if_pos hP] at h
 simp only [Option.some.injEq, Prod.mk.injEq] at h
 obtain ⟨rfl, rfl⟩ := h
 obtain ⟨hL1, hL2⟩ := hL
 have hcc : ∀ W, Calls Try.prog 83 #[.string a1] W _ := fun W => impl_digits.calls k a1 dc W hdc
 have hcg : ∀ W, Calls Try.prog 83 #[.string a0] W _ := fun W => impl_digits.calls k a0 dg W hdg
 have H1 := Aside0.mk h1
 have H2 := Aside0.mk h2
 have HP := Aside0.mk hP
 have HHC := Aside0.mk hcg
 clear hdc hdg h1 h2 hP hcg
 go_enter Try.func48, Try.ntmps48
 go_wp2_with (go_at_call 83; refine (hcc _).mono ?_; rintro e w1 ⟨v15, rfl, hr, hb⟩; obtain ⟨A15, c15, rfl⟩ := Kd.R_slice hr; have HR := Aside0.mk hr; have HB := Aside0.mk hb; clear hr hb)
 have hsz : w.heap.size + 1 ≤ w1.heap.size := by have := HB.out.size; rw [World.size_alloc] at this; exact this
 have HI : Aside0 (hintInv w w1 w.heap.size (List.replicate 10 0)) := by
  refine ⟨hintInv.grow (W := w.alloc _) ⟨below_alloc (Below.refl _ _) _, by simp, fun d hd => ?_⟩ HB.out⟩
  have hd2 : d = 0 ∨ d = 1 ∨ d = 2 ∨ d = 3 ∨ d = 4 ∨ d = 5 ∨ d = 6 ∨ d = 7 ∨ d = 8 ∨ d = 9 := by omega
  rcases hd2 with rfl | rfl | rfl | rfl | rfl | rfl | rfl | rfl | rfl | rfl <;> exact ⟨by simp [rd], by simp⟩
 have HR2 := Aside0.mk (Kd.R_mono (Kd.R_bound HR.out) (ok' := fun k => w.heap.size < k) (fun k hk => by have := hk.2.1; rw [World.size_alloc] at this; omega))
 obtain ⟨B0, hB0⟩ : ∃ B0, B0 = (w.alloc (Obj.cells #[Value.int .i64 0, .int .i64 0, .int .i64 0, .int .i64 0, .int .i64 0, .int .i64 0, .int .i64 0, .int .i64 0, .int .i64 0, .int .i64 0] 102)).heap.size := ⟨_, rfl⟩
 rw [← hB0] at HR2
 clear hB0 HR HB hcc
 go_loopg [6, 17] dc.length (fun gg v6 v17 wr => ∃ (i : Nat) (pl : Int) (us : List Int), v6 = .int .i64 pl ∧ v17 = .int .i64 (i : Int) ∧ i ≤ dc.length ∧ dc.length - i ≤ gg ∧ Aside0 (hintL1 a0 a1 (dc.drop i) (i : Int) pl us = some (p, u)) ∧ Aside0 (hintInv w wr w.heap.size us) ∧ Aside0 (Kd.R (Kd.int .i64) 3 wr B0 (fun k => w.heap.size < k) (.slice A15 dc.length c15) dc))
 case atStart => exact ⟨0, 0, List.replicate 10 0, rfl, rfl, by omega, by omega, H1, HI, HR2⟩
 case round =>
  clear H1 HI HR2 hsz
  obtain ⟨i, pl, us, rfl, rfl, hi, hgi, H1, HI, HR⟩ := hrel
  by_cases hlt : i < dc.length
  ·have hltz : (i : Int) < (dc.length : Int) := by omega
   have h1 := H1.out
   clear H1
   rw [List.drop_eq_getElem_cons hlt, hintL1] at h1
   obtain ⟨ad, e1, hx⟩ := Kd.at_int (Kd.R_reads' HR.out).2.2 (i : Int) (by omega) hltz
   rw [Int.toNat_natCast, show rd dc (i : Int) = dc[i] by simp [rd, List.getD, hlt]] at hx
   generalize dc[i] = d at h1 hx
   by_cases hg : (0 ≤ (i : Int) ∧ (i : Int) < a0.size ∧ (i : Int) < a1.size) ∧ (0 ≤ d ∧ d < 10) ∧ (0 ≤ pl ∧ pl ≤ 100000) ∧ 0 ≤ rd us d ∧ rd us d ≤ 100000
   case neg => rw [if_neg hg] at h1; exact absurd h1 (by simp)
   rw [if_pos hg] at h1
   have HX1 := Aside0.mk h1
   obtain ⟨⟨p6, q6, q7⟩, ⟨hd0, hd1⟩, ⟨hp0, hp1⟩, hu0, hu1⟩ := hg
   obtain ⟨dn, rfl⟩ := Int.eq_ofNat_of_zero_le hd0
   have hdn : dn < 10 := by omega
   obtain ⟨hcell, hfr⟩ := HI.out.cells dn hdn
   have HS := Aside0.mk (HI.out.set (Nat.le_refl _) dn hdn (rd us (dn : Int) + 1))
   have HRs := Aside0.mk (Kd.R_far HR.out (p := ⟨w.heap.size, dn, none⟩) (fun k hk => by simp only; omega) (.int .i64 (rd us (dn : Int) + 1)))
   obtain ⟨g15, cp, e15, _⟩ := Kd.R_form HR.out (by omega)
   obtain ⟨rfl, rfl⟩ : A15 = some ⟨g15, 0, none⟩ ∧ c15 = cp := by injection e15 with a b c; exact ⟨a, c⟩
   have e2 : (⟨g15, 0, none⟩ : Addr) = ad := by injection e1
   subst e2
   rw [add_at, Nat.zero_add] at hx
   have hs0 : i < a0.size := by omega
   have hs1 : i < a1.size := by omega
   have eb0 : bt a0 (i : Int) = ((a0[i]'hs0).toNat : Int) := by unfold bt; simp [hs0]
   have eb1 : bt a1 (i : Int) = ((a1[i]'hs1).toNat : Int) := by unfold bt; simp [hs1]
   clear h1 e1 e15
   by_cases hc : bt a0 (i : Int) = bt a1 (i : Int)
   ·have hcb : (((a0[i]'hs0).toNat : Int) == ((a1[i]'hs1).toNat : Int)) = true := by rw [eb0, eb1] at hc; simpa using hc
    rw [if_pos hc] at HX1
    clear hc eb0 eb1
    go_wp2
    go_quiet (fail)
    go_wp2
    go_roundg (dc.length - (i + 1))
    case measure => omega
    case rel => exact ⟨i + 1, _, us.set dn (rd us (dn : Int) + 1), rfl, by go_num, by omega, by omega, HX1, ⟨hintInv.drew HS.out nq⟩, ⟨by have := Kd.R_drewN HRs.out nq; exact this⟩⟩
   ·have hcb : (((a0[i]'hs0).toNat : Int) == ((a1[i]'hs1).toNat : Int)) = false := by rw [eb0, eb1] at hc; simpa using hc
    rw [if_neg hc] at HX1
    clear hc eb0 eb1
    go_wp2
    go_quiet (fail)
    go_wp2
    go_roundg (dc.length - (i + 1))
    case measure => omega
    case rel => exact ⟨i + 1, _, us.set dn (rd us (dn : Int) + 1), rfl, by go_num, by omega, by omega, HX1, ⟨hintInv.drew HS.out nq⟩, ⟨by have := Kd.R_drewN HRs.out nq; exact this⟩⟩
  ·obtain rfl : i = dc.length := by omega
   have hltz : ¬ (dc.length : Int) < (dc.length : Int) := by omega
   have h1 := H1.out
   rw [List.drop_length, hintL1] at h1
   simp only [Option.some.injEq, Prod.mk.injEq] at h1
   obtain ⟨rfl, rfl⟩ := h1
   obtain ⟨W1, hW1⟩ : ∃ W1, W1 = wr := ⟨_, rfl⟩
   rw [← hW1] at HI ⊢
   have hcg := HHC.out W1
   clear H1 HR hW1 HHC hgi hi
   go_wp2_with (go_at_call 83; refine hcg.mono ?_; rintro e w1 ⟨v38, rfl, hr, hb⟩; obtain ⟨A38, c38, rfl⟩ := Kd.R_slice hr; have HR := Aside0.mk hr; have HI2 := Aside0.mk (HI.out.grow hb); clear hr hb)
   have HR2 := Aside0.mk (Kd.R_mono (Kd.R_bound HR.out) (ok' := fun k => w.heap.size < k) (fun k hk => by have := hk.2.1; have h9 := HI.out.cells 0 (by omega); have := World.block_lt_of_cell? _ _ h9.1; simp only at this; omega))
   obtain ⟨B1, hB1⟩ : ∃ B1, B1 = W1.heap.size := ⟨_, rfl⟩
   rw [← hB1] at HR2
   clear hB1 HR HI
   go_loopg [7, 40] dg.length (fun gg v7 v40 wr => ∃ (i : Nat) (cn : Int) (vs : List Int), v7 = .int .i64 cn ∧ v40 = .int .i64 (i : Int) ∧ i ≤ dg.length ∧ dg.length - i ≤ gg ∧ Aside0 (hintL2 (dg.drop i) cn vs = some cm) ∧ Aside0 (hintInv w wr w.heap.size vs) ∧ Aside0 (Kd.R (Kd.int .i64) 3 wr B1 (fun k => w.heap.size < k) (.slice A38 dg.length c38) dg))
   case atStart => exact ⟨0, 0, us, rfl, rfl, by omega, by omega, H2, HI2, HR2⟩
   case round =>
    clear H2 HI2 HR2
    obtain ⟨i, cn, vs, rfl, rfl, hi, hgi, H1, HI, HR⟩ := hrel
    by_cases hlt : i < dg.length
    ·have hltz : (i : Int) < (dg.length : Int) := by omega
     have h1 := H1.out
     clear H1
     rw [List.drop_eq_getElem_cons hlt, hintL2] at h1
     obtain ⟨ad, e1, hx⟩ := Kd.at_int (Kd.R_reads' HR.out).2.2 (i : Int) (by omega) hltz
     rw [Int.toNat_natCast, show rd dg (i : Int) = dg[i] by simp [rd, List.getD, hlt]] at hx
     generalize dg[i] = d at h1 hx
     by_cases hg : (0 ≤ d ∧ d < 10) ∧ (0 ≤ cn ∧ cn ≤ 100000) ∧ 0 ≤ rd vs d ∧ rd vs d ≤ 100000
     case neg => rw [if_neg hg] at h1; exact absurd h1 (by simp)
     rw [if_pos hg] at h1
     obtain ⟨⟨hd0, hd1⟩, ⟨hp0, hp1⟩, hu0, hu1⟩ := hg
     obtain ⟨dn, rfl⟩ := Int.eq_ofNat_of_zero_le hd0
     have hdn : dn < 10 := by omega
     obtain ⟨hcell, hfr⟩ := HI.out.cells dn hdn
     have HS := Aside0.mk (HI.out.set (Nat.le_refl _) dn hdn (rd vs (dn : Int) - 1))
     have HRs := Aside0.mk (Kd.R_far HR.out (p := ⟨w.heap.size, dn, none⟩) (fun k hk => by simp only; omega) (.int .i64 (rd vs (dn : Int) - 1)))
     obtain ⟨g38, cp, e38, _⟩ := Kd.R_form HR.out (by omega)
     obtain ⟨rfl, rfl⟩ : A38 = some ⟨g38, 0, none⟩ ∧ c38 = cp := by injection e38 with a b c; exact ⟨a, c⟩
     have e2 : (⟨g38, 0, none⟩ : Addr) = ad := by injection e1
     subst e2
     rw [add_at, Nat.zero_add] at hx
     clear e1 e38
     by_cases hc : 0 < rd vs (dn : Int)
     ·rw [if_pos hc] at h1
      have HX1 := Aside0.mk h1
      clear h1
      go_wp2
      go_roundg (dg.length - (i + 1))
      case measure => omega
      case rel => exact ⟨i + 1, cn + 1, vs.set dn (rd vs (dn : Int) - 1), rfl, by go_num, by omega, by omega, HX1, HS, HRs⟩
     ·rw [if_neg hc] at h1
      have HX1 := Aside0.mk h1
      clear h1
      go_wp2
      go_roundg (dg.length - (i + 1))
      case measure => omega
      case rel => exact ⟨i + 1, cn, vs, rfl, by go_num, by omega, by omega, HX1, HI, HR⟩
    ·obtain rfl : i = dg.length := by omega
     have hltz : ¬ (dg.length : Int) < (dg.length : Int) := by omega
     have h1 := H1.out
     rw [List.drop_length, hintL2] at h1
     simp only [Option.some.injEq] at h1
     subst h1
     obtain ⟨hq1, hq2, hq3, hq4⟩ := HP.out
     clear H1 HR HP
     go_wp2
     go_ret2
     exact ⟨rfl, HI.out.bel⟩

/-! ### impl_HintOf: function 10 -/
def impl_HintOf.f (k : Nat) (a0_0 : Int) (a0_1 : Int) (a1 : ByteArray) (a2 : ByteArray) : Option (Int × Int × Bool) := (impl_isHinted.f k a0_0 a0_1 (([a1, a2] : List ByteArray))).bind fun t130 => (if t130 = true then ((impl_hint.f k a1 a2).bind fun bt131 => (some (bt131.1, bt131.2, true))) else (some (0, 0, false)))
theorem impl_HintOf.mono : ∀ a0 a1 a2 a3 k, LeO (impl_HintOf.f k a0 a1 a2 a3) (impl_HintOf.f (k + 1) a0 a1 a2 a3) := by
 intro a0 a1 a2 a3 k
 unfold impl_HintOf.f
 repeat' first
   | (with_reducible first | exact impl_hint.mono _ _ _ | exact impl_isHinted.mono _ _ _ _ | exact LeO.refl _ | exact LeO.none _ | refine LeO.ite ?_ ?_ | refine LeO.bind ?_ (fun _ => ?_))
   | exact impl_hint.mono _ _ _
   | exact impl_isHinted.mono _ _ _ _
   | exact LeO.none _
   | refine LeO.ite ?_ ?_
   | refine LeO.bind ?_ (fun _ => ?_)
theorem impl_HintOf.calls (k : Nat) (a0_0 : Int) (a0_1 : Int) (a1 : ByteArray) (a2 : ByteArray) (r1 : Int) (r2 : Int) (r3 : Bool) (w : World) (h : impl_HintOf.f k a0_0 a0_1 a1 a2 = some (r1, r2, r3)) :
  Calls Try.prog 10 #[.agg #[.int .i64 a0_0, .int .i64 a0_1], .string a1, .string a2] w fun e w' => e = .returned (.tuple #[.int .i64 r1, .int .i64 r2, .bool r3]) ∧ Below w.heap.size w w' := by
 have hu23 := Try.underlying23
 have HB := Aside0.mk (Below.refl w.heap.size w)
 have H := h
 unfold impl_HintOf.f at H
 clear h
 obtain ⟨y127, hy127⟩ : ∃ y_ : List ByteArray, y_ = (([a1, a2] : List ByteArray)) := ⟨_, rfl⟩
 replace H : ((impl_isHinted.f k a0_0 a0_1 y127).bind fun t130 => (if t130 = true then ((impl_hint.f k a1 a2).bind fun bt131 => (some (bt131.1, bt131.2, true))) else (some (0, 0, false)))) = some (r1, r2, r3) := hZ hy127 H
 have Ny127 := Aside0.mk hy127
 clear hy127
 replace H := Option.bind_eq_some_iff.mp H
 obtain ⟨t130, A40, H⟩ := H
 (try dsimp only at H)
 have A4 := Aside0.mk A40
 clear A40
 by_cases c5 : t130 = true
 ·subst c5
  replace H := zt H
  replace H := Option.bind_eq_some_iff.mp H
  obtain ⟨⟨t131, t132⟩, A60, H⟩ := H
  (try dsimp only at H)
  have A6 := Aside0.mk A60
  clear A60
  simp only [Option.some.injEq, Prod.mk.injEq] at H
  obtain ⟨rfl, rfl, rfl⟩ := H
  go_enter Try.func10, Try.ntmps10
  go_wp2_with (first | ((with_reducible refine gate_dst (N := 3) rfl ?_); refine box_event ?hg (N := 3) ?hd (cs := #[.int .i64 a0_0, .int .i64 a0_1]) (t := 23) ?hr ?_; (case hd => rfl); (case hg => rfl); (case hr => first | (go_simp; done) | (go_simp; rfl)); intro gb126 hg w7 hbox hb; have BK126 := Aside0.mk (hbox); have GW126 : Aside0 (w.heap.size ≤ gb126) := gW hg; have GE126 := GW126; replace HB := Aside0.mk (below_step bB hb); clear hb hbox hg; have hcz8_0 := cZ BK126 0 (.int .i64 a0_0); have hcz8_1 := cZ BK126 1 (.int .i64 a0_1); have hfz8_0 := blk_frozen BK126.out 0; have hfz8_1 := blk_frozen BK126.out 1) | ((with_reducible refine gate_dst (N := 14) rfl ?_); refine Kd.R_lit Kd.string _ 9 ?hg (N := 14) ?hd (xs := ([a1, a2] : List ByteArray)) (inner := [.string a1, .string a2]) (ok := fun _ => True) (okp := fun _ => True) ?hr ?hp (fun _ hk => hk) trivial (Below.refl _ _) (Nat.le_refl _) (by simp) ?_; (case hd => rfl); (case hg => rfl); (case hr => first | (go_simp; done) | (go_simp; rfl)); (case hp => exact (Reps.one (show Kd.M Kd.string _ _ _ a1 [.string a1] from rfl) (Reps.one (show Kd.M Kd.string _ _ _ a2 [.string a2] from rfl) (Reps.none _ _)))); intro v128 w9 ho10 hb hg_ hnew_; clear hg_ hnew_; (first | rw [← Ny127.out] at ho10 | (simp only [Int.reduceToNat] at ho10; rw [← Ny127.out] at ho10)); have HO129 := Aside0.mk (Kd.R_lower ho10 (below_size bG)); replace BK126 := bW BK126 hb; replace HB := Aside0.mk (below_step bG hb); clear hb ho10; obtain ⟨Ao11, co11, eo11⟩ := Kd.R_slice HO129.out; subst eo11) | ((with_reducible refine gate_callee (f := 43) rfl ?_); refine goesL_ (some 15) rfl rfl Try.func43 (by kernel_rfl) rfl #[.agg #[.int .i64 a0_0, .int .i64 a0_1], .slice Ao11 y127.length co11] rfl lM ?_; (with_reducible refine (impl_isHinted.calls k a0_0 a0_1 _ _ y127 true _ ?side1 ?side2 A4.out).mono ?_); (case side1 => exact cS ((Kd.R_reads' HO129.out).2.2)); (case side2 => exact (Kd.R_reads' HO129.out).2.1); rintro e w12 ⟨rfl, hb⟩; refine ⟨_, rfl, ?_⟩; replace HO129 := Aside0.mk (Kd.R_below (kR HO129) hb); replace BK126 := bW BK126 hb; replace HB := Aside0.mk (below_step bG hb); (try clear hb)) | ((with_reducible refine gate_callee (f := 48) rfl ?_); refine goesL_ (some 20) rfl rfl Try.func48 (by kernel_rfl) rfl #[.string a1, .string a2] rfl lM ?_; (with_reducible refine (impl_hint.calls k a1 a2 t131 t132 _ A6.out).mono ?_); rintro e w13 ⟨rfl, hb⟩; refine ⟨_, rfl, ?_⟩; replace HO129 := Aside0.mk (Kd.R_below (kR HO129) hb); replace BK126 := bW BK126 hb; replace HB := Aside0.mk (below_step bG hb); (try clear hb)))
  go_ret3
  exact ⟨rE, bG⟩
 ·replace c5 := Bool.eq_false_iff.mpr c5
  subst c5
  replace H := zf H
  simp only [Option.some.injEq, Prod.mk.injEq] at H
  obtain ⟨rfl, rfl, rfl⟩ := H
  go_enter Try.func10, Try.ntmps10
  go_wp2_with (first | ((with_reducible refine gate_dst (N := 3) rfl ?_); refine box_event ?hg (N := 3) ?hd (cs := #[.int .i64 a0_0, .int .i64 a0_1]) (t := 23) ?hr ?_; (case hd => rfl); (case hg => rfl); (case hr => first | (go_simp; done) | (go_simp; rfl)); intro gb126 hg w14 hbox hb; have BK126 := Aside0.mk (hbox); have GW126 : Aside0 (w.heap.size ≤ gb126) := gW hg; have GE126 := GW126; replace HB := Aside0.mk (below_step bB hb); clear hb hbox hg; have hcz15_0 := cZ BK126 0 (.int .i64 a0_0); have hcz15_1 := cZ BK126 1 (.int .i64 a0_1); have hfz15_0 := blk_frozen BK126.out 0; have hfz15_1 := blk_frozen BK126.out 1) | ((with_reducible refine gate_dst (N := 14) rfl ?_); refine Kd.R_lit Kd.string _ 9 ?hg (N := 14) ?hd (xs := ([a1, a2] : List ByteArray)) (inner := [.string a1, .string a2]) (ok := fun _ => True) (okp := fun _ => True) ?hr ?hp (fun _ hk => hk) trivial (Below.refl _ _) (Nat.le_refl _) (by simp) ?_; (case hd => rfl); (case hg => rfl); (case hr => first | (go_simp; done) | (go_simp; rfl)); (case hp => exact (Reps.one (show Kd.M Kd.string _ _ _ a1 [.string a1] from rfl) (Reps.one (show Kd.M Kd.string _ _ _ a2 [.string a2] from rfl) (Reps.none _ _)))); intro v128 w16 ho17 hb hg_ hnew_; clear hg_ hnew_; (first | rw [← Ny127.out] at ho17 | (simp only [Int.reduceToNat] at ho17; rw [← Ny127.out] at ho17)); have HO129 := Aside0.mk (Kd.R_lower ho17 (below_size bG)); replace BK126 := bW BK126 hb; replace HB := Aside0.mk (below_step bG hb); clear hb ho17; obtain ⟨Ao18, co18, eo18⟩ := Kd.R_slice HO129.out; subst eo18) | ((with_reducible refine gate_callee (f := 43) rfl ?_); refine goesL_ (some 15) rfl rfl Try.func43 (by kernel_rfl) rfl #[.agg #[.int .i64 a0_0, .int .i64 a0_1], .slice Ao18 y127.length co18] rfl lM ?_; (with_reducible refine (impl_isHinted.calls k a0_0 a0_1 _ _ y127 false _ ?side1 ?side2 A4.out).mono ?_); (case side1 => exact cS ((Kd.R_reads' HO129.out).2.2)); (case side2 => exact (Kd.R_reads' HO129.out).2.1); rintro e w19 ⟨rfl, hb⟩; refine ⟨_, rfl, ?_⟩; replace HO129 := Aside0.mk (Kd.R_below (kR HO129) hb); replace BK126 := bW BK126 hb; replace HB := Aside0.mk (below_step bG hb); (try clear hb)))
  go_ret3
  exact ⟨rE, bG⟩

/-! ### impl_Hint_100: function 100 -/
set_option maxHeartbeats 4000000 in
set_option maxRecDepth 100000 in
theorem idxH_calls (g : Nat) (caps : Array Value) (p : S31 → Option Bool) (A0 : Option Addr) (c0 : Nat) (l0 : List S31) (r : Bool) (w : World) (eg : ∀ args w, (callFunc g args).run Try.prog w = .ok (.enter g args) w)
  (hr0 : Kd.C k31 w A0 l0.length l0) (hlen : l0.length ≤ 1000000000000000000) (h : anyO p l0 = some r)
  (hp : ∀ (x : S31) (b : Bool) (W : World), p x = some b → Below w.heap.size w W → Calls Try.prog g (#[.agg #[.string x.f0, .int .i64 x.f1, .int .i64 x.f2]] ++ caps) W fun e w' => e = .returned (.bool b) ∧ Below W.heap.size W w') :
  Calls Try.prog 100 #[.slice A0 l0.length c0, .func (.func g) #[] caps] w fun e w' => (∃ v : Int, e = .returned (.int .i64 v) ∧ (decide (0 ≤ v) = r)) ∧ Below w.heap.size w w' := by
 have hu75 := Try.underlying31
 have hu9 := Try.underlying9
 have HR0 := Aside0.mk hr0
 have HH := Aside0.mk h
 clear hr0 h
 go_enter Try.func100, Try.ntmps100
 go_wp2
 go_loopg [5, 8] l0.length (fun gg _ s8 wr => ∃ kk : Nat, kk ≤ l0.length ∧ l0.length - kk ≤ gg ∧ s8 = .int .i64 kk ∧ Aside0 (Below w.heap.size w wr) ∧ Aside0 (anyO p (l0.drop kk) = some r))
 case atStart => exact ⟨0, Nat.zero_le _, by omega, rfl, ⟨Below.refl _ _⟩, HH⟩
 case round =>
  obtain ⟨kk, hkk, hg, rfl, HB, HA⟩ := hrel
  clear HH
  by_cases hlt : kk < l0.length
  ·have hltz : (kk : Int) < (l0.length : Int) := by omega
   obtain ⟨ad, e1, hx0, hx1, hx2⟩ := at_T31 (Kd.C_below HR0.out HB.out) (kk : Int) (by omega) hltz
   rw [Int.toNat_natCast] at hx0 hx1 hx2
   have hget : rd_T31 l0 (kk : Int) = l0[kk] := by simp [rd_T31, List.getD, hlt]
   rw [hget] at hx0 hx1 hx2
   cases e1
   have H := HA.out
   clear HA
   rw [List.drop_eq_getElem_cons hlt, anyO] at H
   replace H := Option.bind_eq_some_iff.mp H
   obtain ⟨b, hb, H⟩ := H
   have hcall := hp l0[kk] b wr hb HB.out
   clear hp hb hget
   generalize l0[kk] = x at hx0 hx1 hx2 hcall
   have HX := Aside0.mk H
   clear H
   cases b with
   | true =>
    go_wp2_with (go_at_fn g; refine hcall.mono ?_; rintro e w' ⟨rfl, hb⟩; have HB2 := Aside0.mk (below_then HB.out HB.out.size hb); clear hb)
    go_ret
    refine ⟨⟨_, rfl, ?_⟩, HB2.out⟩
    have := HX.out
    simp only [if_true, Option.some.injEq] at this
    subst this
    simp
   | false =>
    go_wp2_with (go_at_fn g; refine hcall.mono ?_; rintro e w' ⟨rfl, hb⟩; have HB2 := Aside0.mk (below_then HB.out HB.out.size hb); clear hb)
    go_roundg (l0.length - (kk + 1))
    case measure => omega
    case rel =>
     refine ⟨kk + 1, by omega, by omega, by go_num, HB2, ⟨?_⟩⟩
     have := HX.out
     rwa [if_neg (by decide)] at this
  ·have hltz : ¬ (kk : Int) < (l0.length : Int) := by omega
   have : kk = l0.length := by omega
   subst this
   clear hp
   go_wp2
   go_ret
   refine ⟨⟨_, rfl, ?_⟩, HB.out⟩
   have := HA.out
   rw [List.drop_length, anyO] at this
   simp only [Option.some.injEq] at this
   subst this
   simp


/-! ### impl_Hint_84: function 84 -/
set_option maxHeartbeats 4000000 in
set_option maxRecDepth 100000 in
theorem conH_calls (g : Nat) (caps : Array Value) (p : S31 → Option Bool) (A0 : Option Addr) (c0 : Nat) (l0 : List S31) (r : Bool) (w : World) (eg : ∀ args w, (callFunc g args).run Try.prog w = .ok (.enter g args) w)
  (hr0 : Kd.C k31 w A0 l0.length l0) (hlen : l0.length ≤ 1000000000000000000) (h : anyO p l0 = some r)
  (hp : ∀ (x : S31) (b : Bool) (W : World), p x = some b → Below w.heap.size w W → Calls Try.prog g (#[.agg #[.string x.f0, .int .i64 x.f1, .int .i64 x.f2]] ++ caps) W fun e w' => e = .returned (.bool b) ∧ Below W.heap.size W w') :
  Calls Try.prog 84 #[.slice A0 l0.length c0, .func (.func g) #[] caps] w fun e w' => e = .returned (.bool r) ∧ Below w.heap.size w w' := by
 have hc := idxH_calls g caps p A0 c0 l0 r w eg hr0 hlen h hp
 clear hr0 hp eg hlen h
 go_enter Try.func84, Try.ntmps84
 go_wp2_with (go_at_call 100; refine hc.mono ?_; rintro e w' ⟨⟨v, rfl, hr⟩, hb⟩; have HR := Aside0.mk hr; have HB := Aside0.mk hb; clear hr hb)
 go_ret
 exact ⟨by have := HR.out; simp [← this], HB.out⟩


/-! ### impl_Lock_isTold: function 60 -/
def impl_Lock_isTold.f (a0_0 : Int) (a0_1 : Int) (a1 : Int) (a2 : Int) : Option (Bool) := (impl_within.f a1 0 a0_0).bind fun t134 => (if t134 = true then ((impl_within.f a2 0 (wrap64 (a0_0 - a1))).bind fun t135 => (some t135)) else (some false))
theorem impl_Lock_isTold.calls (a0_0 : Int) (a0_1 : Int) (a1 : Int) (a2 : Int) (r : Bool) (w : World) (h : impl_Lock_isTold.f a0_0 a0_1 a1 a2 = some r) :
  Calls Try.prog 60 #[.agg #[.int .i64 a0_0, .int .i64 a0_1], .int .i64 a1, .int .i64 a2] w fun e w' => e = .returned (.bool r) ∧ Below w.heap.size w w' := by
 have hu23 := Try.underlying23
 have HB := Aside0.mk (Below.refl w.heap.size w)
 have H := h
 unfold impl_Lock_isTold.f at H
 clear h
 replace H := Option.bind_eq_some_iff.mp H
 obtain ⟨t134, A40, H⟩ := H
 (try dsimp only at H)
 have A4 := Aside0.mk A40
 clear A40
 by_cases c5 : t134 = true
 ·subst c5
  replace H := zt H
  replace H := Option.bind_eq_some_iff.mp H
  obtain ⟨t135, A60, H⟩ := H
  (try dsimp only at H)
  have A6 := Aside0.mk A60
  clear A60
  obtain rfl := Option.some.inj H
  go_enter Try.func60, Try.ntmps60
  go_wp2_with (first | ((with_reducible refine gate_dst (N := 3) rfl ?_); refine box_event ?hg (N := 3) ?hd (cs := #[.int .i64 a0_0, .int .i64 a0_1]) (t := 23) ?hr ?_; (case hd => rfl); (case hg => rfl); (case hr => first | (go_simp; done) | (go_simp; rfl)); intro gb133 hg w7 hbox hb; have BK133 := Aside0.mk (hbox); have GW133 : Aside0 (w.heap.size ≤ gb133) := gW hg; have GE133 := GW133; replace HB := Aside0.mk (below_step bB hb); clear hb hbox hg; have hcz8_0 := cZ BK133 0 (.int .i64 a0_0); have hcz8_1 := cZ BK133 1 (.int .i64 a0_1); have hfz8_0 := blk_frozen BK133.out 0; have hfz8_1 := blk_frozen BK133.out 1) | ((with_reducible refine gate_callee (f := 90) rfl ?_); refine goesL_ (some 10) rfl rfl Try.func90 (by kernel_rfl) rfl #[.int .i64 a1, .int .i64 0, .int .i64 a0_0] rfl lM ?_; (with_reducible refine (impl_within.calls a1 0 a0_0 true _ A4.out).mono ?_); rintro e w' ⟨rfl, ⟨nd, rfl⟩⟩; refine ⟨_, rfl, ?_⟩) | (go_at_call 90; (with_reducible refine (impl_within.calls a2 0 (wrap64 (a0_0 - a1)) t135 _ A6.out).mono ?_); rintro e w' ⟨rfl, ⟨nd, rfl⟩⟩))
  go_ret
  exact ⟨rE, bG⟩
 ·replace c5 := Bool.eq_false_iff.mpr c5
  subst c5
  replace H := zf H
  obtain rfl := Option.some.inj H
  go_enter Try.func60, Try.ntmps60
  go_wp2_with (first | ((with_reducible refine gate_dst (N := 3) rfl ?_); refine box_event ?hg (N := 3) ?hd (cs := #[.int .i64 a0_0, .int .i64 a0_1]) (t := 23) ?hr ?_; (case hd => rfl); (case hg => rfl); (case hr => first | (go_simp; done) | (go_simp; rfl)); intro gb133 hg w9 hbox hb; have BK133 := Aside0.mk (hbox); have GW133 : Aside0 (w.heap.size ≤ gb133) := gW hg; have GE133 := GW133; replace HB := Aside0.mk (below_step bB hb); clear hb hbox hg; have hcz10_0 := cZ BK133 0 (.int .i64 a0_0); have hcz10_1 := cZ BK133 1 (.int .i64 a0_1); have hfz10_0 := blk_frozen BK133.out 0; have hfz10_1 := blk_frozen BK133.out 1) | ((with_reducible refine gate_callee (f := 90) rfl ?_); refine goesL_ (some 10) rfl rfl Try.func90 (by kernel_rfl) rfl #[.int .i64 a1, .int .i64 0, .int .i64 a0_0] rfl lM ?_; (with_reducible refine (impl_within.calls a1 0 a0_0 false _ A4.out).mono ?_); rintro e w' ⟨rfl, ⟨nd, rfl⟩⟩; refine ⟨_, rfl, ?_⟩))
  go_ret
  exact ⟨rE, bG⟩

/-! ### impl_areHints_1: function 85 -/
def areHints1 (k : Nat) (a b : Int) (x : S31) : Option Bool := (impl_Lock_isCode.f k a b x.f0).bind fun t => if t = true then (impl_Lock_isTold.f a b x.f1 x.f2).map (fun b => !b) else some true
set_option maxHeartbeats 4000000 in
set_option maxRecDepth 100000 in
theorem areHints1_calls (k : Nat) (a b : Int) (B : Nat) (x : S31) (r : Bool) (w : World) (hc0 : w.cell? ⟨B, 0, none⟩ = some (.int .i64 a)) (hc1 : w.cell? ⟨B, 1, none⟩ = some (.int .i64 b)) (h : areHints1 k a b x = some r) :
  Calls Try.prog 85 #[.agg #[.string x.f0, .int .i64 x.f1, .int .i64 x.f2], .pointer (some ⟨B, 0, none⟩)] w fun e w' => e = .returned (.bool r) ∧ Below w.heap.size w w' := by
 have hu75 := Try.underlying31
 have hu9 := Try.underlying9
 have hu26 := Try.underlying23
 unfold areHints1 at h
 obtain ⟨t, ht, h⟩ := Option.bind_eq_some_iff.mp h
 have hcode : ∀ W, Calls Try.prog 86 #[.agg #[.int .i64 a, .int .i64 b], .string x.f0] W _ := fun W => impl_Lock_isCode.calls k a b x.f0 t W ht
 have hlt : B < w.heap.size := World.block_lt_of_cell? w ⟨B, 0, none⟩ hc0
 have HS := Aside0.mk hlt
 have Hb0 := Aside0.mk (hw_cell_old w (.cells #[.string x.f0, .int .i64 x.f1, .int .i64 x.f2] 31) hc0)
 have Hb1 := Aside0.mk (hw_cell_old w (.cells #[.string x.f0, .int .i64 x.f1, .int .i64 x.f2] 31) hc1)
 have hbx0 := Hb0.out
 have hbx1 := Hb1.out
 clear ht hlt hc0 hc1
 cases t with
 | false =>
  rw [if_neg (by decide)] at h
  obtain rfl := Option.some.inj h
  clear h
  go_enter Try.func85, Try.ntmps85
  go_wp2_with (go_at_call 86; refine (hcode _).mono ?_; rintro e w1 ⟨rfl, hb⟩; have HB := Aside0.mk hb; clear hb)
  go_ret
  exact ⟨rfl, below_then (below_alloc (Below.refl _ _) _) (by simp) HB.out⟩
 | true =>
  rw [if_pos rfl] at h
  obtain ⟨t2, ht2, e1⟩ := Option.map_eq_some_iff.mp h
  subst e1
  have htold : ∀ W, Calls Try.prog 60 #[.agg #[.int .i64 a, .int .i64 b], .int .i64 x.f1, .int .i64 x.f2] W _ := fun W => impl_Lock_isTold.calls a b x.f1 x.f2 t2 W ht2
  clear h ht2
  go_enter Try.func85, Try.ntmps85
  go_wp2_with (first | (go_at_call 86; refine (hcode _).mono ?_; rintro e w1 ⟨rfl, hb⟩; have HB := Aside0.mk hb; have k0 := pw_cell_below hb Hb0.out; have k1 := pw_cell_below hb Hb1.out; have m1 := pw_cell_below hb (show (w.alloc (.cells #[.string x.f0, .int .i64 x.f1, .int .i64 x.f2] 31)).cell? ⟨w.heap.size, 1, none⟩ = some (.int .i64 x.f1) by simp); have m2 := pw_cell_below hb (show (w.alloc (.cells #[.string x.f0, .int .i64 x.f1, .int .i64 x.f2] 31)).cell? ⟨w.heap.size, 2, none⟩ = some (.int .i64 x.f2) by simp); clear hb) | (go_at_call 60; refine (htold _).mono ?_; rintro e w2 ⟨rfl, hb⟩; have HB2 := Aside0.mk hb; clear hb))
  go_ret
  exact ⟨rfl, below_then (below_then (below_alloc (Below.refl _ _) _) (by simp) HB.out) (by have := HB.out.size; simp at this; omega) HB2.out⟩


/-! ### impl_areHints: function 49 -/
def impl_areHints.f (k : Nat) (a b : Int) (l : List S31) : Option Bool := if l.length ≤ 1000000000000000000 then (impl_isHinted.f k a b []).bind fun t => if t = true then (if l.length ≤ 10 then (anyO (areHints1 k a b) l).map (fun b => !b) else some false) else some false else none
theorem areHints1_mono (k : Nat) (a b : Int) (x : S31) : LeO (areHints1 k a b x) (areHints1 (k + 1) a b x) := LeO.bind (impl_Lock_isCode.mono _ _ _ _) (fun _ => LeO.refl _)
theorem impl_areHints.mono : ∀ a b l k, LeO (impl_areHints.f k a b l) (impl_areHints.f (k + 1) a b l) := by
 intro a b l k
 unfold impl_areHints.f
 exact LeO.ite (LeO.bind (impl_isHinted.mono _ _ _ _) (fun _ => LeO.ite (LeO.ite (LeO.map _ (anyO_mono (fun x => areHints1_mono k a b x) _)) (LeO.refl _)) (LeO.refl _))) (LeO.none _)
set_option maxHeartbeats 4000000 in
set_option maxRecDepth 100000 in
theorem impl_areHints.calls (k : Nat) (a b : Int) (A1 : Option Addr) (c1 : Nat) (l1 : List S31) (r : Bool) (w : World) (hr1 : Kd.C k31 w A1 l1.length l1) (hc1 : l1.length ≤ c1) (h : impl_areHints.f k a b l1 = some r) :
  Calls Try.prog 49 #[.agg #[.int .i64 a, .int .i64 b], .slice A1 l1.length c1] w fun e w' => e = .returned (.bool r) ∧ Below w.heap.size w w' := by
 have hu26 := Try.underlying23
 unfold impl_areHints.f at h
 by_cases hlen : l1.length ≤ 1000000000000000000
 case neg => rw [if_neg hlen] at h; exact absurd h (by simp)
 rw [if_pos hlen] at h
 obtain ⟨t, ht, h⟩ := Option.bind_eq_some_iff.mp h
 have hhin : ∀ W, Calls Try.prog 43 #[.agg #[.int .i64 a, .int .i64 b], .slice none 0 0] W _ := fun W => impl_isHinted.calls k a b none 0 [] t W (Kd.C_nil _ _) (by simp) ht
 have HC := Aside0.mk (Kd.C_alloc hr1 (.cells #[.int .i64 a, .int .i64 b] 23))
 have c0 : (w.alloc (.cells #[.int .i64 a, .int .i64 b] 23)).cell? ⟨w.heap.size, 0, none⟩ = some (.int .i64 a) := by simp
 have cc1 : (w.alloc (.cells #[.int .i64 a, .int .i64 b] 23)).cell? ⟨w.heap.size, 1, none⟩ = some (.int .i64 b) := by simp
 have C0 := Aside0.mk c0
 have C1 := Aside0.mk cc1
 clear ht hr1 hc1 c0 cc1
 cases t with
 | false =>
  rw [if_neg (by decide)] at h
  obtain rfl := Option.some.inj h
  clear h
  go_enter Try.func49, Try.ntmps49
  go_wp2_with (go_at_call 43; refine (hhin _).mono ?_; rintro e w1 ⟨rfl, hb⟩; have HB := Aside0.mk hb; clear hb)
  go_ret
  exact ⟨rfl, below_then (below_alloc (Below.refl _ _) _) (by simp) HB.out⟩
 | true =>
  rw [if_pos rfl] at h
  by_cases hL : l1.length ≤ 10
  case neg =>
   rw [if_neg hL] at h
   obtain rfl := Option.some.inj h
   have hb2 : decide ((l1.length : Int) ≤ 10) = false := decide_eq_false (by omega)
   clear h hL
   go_enter Try.func49, Try.ntmps49
   go_wp2_with (go_at_call 43; refine (hhin _).mono ?_; rintro e w1 ⟨rfl, hb⟩; have HB := Aside0.mk hb; clear hb)
   go_ret
   exact ⟨rfl, below_then (below_alloc (Below.refl _ _) _) (by simp) HB.out⟩
  rw [if_pos hL] at h
  obtain ⟨b2, hb2, e1⟩ := Option.map_eq_some_iff.mp h
  subst e1
  have eg : ∀ args w, (callFunc 85 args).run Try.prog w = .ok (.enter 85 args) w := enters_of Try.func85 (by kernel_rfl) rfl
  have hcon : ∀ W, Below (w.heap.size + 1) (w.alloc (.cells #[.int .i64 a, .int .i64 b] 23)) W → Calls Try.prog 84 #[.slice A1 l1.length c1, .func (.func 85) #[] #[.pointer (some ⟨w.heap.size, 0, none⟩)]] W fun e w' => e = .returned (.bool b2) ∧ Below W.heap.size W w' := by
   intro W hW
   have hWs : (w.alloc (.cells #[.int .i64 a, .int .i64 b] 23)).heap.size = w.heap.size + 1 := World.size_alloc _ _
   have hW' : Below (w.alloc (.cells #[.int .i64 a, .int .i64 b] 23)).heap.size (w.alloc (.cells #[.int .i64 a, .int .i64 b] 23)) W := by rw [hWs]; exact hW
   exact conH_calls 85 #[.pointer (some ⟨w.heap.size, 0, none⟩)] (areHints1 k a b) A1 c1 l1 b2 W eg (Kd.C_below HC.out hW') hlen hb2 (fun x r W2 hx hB => areHints1_calls k a b w.heap.size x r W2 (pw_cell_below hB (pw_cell_below hW' C0.out)) (pw_cell_below hB (pw_cell_below hW' C1.out)) hx)
  have hbL : decide ((l1.length : Int) ≤ 10) = true := decide_eq_true (by omega)
  clear h hL hb2 eg hlen
  go_enter Try.func49, Try.ntmps49
  go_wp2_with (first | (go_at_call 43; refine (hhin _).mono ?_; rintro e w1 ⟨rfl, hb⟩; have HB := Aside0.mk hb; clear hb) | (go_at_call 84; refine (hcon _ (HB.out.mono (by simp))).mono ?_; rintro e w2 ⟨rfl, hb⟩; have HB2 := Aside0.mk hb; clear hb))
  go_ret
  exact ⟨by simp, below_then (below_then (below_alloc (Below.refl _ _) _) (by simp) HB.out) (by have := HB.out.size; simp at this; omega) HB2.out⟩


/-! ### impl_text: function 91 -/
def impl_text.l0 : Nat → List Int → List Int → Int → Int → Option (ByteArray)
 | 0, _, _, _, _ => none
 | k + 1, x3, x7, x8, x9 => if x9 < x8 then (if 0 ≤ x9 then (if x9 < (x7.length : Int) then (if x3.length < 140737488355328 then (impl_text.l0 k (x3 ++ [(wrap64 (48 + (rd x7 x9))) % 256]) x7 x8 (wrap64 (x9 + 1))) else (none)) else (none)) else (none)) else (some (strOfNums x3))
def impl_text.f (k : Nat) (l0 : List Int) : Option (ByteArray) := impl_text.l0 k (([] : List Int)) l0 (l0.length : Int) 0
theorem impl_text.mono_l : ∀ k, (∀ y0 y1 y2 y3, LeO (impl_text.l0 k y0 y1 y2 y3) (impl_text.l0 (k + 1) y0 y1 y2 y3))
 | 0 => fun _ _ _ _ r h => by simp [impl_text.l0] at h
 | k + 1 => by
  have ih0 := impl_text.mono_l k
  ·intro y0 y1 y2 y3
   unfold impl_text.l0
   repeat' first
   | (with_reducible first | exact ih0 _ _ _ _ | exact LeO.refl _ | exact LeO.none _ | refine LeO.ite ?_ ?_ | refine LeO.bind ?_ (fun _ => ?_))
   | exact ih0 _ _ _ _
   | exact LeO.none _
   | refine LeO.ite ?_ ?_
   | refine LeO.bind ?_ (fun _ => ?_)
theorem impl_text.mono : ∀ a0 k, LeO (impl_text.f k a0) (impl_text.f (k + 1) a0) := by
 intro a0 k
 have ih0 := impl_text.mono_l k
 unfold impl_text.f
 repeat' first
   | (with_reducible first | exact ih0 _ _ _ _ | exact LeO.refl _ | exact LeO.none _ | refine LeO.ite ?_ ?_ | refine LeO.bind ?_ (fun _ => ?_))
   | exact ih0 _ _ _ _
   | exact LeO.none _
   | refine LeO.ite ?_ ?_
   | refine LeO.bind ?_ (fun _ => ?_)
theorem impl_text.calls (k : Nat) (A0 : Option Addr) (c0 : Nat) (l0 : List Int) (r : ByteArray) (w : World) (hr0 : Kd.C (Kd.int .i64) w A0 l0.length l0) (hc0 : l0.length ≤ c0) (h : impl_text.f k l0 = some r) :
  Calls Try.prog 91 #[.slice A0 l0.length c0] w fun e w' => e = .returned (.string r) ∧ Below w.heap.size w w' := by
 have HR0 := Aside0.mk hr0
 have HC0 := Aside0.mk hc0
 clear hr0 hc0
 have HB := Aside0.mk (Below.refl w.heap.size w)
 have H := h
 unfold impl_text.f at H
 clear h
 obtain ⟨y136, hy136⟩ : ∃ y_ : List Int, y_ = (([] : List Int)) := ⟨_, rfl⟩
 replace H : (impl_text.l0 k y136 l0 (l0.length : Int) 0) = some r := hZ hy136 H
 have Ny136 := Aside0.mk hy136
 clear hy136
 have H' := Aside0.mk H
 clear H
 go_enter Try.func91, Try.ntmps91
 go_wp2_with (first | ((with_reducible refine gate_dst (N := 6) rfl ?_); refine Kd.R_lit (Kd.int .u8) _ 5 ?hg (N := 6) ?hd (xs := ([] : List Int)) (inner := []) (ok := fun _ => True) (okp := fun _ => True) ?hr ?hp (fun _ hk => hk) trivial (Below.refl _ _) (Nat.le_refl _) (by simp) ?_; (case hd => rfl); (case hg => rfl); (case hr => first | (go_simp; done) | (go_simp; rfl)); (case hp => exact (Reps.none _ _)); intro v137 w2 ho3 hb hg_ hnew_; clear hg_ hnew_; (first | rw [← Ny136.out] at ho3 | (simp only [Int.reduceToNat] at ho3; rw [← Ny136.out] at ho3)); have HO138 := Aside0.mk (Kd.R_lower ho3 (below_size bB)); replace HB := Aside0.mk (below_step bB hb); clear hb ho3))
 go_loopg [3, 9] k (fun kq v3 v9 w' => ∃ (x3_1 : List Int) (x9_1 : Int), v9 = .int .i64 x9_1 ∧ Aside0 (impl_text.l0 kq x3_1 l0 (l0.length : Int) x9_1 = some r) ∧ Aside0 (kq ≤ k) ∧ Aside0 (Kd.R (Kd.int .u8) 5 w' w.heap.size (fun _ => True) v3 x3_1) ∧ Aside0 (Below w.heap.size w w'))
 case atStart => exact ⟨(y136), (0), fR, H', ⟨Nat.le_refl _⟩, ⟨kR HO138⟩, ⟨bB⟩⟩
 case round =>
  clear H'
  try clear p2
  obtain ⟨x3_1, x9_1, rfl, HA, HK1, HO_3, HB⟩ := hrel
  cases gk with
  | zero => exact absurd HA.out (by simp [impl_text.l0])
  | succ k1 =>
   have H := HA.out
   clear HA
   simp only [impl_text.l0] at H
   by_cases c4 : x9_1 < (l0.length : Int)
   ·rw [if_pos c4] at H
    have c4b0 : decide (x9_1 < (l0.length : Int)) = true := decide_eq_true c4
    clear c4
    replace H := nz H; obtain ⟨c5, H⟩ := H
    have c5b0 : decide (0 ≤ x9_1) = true := decide_eq_true c5
    clear c5
    replace H := nz H; obtain ⟨c6, H⟩ := H
    have c6b0 : decide (x9_1 < (l0.length : Int)) = true := decide_eq_true c6
    clear c6
    replace H := nz H; obtain ⟨c7, H⟩ := H
    have LMc7 := Aside0.mk c7
    clear c7
    obtain ⟨y140, hy140⟩ : ∃ y_ : List Int, y_ = (x3_1 ++ [(wrap64 (48 + (rd l0 x9_1))) % 256]) := ⟨_, rfl⟩
    replace H : (impl_text.l0 k1 y140 l0 (l0.length : Int) (wrap64 (x9_1 + 1))) = some r := hZ hy140 H
    have Ny140 := Aside0.mk hy140
    clear hy140
    have H' := Aside0.mk H
    clear H
    have p139 : 0 ≤ (x9_1 : Int) := oD
    have q139 : x9_1 < (l0.length : Int) := oD
    obtain ⟨ad139, e139, hx139_0⟩ := Kd.at_int HR0.out x9_1 p139 q139
    cases e139
    replace hx139_0 := (HB.out.cell (World.block_lt_of_cell? w _ hx139_0)).trans hx139_0
    replace p139 := eq_true p139
    replace q139 := eq_true q139
    go_wp2_with (first | ((with_reducible refine gate_builtin (b := .append) (xs := #[.tmp 13, .tmp 17]) rfl ?_); at_builtin; refine Kd.R_append (Kd.int .u8) (w0 := w) w.heap.size rfl (.tmp 13) (.tmp 17) 124 5 (.int .u8 0) 1 rfl Try.underlying124 info5 rfl (by decide) (by omega) u3 x3_1 ((wrap64 (48 + (rd l0 x9_1))) % 256) [.int .u8 ((wrap64 (48 + (rd l0 x9_1))) % 256)] (fun _ => True) (fun _ => False) rfl rfl ?aP (fun _ hk => hk.elim) ?aF ?aO ?aB ?aS ?aL ?_; (case aP => exact rfl); (case aB => exact bB); (case aF => exact (fun _ _ => trivial)); (case aO => exact (kR HO_3)); (case aS => exact (below_size bB)); (case aL => have := LMc7.out; omega); intro v141 w8 ho hb hg hat; rw [← Ny140.out] at ho; have n0_ := Aside0.mk (hb); have n1_ := Aside0.mk (ho); clear HB; clear HO_3; have HB := n0_; have HO142 := n1_; clear n0_ n1_; clear ho hb hg hat))
    go_roundg k1
    case measure => have := HK1.out; omega
    case rel => exact ⟨(y140), (wrap64 (x9_1 + 1)), fR, H', ⟨by have := HK1.out; omega⟩, ⟨kR HO142⟩, ⟨bB⟩⟩
   ·rw [if_neg c4] at H
    have c4b0 : decide (x9_1 < (l0.length : Int)) = false := decide_eq_false c4
    clear c4
    obtain rfl := Option.some.inj H
    have hcv9 := own_string (P := Try.prog) Try.underlying124 Try.underlying5 Try.underlying9 (Kd.own_of_R HO_3.out)
    go_wp2
    go_ret
    exact ⟨rE, bB⟩

/-! ### impl_Lock_code: function 61 -/
def impl_Lock_code.f (k : Nat) (a0_0 a0_1 a1 : Int) : Option ByteArray := if (1 ≤ a0_0 ∧ a0_0 ≤ 6) ∧ (2 ≤ a0_1 ∧ a0_1 ≤ 10) ∧ 0 ≤ a1 ∧ a1 ≤ 10000000 then impl_text.f k (dcode a0_1.toNat a0_0.toNat a1.toNat) else none
theorem impl_Lock_code.mono : ∀ a0 a1 a2 k, LeO (impl_Lock_code.f k a0 a1 a2) (impl_Lock_code.f (k + 1) a0 a1 a2) := by
 intro a0 a1 a2 k
 unfold impl_Lock_code.f
 exact LeO.ite (impl_text.mono _ _) (LeO.none _)
theorem impl_Lock_code.calls (K : Nat) (a0_0 a0_1 a1 : Int) (r : ByteArray) (w : World) (h : impl_Lock_code.f K a0_0 a0_1 a1 = some r) :
  Calls Try.prog 61 #[.agg #[.int .i64 a0_0, .int .i64 a0_1], .int .i64 a1] w fun e w' => e = .returned (.string r) ∧ Below w.heap.size w w' := by
 unfold impl_Lock_code.f at h
 by_cases hA : (1 ≤ a0_0 ∧ a0_0 ≤ 6) ∧ (2 ≤ a0_1 ∧ a0_1 ≤ 10) ∧ 0 ≤ a1 ∧ a1 ≤ 10000000
 case neg => rw [if_neg hA] at h; exact absurd h (by simp)
 rw [if_pos hA] at h
 obtain ⟨⟨hk1, hk2⟩, ⟨hm1, hm2⟩, hn1, hn2⟩ := hA
 obtain ⟨k, rfl⟩ := Int.eq_ofNat_of_zero_le (show 0 ≤ a0_0 by omega)
 obtain ⟨m, rfl⟩ := Int.eq_ofNat_of_zero_le (show 0 ≤ a0_1 by omega)
 obtain ⟨n, rfl⟩ := Int.eq_ofNat_of_zero_le hn1
 simp only [Int.toNat_natCast] at h
 have htx : ∀ (A : Option Addr) (c : Nat) (W : World), k ≤ c → Kd.C (Kd.int .i64) W A k (dcode m k n) → Calls Try.prog 91 #[.slice A k c] W fun e w' => e = .returned (.string r) ∧ Below W.heap.size W w' := fun A c W h1 h2 => by
  have := impl_text.calls K A c (dcode m k n) r W (by rw [dcode_len]; exact h2) (by rw [dcode_len]; exact h1) h
  rw [dcode_len] at this
  exact this
 clear h
 have hw0 : (w.alloc (.cells #[.int .i64 (k : Int), .int .i64 (m : Int)] 23)).heap.size = w.heap.size + 1 := World.size_alloc _ _
 have hb0 : Below w.heap.size w (w.alloc (.cells #[.int .i64 (k : Int), .int .i64 (m : Int)] 23)) := below_alloc (Below.refl _ _) _
 have hbc : (w.alloc (.cells #[.int .i64 (k : Int), .int .i64 (m : Int)] 23)).cell? ⟨w.heap.size, 0, none⟩ = some (.int .i64 k) ∧ (w.alloc (.cells #[.int .i64 (k : Int), .int .i64 (m : Int)] 23)).cell? ⟨w.heap.size, 1, none⟩ = some (.int .i64 m) := ⟨by simp, by simp⟩
 obtain ⟨W0, hW0⟩ : ∃ W0, W0 = w.alloc (.cells #[.int .i64 (k : Int), .int .i64 (m : Int)] 23) := ⟨_, rfl⟩
 rw [← hW0] at hw0 hb0 hbc
 have HW0 := Aside0.mk hW0
 have HS0 := Aside0.mk hw0
 have HB0 := Aside0.mk hb0
 have HC0 := Aside0.mk hbc
 clear hw0 hb0 hbc hW0
 have hin3 : (Try.prog.info? 3).map (fun i => (i.zero, i.size, i.bytes)) = some (some (.int .i64 0), 1, 8) := by kernel_rfl
 go_enter Try.func61, Try.ntmps61
 go_wp2_with ((with_reducible refine gate_dst (N := 9) rfl ?_); go_loud (rw [← HW0.out]; refine Kd.R_make (Kd.int .i64) (w0 := W0) (w.heap.size + 1) 3 rfl (N := 9) rfl 48 _ _ rfl (k : Int) rfl rfl Try.underlying48 (.int .i64 0) 8 hin3 rfl (by decide) (by omega) 0 (ok := fun _ => True) (okp := fun _ => True) rfl (fun _ hk => hk) trivial (by omega) (by omega) (Below.refl _ _) (by rw [HS0.out]; exact Nat.le_refl _) ?_; intro v1 w1 ho hb hg_ hnew_; have HO := Aside0.mk ho; have HB := Aside0.mk hb; have hc0 := (hb.cell (p := ⟨w.heap.size, 0, none⟩) (by simp)).trans HC0.out.1; clear ho hb hg_ hnew_))
 obtain ⟨b, cp, rfl, hb1, hb2, _⟩ := Kd.R_form HO.out (by simp; omega)
 have ho := HO.out
 rw [Int.toNat_natCast, List.length_replicate] at *
 have HO1 := Aside0.mk ho
 have hkc := (Kd.R_reads' ho).2.1
 have HB1 := Aside0.mk hb1
 clear ho HO hb1 hb2 hc0
 go_loopg [1, 6] k (fun gg v6 v8 wx => ∃ (j q : Nat) (i : Int) (tail : List Int), v6 = .int .i64 (q : Int) ∧ v8 = .int .i64 i ∧ Aside0 (i = (j : Int) - 1) ∧ j ≤ k ∧ j ≤ gg ∧ Aside0 (tail.length + j = k) ∧ Aside0 (dcode m j q ++ tail = dcode m k n) ∧ q ≤ 10000000 ∧
  Aside0 (Kd.R (Kd.int .i64) 3 wx (w.heap.size + 1) (fun _ => True) (.slice (some ⟨b, 0, none⟩) k cp) (List.replicate j 0 ++ tail)) ∧ Aside0 (Below (w.heap.size + 1) W0 wx))
 case atStart => exact ⟨k, n, (k : Int) - 1, [], rfl, rfl, ⟨rfl⟩, by omega, by omega, ⟨by simp⟩, ⟨by simp⟩, by omega, ⟨by simpa using HO1.out⟩, HB⟩
 case round =>
  obtain ⟨j, q, i, tail, rfl, rfl, HIdx, hj, hgj, HL, HC, hq, HR, HBx⟩ := hrel
  cases j with
  | zero =>
   obtain rfl : i = -1 := by have := HIdx.out; omega
   have hrow : Kd.R (Kd.int .i64) 3 wr (w.heap.size + 1) (fun _ => True) (.slice (some ⟨b, 0, none⟩) k cp) (dcode m k n) := by
    have := HR.out
    have e := HC.out
    simp only [dcode, List.nil_append] at e
    simp only [List.replicate_zero, List.nil_append, e] at this
    exact this
   have hcl := htx (some ⟨b, 0, none⟩) cp wr hkc (by have h9 := (Kd.R_reads' hrow).2.2; rw [dcode_len] at h9; exact h9)
   clear htx hrow HR HC HL
   go_wp2_with (go_at_call 91; refine hcl.mono ?_; rintro e w' ⟨rfl, hb⟩; have HB9 := Aside0.mk hb; clear hb)
   go_ret
   exact ⟨rfl, HB0.out.trans ((HBx.out.trans (HB9.out.mono (by have := HBx.out.size; have := HS0.out; omega))).mono (by omega))⟩
  | succ j =>
   obtain rfl : i = (j : Int) := by have := HIdx.out; omega
   obtain ⟨hcell, hfr⟩ := Kd.R_celln (0 : Int) HR.out (j : Int) (by omega) (by omega)
   rw [Int.toNat_natCast] at hcell hfr
   have hjk : (j : Int) < (k : Int) := by omega
   have hcm := (HBx.out.cell (p := ⟨w.heap.size, 1, none⟩) (by simp)).trans HC0.out.2
   have hcm2 : (wr.setCell ⟨b, j, none⟩ (.int .i64 ((q : Int) % (m : Int)))).cell? ⟨w.heap.size, 1, none⟩ = some (.int .i64 m) := (World.cell?_setCell_other _ _ _ _ (fun e_ => by have e2_ : b = w.heap.size := congrArg Addr.block e_; have := HB1.out; omega)).trans hcm
   have hqd : wrap64 ((q : Int) / (m : Int)) = ((q / m : Nat) : Int) := by
    have h1 : q / m ≤ q := Nat.div_le_self q m
    have h2 : ((q / m : Nat) : Int) = (q : Int) / (m : Int) := Int.natCast_ediv q m
    rw [← h2]
    clear h2
    generalize q / m = z at h1
    unfold wrap64
    omega
   have HP2 := Aside0.mk (Kd.R_putn (enc := Value.int .i64) HR.out (j : Int) ((q : Int) % (m : Int)))
   go_wp2
   go_region
   go_wp2
   go_roundg j
   case measure => omega
   case rel =>
    refine ⟨j, q / m, (j : Int) - 1, ((q : Int) % (m : Int)) :: tail, by rw [hqd], rfl, ⟨rfl⟩, by omega, by omega, ⟨by have := HL.out; simp only [List.length_cons]; omega⟩, ⟨?_⟩, by have : q / m ≤ q := Nat.div_le_self q m; omega, ⟨?_⟩, ⟨?_⟩⟩
    ·have e := HC.out
     rw [dcode, List.append_assoc, Int.natCast_emod] at e
     exact e
    ·have e : (List.replicate (j + 1) (0 : Int) ++ tail).set ((j : Int)).toNat ((q : Int) % (m : Int)) = List.replicate j 0 ++ ((q : Int) % (m : Int)) :: tail := by
      rw [Int.toNat_natCast, List.replicate_succ', List.append_assoc, List.set_append_right _ _ (by simp)]
      simp
     have := Kd.R_drew HP2.out
     rw [e, Int.toNat_natCast] at this
     exact this
    ·exact below_drew (HBx.out.setCell HB1.out _)

/-! ### impl_fits_1: function 94 -/
def fits1 (k : Nat) (c : ByteArray) (x : S31) : Option Bool := (impl_hint.f k x.f0 c).map fun r => !decide (r.1 = x.f1 ∧ r.2 = x.f2)
set_option maxHeartbeats 4000000 in
set_option maxRecDepth 100000 in
theorem fits1_calls (k : Nat) (c : ByteArray) (B : Nat) (x : S31) (r : Bool) (w : World) (hc0 : w.cell? ⟨B, 0, none⟩ = some (.string c)) (h : fits1 k c x = some r) :
  Calls Try.prog 94 #[.agg #[.string x.f0, .int .i64 x.f1, .int .i64 x.f2], .pointer (some ⟨B, 0, none⟩)] w fun e w' => e = .returned (.bool r) ∧ Below w.heap.size w w' := by
 have hu75 := Try.underlying31
 have hu9 := Try.underlying9
 unfold fits1 at h
 obtain ⟨⟨p, o⟩, hpo, e1⟩ := Option.map_eq_some_iff.mp h
 subst e1
 have hhint : ∀ W, Calls Try.prog 48 #[.string x.f0, .string c] W _ := fun W => impl_hint.calls k x.f0 c p o W hpo
 have hb0 := hw_cell_old w (.cells #[.string x.f0, .int .i64 x.f1, .int .i64 x.f2] 31) hc0
 clear h hpo hc0
 simp only
 by_cases hp : p = x.f1
 ·have hpb : (p != x.f1) = false := by simp [hp]
  by_cases ho : o = x.f2
  ·have hob : (o != x.f2) = false := by simp [ho]
   rw [decide_eq_true (show p = x.f1 ∧ o = x.f2 from ⟨hp, ho⟩)]
   clear hp ho
   go_enter Try.func94, Try.ntmps94
   go_wp2_with (go_at_call 48; refine (hhint _).mono ?_; rintro e w1 ⟨rfl, hb⟩; have HB := Aside0.mk hb; have m1 := pw_cell_below hb (show (w.alloc (.cells #[.string x.f0, .int .i64 x.f1, .int .i64 x.f2] 31)).cell? ⟨w.heap.size, 1, none⟩ = some (.int .i64 x.f1) by simp); have m2 := pw_cell_below hb (show (w.alloc (.cells #[.string x.f0, .int .i64 x.f1, .int .i64 x.f2] 31)).cell? ⟨w.heap.size, 2, none⟩ = some (.int .i64 x.f2) by simp); clear hb)
   go_ret
   exact ⟨rfl, below_then (below_alloc (Below.refl _ _) _) (by simp) HB.out⟩
  ·have hob : (o != x.f2) = true := by simp [ho]
   rw [decide_eq_false (show ¬ (p = x.f1 ∧ o = x.f2) from fun h => ho h.2)]
   clear hp ho
   go_enter Try.func94, Try.ntmps94
   go_wp2_with (go_at_call 48; refine (hhint _).mono ?_; rintro e w1 ⟨rfl, hb⟩; have HB := Aside0.mk hb; have m1 := pw_cell_below hb (show (w.alloc (.cells #[.string x.f0, .int .i64 x.f1, .int .i64 x.f2] 31)).cell? ⟨w.heap.size, 1, none⟩ = some (.int .i64 x.f1) by simp); have m2 := pw_cell_below hb (show (w.alloc (.cells #[.string x.f0, .int .i64 x.f1, .int .i64 x.f2] 31)).cell? ⟨w.heap.size, 2, none⟩ = some (.int .i64 x.f2) by simp); clear hb)
   go_ret
   exact ⟨rfl, below_then (below_alloc (Below.refl _ _) _) (by simp) HB.out⟩
 ·have hpb : (p != x.f1) = true := by simp [hp]
  rw [decide_eq_false (show ¬ (p = x.f1 ∧ o = x.f2) from fun h => hp h.1)]
  clear hp
  go_enter Try.func94, Try.ntmps94
  go_wp2_with (go_at_call 48; refine (hhint _).mono ?_; rintro e w1 ⟨rfl, hb⟩; have HB := Aside0.mk hb; have m1 := pw_cell_below hb (show (w.alloc (.cells #[.string x.f0, .int .i64 x.f1, .int .i64 x.f2] 31)).cell? ⟨w.heap.size, 1, none⟩ = some (.int .i64 x.f1) by simp); have m2 := pw_cell_below hb (show (w.alloc (.cells #[.string x.f0, .int .i64 x.f1, .int .i64 x.f2] 31)).cell? ⟨w.heap.size, 2, none⟩ = some (.int .i64 x.f2) by simp); clear hb)
  go_ret
  exact ⟨rfl, below_then (below_alloc (Below.refl _ _) _) (by simp) HB.out⟩


/-! ### impl_fits: function 68 -/
def impl_fits.f (k : Nat) (l : List S31) (c : ByteArray) : Option Bool := if l.length ≤ 1000000000000000000 then (anyO (fits1 k c) l).map (fun b => !b) else none
theorem fits1_mono (k : Nat) (c : ByteArray) (x : S31) : LeO (fits1 k c x) (fits1 (k + 1) c x) := LeO.map _ (impl_hint.mono _ _ _)
theorem impl_fits.mono : ∀ l c k, LeO (impl_fits.f k l c) (impl_fits.f (k + 1) l c) := by
 intro l c k
 unfold impl_fits.f
 exact LeO.ite (LeO.map _ (anyO_mono (fun x => fits1_mono k c x) _)) (LeO.none _)
set_option maxHeartbeats 4000000 in
set_option maxRecDepth 100000 in
theorem impl_fits.calls (k : Nat) (A0 : Option Addr) (c0 : Nat) (l0 : List S31) (a1 : ByteArray) (r : Bool) (w : World) (hr0 : Kd.C k31 w A0 l0.length l0) (hc0 : l0.length ≤ c0) (h : impl_fits.f k l0 a1 = some r) :
  Calls Try.prog 68 #[.slice A0 l0.length c0, .string a1] w fun e w' => e = .returned (.bool r) ∧ Below w.heap.size w w' := by
 have hu9 := Try.underlying9
 unfold impl_fits.f at h
 by_cases hlen : l0.length ≤ 1000000000000000000
 case neg => rw [if_neg hlen] at h; exact absurd h (by simp)
 rw [if_pos hlen] at h
 obtain ⟨b2, hb2, e1⟩ := Option.map_eq_some_iff.mp h
 subst e1
 have eg : ∀ args w, (callFunc 94 args).run Try.prog w = .ok (.enter 94 args) w := enters_of Try.func94 (by kernel_rfl) rfl
 have c0' : (w.alloc (.cells #[.string a1] 9)).cell? ⟨w.heap.size, 0, none⟩ = some (.string a1) := by simp
 have hcon : Calls Try.prog 84 #[.slice A0 l0.length c0, .func (.func 94) #[] #[.pointer (some ⟨w.heap.size, 0, none⟩)]] (w.alloc (.cells #[.string a1] 9)) fun e w' => e = .returned (.bool b2) ∧ Below (w.alloc (.cells #[.string a1] 9)).heap.size (w.alloc (.cells #[.string a1] 9)) w' :=
  conH_calls 94 #[.pointer (some ⟨w.heap.size, 0, none⟩)] (fits1 k a1) A0 c0 l0 b2 _ eg (Kd.C_alloc hr0 _) hlen hb2 (fun x r W2 hx hB => fits1_calls k a1 w.heap.size x r W2 (pw_cell_below hB c0') hx)
 clear h hb2 eg hlen hr0 hc0 c0'
 go_enter Try.func68, Try.ntmps68
 go_wp2_with (go_at_call 84; refine hcon.mono ?_; rintro e w2 ⟨rfl, hb⟩; have HB2 := Aside0.mk hb; clear hb)
 go_ret
 exact ⟨by simp, below_then (below_alloc (Below.refl _ _) _) (by simp) HB2.out⟩

end Go.Proofs.Ytcpnmiempaofdaa.F
