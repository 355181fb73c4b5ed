-- Printed by hp.py, a program of this session: a machine's side of laws, out of the translation; Lean checks it.
import Derived.Test.YthpmpkmdjpaemaaGreatPx0
import Derived.Test.YthpmpkmdjpaemaaGreatPx5
import Derived.Test.YthpmpkmdjpaemaaGreatPx6
import Derived.Test.YthpmpkmdjpaemaaGreatPx9
import Derived.Test.YthpmpkmdjpaemaaGreatPx12
namespace Go.Proofs.YthpmpkmdjpaemaaGreat.P
open Go.RowKit Go.Proofs.YthpmpkmdjpaemaaGreatW.PrintWords Go.Proofs.YthpmpkmdjpaemaaGreatW.PrintLast Go.Proofs.YthpmpkmdjpaemaaGreatW.PrintMore
attribute [local go_sem] max2_int min2_int max_two min_two max_three min_three max_four min_four   -- for this text's walks alone
set_option maxHeartbeats 8000000
set_option maxRecDepth 100000
set_option linter.unusedVariables false
set_option linter.unusedSimpArgs false

/-! ### impl_areTurns: function 42 -/
def impl_areTurns.l0 : Nat → List (S59) → Int → List (S59) → Int → Int → Option (Bool)
 | 0, _, _, _, _, _ => none
 | k + 1, x0, x1, x7, x8, x9 => if x9 < x8 then (if 0 ≤ x9 then (if x9 < (x7.length : Int) then ((impl_within.f ((rd_T59 x7 x9).f0) 0 (wrap64 (x1 - 1))).bind fun t373 => (if t373 = true then (if ((rd_T59 x7 x9).f1) = 1 then (impl_areTurns.l0 k x0 x1 x7 x8 (wrap64 (x9 + 1))) else (if ((rd_T59 x7 x9).f1) = (-1) then (impl_areTurns.l0 k x0 x1 x7 x8 (wrap64 (x9 + 1))) else (some false))) else (some false))) else (none)) else (none)) else (some (decide ((x0.length : Int) ≤ 200)))
def impl_areTurns.f (k : Nat) (l0 : List (S59)) (a1 : Int) : Option (Bool) := impl_areTurns.l0 k l0 a1 l0 (l0.length : Int) 0
theorem impl_areTurns.mono_l : ∀ k, (∀ y0 y1 y2 y3 y4, LeO (impl_areTurns.l0 k y0 y1 y2 y3 y4) (impl_areTurns.l0 (k + 1) y0 y1 y2 y3 y4))
 | 0 => fun _ _ _ _ _ r h => by simp [impl_areTurns.l0] at h
 | k + 1 => by
  have ih0 := impl_areTurns.mono_l k
  ·intro y0 y1 y2 y3 y4
   unfold impl_areTurns.l0
   repeat' first
   | (with_reducible first | exact ih0 _ _ _ _ _ | exact LeO.refl _ | exact LeO.none _ | refine LeO.ite ?_ ?_ | refine LeO.bind ?_ (fun _ => ?_))
   | exact ih0 _ _ _ _ _
   | exact LeO.none _
   | refine LeO.ite ?_ ?_
   | refine LeO.bind ?_ (fun _ => ?_)
theorem impl_areTurns.mono : ∀ a0 a1 k, LeO (impl_areTurns.f k a0 a1) (impl_areTurns.f (k + 1) a0 a1) := by
 intro a0 a1 k
 have ih0 := impl_areTurns.mono_l k
 unfold impl_areTurns.f
 repeat' first
   | (with_reducible first | exact ih0 _ _ _ _ _ | exact LeO.refl _ | exact LeO.none _ | refine LeO.ite ?_ ?_ | refine LeO.bind ?_ (fun _ => ?_))
   | exact ih0 _ _ _ _ _
   | exact LeO.none _
   | refine LeO.ite ?_ ?_
   | refine LeO.bind ?_ (fun _ => ?_)
theorem impl_areTurns.calls (k : Nat) (A0 : Option Addr) (c0 : Nat) (l0 : List (S59)) (a1 : Int) (r : Bool) (w : World) (hr0 : Kd.C k59 w A0 l0.length l0) (hc0 : l0.length ≤ c0) (h : impl_areTurns.f k l0 a1 = some r) :
  Calls Tryz.prog 42 #[.slice A0 l0.length c0, .int .i64 a1] w fun e w' => e = .returned (.bool r) ∧ Below w.heap.size w w' := by
 have hu59 := Tryz.underlying59
 have HR0 := Aside0.mk hr0
 have HC0 := Aside0.mk hc0
 clear hr0 hc0
 have HB := Aside0.mk (Below.refl w.heap.size w)
 have H := h
 unfold impl_areTurns.f at H
 clear h
 have H' := Aside0.mk H
 clear H
 go_enter Tryz.func42, Tryz.ntmps42
 go_wp2
 go_loopg [9] k (fun kq v9 w' => ∃ (x9_1 : Int), v9 = .int .i64 x9_1 ∧ Aside0 (impl_areTurns.l0 kq l0 a1 l0 (l0.length : Int) x9_1 = some r) ∧ Aside0 (kq ≤ k) ∧ Aside0 (Below w.heap.size w w'))
 case atStart => exact ⟨(0), fR, H', ⟨Nat.le_refl _⟩, ⟨bB⟩⟩
 case round =>
  clear H'
  try clear p2
  obtain ⟨x9_1, rfl, HA, HK1, HB⟩ := hrel
  cases gk with
  | zero => exact absurd HA.out (by simp [impl_areTurns.l0])
  | succ k1 =>
   have H := HA.out
   clear HA
   simp only [impl_areTurns.l0] at H
   by_cases c3 : x9_1 < (l0.length : Int)
   ·rw [if_pos c3] at H
    have c3b0 : decide (x9_1 < (l0.length : Int)) = true := decide_eq_true c3
    clear c3
    replace H := nz H; obtain ⟨c4, H⟩ := H
    have c4b0 : decide (0 ≤ x9_1) = true := decide_eq_true c4
    clear c4
    replace H := nz H; obtain ⟨c5, H⟩ := H
    have c5b0 : decide (x9_1 < (l0.length : Int)) = true := decide_eq_true c5
    clear c5
    replace H := Option.bind_eq_some_iff.mp H
    obtain ⟨t373, A60, H⟩ := H
    (try dsimp only at H)
    have A6 := Aside0.mk A60
    clear A60
    by_cases c7 : t373 = true
    ·subst c7
     replace H := zt H
     by_cases c8 : ((rd_T59 l0 x9_1).f1) = 1
     ·rw [if_pos c8] at H
      have c8b0 : (((rd_T59 l0 x9_1).f1) == 1) = true := beq_iff_eq.mpr c8
      have c8b1 : (((rd_T59 l0 x9_1).f1) != 1) = false := bne_eq_false_iff_eq.mpr c8
      clear c8
      have H' := Aside0.mk H
      clear H
      have p371 : 0 ≤ (x9_1 : Int) := oD
      have q371 : x9_1 < (l0.length : Int) := oD
      obtain ⟨ad371, e371, hx371_0, hx371_1⟩ := at_T59 HR0.out x9_1 p371 q371
      cases e371
      replace hx371_0 := (HB.out.cell (World.block_lt_of_cell? w _ hx371_0)).trans hx371_0
      replace hx371_1 := (HB.out.cell (World.block_lt_of_cell? w _ hx371_1)).trans hx371_1
      replace p371 := eq_true p371
      replace q371 := eq_true q371
      go_wp2_with (first | ((with_reducible refine gate_dst (N := 6) rfl ?_); refine box_event ?hg (N := 6) ?hd (cs := #[.int .i64 0, .int .i64 0]) (t := 59) ?hr ?_; (case hd => rfl); (case hg => rfl); (case hr => first | (go_simp; done) | (go_simp; rfl)); intro gb372 hg w9 hbox hb; have BK372 := Aside0.mk (hbox); have GW372 : Aside0 (w.heap.size ≤ gb372) := gW hg; have GE372 := GW372; replace HB := Aside0.mk (below_step bB hb); clear hb hbox hg; have hcz10_0 := cZ BK372 0 (.int .i64 0); have hcz10_1 := cZ BK372 1 (.int .i64 0); have hfz10_0 := blk_frozen BK372.out 0; have hfz10_1 := blk_frozen BK372.out 1) | ((with_reducible refine gate_callee (f := 64) rfl ?_); refine goesL_ (some 17) rfl rfl Tryz.func64 (by kernel_rfl) rfl #[.int .i64 ((rd_T59 l0 x9_1).f0), .int .i64 0, .int .i64 (wrap64 (a1 - 1))] rfl lM ?_; (with_reducible refine (impl_within.calls ((rd_T59 l0 x9_1).f0) 0 (wrap64 (a1 - 1)) true _ A6.out).mono ?_); rintro e w' ⟨rfl, ⟨nd, rfl⟩⟩; refine ⟨_, rfl, ?_⟩))
      go_roundg k1
      case measure => have := HK1.out; omega
      case rel => exact ⟨(wrap64 (x9_1 + 1)), fR, H', ⟨by have := HK1.out; omega⟩, ⟨bG⟩⟩
     ·rw [if_neg c8] at H
      have c8b0 : (((rd_T59 l0 x9_1).f1) == 1) = false := beq_eq_false_iff_ne.mpr c8
      have c8b1 : (((rd_T59 l0 x9_1).f1) != 1) = true := bne_iff_ne.mpr c8
      by_cases c11 : ((rd_T59 l0 x9_1).f1) = (-1)
      ·rw [if_pos c11] at H
       have c11b0 : (((rd_T59 l0 x9_1).f1) == (-1)) = true := beq_iff_eq.mpr c11
       have c11b1 : (((rd_T59 l0 x9_1).f1) != (-1)) = false := bne_eq_false_iff_eq.mpr c11
       clear c11
       have H' := Aside0.mk H
       clear H
       have p371 : 0 ≤ (x9_1 : Int) := oD
       have q371 : x9_1 < (l0.length : Int) := oD
       obtain ⟨ad371, e371, hx371_0, hx371_1⟩ := at_T59 HR0.out x9_1 p371 q371
       cases e371
       replace hx371_0 := (HB.out.cell (World.block_lt_of_cell? w _ hx371_0)).trans hx371_0
       replace hx371_1 := (HB.out.cell (World.block_lt_of_cell? w _ hx371_1)).trans hx371_1
       replace p371 := eq_true p371
       replace q371 := eq_true q371
       go_wp2_with (first | ((with_reducible refine gate_dst (N := 6) rfl ?_); refine box_event ?hg (N := 6) ?hd (cs := #[.int .i64 0, .int .i64 0]) (t := 59) ?hr ?_; (case hd => rfl); (case hg => rfl); (case hr => first | (go_simp; done) | (go_simp; rfl)); intro gb372 hg w12 hbox hb; have BK372 := Aside0.mk (hbox); have GW372 : Aside0 (w.heap.size ≤ gb372) := gW hg; have GE372 := GW372; replace HB := Aside0.mk (below_step bB hb); clear hb hbox hg; have hcz13_0 := cZ BK372 0 (.int .i64 0); have hcz13_1 := cZ BK372 1 (.int .i64 0); have hfz13_0 := blk_frozen BK372.out 0; have hfz13_1 := blk_frozen BK372.out 1) | ((with_reducible refine gate_callee (f := 64) rfl ?_); refine goesL_ (some 17) rfl rfl Tryz.func64 (by kernel_rfl) rfl #[.int .i64 ((rd_T59 l0 x9_1).f0), .int .i64 0, .int .i64 (wrap64 (a1 - 1))] rfl lM ?_; (with_reducible refine (impl_within.calls ((rd_T59 l0 x9_1).f0) 0 (wrap64 (a1 - 1)) true _ A6.out).mono ?_); rintro e w' ⟨rfl, ⟨nd, rfl⟩⟩; refine ⟨_, rfl, ?_⟩))
       go_roundg k1
       case measure => have := HK1.out; omega
       case rel => exact ⟨(wrap64 (x9_1 + 1)), fR, H', ⟨by have := HK1.out; omega⟩, ⟨bG⟩⟩
      ·rw [if_neg c11] at H
       have c11b0 : (((rd_T59 l0 x9_1).f1) == (-1)) = false := beq_eq_false_iff_ne.mpr c11
       have c11b1 : (((rd_T59 l0 x9_1).f1) != (-1)) = true := bne_iff_ne.mpr c11
       obtain rfl := Option.some.inj H
       have p371 : 0 ≤ (x9_1 : Int) := oD
       have q371 : x9_1 < (l0.length : Int) := oD
       obtain ⟨ad371, e371, hx371_0, hx371_1⟩ := at_T59 HR0.out x9_1 p371 q371
       cases e371
       replace hx371_0 := (HB.out.cell (World.block_lt_of_cell? w _ hx371_0)).trans hx371_0
       replace hx371_1 := (HB.out.cell (World.block_lt_of_cell? w _ hx371_1)).trans hx371_1
       replace p371 := eq_true p371
       replace q371 := eq_true q371
       go_wp2_with (first | ((with_reducible refine gate_dst (N := 6) rfl ?_); refine box_event ?hg (N := 6) ?hd (cs := #[.int .i64 0, .int .i64 0]) (t := 59) ?hr ?_; (case hd => rfl); (case hg => rfl); (case hr => first | (go_simp; done) | (go_simp; rfl)); intro gb372 hg w14 hbox hb; have BK372 := Aside0.mk (hbox); have GW372 : Aside0 (w.heap.size ≤ gb372) := gW hg; have GE372 := GW372; replace HB := Aside0.mk (below_step bB hb); clear hb hbox hg; have hcz15_0 := cZ BK372 0 (.int .i64 0); have hcz15_1 := cZ BK372 1 (.int .i64 0); have hfz15_0 := blk_frozen BK372.out 0; have hfz15_1 := blk_frozen BK372.out 1) | ((with_reducible refine gate_callee (f := 64) rfl ?_); refine goesL_ (some 17) rfl rfl Tryz.func64 (by kernel_rfl) rfl #[.int .i64 ((rd_T59 l0 x9_1).f0), .int .i64 0, .int .i64 (wrap64 (a1 - 1))] rfl lM ?_; (with_reducible refine (impl_within.calls ((rd_T59 l0 x9_1).f0) 0 (wrap64 (a1 - 1)) true _ A6.out).mono ?_); rintro e w' ⟨rfl, ⟨nd, rfl⟩⟩; refine ⟨_, rfl, ?_⟩))
       go_ret
       exact ⟨rE, bG⟩
    ·replace c7 := Bool.eq_false_iff.mpr c7
     subst c7
     replace H := zf H
     obtain rfl := Option.some.inj H
     have p371 : 0 ≤ (x9_1 : Int) := oD
     have q371 : x9_1 < (l0.length : Int) := oD
     obtain ⟨ad371, e371, hx371_0, hx371_1⟩ := at_T59 HR0.out x9_1 p371 q371
     cases e371
     replace hx371_0 := (HB.out.cell (World.block_lt_of_cell? w _ hx371_0)).trans hx371_0
     replace hx371_1 := (HB.out.cell (World.block_lt_of_cell? w _ hx371_1)).trans hx371_1
     replace p371 := eq_true p371
     replace q371 := eq_true q371
     go_wp2_with (first | ((with_reducible refine gate_dst (N := 6) rfl ?_); refine box_event ?hg (N := 6) ?hd (cs := #[.int .i64 0, .int .i64 0]) (t := 59) ?hr ?_; (case hd => rfl); (case hg => rfl); (case hr => first | (go_simp; done) | (go_simp; rfl)); intro gb372 hg w16 hbox hb; have BK372 := Aside0.mk (hbox); have GW372 : Aside0 (w.heap.size ≤ gb372) := gW hg; have GE372 := GW372; replace HB := Aside0.mk (below_step bB hb); clear hb hbox hg; have hcz17_0 := cZ BK372 0 (.int .i64 0); have hcz17_1 := cZ BK372 1 (.int .i64 0); have hfz17_0 := blk_frozen BK372.out 0; have hfz17_1 := blk_frozen BK372.out 1) | ((with_reducible refine gate_callee (f := 64) rfl ?_); refine goesL_ (some 17) rfl rfl Tryz.func64 (by kernel_rfl) rfl #[.int .i64 ((rd_T59 l0 x9_1).f0), .int .i64 0, .int .i64 (wrap64 (a1 - 1))] rfl lM ?_; (with_reducible refine (impl_within.calls ((rd_T59 l0 x9_1).f0) 0 (wrap64 (a1 - 1)) false _ A6.out).mono ?_); rintro e w' ⟨rfl, ⟨nd, rfl⟩⟩; refine ⟨_, rfl, ?_⟩))
     go_ret
     exact ⟨rE, bG⟩
   ·rw [if_neg c3] at H
    have c3b0 : decide (x9_1 < (l0.length : Int)) = false := decide_eq_false c3
    clear c3
    obtain rfl := Option.some.inj H
    go_wp2
    go_ret
    exact ⟨rE, bB⟩

/-! ### impl_TurnWheels: function 15 -/
mutual
def impl_TurnWheels.j0 : Nat → ByteArray → List (S59) → Bool → Int → Int → Option (ByteArray × Bool)
 | 0, _, _, _, _, _ => none
 | k + 1, x1, x2, x21, x375000, x375001 => if x21 = true then (some ((⟨#[]⟩ : ByteArray), false)) else (impl_TurnWheels.l0 k x1 x2 (x2.length : Int) 0 x375000 x375001)
def impl_TurnWheels.l0 : Nat → ByteArray → List (S59) → Int → Int → Int → Int → Option (ByteArray × Bool)
 | 0, _, _, _, _, _, _ => none
 | k + 1, x1, x22, x23, x24, x375000, x375001 => if x24 < x23 then (if 0 ≤ x24 then (if x24 < (x22.length : Int) then ((impl_Lock_turned.f k x375000 x375001 x1 ((rd_T59 x22 x24).f0) ((rd_T59 x22 x24).f1)).bind fun t382 => (impl_TurnWheels.l0 k t382 x22 x23 (wrap64 (x24 + 1)) x375000 x375001)) else (none)) else (none)) else (some (x1, true))
end
def impl_TurnWheels.f (k : Nat) (a0_0 : Int) (a0_1 : Int) (a1 : ByteArray) (l2 : List (S59)) : Option (ByteArray × Bool) := (impl_has.f k a0_0 a0_1 (([a1] : List ByteArray))).bind fun t378 => (if t378 = true then ((impl_areTurns.f k l2 a0_0).bind fun t379 => (impl_TurnWheels.j0 k a1 l2 (!t379) a0_0 a0_1)) else (impl_TurnWheels.j0 k a1 l2 true a0_0 a0_1))
theorem impl_TurnWheels.mono_l : ∀ k, (∀ y0 y1 y2 y3 y4, LeO (impl_TurnWheels.j0 k y0 y1 y2 y3 y4) (impl_TurnWheels.j0 (k + 1) y0 y1 y2 y3 y4)) ∧ (∀ y0 y1 y2 y3 y4 y5, LeO (impl_TurnWheels.l0 k y0 y1 y2 y3 y4 y5) (impl_TurnWheels.l0 (k + 1) y0 y1 y2 y3 y4 y5))
 | 0 => ⟨fun _ _ _ _ _ r h => by simp [impl_TurnWheels.j0] at h, fun _ _ _ _ _ _ r h => by simp [impl_TurnWheels.l0] at h⟩
 | k + 1 => by
  obtain ⟨ih0, ih1⟩ := impl_TurnWheels.mono_l k
  refine ⟨?_, ?_⟩
  intro y0 y1 y2 y3 y4; unfold impl_TurnWheels.j0; rotate_left
  intro y0 y1 y2 y3 y4 y5; unfold impl_TurnWheels.l0; rotate_left
  all_goals repeat' first
  | (with_reducible first | exact ih0 _ _ _ _ _ | exact ih1 _ _ _ _ _ _ | exact impl_Lock_turned.mono _ _ _ _ _ _ | exact impl_areTurns.mono _ _ _ | exact impl_has.mono _ _ _ _ | exact LeO.refl _ | exact LeO.none _ | refine LeO.ite ?_ ?_ | refine LeO.bind ?_ (fun _ => ?_))
  | exact ih0 _ _ _ _ _
  | exact ih1 _ _ _ _ _ _
  | exact impl_Lock_turned.mono _ _ _ _ _ _
  | exact impl_areTurns.mono _ _ _
  | exact impl_has.mono _ _ _ _
  | exact LeO.none _
  | refine LeO.ite ?_ ?_
  | refine LeO.bind ?_ (fun _ => ?_)
theorem impl_TurnWheels.mono : ∀ a0 a1 a2 a3 k, LeO (impl_TurnWheels.f k a0 a1 a2 a3) (impl_TurnWheels.f (k + 1) a0 a1 a2 a3) := by
 intro a0 a1 a2 a3 k
 obtain ⟨ih0, ih1⟩ := impl_TurnWheels.mono_l k
 unfold impl_TurnWheels.f
 repeat' first
   | (with_reducible first | exact ih0 _ _ _ _ _ | exact ih1 _ _ _ _ _ _ | exact impl_Lock_turned.mono _ _ _ _ _ _ | exact impl_areTurns.mono _ _ _ | exact impl_has.mono _ _ _ _ | exact LeO.refl _ | exact LeO.none _ | refine LeO.ite ?_ ?_ | refine LeO.bind ?_ (fun _ => ?_))
   | exact ih0 _ _ _ _ _
   | exact ih1 _ _ _ _ _ _
   | exact impl_Lock_turned.mono _ _ _ _ _ _
   | exact impl_areTurns.mono _ _ _
   | exact impl_has.mono _ _ _ _
   | exact LeO.none _
   | refine LeO.ite ?_ ?_
   | refine LeO.bind ?_ (fun _ => ?_)
theorem impl_TurnWheels.calls (k : Nat) (a0_0 : Int) (a0_1 : Int) (a1 : ByteArray) (A2 : Option Addr) (c2 : Nat) (l2 : List (S59)) (r1 : ByteArray) (r2 : Bool) (w : World) (hr2 : Kd.C k59 w A2 l2.length l2) (hc2 : l2.length ≤ c2) (h : impl_TurnWheels.f k a0_0 a0_1 a1 l2 = some (r1, r2)) :
  Calls Tryz.prog 15 #[.agg #[.int .i64 a0_0, .int .i64 a0_1], .string a1, .slice A2 l2.length c2] w fun e w' => e = .returned (.tuple #[.string r1, .bool r2]) ∧ Below w.heap.size w w' := by
 have hu25 := Tryz.underlying25
 have hu59 := Tryz.underlying59
 have HR2 := Aside0.mk hr2
 have HC2 := Aside0.mk hc2
 clear hr2 hc2
 have HB := Aside0.mk (Below.refl w.heap.size w)
 have H := h
 unfold impl_TurnWheels.f at H
 clear h
 have HC4 := Aside0.mk H
 clear H
 go_enter Tryz.func15, Tryz.ntmps15
 go_upto_region 1 with (first | ((with_reducible refine gate_dst (N := 3) rfl ?_); refine box_event ?hg (N := 3) ?hd (cs := #[.int .i64 a0_0, .int .i64 a0_1]) (t := 25) ?hr ?_; (case hd => rfl); (case hg => rfl); (case hr => first | (go_simp; done) | (go_simp; rfl)); intro gb374 hg w5 hbox hb; have BK374 := Aside0.mk (hbox); have GW374 : Aside0 (w.heap.size ≤ gb374) := gW hg; have GE374 := GW374; replace HB := Aside0.mk (below_step bB hb); clear hb hbox hg))
 (try simp only [Act.put, List.setIfInBounds_toArray, List.set_cons_zero, List.set_cons_succ])
 go_cut [21] (fun v21 wc => ∃ (kq : Nat) (x21_3 : Bool), v21 = .bool x21_3 ∧ Aside0 (impl_TurnWheels.j0 kq a1 l2 x21_3 a0_0 a0_1 = some (r1, r2)) ∧ Aside0 (kq ≤ k) ∧ Aside0 (wc.heap[gb374]? = some (.cells #[.int .i64 a0_0, .int .i64 a0_1] 25 (0, 0))) ∧ Aside0 (Below w.heap.size w wc))
 case first =>
  have H := HC4.out
  clear HC4
  obtain ⟨y375, hy375⟩ : ∃ y_ : List ByteArray, y_ = (([a1] : List ByteArray)) := ⟨_, rfl⟩
  replace H : ((impl_has.f k a0_0 a0_1 y375).bind fun t378 => (if t378 = true then ((impl_areTurns.f k l2 a0_0).bind fun t379 => (impl_TurnWheels.j0 k a1 l2 (!t379) a0_0 a0_1)) else (impl_TurnWheels.j0 k a1 l2 true a0_0 a0_1))) = some (r1, r2) := hZ hy375 H
  have Ny375 := Aside0.mk hy375
  clear hy375
  replace H := Option.bind_eq_some_iff.mp H
  obtain ⟨t378, A60, H⟩ := H
  (try dsimp only at H)
  have A6 := Aside0.mk A60
  clear A60
  by_cases c7 : t378 = true
  ·subst c7
   replace H := zt H
   replace H := Option.bind_eq_some_iff.mp H
   obtain ⟨t379, A80, H⟩ := H
   (try dsimp only at H)
   have A8 := Aside0.mk A80
   clear A80
   have H' := Aside0.mk H
   clear H
   have hcz9_0 := cZ BK374 0 (.int .i64 a0_0)
   have hcz9_1 := cZ BK374 1 (.int .i64 a0_1)
   have hfz9_0 := blk_frozen BK374.out 0
   have hfz9_1 := blk_frozen BK374.out 1
   go_wp2_with (first | ((with_reducible refine gate_dst (N := 12) rfl ?_); refine Kd.R_lit Kd.string _ 9 ?hg (N := 12) ?hd (xs := ([a1] : List ByteArray)) (inner := [.string a1]) (ok := fun _ => True) (okp := fun _ => True) ?hr ?hp (fun _ hk => hk) trivial (Below.refl _ _) (Nat.le_refl _) (by simp) ?_; (case hd => rfl); (case hg => rfl); (case hr => first | (go_simp; done) | (go_simp; rfl)); (case hp => exact (Reps.one (show Kd.M Kd.string _ _ _ a1 [.string a1] from rfl) (Reps.none _ _))); intro v376 w10 ho11 hb hg_ hnew_; clear hg_ hnew_; (first | rw [← Ny375.out] at ho11 | (simp only [Int.reduceToNat] at ho11; rw [← Ny375.out] at ho11)); have HO377 := Aside0.mk (Kd.R_lower ho11 (below_size bG)); replace BK374 := bW BK374 hb; replace HB := Aside0.mk (below_step bG hb); clear hb ho11; obtain ⟨Ao12, co12, eo12⟩ := Kd.R_slice HO377.out; subst eo12) | ((with_reducible refine gate_callee (f := 41) rfl ?_); refine goesL_ (some 13) rfl rfl Tryz.func41 (by kernel_rfl) rfl #[.agg #[.int .i64 a0_0, .int .i64 a0_1], .slice Ao12 y375.length co12] rfl lM ?_; (with_reducible refine (impl_has.calls k a0_0 a0_1 _ _ y375 true _ ?side1 ?side2 A6.out).mono ?_); (case side1 => exact cS ((Kd.R_reads' HO377.out).2.2)); (case side2 => exact (Kd.R_reads' HO377.out).2.1); rintro e w13 ⟨rfl, hb⟩; refine ⟨_, rfl, ?_⟩; replace HO377 := Aside0.mk (Kd.R_below (kR HO377) hb); replace BK374 := bW BK374 hb; replace HB := Aside0.mk (below_step bG hb); (try clear hb); have hcz14_0 := cZ BK374 0 (.int .i64 a0_0); have hcz14_1 := cZ BK374 1 (.int .i64 a0_1); have hfz14_0 := blk_frozen BK374.out 0; have hfz14_1 := blk_frozen BK374.out 1) | (go_at_call 42; (with_reducible refine (impl_areTurns.calls k _ _ l2 a0_0 t379 _ ?side1 ?side2 A8.out).mono ?_); (case side1 => exact cS (Kd.C_below HR2.out HB.out)); (case side2 => exact HC2.out); rintro e w15 ⟨rfl, hb⟩; replace HO377 := Aside0.mk (Kd.R_below (kR HO377) hb); replace BK374 := bW BK374 hb; replace HB := Aside0.mk (below_step bG hb); (try clear hb)))
   go_meet
   case rel => exact ⟨_, (!t379), fR, H', ⟨by first | omega | exact Nat.le_refl _⟩, ⟨bK⟩, ⟨bG⟩⟩
  ·replace c7 := Bool.eq_false_iff.mpr c7
   subst c7
   replace H := zf H
   have H' := Aside0.mk H
   clear H
   have hcz16_0 := cZ BK374 0 (.int .i64 a0_0)
   have hcz16_1 := cZ BK374 1 (.int .i64 a0_1)
   have hfz16_0 := blk_frozen BK374.out 0
   have hfz16_1 := blk_frozen BK374.out 1
   go_wp2_with (first | ((with_reducible refine gate_dst (N := 12) rfl ?_); refine Kd.R_lit Kd.string _ 9 ?hg (N := 12) ?hd (xs := ([a1] : List ByteArray)) (inner := [.string a1]) (ok := fun _ => True) (okp := fun _ => True) ?hr ?hp (fun _ hk => hk) trivial (Below.refl _ _) (Nat.le_refl _) (by simp) ?_; (case hd => rfl); (case hg => rfl); (case hr => first | (go_simp; done) | (go_simp; rfl)); (case hp => exact (Reps.one (show Kd.M Kd.string _ _ _ a1 [.string a1] from rfl) (Reps.none _ _))); intro v376 w17 ho18 hb hg_ hnew_; clear hg_ hnew_; (first | rw [← Ny375.out] at ho18 | (simp only [Int.reduceToNat] at ho18; rw [← Ny375.out] at ho18)); have HO377 := Aside0.mk (Kd.R_lower ho18 (below_size bG)); replace BK374 := bW BK374 hb; replace HB := Aside0.mk (below_step bG hb); clear hb ho18; obtain ⟨Ao19, co19, eo19⟩ := Kd.R_slice HO377.out; subst eo19) | ((with_reducible refine gate_callee (f := 41) rfl ?_); refine goesL_ (some 13) rfl rfl Tryz.func41 (by kernel_rfl) rfl #[.agg #[.int .i64 a0_0, .int .i64 a0_1], .slice Ao19 y375.length co19] rfl lM ?_; (with_reducible refine (impl_has.calls k a0_0 a0_1 _ _ y375 false _ ?side1 ?side2 A6.out).mono ?_); (case side1 => exact cS ((Kd.R_reads' HO377.out).2.2)); (case side2 => exact (Kd.R_reads' HO377.out).2.1); rintro e w20 ⟨rfl, hb⟩; refine ⟨_, rfl, ?_⟩; replace HO377 := Aside0.mk (Kd.R_below (kR HO377) hb); replace BK374 := bW BK374 hb; replace HB := Aside0.mk (below_step bG hb); (try clear hb)))
   go_meet
   case rel => exact ⟨_, (true), fR, H', ⟨by first | omega | exact Nat.le_refl _⟩, ⟨bK⟩, ⟨bG⟩⟩
 case rest =>
  clear HC4
  try clear c1
  try clear c2
  try clear p2
  try clear c4
  try clear c7
  try clear c15
  try clear hcz14_0
  try clear hcz14_1
  try clear hcz16_0
  try clear hcz16_1
  try clear hcz9_0
  try clear hcz9_1
  try clear hfz14_0
  try clear hfz14_1
  try clear hfz16_0
  try clear hfz16_1
  try clear hfz9_0
  try clear hfz9_1
  obtain ⟨kq, x21_3, rfl, HA, HJ3, BK374, HB⟩ := hcut
  cases kq with
  | zero => exact absurd HA.out (by simp [impl_TurnWheels.j0])
  | succ kj3 =>
   have H := HA.out
   clear HA
   simp only [impl_TurnWheels.j0] at H
   by_cases c21 : x21_3 = true
   ·subst c21
    replace H := zt H
    simp only [Option.some.injEq, Prod.mk.injEq] at H
    obtain ⟨rfl, rfl⟩ := H
    go_wp2
    go_ret2
    exact ⟨rE, bG⟩
   ·replace c21 := Bool.eq_false_iff.mpr c21
    subst c21
    replace H := zf H
    have H' := Aside0.mk H
    clear H
    go_wp2
    go_loopg [1, 24] kj3 (fun kq v1 v24 w' => ∃ (x1_2 : ByteArray) (x24_2 : Int), v1 = .string x1_2 ∧ v24 = .int .i64 x24_2 ∧ Aside0 (impl_TurnWheels.l0 kq x1_2 l2 (l2.length : Int) x24_2 a0_0 a0_1 = some (r1, r2)) ∧ Aside0 (kq ≤ kj3) ∧ Aside0 (w'.heap[gb374]? = some (.cells #[.int .i64 a0_0, .int .i64 a0_1] 25 (0, 0))) ∧ Aside0 (Below w.heap.size w w'))
    case atStart => exact ⟨(a1), (0), fR, fR, H', ⟨Nat.le_refl _⟩, ⟨bK⟩, ⟨bG⟩⟩
    case round =>
     clear H'
     try clear c1
     try clear c2
     try clear p2
     try clear c4
     try clear c7
     try clear c15
     try clear c21
     try clear hcz14_0
     try clear hcz14_1
     try clear hcz16_0
     try clear hcz16_1
     try clear hcz9_0
     try clear hcz9_1
     try clear hfz14_0
     try clear hfz14_1
     try clear hfz16_0
     try clear hfz16_1
     try clear hfz9_0
     try clear hfz9_1
     try clear p2
     obtain ⟨x1_2, x24_2, rfl, rfl, HA, HK2, BK374, HB⟩ := hrel
     cases gk with
     | zero => exact absurd HA.out (by simp [impl_TurnWheels.l0])
     | succ k2 =>
      have H := HA.out
      clear HA
      simp only [impl_TurnWheels.l0] at H
      by_cases c22 : x24_2 < (l2.length : Int)
      ·rw [if_pos c22] at H
       have c22b0 : decide (x24_2 < (l2.length : Int)) = true := decide_eq_true c22
       clear c22
       replace H := nz H; obtain ⟨c23, H⟩ := H
       have c23b0 : decide (0 ≤ x24_2) = true := decide_eq_true c23
       clear c23
       replace H := nz H; obtain ⟨c24, H⟩ := H
       have c24b0 : decide (x24_2 < (l2.length : Int)) = true := decide_eq_true c24
       clear c24
       replace H := Option.bind_eq_some_iff.mp H
       obtain ⟨t382, A250, H⟩ := H
       (try dsimp only at H)
       have A25 := Aside0.mk A250
       clear A250
       have H' := Aside0.mk H
       clear H
       have p380 : 0 ≤ (x24_2 : Int) := oD
       have q380 : x24_2 < (l2.length : Int) := oD
       obtain ⟨ad380, e380, hx380_0, hx380_1⟩ := at_T59 HR2.out x24_2 p380 q380
       cases e380
       replace hx380_0 := (HB.out.cell (World.block_lt_of_cell? w _ hx380_0)).trans hx380_0
       replace hx380_1 := (HB.out.cell (World.block_lt_of_cell? w _ hx380_1)).trans hx380_1
       replace p380 := eq_true p380
       replace q380 := eq_true q380
       go_wp2_with (first | ((with_reducible refine gate_dst (N := 9) rfl ?_); refine box_event ?hg (N := 9) ?hd (cs := #[.int .i64 0, .int .i64 0]) (t := 59) ?hr ?_; (case hd => rfl); (case hg => rfl); (case hr => first | (go_simp; done) | (go_simp; rfl)); intro gb381 hg w26 hbox hb; have n0_ := Aside0.mk (blk_below (g := gb374) (o := .cells #[.int .i64 a0_0, .int .i64 a0_1] 25 (0, 0)) bK hb); have n1_ := Aside0.mk (below_step bG hb); have n2_ := Aside0.mk (hbox); have n3_ := Aside0.mk ((by rw [hg]; exact (below_size bG) : w.heap.size ≤ gb381)); have n4_ := Aside0.mk ((by rw [hg]; exact (below_size bG) : w.heap.size ≤ gb381)); have n5_ := Aside0.mk ((by rw [hg]; exact Nat.ne_of_lt (blk_lt (g := gb374) (o := .cells #[.int .i64 a0_0, .int .i64 a0_1] 25 (0, 0)) bK) : gb374 ≠ gb381)); have n6_ := Aside0.mk ((by rw [hg]; exact Nat.ne_of_gt (blk_lt (g := gb374) (o := .cells #[.int .i64 a0_0, .int .i64 a0_1] 25 (0, 0)) bK) : gb381 ≠ gb374)); clear BK374; clear HB; have BK374 := n0_; have HB := n1_; have BK381 := n2_; have GW381 := n3_; have GE381 := n4_; have NB374_381 := n5_; have NB381_374 := n6_; clear n0_ n1_ n2_ n3_ n4_ n5_ n6_; clear hb hbox hg; have hnb27 := NB381_374.out; have hnc27 := NB374_381.out; have hcz28_0 := cZ BK381 0 (.int .i64 0); have hcz28_1 := cZ BK381 1 (.int .i64 0); have hfz28_0 := blk_frozen BK381.out 0; have hfz28_1 := blk_frozen BK381.out 1; have hcz29_0 := cZ BK374 0 (.int .i64 a0_0); have hcz29_1 := cZ BK374 1 (.int .i64 a0_1); have hfz29_0 := blk_frozen BK374.out 0; have hfz29_1 := blk_frozen BK374.out 1) | ((with_reducible refine gate_callee (f := 43) rfl ?_); refine goesL_ (some 31) rfl rfl Tryz.func43 (by kernel_rfl) rfl #[.agg #[.int .i64 a0_0, .int .i64 a0_1], .string x1_2, .agg #[.int .i64 ((rd_T59 l2 x24_2).f0), .int .i64 ((rd_T59 l2 x24_2).f1)]] rfl lM ?_; (with_reducible refine (impl_Lock_turned.calls k2 a0_0 a0_1 x1_2 ((rd_T59 l2 x24_2).f0) ((rd_T59 l2 x24_2).f1) t382 _ A25.out).mono ?_); rintro e w30 ⟨rfl, hb⟩; refine ⟨_, rfl, ?_⟩; replace BK374 := Aside0.mk (blk_below (g := gb374) (o := .cells #[.int .i64 a0_0, .int .i64 a0_1] 25 (0, 0)) (by (with_reducible repeat (first | refine blk_drewN ?_ _ | refine blk_drew ?_ | refine blk_alloc ?_ _)); refine blk_far ?_ NB374_381.out _; (with_reducible repeat (first | refine blk_drewN ?_ _ | refine blk_drew ?_ | refine blk_alloc ?_ _)); refine blk_far ?_ NB374_381.out _; (with_reducible repeat (first | refine blk_drewN ?_ _ | refine blk_drew ?_ | refine blk_alloc ?_ _)); exact BK374.out) hb); replace BK381 := Aside0.mk (blk_below (g := gb381) (o := .cells #[.int .i64 ((rd_T59 l2 x24_2).f0), .int .i64 ((rd_T59 l2 x24_2).f1)] 59 (0, 0)) (by (with_reducible repeat (first | refine blk_drewN ?_ _ | refine blk_drew ?_ | refine blk_alloc ?_ _)); refine blk_put (cs := #[.int .i64 ((rd_T59 l2 x24_2).f0), .int .i64 0]) ?_ 1 _ rfl; (with_reducible repeat (first | refine blk_drewN ?_ _ | refine blk_drew ?_ | refine blk_alloc ?_ _)); refine blk_put (cs := #[.int .i64 0, .int .i64 0]) ?_ 0 _ rfl; (with_reducible repeat (first | refine blk_drewN ?_ _ | refine blk_drew ?_ | refine blk_alloc ?_ _)); exact BK381.out) hb); replace HB := Aside0.mk (below_step bG hb); (try clear hb)))
       go_roundg k2
       case measure => have := HJ3.out; have := HK2.out; omega
       case rel => exact ⟨(t382), (wrap64 (x24_2 + 1)), fR, fR, H', ⟨by have := HJ3.out; have := HK2.out; omega⟩, ⟨bK⟩, ⟨bG⟩⟩
      ·rw [if_neg c22] at H
       have c22b0 : decide (x24_2 < (l2.length : Int)) = false := decide_eq_false c22
       clear c22
       simp only [Option.some.injEq, Prod.mk.injEq] at H
       obtain ⟨rfl, rfl⟩ := H
       go_wp2
       go_ret2
       exact ⟨rE, bG⟩

/-! ### impl_CountCodes: function 16 -/
def impl_CountCodes.f (k : Nat) (a0_0 : Int) (a0_1 : Int) : Option (Int × Bool) := (impl_IsLock.f a0_0 a0_1).bind fun t384 => (if t384 = true then ((impl_Lock_count.f k a0_0 a0_1).bind fun t385 => (some (t385, true))) else (some (0, false)))
theorem impl_CountCodes.mono : ∀ a0 a1 k, LeO (impl_CountCodes.f k a0 a1) (impl_CountCodes.f (k + 1) a0 a1) := by
 intro a0 a1 k
 unfold impl_CountCodes.f
 repeat' first
   | (with_reducible first | exact impl_Lock_count.mono _ _ _ | exact LeO.refl _ | exact LeO.none _ | refine LeO.ite ?_ ?_ | refine LeO.bind ?_ (fun _ => ?_))
   | exact impl_Lock_count.mono _ _ _
   | exact LeO.none _
   | refine LeO.ite ?_ ?_
   | refine LeO.bind ?_ (fun _ => ?_)
theorem impl_CountCodes.calls (k : Nat) (a0_0 : Int) (a0_1 : Int) (r1 : Int) (r2 : Bool) (w : World) (h : impl_CountCodes.f k a0_0 a0_1 = some (r1, r2)) :
  Calls Tryz.prog 16 #[.agg #[.int .i64 a0_0, .int .i64 a0_1]] w fun e w' => e = .returned (.tuple #[.int .i64 r1, .bool r2]) ∧ Below w.heap.size w w' := by
 have hu25 := Tryz.underlying25
 have HB := Aside0.mk (Below.refl w.heap.size w)
 have H := h
 unfold impl_CountCodes.f at H
 clear h
 replace H := Option.bind_eq_some_iff.mp H
 obtain ⟨t384, A20, H⟩ := H
 (try dsimp only at H)
 have A2 := Aside0.mk A20
 clear A20
 by_cases c3 : t384 = true
 ·subst c3
  replace H := zt H
  replace H := Option.bind_eq_some_iff.mp H
  obtain ⟨t385, A40, H⟩ := H
  (try dsimp only at H)
  have A4 := Aside0.mk A40
  clear A40
  simp only [Option.some.injEq, Prod.mk.injEq] at H
  obtain ⟨rfl, rfl⟩ := H
  go_enter Tryz.func16, Tryz.ntmps16
  go_wp2_with (first | ((with_reducible refine gate_dst (N := 1) rfl ?_); refine box_event ?hg (N := 1) ?hd (cs := #[.int .i64 a0_0, .int .i64 a0_1]) (t := 25) ?hr ?_; (case hd => rfl); (case hg => rfl); (case hr => first | (go_simp; done) | (go_simp; rfl)); intro gb383 hg w5 hbox hb; have BK383 := Aside0.mk (hbox); have GW383 : Aside0 (w.heap.size ≤ gb383) := gW hg; have GE383 := GW383; replace HB := Aside0.mk (below_step bB hb); clear hb hbox hg; have hcz6_0 := cZ BK383 0 (.int .i64 a0_0); have hcz6_1 := cZ BK383 1 (.int .i64 a0_1); have hfz6_0 := blk_frozen BK383.out 0; have hfz6_1 := blk_frozen BK383.out 1) | ((with_reducible refine gate_callee (f := 33) rfl ?_); refine goesL_ (some 5) rfl rfl Tryz.func33 (by kernel_rfl) rfl #[.agg #[.int .i64 a0_0, .int .i64 a0_1]] rfl lM ?_; (with_reducible refine (impl_IsLock.calls a0_0 a0_1 true _ A2.out).mono ?_); rintro e w7 ⟨rfl, hb⟩; refine ⟨_, rfl, ?_⟩; replace BK383 := bW BK383 hb; replace HB := Aside0.mk (below_step bG hb); (try clear hb); have hcz8_0 := cZ BK383 0 (.int .i64 a0_0); have hcz8_1 := cZ BK383 1 (.int .i64 a0_1); have hfz8_0 := blk_frozen BK383.out 0; have hfz8_1 := blk_frozen BK383.out 1) | ((with_reducible refine gate_callee (f := 44) rfl ?_); refine goesL_ (some 8) rfl rfl Tryz.func44 (by kernel_rfl) rfl #[.agg #[.int .i64 a0_0, .int .i64 a0_1]] rfl lM ?_; (with_reducible refine (impl_Lock_count.calls k a0_0 a0_1 t385 _ A4.out).mono ?_); rintro e w9 ⟨rfl, hb⟩; refine ⟨_, rfl, ?_⟩; replace BK383 := bW BK383 hb; replace HB := Aside0.mk (below_step bG hb); (try clear hb)))
  go_ret2
  exact ⟨rE, bG⟩
 ·replace c3 := Bool.eq_false_iff.mpr c3
  subst c3
  replace H := zf H
  simp only [Option.some.injEq, Prod.mk.injEq] at H
  obtain ⟨rfl, rfl⟩ := H
  go_enter Tryz.func16, Tryz.ntmps16
  go_wp2_with (first | ((with_reducible refine gate_dst (N := 1) rfl ?_); refine box_event ?hg (N := 1) ?hd (cs := #[.int .i64 a0_0, .int .i64 a0_1]) (t := 25) ?hr ?_; (case hd => rfl); (case hg => rfl); (case hr => first | (go_simp; done) | (go_simp; rfl)); intro gb383 hg w10 hbox hb; have BK383 := Aside0.mk (hbox); have GW383 : Aside0 (w.heap.size ≤ gb383) := gW hg; have GE383 := GW383; replace HB := Aside0.mk (below_step bB hb); clear hb hbox hg; have hcz11_0 := cZ BK383 0 (.int .i64 a0_0); have hcz11_1 := cZ BK383 1 (.int .i64 a0_1); have hfz11_0 := blk_frozen BK383.out 0; have hfz11_1 := blk_frozen BK383.out 1) | ((with_reducible refine gate_callee (f := 33) rfl ?_); refine goesL_ (some 5) rfl rfl Tryz.func33 (by kernel_rfl) rfl #[.agg #[.int .i64 a0_0, .int .i64 a0_1]] rfl lM ?_; (with_reducible refine (impl_IsLock.calls a0_0 a0_1 false _ A2.out).mono ?_); rintro e w12 ⟨rfl, hb⟩; refine ⟨_, rfl, ?_⟩; replace BK383 := bW BK383 hb; replace HB := Aside0.mk (below_step bG hb); (try clear hb)))
  go_ret2
  exact ⟨rE, bG⟩

/-! ### impl_isSmall: function 46 -/
def impl_isSmall.f (k : Nat) (a0_0 : Int) (a0_1 : Int) (a1 : Int) : Option (Bool) := (impl_IsLock.f a0_0 a0_1).bind fun t387 => (if t387 = true then ((impl_Lock_count.f k a0_0 a0_1).bind fun t388 => (some (decide (t388 ≤ a1)))) else (some false))
theorem impl_isSmall.mono : ∀ a0 a1 a2 k, LeO (impl_isSmall.f k a0 a1 a2) (impl_isSmall.f (k + 1) a0 a1 a2) := by
 intro a0 a1 a2 k
 unfold impl_isSmall.f
 repeat' first
   | (with_reducible first | exact impl_Lock_count.mono _ _ _ | exact LeO.refl _ | exact LeO.none _ | refine LeO.ite ?_ ?_ | refine LeO.bind ?_ (fun _ => ?_))
   | exact impl_Lock_count.mono _ _ _
   | exact LeO.none _
   | refine LeO.ite ?_ ?_
   | refine LeO.bind ?_ (fun _ => ?_)
theorem impl_isSmall.calls (k : Nat) (a0_0 : Int) (a0_1 : Int) (a1 : Int) (r : Bool) (w : World) (h : impl_isSmall.f k a0_0 a0_1 a1 = some r) :
  Calls Tryz.prog 46 #[.agg #[.int .i64 a0_0, .int .i64 a0_1], .int .i64 a1] w fun e w' => e = .returned (.bool r) ∧ Below w.heap.size w w' := by
 have hu25 := Tryz.underlying25
 have HB := Aside0.mk (Below.refl w.heap.size w)
 have H := h
 unfold impl_isSmall.f at H
 clear h
 replace H := Option.bind_eq_some_iff.mp H
 obtain ⟨t387, A30, H⟩ := H
 (try dsimp only at H)
 have A3 := Aside0.mk A30
 clear A30
 by_cases c4 : t387 = true
 ·subst c4
  replace H := zt H
  replace H := Option.bind_eq_some_iff.mp H
  obtain ⟨t388, A50, H⟩ := H
  (try dsimp only at H)
  have A5 := Aside0.mk A50
  clear A50
  obtain rfl := Option.some.inj H
  go_enter Tryz.func46, Tryz.ntmps46
  go_wp2_with (first | ((with_reducible refine gate_dst (N := 2) rfl ?_); refine box_event ?hg (N := 2) ?hd (cs := #[.int .i64 a0_0, .int .i64 a0_1]) (t := 25) ?hr ?_; (case hd => rfl); (case hg => rfl); (case hr => first | (go_simp; done) | (go_simp; rfl)); intro gb386 hg w6 hbox hb; have BK386 := Aside0.mk (hbox); have GW386 : Aside0 (w.heap.size ≤ gb386) := gW hg; have GE386 := GW386; replace HB := Aside0.mk (below_step bB hb); clear hb hbox hg; have hcz7_0 := cZ BK386 0 (.int .i64 a0_0); have hcz7_1 := cZ BK386 1 (.int .i64 a0_1); have hfz7_0 := blk_frozen BK386.out 0; have hfz7_1 := blk_frozen BK386.out 1) | ((with_reducible refine gate_callee (f := 33) rfl ?_); refine goesL_ (some 6) rfl rfl Tryz.func33 (by kernel_rfl) rfl #[.agg #[.int .i64 a0_0, .int .i64 a0_1]] rfl lM ?_; (with_reducible refine (impl_IsLock.calls a0_0 a0_1 true _ A3.out).mono ?_); rintro e w8 ⟨rfl, hb⟩; refine ⟨_, rfl, ?_⟩; replace BK386 := bW BK386 hb; replace HB := Aside0.mk (below_step bG hb); (try clear hb); have hcz9_0 := cZ BK386 0 (.int .i64 a0_0); have hcz9_1 := cZ BK386 1 (.int .i64 a0_1); have hfz9_0 := blk_frozen BK386.out 0; have hfz9_1 := blk_frozen BK386.out 1) | (go_at_call 44; (with_reducible refine (impl_Lock_count.calls k a0_0 a0_1 t388 _ A5.out).mono ?_); rintro e w10 ⟨rfl, hb⟩; replace BK386 := bW BK386 hb; replace HB := Aside0.mk (below_step bG hb); (try clear hb)))
  go_ret
  exact ⟨rE, bG⟩
 ·replace c4 := Bool.eq_false_iff.mpr c4
  subst c4
  replace H := zf H
  obtain rfl := Option.some.inj H
  go_enter Tryz.func46, Tryz.ntmps46
  go_wp2_with (first | ((with_reducible refine gate_dst (N := 2) rfl ?_); refine box_event ?hg (N := 2) ?hd (cs := #[.int .i64 a0_0, .int .i64 a0_1]) (t := 25) ?hr ?_; (case hd => rfl); (case hg => rfl); (case hr => first | (go_simp; done) | (go_simp; rfl)); intro gb386 hg w11 hbox hb; have BK386 := Aside0.mk (hbox); have GW386 : Aside0 (w.heap.size ≤ gb386) := gW hg; have GE386 := GW386; replace HB := Aside0.mk (below_step bB hb); clear hb hbox hg; have hcz12_0 := cZ BK386 0 (.int .i64 a0_0); have hcz12_1 := cZ BK386 1 (.int .i64 a0_1); have hfz12_0 := blk_frozen BK386.out 0; have hfz12_1 := blk_frozen BK386.out 1) | ((with_reducible refine gate_callee (f := 33) rfl ?_); refine goesL_ (some 6) rfl rfl Tryz.func33 (by kernel_rfl) rfl #[.agg #[.int .i64 a0_0, .int .i64 a0_1]] rfl lM ?_; (with_reducible refine (impl_IsLock.calls a0_0 a0_1 false _ A3.out).mono ?_); rintro e w13 ⟨rfl, hb⟩; refine ⟨_, rfl, ?_⟩; replace BK386 := bW BK386 hb; replace HB := Aside0.mk (below_step bG hb); (try clear hb)))
  go_ret
  exact ⟨rE, bG⟩

/-! ### impl_Lock_code: function 51 -/
def impl_Lock_code.f (k : Nat) (a0_0 a0_1 a1 : Int) : Option ByteArray := if (1 ≤ a0_0 ∧ a0_0 ≤ 6) ∧ (2 ≤ a0_1 ∧ a0_1 ≤ 10) ∧ 0 ≤ a1 ∧ a1 ≤ 10000000 then impl_text.f k (dcode a0_1.toNat a0_0.toNat a1.toNat) else none
theorem impl_Lock_code.mono : ∀ a0 a1 a2 k, LeO (impl_Lock_code.f k a0 a1 a2) (impl_Lock_code.f (k + 1) a0 a1 a2) := by
 intro a0 a1 a2 k
 unfold impl_Lock_code.f
 exact LeO.ite (impl_text.mono _ _) (LeO.none _)
theorem impl_Lock_code.calls (K : Nat) (a0_0 a0_1 a1 : Int) (r : ByteArray) (w : World) (h : impl_Lock_code.f K a0_0 a0_1 a1 = some r) :
  Calls Tryz.prog 51 #[.agg #[.int .i64 a0_0, .int .i64 a0_1], .int .i64 a1] w fun e w' => e = .returned (.string r) ∧ Below w.heap.size w w' := by
 unfold impl_Lock_code.f at h
 by_cases hA : (1 ≤ a0_0 ∧ a0_0 ≤ 6) ∧ (2 ≤ a0_1 ∧ a0_1 ≤ 10) ∧ 0 ≤ a1 ∧ a1 ≤ 10000000
 case neg => rw [if_neg hA] at h; exact absurd h (by simp)
 rw [if_pos hA] at h
 obtain ⟨⟨hk1, hk2⟩, ⟨hm1, hm2⟩, hn1, hn2⟩ := hA
 obtain ⟨k, rfl⟩ := Int.eq_ofNat_of_zero_le (show 0 ≤ a0_0 by omega)
 obtain ⟨m, rfl⟩ := Int.eq_ofNat_of_zero_le (show 0 ≤ a0_1 by omega)
 obtain ⟨n, rfl⟩ := Int.eq_ofNat_of_zero_le hn1
 simp only [Int.toNat_natCast] at h
 have htx : ∀ (A : Option Addr) (c : Nat) (W : World), k ≤ c → Kd.C (Kd.int .i64) W A k (dcode m k n) → Calls Tryz.prog 73 #[.slice A k c] W fun e w' => e = .returned (.string r) ∧ Below W.heap.size W w' := fun A c W h1 h2 => by
  have := impl_text.calls K A c (dcode m k n) r W (by rw [dcode_len]; exact h2) (by rw [dcode_len]; exact h1) h
  rw [dcode_len] at this
  exact this
 clear h
 have hw0 : (w.alloc (.cells #[.int .i64 (k : Int), .int .i64 (m : Int)] 25)).heap.size = w.heap.size + 1 := World.size_alloc _ _
 have hb0 : Below w.heap.size w (w.alloc (.cells #[.int .i64 (k : Int), .int .i64 (m : Int)] 25)) := below_alloc (Below.refl _ _) _
 have hbc : (w.alloc (.cells #[.int .i64 (k : Int), .int .i64 (m : Int)] 25)).cell? ⟨w.heap.size, 0, none⟩ = some (.int .i64 k) ∧ (w.alloc (.cells #[.int .i64 (k : Int), .int .i64 (m : Int)] 25)).cell? ⟨w.heap.size, 1, none⟩ = some (.int .i64 m) := ⟨by simp, by simp⟩
 obtain ⟨W0, hW0⟩ : ∃ W0, W0 = w.alloc (.cells #[.int .i64 (k : Int), .int .i64 (m : Int)] 25) := ⟨_, rfl⟩
 rw [← hW0] at hw0 hb0 hbc
 have HW0 := Aside0.mk hW0
 have HS0 := Aside0.mk hw0
 have HB0 := Aside0.mk hb0
 have HC0 := Aside0.mk hbc
 clear hw0 hb0 hbc hW0
 have hin3 : (Tryz.prog.info? 3).map (fun i => (i.zero, i.size, i.bytes)) = some (some (.int .i64 0), 1, 8) := by kernel_rfl
 go_enter Tryz.func51, Tryz.ntmps51
 go_wp2_with ((with_reducible refine gate_dst (N := 9) rfl ?_); go_loud (rw [← HW0.out]; refine Kd.R_make (Kd.int .i64) (w0 := W0) (w.heap.size + 1) 3 rfl (N := 9) rfl 74 _ _ rfl (k : Int) rfl rfl Tryz.underlying74 (.int .i64 0) 8 hin3 rfl (by decide) (by omega) 0 (ok := fun _ => True) (okp := fun _ => True) rfl (fun _ hk => hk) trivial (by omega) (by omega) (Below.refl _ _) (by rw [HS0.out]; exact Nat.le_refl _) ?_; intro v1 w1 ho hb hg_ hnew_; have HO := Aside0.mk ho; have HB := Aside0.mk hb; have hc0 := (hb.cell (p := ⟨w.heap.size, 0, none⟩) (by simp)).trans HC0.out.1; clear ho hb hg_ hnew_))
 obtain ⟨b, cp, rfl, hb1, hb2, _⟩ := Kd.R_form HO.out (by simp; omega)
 have ho := HO.out
 rw [Int.toNat_natCast, List.length_replicate] at *
 have HO1 := Aside0.mk ho
 have hkc := (Kd.R_reads' ho).2.1
 have HB1 := Aside0.mk hb1
 clear ho HO hb1 hb2 hc0
 go_loopg [1, 6] k (fun gg v6 v8 wx => ∃ (j q : Nat) (i : Int) (tail : List Int), v6 = .int .i64 (q : Int) ∧ v8 = .int .i64 i ∧ Aside0 (i = (j : Int) - 1) ∧ j ≤ k ∧ j ≤ gg ∧ Aside0 (tail.length + j = k) ∧ Aside0 (dcode m j q ++ tail = dcode m k n) ∧ q ≤ 10000000 ∧
  Aside0 (Kd.R (Kd.int .i64) 3 wx (w.heap.size + 1) (fun _ => True) (.slice (some ⟨b, 0, none⟩) k cp) (List.replicate j 0 ++ tail)) ∧ Aside0 (Below (w.heap.size + 1) W0 wx))
 case atStart => exact ⟨k, n, (k : Int) - 1, [], rfl, rfl, ⟨rfl⟩, by omega, by omega, ⟨by simp⟩, ⟨by simp⟩, by omega, ⟨by simpa using HO1.out⟩, HB⟩
 case round =>
  obtain ⟨j, q, i, tail, rfl, rfl, HIdx, hj, hgj, HL, HC, hq, HR, HBx⟩ := hrel
  cases j with
  | zero =>
   obtain rfl : i = -1 := by have := HIdx.out; omega
   have hrow : Kd.R (Kd.int .i64) 3 wr (w.heap.size + 1) (fun _ => True) (.slice (some ⟨b, 0, none⟩) k cp) (dcode m k n) := by
    have := HR.out
    have e := HC.out
    simp only [dcode, List.nil_append] at e
    simp only [List.replicate_zero, List.nil_append, e] at this
    exact this
   have hcl := htx (some ⟨b, 0, none⟩) cp wr hkc (by have h9 := (Kd.R_reads' hrow).2.2; rw [dcode_len] at h9; exact h9)
   clear htx hrow HR HC HL
   go_wp2_with (go_at_call 73; refine hcl.mono ?_; rintro e w' ⟨rfl, hb⟩; have HB9 := Aside0.mk hb; clear hb)
   go_ret
   exact ⟨rfl, HB0.out.trans ((HBx.out.trans (HB9.out.mono (by have := HBx.out.size; have := HS0.out; omega))).mono (by omega))⟩
  | succ j =>
   obtain rfl : i = (j : Int) := by have := HIdx.out; omega
   obtain ⟨hcell, hfr⟩ := Kd.R_celln (0 : Int) HR.out (j : Int) (by omega) (by omega)
   rw [Int.toNat_natCast] at hcell hfr
   have hjk : (j : Int) < (k : Int) := by omega
   have hcm := (HBx.out.cell (p := ⟨w.heap.size, 1, none⟩) (by simp)).trans HC0.out.2
   have hcm2 : (wr.setCell ⟨b, j, none⟩ (.int .i64 ((q : Int) % (m : Int)))).cell? ⟨w.heap.size, 1, none⟩ = some (.int .i64 m) := (World.cell?_setCell_other _ _ _ _ (fun e_ => by have e2_ : b = w.heap.size := congrArg Addr.block e_; have := HB1.out; omega)).trans hcm
   have hqd : wrap64 ((q : Int) / (m : Int)) = ((q / m : Nat) : Int) := by
    have h1 : q / m ≤ q := Nat.div_le_self q m
    have h2 : ((q / m : Nat) : Int) = (q : Int) / (m : Int) := Int.natCast_ediv q m
    rw [← h2]
    clear h2
    generalize q / m = z at h1
    unfold wrap64
    omega
   have HP2 := Aside0.mk (Kd.R_putn (enc := Value.int .i64) HR.out (j : Int) ((q : Int) % (m : Int)))
   go_wp2
   go_region
   go_wp2
   go_roundg j
   case measure => omega
   case rel =>
    refine ⟨j, q / m, (j : Int) - 1, ((q : Int) % (m : Int)) :: tail, by rw [hqd], rfl, ⟨rfl⟩, by omega, by omega, ⟨by have := HL.out; simp only [List.length_cons]; omega⟩, ⟨?_⟩, by have : q / m ≤ q := Nat.div_le_self q m; omega, ⟨?_⟩, ⟨?_⟩⟩
    ·have e := HC.out
     rw [dcode, List.append_assoc, Int.natCast_emod] at e
     exact e
    ·have e : (List.replicate (j + 1) (0 : Int) ++ tail).set ((j : Int)).toNat ((q : Int) % (m : Int)) = List.replicate j 0 ++ ((q : Int) % (m : Int)) :: tail := by
      rw [Int.toNat_natCast, List.replicate_succ', List.append_assoc, List.set_append_right _ _ (by simp)]
      simp
     have := Kd.R_drew HP2.out
     rw [e, Int.toNat_natCast] at this
     exact this
    ·exact below_drew (HBx.out.setCell HB1.out _)

/-! ### slices_Clone_string_string: function 76 -/
set_option maxHeartbeats 4000000 in
set_option maxRecDepth 100000 in
theorem cloneS_calls (A0 : Option Addr) (c0 : Nat) (l0 : List ByteArray) (w : World) (hr0 : Kd.C Kd.string w A0 l0.length l0) (hlen : l0.length ≤ 1000) :
  Calls Tryz.prog 76 #[.slice A0 l0.length c0] w fun e w' => ∃ v0_ : Value, e = .returned (v0_) ∧ Kd.R Kd.string 9 w' w.heap.size (fun _ => True) v0_ l0 ∧ Below w.heap.size w w' := by
 have hu33 := Tryz.underlying26
 have hin75 : (Tryz.prog.info? 9).map (fun i => (i.zero, i.size, i.bytes)) = some (some (.string ⟨#[]⟩), 1, 16) := by kernel_rfl
 have HIN := Aside0.mk hin75
 have HC := Aside0.mk hr0
 have HL := Aside0.mk hlen
 clear hin75 hr0 hlen
 cases A0 with
 | none =>
  have h0 : l0 = [] := by
   cases l0 with
   | nil => rfl
   | cons y ys =>
    obtain ⟨ad, e, _⟩ := Kd.at_string HC.out 0 (by omega) (by simp)
    exact absurd e (by simp)
  subst h0
  rw [List.length_nil]
  have hnil : ∀ W, (binOp .eql 26 (.slice none 0 c0) (.slice none 0 0)).run Tryz.prog W = .ok (.bool true) W := fun W => Lib.run_eql_slice_nil W _ _ none _ _ 0 0 hu33
  go_enter Tryz.func76, Tryz.ntmps76
  go_wp2
  go_ret
  exact ⟨_, rfl, Kd.R_nil _ _ _ _ _, Below.refl _ _⟩
 | some ad =>
  have hnil : ∀ W, (binOp .eql 26 (.slice (some ad) l0.length c0) (.slice none 0 0)).run Tryz.prog W = .ok (.bool false) W := fun W => Lib.run_eql_slice_nil W _ _ (some ad) _ _ 0 0 hu33
  have HO : Aside0 (Kd.R Kd.string 9 (w.alloc (.cells #[] 9)) w.heap.size (fun _ => True) (.slice (some ⟨w.heap.size, 0, none⟩) 0 0) []) := ⟨hw_R_lit Kd.string w 9 w.heap.size w.heap.size (xs := []) (inner := []) (okp := fun _ => False) rfl (Reps.none _ _) (fun _ hk => hk.elim) trivial (Nat.le_refl _) (by simp)⟩
  go_enter Tryz.func76, Tryz.ntmps76
  go_wp2_with ((with_reducible refine gate_builtin (b := .append) (xs := #[.tmp 5, .tmp 6]) rfl ?_); at_builtin; refine Kd.R_append_rows Kd.string (Rr := Kd.string.K (w.alloc (.cells #[] 9))) (w0 := w) w.heap.size rfl (.tmp 5) (.tmp 6) 26 9 (.string ⟨#[]⟩) 16 rfl Tryz.underlying26 HIN.out rfl (by decide) (by omega) (.slice (some ⟨w.heap.size, 0, none⟩) 0 0) [] l0 (some ad) l0.length c0 (fun _ => True) (fun _ => False) rfl rfl HO.out (Kd.C_alloc HC.out _) (fun _ _ h => h) (fun _ hk => hk.elim) (fun _ _ => trivial) (below_alloc (Below.refl _ _) _) (by simp only [World.size_alloc]; omega) (by have := HL.out; simp only [List.length_nil]; omega) ?_; intro v1 w1 ho hb hg hat; have HO1 := Aside0.mk ho; have HB1 := Aside0.mk hb; clear ho hb hg hat)
  go_ret
  exact ⟨_, rfl, HO1.out, HB1.out⟩


/-! ### cmp_isNaN_string: function 110 -/
def cmp_isNaN_string.f (a0 : ByteArray) : Option (Bool) := some (a0.toList != a0.toList)
theorem cmp_isNaN_string.calls (a0 : ByteArray) (r : Bool) (w : World) (h : cmp_isNaN_string.f a0 = some r) :
  Calls Tryz.prog 110 #[.string a0] w fun e w' => e = .returned (.bool r) ∧ Drawn0 w w' := by
 have H : (some (a0.toList != a0.toList)) = some r := h
 clear h
 obtain rfl := Option.some.inj H
 go_enter Tryz.func110, Tryz.ntmps110
 go_wp2
 go_ret
 exact ⟨fR, by repeat (first | exact Drawn0.refl _ | apply Drawn0.step)⟩

/-! ### cmp_Less_string: function 100 -/
def cmp_Less_string.f (a0 : ByteArray) (a1 : ByteArray) : Option (Bool) := (cmp_isNaN_string.f a0).bind fun t389 => (if t389 = true then ((cmp_isNaN_string.f a1).bind fun t390 => (if t390 = true then (some (Op.bytesLess a0.toList a1.toList)) else (some true))) else (some (Op.bytesLess a0.toList a1.toList)))
theorem cmp_Less_string.calls (a0 : ByteArray) (a1 : ByteArray) (r : Bool) (w : World) (h : cmp_Less_string.f a0 a1 = some r) :
  Calls Tryz.prog 100 #[.string a0, .string a1] w fun e w' => e = .returned (.bool r) ∧ Drawn0 w w' := by
 have H := h
 unfold cmp_Less_string.f at H
 clear h
 replace H := Option.bind_eq_some_iff.mp H
 obtain ⟨t389, A30, H⟩ := H
 (try dsimp only at H)
 have A3 := Aside0.mk A30
 clear A30
 by_cases c4 : t389 = true
 ·subst c4
  replace H := zt H
  replace H := Option.bind_eq_some_iff.mp H
  obtain ⟨t390, A50, H⟩ := H
  (try dsimp only at H)
  have A5 := Aside0.mk A50
  clear A50
  by_cases c6 : t390 = true
  ·subst c6
   replace H := zt H
   obtain rfl := Option.some.inj H
   go_enter Tryz.func100, Tryz.ntmps100
   go_wp2_with (first | ((with_reducible refine gate_callee (f := 110) rfl ?_); refine goesL_ (some 6) rfl rfl Tryz.func110 (by kernel_rfl) rfl #[.string a0] rfl lM ?_; (with_reducible refine (cmp_isNaN_string.calls a0 true _ A3.out).mono ?_); rintro e w' ⟨rfl, ⟨nd, rfl⟩⟩; refine ⟨_, rfl, ?_⟩) | (go_at_call 110; (with_reducible refine (cmp_isNaN_string.calls a1 true _ A5.out).mono ?_); rintro e w' ⟨rfl, ⟨nd, rfl⟩⟩))
   go_ret
   exact ⟨fR, by repeat (first | exact Drawn0.refl _ | apply Drawn0.step)⟩
  ·replace c6 := Bool.eq_false_iff.mpr c6
   subst c6
   replace H := zf H
   obtain rfl := Option.some.inj H
   go_enter Tryz.func100, Tryz.ntmps100
   go_wp2_with (first | ((with_reducible refine gate_callee (f := 110) rfl ?_); refine goesL_ (some 6) rfl rfl Tryz.func110 (by kernel_rfl) rfl #[.string a0] rfl lM ?_; (with_reducible refine (cmp_isNaN_string.calls a0 true _ A3.out).mono ?_); rintro e w' ⟨rfl, ⟨nd, rfl⟩⟩; refine ⟨_, rfl, ?_⟩) | (go_at_call 110; (with_reducible refine (cmp_isNaN_string.calls a1 false _ A5.out).mono ?_); rintro e w' ⟨rfl, ⟨nd, rfl⟩⟩))
   go_ret
   exact ⟨fR, by repeat (first | exact Drawn0.refl _ | apply Drawn0.step)⟩
 ·replace c4 := Bool.eq_false_iff.mpr c4
  subst c4
  replace H := zf H
  obtain rfl := Option.some.inj H
  go_enter Tryz.func100, Tryz.ntmps100
  go_wp2_with (first | ((with_reducible refine gate_callee (f := 110) rfl ?_); refine goesL_ (some 6) rfl rfl Tryz.func110 (by kernel_rfl) rfl #[.string a0] rfl lM ?_; (with_reducible refine (cmp_isNaN_string.calls a0 false _ A3.out).mono ?_); rintro e w' ⟨rfl, ⟨nd, rfl⟩⟩; refine ⟨_, rfl, ?_⟩))
  go_ret
  exact ⟨fR, by repeat (first | exact Drawn0.refl _ | apply Drawn0.step)⟩

end Go.Proofs.YthpmpkmdjpaemaaGreat.P
