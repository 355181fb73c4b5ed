-- Printed by hp.py, a program of this session: a machine's side of laws, out of the translation; Lean checks it.
import Derived.Test.YthpmpkmdjpaemaaGreatPx0
import Derived.Test.YthpmpkmdjpaemaaGreatPx1
import Derived.Test.YthpmpkmdjpaemaaGreatPx2
import Derived.Test.YthpmpkmdjpaemaaGreatPx5
import Derived.Test.YthpmpkmdjpaemaaGreatPx8
import Derived.Test.YthpmpkmdjpaemaaGreatPx11
namespace Go.Proofs.YthpmpkmdjpaemaaGreat.P
open Go.RowKit Go.Proofs.YthpmpkmdjpaemaaGreatW.PrintWords Go.Proofs.YthpmpkmdjpaemaaGreatW.PrintLast Go.Proofs.YthpmpkmdjpaemaaGreatW.PrintMore
attribute [local go_sem] max2_int min2_int max_two min_two max_three min_three max_four min_four   -- for this text's walks alone
set_option maxHeartbeats 8000000
set_option maxRecDepth 100000
set_option linter.unusedVariables false
set_option linter.unusedSimpArgs false

attribute [local go_sem high] eqA59
/-! ### spec_TurnsOfOrder: function 13 -/
mutual
def spec_TurnsOfOrder.j0 : Nat → List ByteArray → Bool → Int → Int → Option ((List (S59)) × Bool)
 | 0, _, _, _, _ => none
 | k + 1, x1, x16, x356000, x356001 => if x16 = true then (some (([] : List (S59)), false)) else (spec_TurnsOfOrder.l0 k x1 ([] : List (S59)) 1 x356000 x356001)
def spec_TurnsOfOrder.l0 : Nat → List ByteArray → List (S59) → Int → Int → Int → Option ((List (S59)) × Bool)
 | 0, _, _, _, _, _ => none
 | k + 1, x1, x6, x7, x356000, x356001 => if x7 < (x1.length : Int) then (if 0 ≤ (wrap64 (x7 - 1)) then (if (wrap64 (x7 - 1)) < (x1.length : Int) then (if 0 ≤ x7 then ((spec_orTurn.f k x356000 x356001 (rdOf ByteArray.empty x1 (wrap64 (x7 - 1))) (rdOf ByteArray.empty x1 x7)).bind fun bt360 => (if x6.length < 8796093022208 then (spec_TurnsOfOrder.l0 k x1 (x6 ++ [(⟨bt360.1, bt360.2⟩ : S59)]) (wrap64 (x7 + 1)) x356000 x356001) else (none))) else (none)) else (none)) else (none)) else (some (x6, true))
end
def spec_TurnsOfOrder.f (k : Nat) (a0_0 : Int) (a0_1 : Int) (l1 : List ByteArray) : Option ((List (S59)) × Bool) := (spec_whGood.f a0_0 a0_1).bind fun t356 => (if t356 = true then ((spec_orGood.f k a0_0 a0_1 l1).bind fun t357 => (spec_TurnsOfOrder.j0 k l1 (!t357) a0_0 a0_1)) else (spec_TurnsOfOrder.j0 k l1 true a0_0 a0_1))
theorem spec_TurnsOfOrder.mono_l : ∀ k, (∀ y0 y1 y2 y3, LeO (spec_TurnsOfOrder.j0 k y0 y1 y2 y3) (spec_TurnsOfOrder.j0 (k + 1) y0 y1 y2 y3)) ∧ (∀ y0 y1 y2 y3 y4, LeO (spec_TurnsOfOrder.l0 k y0 y1 y2 y3 y4) (spec_TurnsOfOrder.l0 (k + 1) y0 y1 y2 y3 y4))
 | 0 => ⟨fun _ _ _ _ r h => by simp [spec_TurnsOfOrder.j0] at h, fun _ _ _ _ _ r h => by simp [spec_TurnsOfOrder.l0] at h⟩
 | k + 1 => by
  obtain ⟨ih0, ih1⟩ := spec_TurnsOfOrder.mono_l k
  refine ⟨?_, ?_⟩
  intro y0 y1 y2 y3; unfold spec_TurnsOfOrder.j0; rotate_left
  intro y0 y1 y2 y3 y4; unfold spec_TurnsOfOrder.l0; rotate_left
  all_goals repeat' first
  | (with_reducible first | exact ih0 _ _ _ _ | exact ih1 _ _ _ _ _ | exact spec_orGood.mono _ _ _ _ | exact spec_orTurn.mono _ _ _ _ _ | exact LeO.refl _ | exact LeO.none _ | refine LeO.ite ?_ ?_ | refine LeO.bind ?_ (fun _ => ?_))
  | exact ih0 _ _ _ _
  | exact ih1 _ _ _ _ _
  | exact spec_orGood.mono _ _ _ _
  | exact spec_orTurn.mono _ _ _ _ _
  | exact LeO.none _
  | refine LeO.ite ?_ ?_
  | refine LeO.bind ?_ (fun _ => ?_)
theorem spec_TurnsOfOrder.mono : ∀ a0 a1 a2 k, LeO (spec_TurnsOfOrder.f k a0 a1 a2) (spec_TurnsOfOrder.f (k + 1) a0 a1 a2) := by
 intro a0 a1 a2 k
 obtain ⟨ih0, ih1⟩ := spec_TurnsOfOrder.mono_l k
 unfold spec_TurnsOfOrder.f
 repeat' first
   | (with_reducible first | exact ih0 _ _ _ _ | exact ih1 _ _ _ _ _ | exact spec_orGood.mono _ _ _ _ | exact spec_orTurn.mono _ _ _ _ _ | exact LeO.refl _ | exact LeO.none _ | refine LeO.ite ?_ ?_ | refine LeO.bind ?_ (fun _ => ?_))
   | exact ih0 _ _ _ _
   | exact ih1 _ _ _ _ _
   | exact spec_orGood.mono _ _ _ _
   | exact spec_orTurn.mono _ _ _ _ _
   | exact LeO.none _
   | refine LeO.ite ?_ ?_
   | refine LeO.bind ?_ (fun _ => ?_)
def spec_TurnsOfOrder.T7 : Bool × List (List Nat × List Nat) := (true, [([], []), ([], []), ([], []), ([], []), ([3], [3]), ([2, 4], [2, 4]), ([5], [5]), ([], []), ([], []), ([7, 8], [7, 8]), ([9], [9]), ([1, 6, 10], [1, 6, 10]), ([11], [11]), ([0, 12, 11], [0, 12]), ([13, 13, 0, 1, 2, 3, 4, 5, 6, 7, 8, 9, 10, 11, 12, 13], [0, 13])])
def spec_TurnsOfOrder.B7 : List Nat := [0, 0, 0, 0, 8, 28, 60, 0, 0, 384, 896, 2046, 4094, 8191, 16383]
theorem spec_TurnsOfOrder.tab7 : rtab .any (opsOf Tryz.f13 7) = spec_TurnsOfOrder.T7 := by kernel_rfl
theorem spec_TurnsOfOrder.bits7 : waitsOk spec_TurnsOfOrder.T7.2 spec_TurnsOfOrder.B7 = true := by kernel_rfl
theorem spec_TurnsOfOrder.calls (k : Nat) (a0_0 : Int) (a0_1 : Int) (A1 : Option Addr) (c1 : Nat) (l1 : List ByteArray) (r1 : List (S59)) (r2 : Bool) (w : World) (hr1 : Kd.C Kd.string w A1 l1.length l1) (hc1 : l1.length ≤ c1) (h : spec_TurnsOfOrder.f k a0_0 a0_1 l1 = some (r1, r2)) :
  Calls Tryz.prog 13 #[.agg #[.int .i64 a0_0, .int .i64 a0_1], .slice A1 l1.length c1] w fun e w' => ∃ v0_ : Value, e = .returned (.tuple #[v0_, .bool r2]) ∧ Kd.R k59 59 w' w.heap.size (fun _ => True) v0_ r1 ∧ Below w.heap.size w w' := by
 have hu25 := Tryz.underlying25
 have HR1 := Aside0.mk hr1
 have HC1 := Aside0.mk hc1
 clear hr1 hc1
 have HB := Aside0.mk (Below.refl w.heap.size w)
 have H := h
 unfold spec_TurnsOfOrder.f at H
 clear h
 have HC3 := Aside0.mk H
 clear H
 go_enter Tryz.func13, Tryz.ntmps13
 go_upto_region 1 with (first | ((with_reducible refine gate_dst (N := 2) rfl ?_); refine box_event ?hg (N := 2) ?hd (cs := #[.int .i64 a0_0, .int .i64 a0_1]) (t := 25) ?hr ?_; (case hd => rfl); (case hg => rfl); (case hr => first | (go_simp; done) | (go_simp; rfl)); intro gb355 hg w4 hbox hb; have BK355 := Aside0.mk (hbox); have GW355 : Aside0 (w.heap.size ≤ gb355) := gW hg; have GE355 := GW355; replace HB := Aside0.mk (below_step bB hb); clear hb hbox hg))
 (try simp only [Act.put, List.setIfInBounds_toArray, List.set_cons_zero, List.set_cons_succ])
 go_cut [16] (fun v16 wc => ∃ (kq : Nat) (x16_2 : Bool), v16 = .bool x16_2 ∧ Aside0 (spec_TurnsOfOrder.j0 kq l1 x16_2 a0_0 a0_1 = some (r1, r2)) ∧ Aside0 (kq ≤ k) ∧ Aside0 (wc.heap[gb355]? = some (.cells #[.int .i64 a0_0, .int .i64 a0_1] 25 (0, 0))) ∧ Aside0 (Below w.heap.size w wc))
 case first =>
  have H := HC3.out
  clear HC3
  replace H := Option.bind_eq_some_iff.mp H
  obtain ⟨t356, A50, H⟩ := H
  (try dsimp only at H)
  have A5 := Aside0.mk A50
  clear A50
  by_cases c6 : t356 = true
  ·subst c6
   replace H := zt H
   replace H := Option.bind_eq_some_iff.mp H
   obtain ⟨t357, A70, H⟩ := H
   (try dsimp only at H)
   have A7 := Aside0.mk A70
   clear A70
   have H' := Aside0.mk H
   clear H
   have hcz8_0 := cZ BK355 0 (.int .i64 a0_0)
   have hcz8_1 := cZ BK355 1 (.int .i64 a0_1)
   have hfz8_0 := blk_frozen BK355.out 0
   have hfz8_1 := blk_frozen BK355.out 1
   go_wp2_with (first | ((with_reducible refine gate_callee (f := 27) rfl ?_); refine goesL_ (some 9) rfl rfl Tryz.func27 (by kernel_rfl) rfl #[.agg #[.int .i64 a0_0, .int .i64 a0_1]] rfl lM ?_; (with_reducible refine (spec_whGood.calls a0_0 a0_1 true _ A5.out).mono ?_); rintro e w9 ⟨rfl, hb⟩; refine ⟨_, rfl, ?_⟩; replace BK355 := bW BK355 hb; replace HB := Aside0.mk (below_step bG hb); (try clear hb); have hcz10_0 := cZ BK355 0 (.int .i64 a0_0); have hcz10_1 := cZ BK355 1 (.int .i64 a0_1); have hfz10_0 := blk_frozen BK355.out 0; have hfz10_1 := blk_frozen BK355.out 1) | (go_at_call 35; (with_reducible refine (spec_orGood.calls k a0_0 a0_1 _ _ l1 t357 _ ?side1 ?side2 A7.out).mono ?_); (case side1 => exact cS (Kd.C_below HR1.out HB.out)); (case side2 => exact HC1.out); rintro e w11 ⟨rfl, hb⟩; replace BK355 := bW BK355 hb; replace HB := Aside0.mk (below_step bG hb); (try clear hb)))
   go_meet
   case rel => exact ⟨_, (!t357), fR, H', ⟨by first | omega | exact Nat.le_refl _⟩, ⟨bK⟩, ⟨bG⟩⟩
  ·replace c6 := Bool.eq_false_iff.mpr c6
   subst c6
   replace H := zf H
   have H' := Aside0.mk H
   clear H
   have hcz12_0 := cZ BK355 0 (.int .i64 a0_0)
   have hcz12_1 := cZ BK355 1 (.int .i64 a0_1)
   have hfz12_0 := blk_frozen BK355.out 0
   have hfz12_1 := blk_frozen BK355.out 1
   go_wp2_with (first | ((with_reducible refine gate_callee (f := 27) rfl ?_); refine goesL_ (some 9) rfl rfl Tryz.func27 (by kernel_rfl) rfl #[.agg #[.int .i64 a0_0, .int .i64 a0_1]] rfl lM ?_; (with_reducible refine (spec_whGood.calls a0_0 a0_1 false _ A5.out).mono ?_); rintro e w13 ⟨rfl, hb⟩; refine ⟨_, rfl, ?_⟩; replace BK355 := bW BK355 hb; replace HB := Aside0.mk (below_step bG hb); (try clear hb)))
   go_meet
   case rel => exact ⟨_, (true), fR, H', ⟨by first | omega | exact Nat.le_refl _⟩, ⟨bK⟩, ⟨bG⟩⟩
 case rest =>
  clear HC3
  try clear c1
  try clear c2
  try clear p2
  try clear c6
  try clear c13
  try clear hcz10_0
  try clear hcz10_1
  try clear hcz12_0
  try clear hcz12_1
  try clear hcz8_0
  try clear hcz8_1
  try clear hfz10_0
  try clear hfz10_1
  try clear hfz12_0
  try clear hfz12_1
  try clear hfz8_0
  try clear hfz8_1
  obtain ⟨kq, x16_2, rfl, HA, HJ2, BK355, HB⟩ := hcut
  cases kq with
  | zero => exact absurd HA.out (by simp [spec_TurnsOfOrder.j0])
  | succ kj2 =>
   have H := HA.out
   clear HA
   simp only [spec_TurnsOfOrder.j0] at H
   by_cases c14 : x16_2 = true
   ·subst c14
    replace H := zt H
    simp only [Option.some.injEq, Prod.mk.injEq] at H
    obtain ⟨rfl, rfl⟩ := H
    go_wp2
    go_ret2
    exact ⟨_, rE, by first | exact Kd.R_nil _ _ _ _ _ | exact Kd.N_nil _ _ _ _ _ | exact Kd.V_nil _ _ _ _ _ | exact Kd.Q_nil _ _ _ _ _ | exact Kd.S_nil _ _ _ _ _, bG⟩
   ·replace c14 := Bool.eq_false_iff.mpr c14
    subst c14
    replace H := zf H
    have H' := Aside0.mk H
    clear H
    go_wp2
    go_loopg [6, 7] kj2 (fun kq v6 v7 w' => ∃ (x6_2 : List (S59)) (x7_2 : Int), v7 = .int .i64 x7_2 ∧ Aside0 (spec_TurnsOfOrder.l0 kq l1 x6_2 x7_2 a0_0 a0_1 = some (r1, r2)) ∧ Aside0 (kq ≤ kj2) ∧ Aside0 (Kd.R k59 59 w' w.heap.size (fun _ => True) v6 x6_2) ∧ Aside0 (w'.heap[gb355]? = some (.cells #[.int .i64 a0_0, .int .i64 a0_1] 25 (0, 0))) ∧ Aside0 (Below w.heap.size w w'))
    case atStart => exact ⟨(([] : List (S59))), (1), fR, H', ⟨Nat.le_refl _⟩, ⟨by first | exact Kd.R_nil _ _ _ _ _ | exact Kd.N_nil _ _ _ _ _ | exact Kd.V_nil _ _ _ _ _ | exact Kd.Q_nil _ _ _ _ _ | exact Kd.S_nil _ _ _ _ _⟩, ⟨bK⟩, ⟨bG⟩⟩
    case round =>
     clear H'
     try clear c1
     try clear c2
     try clear p2
     try clear c6
     try clear c13
     try clear c14
     try clear hcz10_0
     try clear hcz10_1
     try clear hcz12_0
     try clear hcz12_1
     try clear hcz8_0
     try clear hcz8_1
     try clear hfz10_0
     try clear hfz10_1
     try clear hfz12_0
     try clear hfz12_1
     try clear hfz8_0
     try clear hfz8_1
     try clear p2
     obtain ⟨x6_2, x7_2, rfl, HA, HK2, HO_6, BK355, HB⟩ := hrel
     cases gk with
     | zero => exact absurd HA.out (by simp [spec_TurnsOfOrder.l0])
     | succ k2 =>
      have H := HA.out
      clear HA
      simp only [spec_TurnsOfOrder.l0] at H
      by_cases c15 : x7_2 < (l1.length : Int)
      ·rw [if_pos c15] at H
       have c15b0 : decide (x7_2 < (l1.length : Int)) = true := decide_eq_true c15
       clear c15
       obtain ⟨ji16, hji16⟩ : ∃ j_ : Int, (wrap64 (x7_2 - 1)) = j_ := ⟨_, rfl⟩
       replace H : (if 0 ≤ (ji16) then (if (ji16) < (l1.length : Int) then (if 0 ≤ x7_2 then ((spec_orTurn.f k2 a0_0 a0_1 (rdOf ByteArray.empty l1 (ji16)) (rdOf ByteArray.empty l1 x7_2)).bind fun bt360 => (if x6_2.length < 8796093022208 then (spec_TurnsOfOrder.l0 k2 l1 (x6_2 ++ [(⟨bt360.1, bt360.2⟩ : S59)]) (wrap64 (x7_2 + 1)) a0_0 a0_1) else (none))) else (none)) else (none)) else (none)) = some (r1, r2) := by first | (rw [hji16] at H; exact H) | (simp only [hji16] at H ⊢; exact H)
       have hji16w : (IntKind.i64.wrap (x7_2 - 1)) = ji16 := (i64_w _).trans hji16
       replace H := nz H; obtain ⟨c17, H⟩ := H
       have c17b0 : decide (0 ≤ (ji16)) = true := decide_eq_true c17
       clear c17
       replace H := nz H; obtain ⟨c18, H⟩ := H
       have c18b0 : decide ((ji16) < (l1.length : Int)) = true := decide_eq_true c18
       clear c18
       replace H := nz H; obtain ⟨c19, H⟩ := H
       have c19b0 : decide (0 ≤ x7_2) = true := decide_eq_true c19
       clear c19
       replace H := Option.bind_eq_some_iff.mp H
       obtain ⟨⟨t360, t361⟩, A200, H⟩ := H
       (try dsimp only at H)
       have A20 := Aside0.mk A200
       clear A200
       replace H := nz H; obtain ⟨c21, H⟩ := H
       have LMc21 := Aside0.mk c21
       clear c21
       obtain ⟨y362, hy362⟩ : ∃ y_ : List (S59), y_ = (x6_2 ++ [(⟨t360, t361⟩ : S59)]) := ⟨_, rfl⟩
       replace H : (spec_TurnsOfOrder.l0 k2 l1 y362 (wrap64 (x7_2 + 1)) a0_0 a0_1) = some (r1, r2) := hZ hy362 H
       have Ny362 := Aside0.mk hy362
       clear hy362
       have H' := Aside0.mk H
       clear H
       try go_wp2
       have n0_ := Aside0.mk (Kd.R_drew HO_6.out)
       have n1_ := Aside0.mk (blk_drew BK355.out)
       have n2_ := Aside0.mk (below_drew1 HB.out)
       clear HO_6
       clear BK355
       clear HB
       have HO_6 := n0_
       have BK355 := n1_
       have HB := n2_
       clear n0_ n1_ n2_
       have p358 : 0 ≤ ((ji16) : Int) := oD
       have q358 : (ji16) < (l1.length : Int) := oD
       obtain ⟨ad358, e358, hx358_0⟩ := Kd.at_string HR1.out (ji16) p358 q358
       have hw358_0 := hx358_0
       cases e358
       replace hx358_0 := (HB.out.cell (World.block_lt_of_cell? w _ hx358_0)).trans hx358_0
       replace p358 := eq_true p358
       replace q358 := eq_true q358
       have p359 : 0 ≤ (x7_2 : Int) := oD
       have q359 : x7_2 < (l1.length : Int) := oD
       obtain ⟨ad359, e359, hx359_0⟩ := Kd.at_string HR1.out x7_2 p359 q359
       have hw359_0 := hx359_0
       obtain rfl : ad358 = ad359 := (by injection e359)
       replace hx359_0 := (HB.out.cell (World.block_lt_of_cell? w _ hx359_0)).trans hx359_0
       replace p359 := eq_true p359
       replace q359 := eq_true q359
       refine start_ (n := 15) (S := fun w' => w'.cell? ⟨gb355, 0, none⟩ = some (.int .i64 a0_0) ∧ w'.cell? ⟨gb355, 1, none⟩ = some (.int .i64 a0_1) ∧ w'.cell? (ad358.add ((ji16)).toNat) = some (.string (rdOf ByteArray.empty l1 (ji16))) ∧ w'.cell? (ad358.add (x7_2).toNat) = some (.string (rdOf ByteArray.empty l1 x7_2))) (ds := []) #[false, false, false, false, false, false, false, false, false, false, false, false, false, false, false] (by kernel_rfl) rfl rfl ⟨(blk_cell BK355.out 0).trans rfl, (blk_cell BK355.out 1).trans rfl, ((HB.out.cell (World.block_lt_of_cell? w _ hw358_0)).trans hw358_0), ((HB.out.cell (World.block_lt_of_cell? w _ hw359_0)).trans hw359_0)⟩ (fun hHeld => ?_); refine with_tabW spec_TurnsOfOrder.tab7 spec_TurnsOfOrder.bits7 (fun HT_ HW_ => ?_)
       generalize wr.drew = w22 at HO_6 BK355 HB hx358_0 hx359_0 hHeld ⊢
       refine pU (i := 0) (N := some 23) ?_
       refine pU (i := 2) (N := some 25) ?_
       refine pU (i := 3) (N := some 26) ?_
       refine pU (i := 4) (N := some 27) ?_
       refine pU (i := 5) (N := some 28) ?_
       refine pU (i := 7) (N := some 30) ?_
       refine pU (i := 8) (N := some 31) ?_
       refine pU (i := 9) (N := some 32) ?_
       refine tU4 (i := 1) (N := some 24) ?_
       refine tU4 (i := 6) (N := some 29) ?_
       refine tU4 (i := 10) (N := some 33) ?_
       refine oU (i := 11) (N := some 34) (fun K hK => ?_)
       refine goes_ Tryz.func40 (by kernel_rfl) rfl #[.agg #[.int .i64 a0_0, .int .i64 a0_1], .string (rdOf ByteArray.empty l1 (ji16)), .string (rdOf ByteArray.empty l1 x7_2)] (by rfl) rfl rfl (by (try simp only [List.map_toArray, List.map_cons, List.map_nil]); first | done | (simp only [hji16]; rfl) | rfl | (simp only [List.length_drop, List.length_take]; rfl)) ?_
       with_reducible refine (spec_orTurn.calls k2 a0_0 a0_1 (rdOf ByteArray.empty l1 (ji16)) (rdOf ByteArray.empty l1 x7_2) t360 t361 _ A20.out).mono ?_
       rintro e w23 ⟨rfl, hb⟩
       refine ⟨_, rfl, ?_⟩
       have n0_ := Aside0.mk (Kd.R_below (kR HO_6) hb)
       have n1_ := Aside0.mk (blk_below (g := gb355) (o := .cells #[.int .i64 a0_0, .int .i64 a0_1] 25 (0, 0)) bK hb)
       have n2_ := Aside0.mk (below_step bG hb)
       clear HO_6
       clear BK355
       clear HB
       have HO_6 := n0_
       have BK355 := n1_
       have HB := n2_
       clear n0_ n1_ n2_
       (try clear hb)
       refine hK.out _ _ ⟨(blk_cell BK355.out 0).trans rfl, (blk_cell BK355.out 1).trans rfl, ((HB.out.cell (World.block_lt_of_cell? w _ hw358_0)).trans hw358_0), ((HB.out.cell (World.block_lt_of_cell? w _ hw359_0)).trans hw359_0)⟩ (fun hHeld => ?_)
       clear hK K
       refine nU (some 34) ?_
       refine oU (i := 12) (N := some 35) (fun K hK => ?_)
       refine value_ (w1 := ?_) (v := ?_) (by rfl) rfl ?_ ?_
       rotate_left 2
       ·go_simp
        constructor
        ·rfl
        ·rfl
       refine hK.out _ _ ⟨(blk_cell (blk_alloc BK355.out _) 0).trans rfl, (blk_cell (blk_alloc BK355.out _) 1).trans rfl, (World.cell?_alloc_lt _ _ _ (World.block_lt_of_cell? _ _ (((HB.out.cell (World.block_lt_of_cell? w _ hw358_0)).trans hw358_0)))).trans (((HB.out.cell (World.block_lt_of_cell? w _ hw358_0)).trans hw358_0)), (World.cell?_alloc_lt _ _ _ (World.block_lt_of_cell? _ _ (((HB.out.cell (World.block_lt_of_cell? w _ hw359_0)).trans hw359_0)))).trans (((HB.out.cell (World.block_lt_of_cell? w _ hw359_0)).trans hw359_0))⟩ (fun hHeld => ?_)
       clear hK K
       refine nU (some 35) ?_
       refine oU (i := 13) (N := some 36) (fun K hK => ?_)
       refine Kd.R_append_step k59 (w0 := w) w.heap.size (by rfl) (.tmp 23) (.tmp 35) 31 59 (.agg #[(.int .i64 0), (.int .i64 0)]) 16 rfl Tryz.underlying31 info59 rfl (by decide) (by omega) u6 x6_2 (⟨t360, t361⟩ : S59) [.int .i64 t360, .int .i64 t361] (fun _ => True) (fun _ => False) rfl rfl ?aP (fun _ hk => hk.elim) ?aF ?aO ?aB ?aS ?aL ?_
       (case aP => exact k59_mkM _ _ _ (⟨t360, t361⟩ : S59))
       (case aB => exact bG)
       (case aF => exact (fun _ _ => trivial))
       (case aO => exact (kR HO_6))
       (case aS => exact (below_size bG))
       (case aL => have := LMc21.out; omega)
       intro v363 w24 ho hb hg hat
       rw [← Ny362.out] at ho
       have n0_ := Aside0.mk (blk_grown (g := gb355) (o := .cells #[.int .i64 a0_0, .int .i64 a0_1] 25 (0, 0)) bK hg (Kd.R_ne HO_6.out BK355.out (by decide)))
       have n1_ := Aside0.mk (hb)
       have n2_ := Aside0.mk (ho)
       clear BK355
       clear HB
       clear HO_6
       have BK355 := n0_
       have HB := n1_
       have HO364 := n2_
       clear n0_ n1_ n2_
       clear ho hb hg hat
       refine hK.out _ _ ⟨(blk_cell BK355.out 0).trans rfl, (blk_cell BK355.out 1).trans rfl, ((HB.out.cell (World.block_lt_of_cell? w _ hw358_0)).trans hw358_0), ((HB.out.cell (World.block_lt_of_cell? w _ hw359_0)).trans hw359_0)⟩ (fun hHeld => ?_)
       clear hK K
       refine nU (some 36) ?_
       refine pU (i := 14) (N := some 6) ?_
       refine done_ (done_of HT_.out (by kernel_rfl)) ?_
       try go_wp2
       go_roundg k2
       case measure => have := HJ2.out; have := HK2.out; omega
       case rel => exact ⟨(y362), (wrap64 (x7_2 + 1)), fR, H', ⟨by have := HJ2.out; have := HK2.out; omega⟩, ⟨kR HO364⟩, ⟨bK⟩, ⟨bG⟩⟩
      ·rw [if_neg c15] at H
       have c15b0 : decide (x7_2 < (l1.length : Int)) = false := decide_eq_false c15
       clear c15
       simp only [Option.some.injEq, Prod.mk.injEq] at H
       obtain ⟨rfl, rfl⟩ := H
       go_wp2
       go_ret2
       exact ⟨_, rE, kR HO_6, bG⟩

/-! ### laws_aTurns: function 14 -/
def laws_aTurns.l0 : Nat → List (S59) → List (S59) → Int → Int → Option (Bool)
 | 0, _, _, _, _ => none
 | k + 1, x0, x1, x12, x13 => if x13 < x12 then (if 0 ≤ x13 then (if x13 < (x0.length : Int) then (if x13 < (x1.length : Int) then (if (!(((rd_T59 x0 x13).f0) == ((rd_T59 x1 x13).f0)) || (!(((rd_T59 x0 x13).f1) == ((rd_T59 x1 x13).f1)))) = true then (some false) else (laws_aTurns.l0 k x0 x1 x12 (wrap64 (x13 + 1)))) else (none)) else (none)) else (none)) else (some true)
def laws_aTurns.f (k : Nat) (l0 : List (S59)) (l1 : List (S59)) : Option (Bool) := if (l0.length : Int) = (l1.length : Int) then (laws_aTurns.l0 k l0 l1 (l0.length : Int) 0) else (some false)
theorem laws_aTurns.mono_l : ∀ k, (∀ y0 y1 y2 y3, LeO (laws_aTurns.l0 k y0 y1 y2 y3) (laws_aTurns.l0 (k + 1) y0 y1 y2 y3))
 | 0 => fun _ _ _ _ r h => by simp [laws_aTurns.l0] at h
 | k + 1 => by
  have ih0 := laws_aTurns.mono_l k
  ·intro y0 y1 y2 y3
   unfold laws_aTurns.l0
   repeat' first
   | (with_reducible first | exact ih0 _ _ _ _ | exact LeO.refl _ | exact LeO.none _ | refine LeO.ite ?_ ?_ | refine LeO.bind ?_ (fun _ => ?_))
   | exact ih0 _ _ _ _
   | exact LeO.none _
   | refine LeO.ite ?_ ?_
   | refine LeO.bind ?_ (fun _ => ?_)
theorem laws_aTurns.mono : ∀ a0 a1 k, LeO (laws_aTurns.f k a0 a1) (laws_aTurns.f (k + 1) a0 a1) := by
 intro a0 a1 k
 have ih0 := laws_aTurns.mono_l k
 unfold laws_aTurns.f
 repeat' first
   | (with_reducible first | exact ih0 _ _ _ _ | exact LeO.refl _ | exact LeO.none _ | refine LeO.ite ?_ ?_ | refine LeO.bind ?_ (fun _ => ?_))
   | exact ih0 _ _ _ _
   | exact LeO.none _
   | refine LeO.ite ?_ ?_
   | refine LeO.bind ?_ (fun _ => ?_)
theorem laws_aTurns.calls (k : Nat) (A0 : Option Addr) (c0 : Nat) (l0 : List (S59)) (A1 : Option Addr) (c1 : Nat) (l1 : List (S59)) (r : Bool) (w : World) (hr0 : Kd.C k59 w A0 l0.length l0) (hc0 : l0.length ≤ c0) (hr1 : Kd.C k59 w A1 l1.length l1) (hc1 : l1.length ≤ c1) (h : laws_aTurns.f k l0 l1 = some r) :
  Calls Tryz.prog 14 #[.slice A0 l0.length c0, .slice A1 l1.length c1] w fun e w' => e = .returned (.bool r) ∧ Drawn0 w w' := by
 have hu59 := Tryz.underlying59
 have HR0 := Aside0.mk hr0
 have HC0 := Aside0.mk hc0
 clear hr0 hc0
 have HR1 := Aside0.mk hr1
 have HC1 := Aside0.mk hc1
 clear hr1 hc1
 have H := h
 unfold laws_aTurns.f at H
 clear h
 by_cases c3 : (l0.length : Int) = (l1.length : Int)
 ·rw [if_pos c3] at H
  have c3b0 : ((l0.length : Int) == (l1.length : Int)) = true := beq_iff_eq.mpr c3
  have c3b1 : ((l0.length : Int) != (l1.length : Int)) = false := bne_eq_false_iff_eq.mpr c3
  have c3b2 : (l0.length == l1.length) = true := by first | simpa using c3 | (simp at c3 ⊢; omega)
  clear c3
  have H' := Aside0.mk H
  clear H
  go_enter Tryz.func14, Tryz.ntmps14
  go_wp2
  repeat (go_quiet (fail); try go_wp2)
  go_loopg [13] k (fun kq v13 w' => ∃ (x13_1 : Int), v13 = .int .i64 x13_1 ∧ Aside0 (laws_aTurns.l0 kq l0 l1 (l0.length : Int) x13_1 = some r) ∧ Aside0 (kq ≤ k) ∧ Drawn0 w w')
  case atStart => exact ⟨(0), fR, H', ⟨Nat.le_refl _⟩, by repeat (first | exact Drawn0.refl _ | apply Drawn0.step)⟩
  case round =>
   clear H'
   try clear c1
   try clear p2
   try clear c3
   try clear c3b0
   try clear c3b1
   try clear c3b2
   obtain ⟨x13_1, rfl, HA, HK1, ⟨m1, rfl⟩⟩ := hrel
   cases gk with
   | zero => exact absurd HA.out (by simp [laws_aTurns.l0])
   | succ k1 =>
    have H := HA.out
    clear HA
    simp only [laws_aTurns.l0] at H
    by_cases c4 : x13_1 < (l0.length : Int)
    ·rw [if_pos c4] at H
     have c4b0 : decide (x13_1 < (l0.length : Int)) = true := decide_eq_true c4
     clear c4
     replace H := nz H; obtain ⟨c5, H⟩ := H
     have c5b0 : decide (0 ≤ x13_1) = true := decide_eq_true c5
     clear c5
     replace H := nz H; obtain ⟨c6, H⟩ := H
     have c6b0 : decide (x13_1 < (l0.length : Int)) = true := decide_eq_true c6
     clear c6
     replace H := nz H; obtain ⟨c7, H⟩ := H
     have c7b0 : decide (x13_1 < (l1.length : Int)) = true := decide_eq_true c7
     clear c7
     by_cases c8 : (!(((rd_T59 l0 x13_1).f0) == ((rd_T59 l1 x13_1).f0)) || (!(((rd_T59 l0 x13_1).f1) == ((rd_T59 l1 x13_1).f1)))) = true
     ·rw [if_pos c8] at H
      have c8b0 : (!(((rd_T59 l0 x13_1).f0) == ((rd_T59 l1 x13_1).f0)) || (!(((rd_T59 l0 x13_1).f1) == ((rd_T59 l1 x13_1).f1)))) = true := c8
      clear c8
      obtain rfl := Option.some.inj H
      have p365 : 0 ≤ (x13_1 : Int) := oD
      have q365 : x13_1 < (l0.length : Int) := oD
      obtain ⟨ad365, e365, hx365_0, hx365_1⟩ := at_T59 HR0.out x13_1 p365 q365
      cases e365
      replace p365 := eq_true p365
      replace q365 := eq_true q365
      have p366 : 0 ≤ (x13_1 : Int) := oD
      have q366 : x13_1 < (l1.length : Int) := oD
      obtain ⟨ad366, e366, hx366_0, hx366_1⟩ := at_T59 HR1.out x13_1 p366 q366
      cases e366
      replace p366 := eq_true p366
      replace q366 := eq_true q366
      go_wp2
      repeat (go_quiet (fail); try go_wp2)
      go_ret
      exact ⟨fR, by repeat (first | exact Drawn0.refl _ | apply Drawn0.step)⟩
     ·rw [if_neg c8] at H
      have c8b0 : (!(((rd_T59 l0 x13_1).f0) == ((rd_T59 l1 x13_1).f0)) || (!(((rd_T59 l0 x13_1).f1) == ((rd_T59 l1 x13_1).f1)))) = false := by simpa using c8
      clear c8
      have H' := Aside0.mk H
      clear H
      have p365 : 0 ≤ (x13_1 : Int) := oD
      have q365 : x13_1 < (l0.length : Int) := oD
      obtain ⟨ad365, e365, hx365_0, hx365_1⟩ := at_T59 HR0.out x13_1 p365 q365
      cases e365
      replace p365 := eq_true p365
      replace q365 := eq_true q365
      have p366 : 0 ≤ (x13_1 : Int) := oD
      have q366 : x13_1 < (l1.length : Int) := oD
      obtain ⟨ad366, e366, hx366_0, hx366_1⟩ := at_T59 HR1.out x13_1 p366 q366
      cases e366
      replace p366 := eq_true p366
      replace q366 := eq_true q366
      go_wp2
      repeat (go_quiet (fail); try go_wp2)
      go_roundg k1
      case measure => have := HK1.out; omega
      case rel => exact ⟨(wrap64 (x13_1 + 1)), fR, H', ⟨by have := HK1.out; omega⟩, by repeat (first | exact Drawn0.refl _ | apply Drawn0.step)⟩
    ·rw [if_neg c4] at H
     have c4b0 : decide (x13_1 < (l0.length : Int)) = false := decide_eq_false c4
     clear c4
     obtain rfl := Option.some.inj H
     go_wp2
     repeat (go_quiet (fail); try go_wp2)
     go_ret
     exact ⟨fR, by repeat (first | exact Drawn0.refl _ | apply Drawn0.step)⟩
 ·rw [if_neg c3] at H
  have c3b0 : ((l0.length : Int) == (l1.length : Int)) = false := beq_eq_false_iff_ne.mpr c3
  have c3b1 : ((l0.length : Int) != (l1.length : Int)) = true := bne_iff_ne.mpr c3
  have c3b2 : (l0.length == l1.length) = false := by first | simpa using c3 | (simp at c3 ⊢; omega)
  obtain rfl := Option.some.inj H
  go_enter Tryz.func14, Tryz.ntmps14
  go_wp2
  repeat (go_quiet (fail); try go_wp2)
  go_ret
  exact ⟨fR, by repeat (first | exact Drawn0.refl _ | apply Drawn0.step)⟩

/-! ### impl_has: function 41 -/
def impl_has.l0 : Nat → List ByteArray → Int → Int → Int → Int → Option (Bool)
 | 0, _, _, _, _, _ => none
 | k + 1, x10, x11, x12, x368000, x368001 => if x12 < x11 then (if 0 ≤ x12 then (if x12 < (x10.length : Int) then ((impl_Lock_isCode.f k x368000 x368001 (rdOf ByteArray.empty x10 x12)).bind fun t370 => (if t370 = true then (impl_has.l0 k x10 x11 (wrap64 (x12 + 1)) x368000 x368001) else (some false))) else (none)) else (none)) else (some true)
def impl_has.f (k : Nat) (a0_0 : Int) (a0_1 : Int) (l1 : List ByteArray) : Option (Bool) := (impl_IsLock.f a0_0 a0_1).bind fun t368 => (if t368 = true then (impl_has.l0 k l1 (l1.length : Int) 0 a0_0 a0_1) else (some false))
theorem impl_has.mono_l : ∀ k, (∀ y0 y1 y2 y3 y4, LeO (impl_has.l0 k y0 y1 y2 y3 y4) (impl_has.l0 (k + 1) y0 y1 y2 y3 y4))
 | 0 => fun _ _ _ _ _ r h => by simp [impl_has.l0] at h
 | k + 1 => by
  have ih0 := impl_has.mono_l k
  ·intro y0 y1 y2 y3 y4
   unfold impl_has.l0
   repeat' first
   | (with_reducible first | exact ih0 _ _ _ _ _ | exact impl_Lock_isCode.mono _ _ _ _ | exact LeO.refl _ | exact LeO.none _ | refine LeO.ite ?_ ?_ | refine LeO.bind ?_ (fun _ => ?_))
   | exact ih0 _ _ _ _ _
   | exact impl_Lock_isCode.mono _ _ _ _
   | exact LeO.none _
   | refine LeO.ite ?_ ?_
   | refine LeO.bind ?_ (fun _ => ?_)
theorem impl_has.mono : ∀ a0 a1 a2 k, LeO (impl_has.f k a0 a1 a2) (impl_has.f (k + 1) a0 a1 a2) := by
 intro a0 a1 a2 k
 have ih0 := impl_has.mono_l k
 unfold impl_has.f
 repeat' first
   | (with_reducible first | exact ih0 _ _ _ _ _ | exact impl_Lock_isCode.mono _ _ _ _ | exact LeO.refl _ | exact LeO.none _ | refine LeO.ite ?_ ?_ | refine LeO.bind ?_ (fun _ => ?_))
   | exact ih0 _ _ _ _ _
   | exact impl_Lock_isCode.mono _ _ _ _
   | exact LeO.none _
   | refine LeO.ite ?_ ?_
   | refine LeO.bind ?_ (fun _ => ?_)
theorem impl_has.calls (k : Nat) (a0_0 : Int) (a0_1 : Int) (A1 : Option Addr) (c1 : Nat) (l1 : List ByteArray) (r : Bool) (w : World) (hr1 : Kd.C Kd.string w A1 l1.length l1) (hc1 : l1.length ≤ c1) (h : impl_has.f k a0_0 a0_1 l1 = some r) :
  Calls Tryz.prog 41 #[.agg #[.int .i64 a0_0, .int .i64 a0_1], .slice A1 l1.length c1] w fun e w' => e = .returned (.bool r) ∧ Below w.heap.size w w' := by
 have hu25 := Tryz.underlying25
 have HR1 := Aside0.mk hr1
 have HC1 := Aside0.mk hc1
 clear hr1 hc1
 have HB := Aside0.mk (Below.refl w.heap.size w)
 have H := h
 unfold impl_has.f at H
 clear h
 replace H := Option.bind_eq_some_iff.mp H
 obtain ⟨t368, A30, H⟩ := H
 (try dsimp only at H)
 have A3 := Aside0.mk A30
 clear A30
 by_cases c4 : t368 = true
 ·subst c4
  replace H := zt H
  have H' := Aside0.mk H
  clear H
  go_enter Tryz.func41, Tryz.ntmps41
  go_wp2_with (first | ((with_reducible refine gate_dst (N := 2) rfl ?_); refine box_event ?hg (N := 2) ?hd (cs := #[.int .i64 a0_0, .int .i64 a0_1]) (t := 25) ?hr ?_; (case hd => rfl); (case hg => rfl); (case hr => first | (go_simp; done) | (go_simp; rfl)); intro gb367 hg w5 hbox hb; have BK367 := Aside0.mk (hbox); have GW367 : Aside0 (w.heap.size ≤ gb367) := gW hg; have GE367 := GW367; replace HB := Aside0.mk (below_step bB hb); clear hb hbox hg; have hcz6_0 := cZ BK367 0 (.int .i64 a0_0); have hcz6_1 := cZ BK367 1 (.int .i64 a0_1); have hfz6_0 := blk_frozen BK367.out 0; have hfz6_1 := blk_frozen BK367.out 1) | ((with_reducible refine gate_callee (f := 33) rfl ?_); refine goesL_ (some 8) rfl rfl Tryz.func33 (by kernel_rfl) rfl #[.agg #[.int .i64 a0_0, .int .i64 a0_1]] rfl lM ?_; (with_reducible refine (impl_IsLock.calls a0_0 a0_1 true _ A3.out).mono ?_); rintro e w7 ⟨rfl, hb⟩; refine ⟨_, rfl, ?_⟩; replace BK367 := bW BK367 hb; replace HB := Aside0.mk (below_step bG hb); (try clear hb)))
  go_loopg [12] k (fun kq v12 w' => ∃ (x12_1 : Int), v12 = .int .i64 x12_1 ∧ Aside0 (impl_has.l0 kq l1 (l1.length : Int) x12_1 a0_0 a0_1 = some r) ∧ Aside0 (kq ≤ k) ∧ Aside0 (w'.heap[gb367]? = some (.cells #[.int .i64 a0_0, .int .i64 a0_1] 25 (0, 0))) ∧ Aside0 (Below w.heap.size w w'))
  case atStart => exact ⟨(0), fR, H', ⟨Nat.le_refl _⟩, ⟨bK⟩, ⟨bG⟩⟩
  case round =>
   clear H'
   try clear c1
   try clear p2
   try clear c3
   try clear c4
   try clear hcz6_0
   try clear hcz6_1
   try clear hfz6_0
   try clear hfz6_1
   obtain ⟨x12_1, rfl, HA, HK1, BK367, HB⟩ := hrel
   cases gk with
   | zero => exact absurd HA.out (by simp [impl_has.l0])
   | succ k1 =>
    have H := HA.out
    clear HA
    simp only [impl_has.l0] at H
    by_cases c8 : x12_1 < (l1.length : Int)
    ·rw [if_pos c8] at H
     have c8b0 : decide (x12_1 < (l1.length : Int)) = true := decide_eq_true c8
     clear c8
     replace H := nz H; obtain ⟨c9, H⟩ := H
     have c9b0 : decide (0 ≤ x12_1) = true := decide_eq_true c9
     clear c9
     replace H := nz H; obtain ⟨c10, H⟩ := H
     have c10b0 : decide (x12_1 < (l1.length : Int)) = true := decide_eq_true c10
     clear c10
     replace H := Option.bind_eq_some_iff.mp H
     obtain ⟨t370, A110, H⟩ := H
     (try dsimp only at H)
     have A11 := Aside0.mk A110
     clear A110
     by_cases c12 : t370 = true
     ·subst c12
      replace H := zt H
      have H' := Aside0.mk H
      clear H
      have p369 : 0 ≤ (x12_1 : Int) := oD
      have q369 : x12_1 < (l1.length : Int) := oD
      obtain ⟨ad369, e369, hx369_0⟩ := Kd.at_string HR1.out x12_1 p369 q369
      cases e369
      replace hx369_0 := (HB.out.cell (World.block_lt_of_cell? w _ hx369_0)).trans hx369_0
      replace p369 := eq_true p369
      replace q369 := eq_true q369
      have hcz13_0 := cZ BK367 0 (.int .i64 a0_0)
      have hcz13_1 := cZ BK367 1 (.int .i64 a0_1)
      have hfz13_0 := blk_frozen BK367.out 0
      have hfz13_1 := blk_frozen BK367.out 1
      go_wp2_with (first | ((with_reducible refine gate_callee (f := 65) rfl ?_); refine goesL_ (some 18) rfl rfl Tryz.func65 (by kernel_rfl) rfl #[.agg #[.int .i64 a0_0, .int .i64 a0_1], .string (rdOf ByteArray.empty l1 x12_1)] rfl lM ?_; (with_reducible refine (impl_Lock_isCode.calls k1 a0_0 a0_1 (rdOf ByteArray.empty l1 x12_1) true _ A11.out).mono ?_); rintro e w14 ⟨rfl, hb⟩; refine ⟨_, rfl, ?_⟩; replace BK367 := bW BK367 hb; replace HB := Aside0.mk (below_step bG hb); (try clear hb)))
      go_roundg k1
      case measure => have := HK1.out; omega
      case rel => exact ⟨(wrap64 (x12_1 + 1)), fR, H', ⟨by have := HK1.out; omega⟩, ⟨bK⟩, ⟨bG⟩⟩
     ·replace c12 := Bool.eq_false_iff.mpr c12
      subst c12
      replace H := zf H
      obtain rfl := Option.some.inj H
      have p369 : 0 ≤ (x12_1 : Int) := oD
      have q369 : x12_1 < (l1.length : Int) := oD
      obtain ⟨ad369, e369, hx369_0⟩ := Kd.at_string HR1.out x12_1 p369 q369
      cases e369
      replace hx369_0 := (HB.out.cell (World.block_lt_of_cell? w _ hx369_0)).trans hx369_0
      replace p369 := eq_true p369
      replace q369 := eq_true q369
      have hcz15_0 := cZ BK367 0 (.int .i64 a0_0)
      have hcz15_1 := cZ BK367 1 (.int .i64 a0_1)
      have hfz15_0 := blk_frozen BK367.out 0
      have hfz15_1 := blk_frozen BK367.out 1
      go_wp2_with (first | ((with_reducible refine gate_callee (f := 65) rfl ?_); refine goesL_ (some 18) rfl rfl Tryz.func65 (by kernel_rfl) rfl #[.agg #[.int .i64 a0_0, .int .i64 a0_1], .string (rdOf ByteArray.empty l1 x12_1)] rfl lM ?_; (with_reducible refine (impl_Lock_isCode.calls k1 a0_0 a0_1 (rdOf ByteArray.empty l1 x12_1) false _ A11.out).mono ?_); rintro e w16 ⟨rfl, hb⟩; refine ⟨_, rfl, ?_⟩; replace BK367 := bW BK367 hb; replace HB := Aside0.mk (below_step bG hb); (try clear hb)))
      go_ret
      exact ⟨rE, bG⟩
    ·rw [if_neg c8] at H
     have c8b0 : decide (x12_1 < (l1.length : Int)) = false := decide_eq_false c8
     clear c8
     obtain rfl := Option.some.inj H
     go_wp2
     go_ret
     exact ⟨rE, bG⟩
 ·replace c4 := Bool.eq_false_iff.mpr c4
  subst c4
  replace H := zf H
  obtain rfl := Option.some.inj H
  go_enter Tryz.func41, Tryz.ntmps41
  go_wp2_with (first | ((with_reducible refine gate_dst (N := 2) rfl ?_); refine box_event ?hg (N := 2) ?hd (cs := #[.int .i64 a0_0, .int .i64 a0_1]) (t := 25) ?hr ?_; (case hd => rfl); (case hg => rfl); (case hr => first | (go_simp; done) | (go_simp; rfl)); intro gb367 hg w17 hbox hb; have BK367 := Aside0.mk (hbox); have GW367 : Aside0 (w.heap.size ≤ gb367) := gW hg; have GE367 := GW367; replace HB := Aside0.mk (below_step bB hb); clear hb hbox hg; have hcz18_0 := cZ BK367 0 (.int .i64 a0_0); have hcz18_1 := cZ BK367 1 (.int .i64 a0_1); have hfz18_0 := blk_frozen BK367.out 0; have hfz18_1 := blk_frozen BK367.out 1) | ((with_reducible refine gate_callee (f := 33) rfl ?_); refine goesL_ (some 8) rfl rfl Tryz.func33 (by kernel_rfl) rfl #[.agg #[.int .i64 a0_0, .int .i64 a0_1]] rfl lM ?_; (with_reducible refine (impl_IsLock.calls a0_0 a0_1 false _ A3.out).mono ?_); rintro e w19 ⟨rfl, hb⟩; refine ⟨_, rfl, ?_⟩; replace BK367 := bW BK367 hb; replace HB := Aside0.mk (below_step bG hb); (try clear hb)))
  go_ret
  exact ⟨rE, bG⟩

end Go.Proofs.YthpmpkmdjpaemaaGreat.P
