-- Printed by hp.py, a program of this session: a machine's side of laws, out of the translation; Lean checks it.
import Derived.Test.YthpmpkmdjpaemaaGreatPx0
import Derived.Test.YthpmpkmdjpaemaaGreatPx2
import Derived.Test.YthpmpkmdjpaemaaGreatPx3
import Derived.Test.YthpmpkmdjpaemaaGreatPx5
import Derived.Test.YthpmpkmdjpaemaaGreatPx6
import Derived.Test.YthpmpkmdjpaemaaGreatPx7
import Derived.Test.YthpmpkmdjpaemaaGreatPx9
namespace Go.Proofs.YthpmpkmdjpaemaaGreat.P
open Go.RowKit Go.Proofs.YthpmpkmdjpaemaaGreatW.PrintWords Go.Proofs.YthpmpkmdjpaemaaGreatW.PrintLast Go.Proofs.YthpmpkmdjpaemaaGreatW.PrintMore
attribute [local go_sem] max2_int min2_int max_two min_two max_three min_three max_four min_four   -- for this text's walks alone
set_option maxHeartbeats 8000000
set_option maxRecDepth 100000
set_option linter.unusedVariables false
set_option linter.unusedSimpArgs false

/-! ### spec_IsClosedOrder: function 11 -/
def spec_IsClosedOrder.f (k : Nat) (a0_0 : Int) (a0_1 : Int) (l1 : List ByteArray) : Option (Bool × Bool) := (spec_whGood.f a0_0 a0_1).bind fun t331 => (if t331 = true then ((spec_orWhole.f k a0_0 a0_1 l1).bind fun t332 => (if t332 = true then (if 0 < (l1.length : Int) then (if 0 ≤ (wrap64 ((l1.length : Int) - 1)) then (if (wrap64 ((l1.length : Int) - 1)) < (l1.length : Int) then ((spec_whDistance.f k a0_0 a0_1 (rdOf ByteArray.empty l1 0) (rdOf ByteArray.empty l1 (wrap64 ((l1.length : Int) - 1)))).bind fun t335 => (some ((t335 == 1), true))) else (none)) else (none)) else (none)) else (some (false, true)))) else (some (false, false)))
theorem spec_IsClosedOrder.mono : ∀ a0 a1 a2 k, LeO (spec_IsClosedOrder.f k a0 a1 a2) (spec_IsClosedOrder.f (k + 1) a0 a1 a2) := by
 intro a0 a1 a2 k
 unfold spec_IsClosedOrder.f
 repeat' first
   | (with_reducible first | exact spec_orWhole.mono _ _ _ _ | exact spec_whDistance.mono _ _ _ _ _ | exact LeO.refl _ | exact LeO.none _ | refine LeO.ite ?_ ?_ | refine LeO.bind ?_ (fun _ => ?_))
   | exact spec_orWhole.mono _ _ _ _
   | exact spec_whDistance.mono _ _ _ _ _
   | exact LeO.none _
   | refine LeO.ite ?_ ?_
   | refine LeO.bind ?_ (fun _ => ?_)
def spec_IsClosedOrder.T3 : Bool × List (List Nat × List Nat) := (true, [([], []), ([], []), ([0, 1], [0, 1]), ([2, 2], [2]), ([3], [3]), ([3], [3]), ([5, 3], [3, 5]), ([6, 3], [3, 6]), ([3], [3]), ([3], [3]), ([9, 3], [3, 9]), ([10, 3], [3, 10]), ([8, 11, 3], [3, 8, 11]), ([12, 3], [3, 12]), ([4, 7, 13, 3, 3], [3, 4, 7, 13]), ([14, 3], [3, 14]), ([3, 15], [3, 15]), ([16, 14, 0, 1, 2, 3, 4, 5, 6, 7, 8, 9, 10, 11, 12, 13, 14, 15, 16], [16]), ([17, 0, 1, 2, 3, 4, 5, 6, 7, 8, 9, 10, 11, 12, 13, 14, 15, 16, 17], [])])
def spec_IsClosedOrder.B3 : List Nat := [0, 0, 3, 7, 15, 15, 47, 111, 15, 15, 527, 1551, 3855, 7951, 16383, 32767, 65535, 131071, 262143]
theorem spec_IsClosedOrder.tab3 : rtab .any (opsOf Tryz.f11 3) = spec_IsClosedOrder.T3 := by kernel_rfl
theorem spec_IsClosedOrder.bits3 : waitsOk spec_IsClosedOrder.T3.2 spec_IsClosedOrder.B3 = true := by kernel_rfl
theorem spec_IsClosedOrder.calls (k : Nat) (a0_0 : Int) (a0_1 : Int) (A1 : Option Addr) (c1 : Nat) (l1 : List ByteArray) (r1 : Bool) (r2 : Bool) (w : World) (hr1 : Kd.C Kd.string w A1 l1.length l1) (hc1 : l1.length ≤ c1) (h : spec_IsClosedOrder.f k a0_0 a0_1 l1 = some (r1, r2)) :
  Calls Tryz.prog 11 #[.agg #[.int .i64 a0_0, .int .i64 a0_1], .slice A1 l1.length c1] w fun e w' => e = .returned (.tuple #[.bool r1, .bool r2]) ∧ Below w.heap.size w w' := by
 have hu25 := Tryz.underlying25
 have HR1 := Aside0.mk hr1
 have HC1 := Aside0.mk hc1
 clear hr1 hc1
 have HB := Aside0.mk (Below.refl w.heap.size w)
 have H := h
 unfold spec_IsClosedOrder.f at H
 clear h
 replace H := Option.bind_eq_some_iff.mp H
 obtain ⟨t331, A30, H⟩ := H
 (try dsimp only at H)
 have A3 := Aside0.mk A30
 clear A30
 by_cases c4 : t331 = true
 ·subst c4
  replace H := zt H
  replace H := Option.bind_eq_some_iff.mp H
  obtain ⟨t332, A50, H⟩ := H
  (try dsimp only at H)
  have A5 := Aside0.mk A50
  clear A50
  by_cases c6 : t332 = true
  ·subst c6
   replace H := zt H
   replace H := nz H; obtain ⟨c7, H⟩ := H
   have c7b0 : decide (0 < (l1.length : Int)) = true := decide_eq_true c7
   have c7b1 : decide (0 < l1.length) = true := decide_eq_true (by omega)
   clear c7
   obtain ⟨ji8, hji8⟩ : ∃ j_ : Int, (wrap64 ((l1.length : Int) - 1)) = j_ := ⟨_, rfl⟩
   replace H : (if 0 ≤ (ji8) then (if (ji8) < (l1.length : Int) then ((spec_whDistance.f k a0_0 a0_1 (rdOf ByteArray.empty l1 0) (rdOf ByteArray.empty l1 (ji8))).bind fun t335 => (some ((t335 == 1), true))) else (none)) else (none)) = some (r1, r2) := by first | (rw [hji8] at H; exact H) | (simp only [hji8] at H ⊢; exact H)
   (try rw [hji8] at A3)
   (try rw [hji8] at A5)
   have hji8w : (IntKind.i64.wrap ((l1.length : Int) - 1)) = ji8 := (i64_w _).trans hji8
   replace H := nz H; obtain ⟨c9, H⟩ := H
   have c9b0 : decide (0 ≤ (ji8)) = true := decide_eq_true c9
   clear c9
   replace H := nz H; obtain ⟨c10, H⟩ := H
   have c10b0 : decide ((ji8) < (l1.length : Int)) = true := decide_eq_true c10
   clear c10
   replace H := Option.bind_eq_some_iff.mp H
   obtain ⟨t335, A110, H⟩ := H
   (try dsimp only at H)
   have A11 := Aside0.mk A110
   clear A110
   simp only [Option.some.injEq, Prod.mk.injEq] at H
   obtain ⟨rfl, rfl⟩ := H
   go_enter Tryz.func11, Tryz.ntmps11
   try go_wp2_with (first | ((with_reducible refine gate_dst (N := 2) rfl ?_); (try (refine gate_guard (by rfl) ?_; dsimp only)); refine box_event ?hg (N := 2) ?hd (cs := #[.int .i64 a0_0, .int .i64 a0_1]) (t := 25) ?hr ?_; (case hd => rfl); (case hg => rfl); (case hr => first | (go_simp; done) | (go_simp; rfl)); intro gb330 hg w12 hbox hb; have BK330 := Aside0.mk (hbox); have GW330 : Aside0 (w.heap.size ≤ gb330) := gW hg; have GE330 := GW330; replace HB := Aside0.mk (below_step bB hb); clear hb hbox hg; have hcz13_0 := cZ BK330 0 (.int .i64 a0_0); have hcz13_1 := cZ BK330 1 (.int .i64 a0_1); have hfz13_0 := blk_frozen BK330.out 0; have hfz13_1 := blk_frozen BK330.out 1) | ((with_reducible refine gate_callee (f := 27) rfl ?_); refine goesL_ (some 7) rfl rfl Tryz.func27 (by kernel_rfl) rfl #[.agg #[.int .i64 a0_0, .int .i64 a0_1]] rfl lM ?_; (with_reducible refine (spec_whGood.calls a0_0 a0_1 true _ A3.out).mono ?_); rintro e w14 ⟨rfl, hb⟩; refine ⟨_, rfl, ?_⟩; replace BK330 := bW BK330 hb; replace HB := Aside0.mk (below_step bG hb); (try clear hb)))
   have n0_ := Aside0.mk (blk_drew BK330.out)
   have n1_ := Aside0.mk (below_drew1 HB.out)
   clear BK330
   clear HB
   have BK330 := n0_
   have HB := n1_
   clear n0_ n1_
   have p333 : 0 ≤ (0 : Int) := (by omega)
   have q333 : 0 < (l1.length : Int) := oD
   obtain ⟨ad333, e333, hx333_0⟩ := Kd.at_string HR1.out 0 p333 q333
   have hw333_0 := hx333_0
   (try rw [show ((0 : Int)).toNat = 0 from rfl] at hw333_0)
   (try rw [show 0 * 1 = 0 from rfl] at hw333_0)
   (try rw [Addr.add_zero'] at hw333_0)
   cases e333
   have qi333 : (0 < l1.length) = True := eq_true (by omega)
   (try rw [show ((0 : Int)).toNat = 0 from rfl] at hx333_0)
   (try rw [Addr.add_zero'] at hx333_0)
   replace hx333_0 := (HB.out.cell (World.block_lt_of_cell? w _ hx333_0)).trans hx333_0
   replace p333 := eq_true p333
   replace q333 := eq_true q333
   have p334 : 0 ≤ ((ji8) : Int) := oD
   have q334 : (ji8) < (l1.length : Int) := oD
   obtain ⟨ad334, e334, hx334_0⟩ := Kd.at_string HR1.out (ji8) p334 q334
   have hw334_0 := hx334_0
   obtain rfl : ad333 = ad334 := (by injection e334)
   replace hx334_0 := (HB.out.cell (World.block_lt_of_cell? w _ hx334_0)).trans hx334_0
   replace p334 := eq_true p334
   replace q334 := eq_true q334
   refine start_ (n := 19) (S := fun w' => w'.cell? ⟨gb330, 0, none⟩ = some (.int .i64 a0_0) ∧ w'.cell? ⟨gb330, 1, none⟩ = some (.int .i64 a0_1) ∧ w'.cell? ad333 = some (.string (rdOf ByteArray.empty l1 0)) ∧ w'.cell? (ad333.add ((ji8)).toNat) = some (.string (rdOf ByteArray.empty l1 (ji8)))) (ds := []) #[false, false, false, false, false, false, false, false, false, false, false, false, false, false, false, false, false, false, false] (by kernel_rfl) rfl rfl ⟨(blk_cell BK330.out 0).trans rfl, (blk_cell BK330.out 1).trans rfl, ((HB.out.cell (World.block_lt_of_cell? w _ hw333_0)).trans hw333_0), ((HB.out.cell (World.block_lt_of_cell? w _ hw334_0)).trans hw334_0)⟩ (fun hHeld => ?_); refine with_tabW spec_IsClosedOrder.tab3 spec_IsClosedOrder.bits3 (fun HT_ HW_ => ?_)
   generalize w14.drew = w15 at BK330 HB hx333_0 hx334_0 hHeld ⊢
   refine pU (i := 1) (N := some 10) ?_
   refine tU4 (i := 0) (N := some 9) ?_
   refine oU (i := 2) (N := some 11) (fun K hK => ?_)
   refine goes_ Tryz.func37 (by kernel_rfl) rfl #[.agg #[.int .i64 a0_0, .int .i64 a0_1], .slice (some ad333) l1.length c1] (by rfl) rfl rfl lM ?_
   with_reducible refine (spec_orWhole.calls k a0_0 a0_1 _ _ l1 true _ ?side1 ?side2 A5.out).mono ?_
   (case side1 => exact cS (Kd.C_below HR1.out HB.out))
   (case side2 => exact HC1.out)
   rintro e w16 ⟨rfl, hb⟩
   refine ⟨_, rfl, ?_⟩
   have n0_ := Aside0.mk (blk_below (g := gb330) (o := .cells #[.int .i64 a0_0, .int .i64 a0_1] 25 (0, 0)) bK hb)
   have n1_ := Aside0.mk (below_step bG hb)
   clear BK330
   clear HB
   have BK330 := n0_
   have HB := n1_
   clear n0_ n1_
   (try clear hb)
   (try clear hb2)
   (try clear hk)
   (try clear hi)
   refine hK.out _ _ ⟨(blk_cell BK330.out 0).trans rfl, (blk_cell BK330.out 1).trans rfl, ((HB.out.cell (World.block_lt_of_cell? w _ hw333_0)).trans hw333_0), ((HB.out.cell (World.block_lt_of_cell? w _ hw334_0)).trans hw334_0)⟩ (fun hHeld => ?_)
   clear hK K
   refine nU (some 11) ?_
   refine pU (i := 3) (N := some 12) ?_
   refine pU (i := 5) (N := some 14) ?_
   refine pU (i := 6) (N := some 15) ?_
   refine pU (i := 8) (N := some 17) ?_
   refine pU (i := 9) (N := some 18) ?_
   refine pU (i := 10) (N := some 19) ?_
   refine pU (i := 11) (N := some 20) ?_
   refine pU (i := 12) (N := some 21) ?_
   refine tU4 (i := 4) (N := some 13) ?_
   refine tU4 (i := 7) (N := some 16) ?_
   refine tU4 (i := 13) (N := some 22) ?_
   refine oU (i := 14) (N := some 23) (fun K hK => ?_)
   refine goes_ Tryz.func39 (by kernel_rfl) rfl #[.agg #[.int .i64 a0_0, .int .i64 a0_1], .string (rdOf ByteArray.empty l1 0), .string (rdOf ByteArray.empty l1 (ji8))] (by rfl) rfl rfl (by (try simp only [List.map_toArray, List.map_cons, List.map_nil]); first | done | (simp only [hji8]; rfl) | rfl | (simp only [List.length_drop, List.length_take]; rfl)) ?_
   with_reducible refine (spec_whDistance.calls k a0_0 a0_1 (rdOf ByteArray.empty l1 0) (rdOf ByteArray.empty l1 (ji8)) t335 _ A11.out).mono ?_
   rintro e w17 ⟨rfl, hb⟩
   refine ⟨_, rfl, ?_⟩
   have n0_ := Aside0.mk (blk_below (g := gb330) (o := .cells #[.int .i64 a0_0, .int .i64 a0_1] 25 (0, 0)) bK hb)
   have n1_ := Aside0.mk (below_step bG hb)
   clear BK330
   clear HB
   have BK330 := n0_
   have HB := n1_
   clear n0_ n1_
   (try clear hb)
   refine hK.out _ _ ⟨(blk_cell BK330.out 0).trans rfl, (blk_cell BK330.out 1).trans rfl, ((HB.out.cell (World.block_lt_of_cell? w _ hw333_0)).trans hw333_0), ((HB.out.cell (World.block_lt_of_cell? w _ hw334_0)).trans hw334_0)⟩ (fun hHeld => ?_)
   clear hK K
   refine nU (some 23) ?_
   refine pU (i := 15) (N := some 24) ?_
   refine pU (i := 16) (N := some 25) ?_
   refine pU (i := 17) (N := some 4) ?_
   refine pU (i := 18) (N := some 5) ?_
   refine done_ (done_of HT_.out (by kernel_rfl)) ?_
   try go_wp2
   go_ret2
   exact ⟨by first | rfl | (simp [errW_none, errW_some] <;> rfl) | (simp only [← hji8]; first | rfl | (simp [errW_none, errW_some] <;> rfl)) | (simp [*, errW_none, errW_some] <;> rfl), bG⟩
  ·replace c6 := Bool.eq_false_iff.mpr c6
   subst c6
   replace H := zf H
   simp only [Option.some.injEq, Prod.mk.injEq] at H
   obtain ⟨rfl, rfl⟩ := H
   go_enter Tryz.func11, Tryz.ntmps11
   try go_wp2_with (first | ((with_reducible refine gate_dst (N := 2) rfl ?_); (try (refine gate_guard (by rfl) ?_; dsimp only)); refine box_event ?hg (N := 2) ?hd (cs := #[.int .i64 a0_0, .int .i64 a0_1]) (t := 25) ?hr ?_; (case hd => rfl); (case hg => rfl); (case hr => first | (go_simp; done) | (go_simp; rfl)); intro gb330 hg w18 hbox hb; have BK330 := Aside0.mk (hbox); have GW330 : Aside0 (w.heap.size ≤ gb330) := gW hg; have GE330 := GW330; replace HB := Aside0.mk (below_step bB hb); clear hb hbox hg; have hcz19_0 := cZ BK330 0 (.int .i64 a0_0); have hcz19_1 := cZ BK330 1 (.int .i64 a0_1); have hfz19_0 := blk_frozen BK330.out 0; have hfz19_1 := blk_frozen BK330.out 1) | ((with_reducible refine gate_callee (f := 27) rfl ?_); refine goesL_ (some 7) rfl rfl Tryz.func27 (by kernel_rfl) rfl #[.agg #[.int .i64 a0_0, .int .i64 a0_1]] rfl lM ?_; (with_reducible refine (spec_whGood.calls a0_0 a0_1 true _ A3.out).mono ?_); rintro e w20 ⟨rfl, hb⟩; refine ⟨_, rfl, ?_⟩; replace BK330 := bW BK330 hb; replace HB := Aside0.mk (below_step bG hb); (try clear hb)))
   have n0_ := Aside0.mk (blk_drew BK330.out)
   have n1_ := Aside0.mk (below_drew1 HB.out)
   clear BK330
   clear HB
   have BK330 := n0_
   have HB := n1_
   clear n0_ n1_
   refine start_ (n := 19) (S := fun w' => w'.cell? ⟨gb330, 0, none⟩ = some (.int .i64 a0_0) ∧ w'.cell? ⟨gb330, 1, none⟩ = some (.int .i64 a0_1)) (ds := []) #[false, false, false, false, false, false, false, false, false, false, false, false, false, false, false, false, false, false, false] (by kernel_rfl) rfl rfl ⟨(blk_cell BK330.out 0).trans rfl, (blk_cell BK330.out 1).trans rfl⟩ (fun hHeld => ?_); refine with_tabW spec_IsClosedOrder.tab3 spec_IsClosedOrder.bits3 (fun HT_ HW_ => ?_)
   generalize w20.drew = w21 at BK330 HB hHeld ⊢
   refine pU (i := 1) (N := some 10) ?_
   refine tU2 (i := 0) (N := some 9) ?_
   refine oU (i := 2) (N := some 11) (fun K hK => ?_)
   refine goes_ Tryz.func37 (by kernel_rfl) rfl #[.agg #[.int .i64 a0_0, .int .i64 a0_1], .slice A1 l1.length c1] (by rfl) rfl rfl lM ?_
   with_reducible refine (spec_orWhole.calls k a0_0 a0_1 _ _ l1 false _ ?side1 ?side2 A5.out).mono ?_
   (case side1 => exact cS (Kd.C_below HR1.out HB.out))
   (case side2 => exact HC1.out)
   rintro e w22 ⟨rfl, hb⟩
   refine ⟨_, rfl, ?_⟩
   have n0_ := Aside0.mk (blk_below (g := gb330) (o := .cells #[.int .i64 a0_0, .int .i64 a0_1] 25 (0, 0)) bK hb)
   have n1_ := Aside0.mk (below_step bG hb)
   clear BK330
   clear HB
   have BK330 := n0_
   have HB := n1_
   clear n0_ n1_
   (try clear hb)
   (try clear hb2)
   (try clear hk)
   (try clear hi)
   refine hK.out _ _ ⟨(blk_cell BK330.out 0).trans rfl, (blk_cell BK330.out 1).trans rfl⟩ (fun hHeld => ?_)
   clear hK K
   refine nU (some 11) ?_
   refine pU (i := 3) (N := some 12) ?_
   refine pV (i := 4) (N := some 13) (v := undef) ?_
   refine pV (i := 5) (N := some 14) (v := undef) ?_
   refine pV (i := 6) (N := some 15) (v := undef) ?_
   refine pV (i := 7) (N := some 16) (v := undef) ?_
   refine pV (i := 8) (N := some 17) (v := undef) ?_
   refine pV (i := 9) (N := some 18) (v := undef) ?_
   refine pV (i := 10) (N := some 19) (v := undef) ?_
   refine pV (i := 11) (N := some 20) (v := undef) ?_
   refine pV (i := 12) (N := some 21) (v := undef) ?_
   refine pV (i := 13) (N := some 22) (v := undef) ?_
   refine pV (i := 14) (N := some 23) (v := undef) ?_
   refine pV (i := 15) (N := some 24) (v := undef) ?_
   refine pU (i := 16) (N := some 25) ?_
   refine pU (i := 17) (N := some 4) ?_
   refine pU (i := 18) (N := some 5) ?_
   refine done_ (done_of HT_.out (by kernel_rfl)) ?_
   try go_wp2
   go_ret2
   exact ⟨rE, bG⟩
 ·replace c4 := Bool.eq_false_iff.mpr c4
  subst c4
  replace H := zf H
  simp only [Option.some.injEq, Prod.mk.injEq] at H
  obtain ⟨rfl, rfl⟩ := H
  go_enter Tryz.func11, Tryz.ntmps11
  go_wp2_with (first | ((with_reducible refine gate_dst (N := 2) rfl ?_); (try (refine gate_guard (by rfl) ?_; dsimp only)); refine box_event ?hg (N := 2) ?hd (cs := #[.int .i64 a0_0, .int .i64 a0_1]) (t := 25) ?hr ?_; (case hd => rfl); (case hg => rfl); (case hr => first | (go_simp; done) | (go_simp; rfl)); intro gb330 hg w23 hbox hb; have BK330 := Aside0.mk (hbox); have GW330 : Aside0 (w.heap.size ≤ gb330) := gW hg; have GE330 := GW330; replace HB := Aside0.mk (below_step bB hb); clear hb hbox hg; have hcz24_0 := cZ BK330 0 (.int .i64 a0_0); have hcz24_1 := cZ BK330 1 (.int .i64 a0_1); have hfz24_0 := blk_frozen BK330.out 0; have hfz24_1 := blk_frozen BK330.out 1) | ((with_reducible refine gate_callee (f := 27) rfl ?_); refine goesL_ (some 7) rfl rfl Tryz.func27 (by kernel_rfl) rfl #[.agg #[.int .i64 a0_0, .int .i64 a0_1]] rfl lM ?_; (with_reducible refine (spec_whGood.calls a0_0 a0_1 false _ A3.out).mono ?_); rintro e w25 ⟨rfl, hb⟩; refine ⟨_, rfl, ?_⟩; replace BK330 := bW BK330 hb; replace HB := Aside0.mk (below_step bG hb); (try clear hb)))
  go_ret2
  exact ⟨rE, bG⟩

/-! ### impl_TurnsOfOrder: function 12 -/
def impl_TurnsOfOrder.f (k : Nat) (a0_0 : Int) (a0_1 : Int) (l1 : List ByteArray) : Option ((List (S59)) × Bool) := (impl_IsLock.f a0_0 a0_1).bind fun t337 => (if t337 = true then ((impl_Lock_orderTurns.f k a0_0 a0_1 l1).bind fun bt338 => (some (bt338.1, bt338.2))) else (some (([] : List (S59)), false)))
theorem impl_TurnsOfOrder.mono : ∀ a0 a1 a2 k, LeO (impl_TurnsOfOrder.f k a0 a1 a2) (impl_TurnsOfOrder.f (k + 1) a0 a1 a2) := by
 intro a0 a1 a2 k
 unfold impl_TurnsOfOrder.f
 repeat' first
   | (with_reducible first | exact impl_Lock_orderTurns.mono _ _ _ _ | exact LeO.refl _ | exact LeO.none _ | refine LeO.ite ?_ ?_ | refine LeO.bind ?_ (fun _ => ?_))
   | exact impl_Lock_orderTurns.mono _ _ _ _
   | exact LeO.none _
   | refine LeO.ite ?_ ?_
   | refine LeO.bind ?_ (fun _ => ?_)
theorem impl_TurnsOfOrder.calls (k : Nat) (a0_0 : Int) (a0_1 : Int) (A1 : Option Addr) (c1 : Nat) (l1 : List ByteArray) (r1 : List (S59)) (r2 : Bool) (w : World) (hr1 : Kd.C Kd.string w A1 l1.length l1) (hc1 : l1.length ≤ c1) (h : impl_TurnsOfOrder.f k a0_0 a0_1 l1 = some (r1, r2)) :
  Calls Tryz.prog 12 #[.agg #[.int .i64 a0_0, .int .i64 a0_1], .slice A1 l1.length c1] w fun e w' => ∃ v0_ : Value, e = .returned (.tuple #[v0_, .bool r2]) ∧ Kd.R k59 59 w' w.heap.size (fun _ => True) v0_ r1 ∧ Below w.heap.size w w' := by
 have hu25 := Tryz.underlying25
 have HR1 := Aside0.mk hr1
 have HC1 := Aside0.mk hc1
 clear hr1 hc1
 have HB := Aside0.mk (Below.refl w.heap.size w)
 have H := h
 unfold impl_TurnsOfOrder.f at H
 clear h
 replace H := Option.bind_eq_some_iff.mp H
 obtain ⟨t337, A30, H⟩ := H
 (try dsimp only at H)
 have A3 := Aside0.mk A30
 clear A30
 by_cases c4 : t337 = true
 ·subst c4
  replace H := zt H
  replace H := Option.bind_eq_some_iff.mp H
  obtain ⟨⟨t338, t341⟩, A50, H⟩ := H
  (try dsimp only at H)
  have A5 := Aside0.mk A50
  clear A50
  simp only [Option.some.injEq, Prod.mk.injEq] at H
  obtain ⟨rfl, rfl⟩ := H
  go_enter Tryz.func12, Tryz.ntmps12
  go_wp2_with (first | ((with_reducible refine gate_dst (N := 2) rfl ?_); refine box_event ?hg (N := 2) ?hd (cs := #[.int .i64 a0_0, .int .i64 a0_1]) (t := 25) ?hr ?_; (case hd => rfl); (case hg => rfl); (case hr => first | (go_simp; done) | (go_simp; rfl)); intro gb336 hg w6 hbox hb; have BK336 := Aside0.mk (hbox); have GW336 : Aside0 (w.heap.size ≤ gb336) := gW hg; have GE336 := GW336; replace HB := Aside0.mk (below_step bB hb); clear hb hbox hg; have hcz7_0 := cZ BK336 0 (.int .i64 a0_0); have hcz7_1 := cZ BK336 1 (.int .i64 a0_1); have hfz7_0 := blk_frozen BK336.out 0; have hfz7_1 := blk_frozen BK336.out 1) | ((with_reducible refine gate_callee (f := 33) rfl ?_); refine goesL_ (some 7) rfl rfl Tryz.func33 (by kernel_rfl) rfl #[.agg #[.int .i64 a0_0, .int .i64 a0_1]] rfl lM ?_; (with_reducible refine (impl_IsLock.calls a0_0 a0_1 true _ A3.out).mono ?_); rintro e w8 ⟨rfl, hb⟩; refine ⟨_, rfl, ?_⟩; replace BK336 := bW BK336 hb; replace HB := Aside0.mk (below_step bG hb); (try clear hb); have hcz9_0 := cZ BK336 0 (.int .i64 a0_0); have hcz9_1 := cZ BK336 1 (.int .i64 a0_1); have hfz9_0 := blk_frozen BK336.out 0; have hfz9_1 := blk_frozen BK336.out 1) | ((with_reducible refine gate_callee (f := 34) rfl ?_); refine goesL_ (some 11) rfl rfl Tryz.func34 (by kernel_rfl) rfl #[.agg #[.int .i64 a0_0, .int .i64 a0_1], .slice A1 l1.length c1] rfl lM ?_; (with_reducible refine (impl_Lock_orderTurns.calls k a0_0 a0_1 _ _ l1 t338 t341 _ ?side1 ?side2 A5.out).mono ?_); (case side1 => exact cS (Kd.C_below HR1.out HB.out)); (case side2 => exact HC1.out); rintro e w10 ⟨v339, rfl, ho0, hb⟩; refine ⟨_, rfl, ?_⟩; have HO340 := Aside0.mk (Kd.R_lower ho0 (below_size bG)); replace BK336 := bW BK336 hb; replace HB := Aside0.mk (below_step bG hb); (try clear hb); (try clear ho0)))
  go_ret2
  exact ⟨_, rE, kR HO340, bG⟩
 ·replace c4 := Bool.eq_false_iff.mpr c4
  subst c4
  replace H := zf H
  simp only [Option.some.injEq, Prod.mk.injEq] at H
  obtain ⟨rfl, rfl⟩ := H
  go_enter Tryz.func12, Tryz.ntmps12
  go_wp2_with (first | ((with_reducible refine gate_dst (N := 2) rfl ?_); refine box_event ?hg (N := 2) ?hd (cs := #[.int .i64 a0_0, .int .i64 a0_1]) (t := 25) ?hr ?_; (case hd => rfl); (case hg => rfl); (case hr => first | (go_simp; done) | (go_simp; rfl)); intro gb336 hg w11 hbox hb; have BK336 := Aside0.mk (hbox); have GW336 : Aside0 (w.heap.size ≤ gb336) := gW hg; have GE336 := GW336; replace HB := Aside0.mk (below_step bB hb); clear hb hbox hg; have hcz12_0 := cZ BK336 0 (.int .i64 a0_0); have hcz12_1 := cZ BK336 1 (.int .i64 a0_1); have hfz12_0 := blk_frozen BK336.out 0; have hfz12_1 := blk_frozen BK336.out 1) | ((with_reducible refine gate_callee (f := 33) rfl ?_); refine goesL_ (some 7) rfl rfl Tryz.func33 (by kernel_rfl) rfl #[.agg #[.int .i64 a0_0, .int .i64 a0_1]] rfl lM ?_; (with_reducible refine (impl_IsLock.calls a0_0 a0_1 false _ A3.out).mono ?_); rintro e w13 ⟨rfl, hb⟩; refine ⟨_, rfl, ?_⟩; replace BK336 := bW BK336 hb; replace HB := Aside0.mk (below_step bG hb); (try clear hb)))
  go_ret2
  exact ⟨_, rE, by first | exact Kd.R_nil _ _ _ _ _ | exact Kd.N_nil _ _ _ _ _ | exact Kd.V_nil _ _ _ _ _ | exact Kd.Q_nil _ _ _ _ _ | exact Kd.S_nil _ _ _ _ _, bG⟩

/-! ### spec_orTurn: function 40 -/
def spec_orTurn.l0 : Nat → List Int → List Int → Int → Int → Int → Int → Option (Int × Int)
 | 0, _, _, _, _, _, _ => none
 | k + 1, x7, x8, x15, x16, x343000, x343001 => if x16 < x15 then (if 0 ≤ x16 then (if x16 < (x7.length : Int) then (if x16 < (x8.length : Int) then (if (rd x7 x16) = (rd x8 x16) then (spec_orTurn.l0 k x7 x8 x15 (wrap64 (x16 + 1)) x343000 x343001) else ((spec_l1Mod.f (wrap64 ((rd x7 x16) + 1)) x343001).bind fun t353 => (if t353 = (rd x8 x16) then (some (x16, 1)) else (some (x16, (-1)))))) else (none)) else (none)) else (none)) else (some (0, 0))
def spec_orTurn.f (k : Nat) (a0_0 : Int) (a0_1 : Int) (a1 : ByteArray) (a2 : ByteArray) : Option (Int × Int) := (spec_whDigits.f k a1).bind fun t344 => ((spec_whDigits.f k a2).bind fun t347 => (spec_orTurn.l0 k t344 t347 (t344.length : Int) 0 a0_0 a0_1))
theorem spec_orTurn.mono_l : ∀ k, (∀ y0 y1 y2 y3 y4 y5, LeO (spec_orTurn.l0 k y0 y1 y2 y3 y4 y5) (spec_orTurn.l0 (k + 1) y0 y1 y2 y3 y4 y5))
 | 0 => fun _ _ _ _ _ _ r h => by simp [spec_orTurn.l0] at h
 | k + 1 => by
  have ih0 := spec_orTurn.mono_l k
  ·intro y0 y1 y2 y3 y4 y5
   unfold spec_orTurn.l0
   repeat' first
   | (with_reducible first | exact ih0 _ _ _ _ _ _ | exact spec_whDigits.mono _ _ | exact LeO.refl _ | exact LeO.none _ | refine LeO.ite ?_ ?_ | refine LeO.bind ?_ (fun _ => ?_))
   | exact ih0 _ _ _ _ _ _
   | exact spec_whDigits.mono _ _
   | exact LeO.none _
   | refine LeO.ite ?_ ?_
   | refine LeO.bind ?_ (fun _ => ?_)
theorem spec_orTurn.mono : ∀ a0 a1 a2 a3 k, LeO (spec_orTurn.f k a0 a1 a2 a3) (spec_orTurn.f (k + 1) a0 a1 a2 a3) := by
 intro a0 a1 a2 a3 k
 have ih0 := spec_orTurn.mono_l k
 unfold spec_orTurn.f
 repeat' first
   | (with_reducible first | exact ih0 _ _ _ _ _ _ | exact spec_whDigits.mono _ _ | exact LeO.refl _ | exact LeO.none _ | refine LeO.ite ?_ ?_ | refine LeO.bind ?_ (fun _ => ?_))
   | exact ih0 _ _ _ _ _ _
   | exact spec_whDigits.mono _ _
   | exact LeO.none _
   | refine LeO.ite ?_ ?_
   | refine LeO.bind ?_ (fun _ => ?_)
theorem spec_orTurn.calls (k : Nat) (a0_0 : Int) (a0_1 : Int) (a1 : ByteArray) (a2 : ByteArray) (r1 : Int) (r2 : Int) (w : World) (h : spec_orTurn.f k a0_0 a0_1 a1 a2 = some (r1, r2)) :
  Calls Tryz.prog 40 #[.agg #[.int .i64 a0_0, .int .i64 a0_1], .string a1, .string a2] w fun e w' => e = .returned (.agg #[.int .i64 r1, .int .i64 r2]) ∧ Below w.heap.size w w' := by
 have hu25 := Tryz.underlying25
 have hu59 := Tryz.underlying59
 have HB := Aside0.mk (Below.refl w.heap.size w)
 have H := h
 unfold spec_orTurn.f at H
 clear h
 replace H := Option.bind_eq_some_iff.mp H
 obtain ⟨t344, A40, H⟩ := H
 (try dsimp only at H)
 have A4 := Aside0.mk A40
 clear A40
 replace H := Option.bind_eq_some_iff.mp H
 obtain ⟨t347, A50, H⟩ := H
 (try dsimp only at H)
 have A5 := Aside0.mk A50
 clear A50
 have H' := Aside0.mk H
 clear H
 go_enter Tryz.func40, Tryz.ntmps40
 go_wp2_with (first | ((with_reducible refine gate_dst (N := 3) rfl ?_); refine box_event ?hg (N := 3) ?hd (cs := #[.int .i64 a0_0, .int .i64 a0_1]) (t := 25) ?hr ?_; (case hd => rfl); (case hg => rfl); (case hr => first | (go_simp; done) | (go_simp; rfl)); intro gb342 hg w6 hbox hb; have BK342 := Aside0.mk (hbox); have GW342 : Aside0 (w.heap.size ≤ gb342) := gW hg; have GE342 := GW342; replace HB := Aside0.mk (below_step bB hb); clear hb hbox hg) | ((with_reducible refine gate_dst (N := 6) rfl ?_); refine box_event ?hg (N := 6) ?hd (cs := #[.int .i64 0, .int .i64 0]) (t := 59) ?hr ?_; (case hd => rfl); (case hg => rfl); (case hr => first | (go_simp; done) | (go_simp; rfl)); intro gb343 hg w7 hbox hb; have n0_ := Aside0.mk (blk_below (g := gb342) (o := .cells #[.int .i64 a0_0, .int .i64 a0_1] 25 (0, 0)) bK hb); have n1_ := Aside0.mk (below_step bG hb); have n2_ := Aside0.mk (hbox); have n3_ := Aside0.mk ((by rw [hg]; exact (below_size bG) : w.heap.size ≤ gb343)); have n4_ := Aside0.mk ((by rw [hg]; exact (below_size bG) : w.heap.size ≤ gb343)); have n5_ := Aside0.mk ((by rw [hg]; exact Nat.ne_of_lt (blk_lt (g := gb342) (o := .cells #[.int .i64 a0_0, .int .i64 a0_1] 25 (0, 0)) bK) : gb342 ≠ gb343)); have n6_ := Aside0.mk ((by rw [hg]; exact Nat.ne_of_gt (blk_lt (g := gb342) (o := .cells #[.int .i64 a0_0, .int .i64 a0_1] 25 (0, 0)) bK) : gb343 ≠ gb342)); clear BK342; clear HB; have BK342 := n0_; have HB := n1_; have BK343 := n2_; have GW343 := n3_; have GE343 := n4_; have NB342_343 := n5_; have NB343_342 := n6_; clear n0_ n1_ n2_ n3_ n4_ n5_ n6_; clear hb hbox hg) | (go_at_call 56; (with_reducible refine (spec_whDigits.calls k a1 t344 _ A4.out).mono ?_); rintro e w8 ⟨v345, rfl, ho0, hb⟩; have n0_ := Aside0.mk (Kd.R_lower ho0 (below_size bG)); have n1_ := Aside0.mk (blk_below (g := gb342) (o := .cells #[.int .i64 a0_0, .int .i64 a0_1] 25 (0, 0)) bK hb); have n2_ := Aside0.mk (blk_below (g := gb343) (o := .cells #[.int .i64 0, .int .i64 0] 59 (0, 0)) bK hb); have n3_ := Aside0.mk (below_step bG hb); clear BK342; clear BK343; clear HB; have HO346 := n0_; have BK342 := n1_; have BK343 := n2_; have HB := n3_; clear n0_ n1_ n2_ n3_; (try clear hb); (try clear ho0)) | (go_at_call 56; (with_reducible refine (spec_whDigits.calls k a2 t347 _ A5.out).mono ?_); rintro e w9 ⟨v348, rfl, ho0, hb⟩; have n0_ := Aside0.mk (Kd.R_elder' (kR HO346) (Kd.R_base ho0) hb); have n1_ := Aside0.mk (Kd.R_lower (Kd.R_new' ho0 (Kd.R_lt (kR HO346))) (below_size bG)); have n2_ := Aside0.mk (blk_below (g := gb342) (o := .cells #[.int .i64 a0_0, .int .i64 a0_1] 25 (0, 0)) bK hb); have n3_ := Aside0.mk (blk_below (g := gb343) (o := .cells #[.int .i64 0, .int .i64 0] 59 (0, 0)) bK hb); have n4_ := Aside0.mk (below_step bG hb); clear HO346; clear BK342; clear BK343; clear HB; have HO346 := n0_; have HO349 := n1_; have BK342 := n2_; have BK343 := n3_; have HB := n4_; clear n0_ n1_ n2_ n3_ n4_; (try clear hb); (try clear ho0); obtain ⟨Ao10, co10, eo10⟩ := Kd.R_slice HO346.out; subst eo10))
 repeat (go_quiet (first | ((with_reducible refine gate_dst (N := 3) rfl ?_); refine box_event ?hg (N := 3) ?hd (cs := #[.int .i64 a0_0, .int .i64 a0_1]) (t := 25) ?hr ?_; (case hd => rfl); (case hg => rfl); (case hr => first | (go_simp; done) | (go_simp; rfl)); intro gb342 hg w6 hbox hb; have BK342 := Aside0.mk (hbox); have GW342 : Aside0 (w.heap.size ≤ gb342) := gW hg; have GE342 := GW342; replace HB := Aside0.mk (below_step bB hb); clear hb hbox hg) | ((with_reducible refine gate_dst (N := 6) rfl ?_); refine box_event ?hg (N := 6) ?hd (cs := #[.int .i64 0, .int .i64 0]) (t := 59) ?hr ?_; (case hd => rfl); (case hg => rfl); (case hr => first | (go_simp; done) | (go_simp; rfl)); intro gb343 hg w7 hbox hb; have n0_ := Aside0.mk (blk_below (g := gb342) (o := .cells #[.int .i64 a0_0, .int .i64 a0_1] 25 (0, 0)) bK hb); have n1_ := Aside0.mk (below_step bG hb); have n2_ := Aside0.mk (hbox); have n3_ := Aside0.mk ((by rw [hg]; exact (below_size bG) : w.heap.size ≤ gb343)); have n4_ := Aside0.mk ((by rw [hg]; exact (below_size bG) : w.heap.size ≤ gb343)); have n5_ := Aside0.mk ((by rw [hg]; exact Nat.ne_of_lt (blk_lt (g := gb342) (o := .cells #[.int .i64 a0_0, .int .i64 a0_1] 25 (0, 0)) bK) : gb342 ≠ gb343)); have n6_ := Aside0.mk ((by rw [hg]; exact Nat.ne_of_gt (blk_lt (g := gb342) (o := .cells #[.int .i64 a0_0, .int .i64 a0_1] 25 (0, 0)) bK) : gb343 ≠ gb342)); clear BK342; clear HB; have BK342 := n0_; have HB := n1_; have BK343 := n2_; have GW343 := n3_; have GE343 := n4_; have NB342_343 := n5_; have NB343_342 := n6_; clear n0_ n1_ n2_ n3_ n4_ n5_ n6_; clear hb hbox hg) | (go_at_call 56; (with_reducible refine (spec_whDigits.calls k a1 t344 _ A4.out).mono ?_); rintro e w8 ⟨v345, rfl, ho0, hb⟩; have n0_ := Aside0.mk (Kd.R_lower ho0 (below_size bG)); have n1_ := Aside0.mk (blk_below (g := gb342) (o := .cells #[.int .i64 a0_0, .int .i64 a0_1] 25 (0, 0)) bK hb); have n2_ := Aside0.mk (blk_below (g := gb343) (o := .cells #[.int .i64 0, .int .i64 0] 59 (0, 0)) bK hb); have n3_ := Aside0.mk (below_step bG hb); clear BK342; clear BK343; clear HB; have HO346 := n0_; have BK342 := n1_; have BK343 := n2_; have HB := n3_; clear n0_ n1_ n2_ n3_; (try clear hb); (try clear ho0)) | (go_at_call 56; (with_reducible refine (spec_whDigits.calls k a2 t347 _ A5.out).mono ?_); rintro e w9 ⟨v348, rfl, ho0, hb⟩; have n0_ := Aside0.mk (Kd.R_elder' (kR HO346) (Kd.R_base ho0) hb); have n1_ := Aside0.mk (Kd.R_lower (Kd.R_new' ho0 (Kd.R_lt (kR HO346))) (below_size bG)); have n2_ := Aside0.mk (blk_below (g := gb342) (o := .cells #[.int .i64 a0_0, .int .i64 a0_1] 25 (0, 0)) bK hb); have n3_ := Aside0.mk (blk_below (g := gb343) (o := .cells #[.int .i64 0, .int .i64 0] 59 (0, 0)) bK hb); have n4_ := Aside0.mk (below_step bG hb); clear HO346; clear BK342; clear BK343; clear HB; have HO346 := n0_; have HO349 := n1_; have BK342 := n2_; have BK343 := n3_; have HB := n4_; clear n0_ n1_ n2_ n3_ n4_; (try clear hb); (try clear ho0); obtain ⟨Ao10, co10, eo10⟩ := Kd.R_slice HO346.out; subst eo10)); try go_wp2_with (first | ((with_reducible refine gate_dst (N := 3) rfl ?_); refine box_event ?hg (N := 3) ?hd (cs := #[.int .i64 a0_0, .int .i64 a0_1]) (t := 25) ?hr ?_; (case hd => rfl); (case hg => rfl); (case hr => first | (go_simp; done) | (go_simp; rfl)); intro gb342 hg w6 hbox hb; have BK342 := Aside0.mk (hbox); have GW342 : Aside0 (w.heap.size ≤ gb342) := gW hg; have GE342 := GW342; replace HB := Aside0.mk (below_step bB hb); clear hb hbox hg) | ((with_reducible refine gate_dst (N := 6) rfl ?_); refine box_event ?hg (N := 6) ?hd (cs := #[.int .i64 0, .int .i64 0]) (t := 59) ?hr ?_; (case hd => rfl); (case hg => rfl); (case hr => first | (go_simp; done) | (go_simp; rfl)); intro gb343 hg w7 hbox hb; have n0_ := Aside0.mk (blk_below (g := gb342) (o := .cells #[.int .i64 a0_0, .int .i64 a0_1] 25 (0, 0)) bK hb); have n1_ := Aside0.mk (below_step bG hb); have n2_ := Aside0.mk (hbox); have n3_ := Aside0.mk ((by rw [hg]; exact (below_size bG) : w.heap.size ≤ gb343)); have n4_ := Aside0.mk ((by rw [hg]; exact (below_size bG) : w.heap.size ≤ gb343)); have n5_ := Aside0.mk ((by rw [hg]; exact Nat.ne_of_lt (blk_lt (g := gb342) (o := .cells #[.int .i64 a0_0, .int .i64 a0_1] 25 (0, 0)) bK) : gb342 ≠ gb343)); have n6_ := Aside0.mk ((by rw [hg]; exact Nat.ne_of_gt (blk_lt (g := gb342) (o := .cells #[.int .i64 a0_0, .int .i64 a0_1] 25 (0, 0)) bK) : gb343 ≠ gb342)); clear BK342; clear HB; have BK342 := n0_; have HB := n1_; have BK343 := n2_; have GW343 := n3_; have GE343 := n4_; have NB342_343 := n5_; have NB343_342 := n6_; clear n0_ n1_ n2_ n3_ n4_ n5_ n6_; clear hb hbox hg) | (go_at_call 56; (with_reducible refine (spec_whDigits.calls k a1 t344 _ A4.out).mono ?_); rintro e w8 ⟨v345, rfl, ho0, hb⟩; have n0_ := Aside0.mk (Kd.R_lower ho0 (below_size bG)); have n1_ := Aside0.mk (blk_below (g := gb342) (o := .cells #[.int .i64 a0_0, .int .i64 a0_1] 25 (0, 0)) bK hb); have n2_ := Aside0.mk (blk_below (g := gb343) (o := .cells #[.int .i64 0, .int .i64 0] 59 (0, 0)) bK hb); have n3_ := Aside0.mk (below_step bG hb); clear BK342; clear BK343; clear HB; have HO346 := n0_; have BK342 := n1_; have BK343 := n2_; have HB := n3_; clear n0_ n1_ n2_ n3_; (try clear hb); (try clear ho0)) | (go_at_call 56; (with_reducible refine (spec_whDigits.calls k a2 t347 _ A5.out).mono ?_); rintro e w9 ⟨v348, rfl, ho0, hb⟩; have n0_ := Aside0.mk (Kd.R_elder' (kR HO346) (Kd.R_base ho0) hb); have n1_ := Aside0.mk (Kd.R_lower (Kd.R_new' ho0 (Kd.R_lt (kR HO346))) (below_size bG)); have n2_ := Aside0.mk (blk_below (g := gb342) (o := .cells #[.int .i64 a0_0, .int .i64 a0_1] 25 (0, 0)) bK hb); have n3_ := Aside0.mk (blk_below (g := gb343) (o := .cells #[.int .i64 0, .int .i64 0] 59 (0, 0)) bK hb); have n4_ := Aside0.mk (below_step bG hb); clear HO346; clear BK342; clear BK343; clear HB; have HO346 := n0_; have HO349 := n1_; have BK342 := n2_; have BK343 := n3_; have HB := n4_; clear n0_ n1_ n2_ n3_ n4_; (try clear hb); (try clear ho0); obtain ⟨Ao10, co10, eo10⟩ := Kd.R_slice HO346.out; subst eo10)))
 go_loopg [16] k (fun kq v16 w' => ∃ (x16_1 : Int) (x344000_1 : Int) (x344001_1 : Int), v16 = .int .i64 x16_1 ∧ Aside0 (spec_orTurn.l0 kq t344 t347 (t344.length : Int) x16_1 a0_0 a0_1 = some (r1, r2)) ∧ Aside0 (kq ≤ k) ∧ Aside0 (Kd.R (Kd.int .i64) 3 w' w.heap.size (fun k_ => some k_ ≠ (v348 : Value).ownBlock) (.slice Ao10 t344.length co10) t344) ∧ Aside0 (Kd.R (Kd.int .i64) 3 w' w.heap.size (fun k_ => some k_ ≠ ((.slice Ao10 t344.length co10) : Value).ownBlock) v348 t347) ∧ Aside0 (w'.heap[gb342]? = some (.cells #[.int .i64 a0_0, .int .i64 a0_1] 25 (0, 0))) ∧ Aside0 (w'.heap[gb343]? = some (.cells #[.int .i64 x344000_1, .int .i64 x344001_1] 59 (0, 0))) ∧ Aside0 (Below w.heap.size w w'))
 case atStart => exact ⟨(0), (0), (0), fR, H', ⟨Nat.le_refl _⟩, ⟨by (with_reducible repeat (first | apply Kd.R_alloc | apply Kd.R_drewN | apply Kd.R_drew)); exact Kd.R_mono HO346.out (fun _ hk => hk.2)⟩, ⟨by (with_reducible repeat (first | apply Kd.R_alloc | apply Kd.R_drewN | apply Kd.R_drew)); exact Kd.R_mono HO349.out (fun _ hk => hk.2)⟩, ⟨bK⟩, ⟨bK⟩, ⟨bG⟩⟩
 case round =>
  clear H'
  try clear p2
  try clear c4
  obtain ⟨x16_1, x344000_1, x344001_1, rfl, HA, HK1, HO_7, HO_8, BK342, BK343, HB⟩ := hrel
  cases gk with
  | zero => exact absurd HA.out (by simp [spec_orTurn.l0])
  | succ k1 =>
   have H := HA.out
   clear HA
   simp only [spec_orTurn.l0] at H
   by_cases c11 : x16_1 < (t344.length : Int)
   ·rw [if_pos c11] at H
    have c11b0 : decide (x16_1 < (t344.length : Int)) = true := decide_eq_true c11
    clear c11
    replace H := nz H; obtain ⟨c12, H⟩ := H
    have c12b0 : decide (0 ≤ x16_1) = true := decide_eq_true c12
    clear c12
    replace H := nz H; obtain ⟨c13, H⟩ := H
    have c13b0 : decide (x16_1 < (t344.length : Int)) = true := decide_eq_true c13
    clear c13
    replace H := nz H; obtain ⟨c14, H⟩ := H
    have c14b0 : decide (x16_1 < (t347.length : Int)) = true := decide_eq_true c14
    clear c14
    by_cases c15 : (rd t344 x16_1) = (rd t347 x16_1)
    ·rw [if_pos c15] at H
     have c15b0 : ((rd t344 x16_1) == (rd t347 x16_1)) = true := beq_iff_eq.mpr c15
     have c15b1 : ((rd t344 x16_1) != (rd t347 x16_1)) = false := bne_eq_false_iff_eq.mpr c15
     clear c15
     have H' := Aside0.mk H
     clear H
     have p350 : 0 ≤ (x16_1 : Int) := oD
     have q350 : x16_1 < (t344.length : Int) := oD
     obtain ⟨ad350, e350, hx350_0⟩ := Kd.at_int (Kd.R_reads' HO_7.out).2.2 x16_1 p350 q350
     cases e350
     replace p350 := eq_true p350
     replace q350 := eq_true q350
     obtain ⟨Ao16, co16, eo16⟩ := Kd.R_slice HO_8.out
     subst eo16
     have p351 : 0 ≤ (x16_1 : Int) := oD
     have q351 : x16_1 < (t347.length : Int) := oD
     obtain ⟨ad351, e351, hx351_0⟩ := Kd.at_int (Kd.R_reads' HO_8.out).2.2 x16_1 p351 q351
     cases e351
     replace p351 := eq_true p351
     replace q351 := eq_true q351
     go_wp2
     repeat (go_quiet (fail); try go_wp2)
     go_roundg k1
     case measure => have := HK1.out; omega
     case rel => exact ⟨(wrap64 (x16_1 + 1)), (x344000_1), (x344001_1), fR, H', ⟨by have := HK1.out; omega⟩, ⟨kR HO_7⟩, ⟨kR HO_8⟩, ⟨bK⟩, ⟨bK⟩, ⟨bG⟩⟩
    ·rw [if_neg c15] at H
     have c15b0 : ((rd t344 x16_1) == (rd t347 x16_1)) = false := beq_eq_false_iff_ne.mpr c15
     have c15b1 : ((rd t344 x16_1) != (rd t347 x16_1)) = true := bne_iff_ne.mpr c15
     replace H := Option.bind_eq_some_iff.mp H
     obtain ⟨t353, A170, H⟩ := H
     (try dsimp only at H)
     have A17 := Aside0.mk A170
     clear A170
     by_cases c18 : t353 = (rd t347 x16_1)
     ·rw [if_pos c18] at H
      have c18b0 : (t353 == (rd t347 x16_1)) = true := beq_iff_eq.mpr c18
      have c18b1 : (t353 != (rd t347 x16_1)) = false := bne_eq_false_iff_eq.mpr c18
      clear c18
      simp only [Option.some.injEq, Prod.mk.injEq] at H
      obtain ⟨rfl, rfl⟩ := H
      have p350 : 0 ≤ (x16_1 : Int) := oD
      have q350 : x16_1 < (t344.length : Int) := oD
      obtain ⟨ad350, e350, hx350_0⟩ := Kd.at_int (Kd.R_reads' HO_7.out).2.2 x16_1 p350 q350
      cases e350
      replace p350 := eq_true p350
      replace q350 := eq_true q350
      obtain ⟨Ao19, co19, eo19⟩ := Kd.R_slice HO_8.out
      subst eo19
      have p351 : 0 ≤ (x16_1 : Int) := oD
      have q351 : x16_1 < (t347.length : Int) := oD
      obtain ⟨ad351, e351, hx351_0⟩ := Kd.at_int (Kd.R_reads' HO_8.out).2.2 x16_1 p351 q351
      cases e351
      replace p351 := eq_true p351
      replace q351 := eq_true q351
      have p352 : 0 ≤ (x16_1 : Int) := oD
      have q352 : x16_1 < (t344.length : Int) := oD
      obtain ⟨ad352, e352, hx352_0⟩ := Kd.at_int (Kd.R_reads' HO_7.out).2.2 x16_1 p352 q352
      obtain rfl : ad350 = ad352 := (by injection e352)
      replace p352 := eq_true p352
      replace q352 := eq_true q352
      have hnb20 := NB342_343.out
      have hnc20 := NB343_342.out
      have hcz21_0 := cZ BK342 0 (.int .i64 a0_0)
      have hcz21_1 := cZ BK342 1 (.int .i64 a0_1)
      have hfz21_0 := blk_frozen BK342.out 0
      have hfz21_1 := blk_frozen BK342.out 1
      have hcz22_0 := cZ BK343 0 (.int .i64 x344000_1)
      have hcz22_1 := cZ BK343 1 (.int .i64 x344001_1)
      have hfz22_0 := blk_frozen BK343.out 0
      have hfz22_1 := blk_frozen BK343.out 1
      go_wp2
      repeat (go_quiet (first | (go_at_call 59; refine (spec_l1Mod.calls (wrap64 ((rd t344 x16_1) + 1)) a0_1 t353 _ A17.out).mono ?_; rintro e w' ⟨rfl, ⟨nd, rfl⟩⟩; exact ⟨rfl, _, Eq.trans (World.drewN_drewN _ _ _) (congrArg (World.drewN _) (Nat.add_assoc _ _ _))⟩)); try go_wp2)
      refine bodyPost_ret (results_cell_row rfl _ _ gb343 59 #[.int .i64 x16_1, .int .i64 1] (0, 0) _ rfl (by (with_reducible repeat (first | refine blk_drewN ?_ _ | refine blk_drew ?_ | refine blk_alloc ?_ _)); refine blk_put (cs := #[.int .i64 x16_1, .int .i64 x344001_1]) ?_ 1 _ rfl; (with_reducible repeat (first | refine blk_drewN ?_ _ | refine blk_drew ?_ | refine blk_alloc ?_ _)); refine blk_put (cs := #[.int .i64 x344000_1, .int .i64 x344001_1]) ?_ 0 _ rfl; (with_reducible repeat (first | refine blk_drewN ?_ _ | refine blk_drew ?_ | refine blk_alloc ?_ _)); exact BK343.out) Tryz.underlying59 rfl (by kernel_rfl)) rfl ?_
      exact ⟨rE, bG⟩
     ·rw [if_neg c18] at H
      have c18b0 : (t353 == (rd t347 x16_1)) = false := beq_eq_false_iff_ne.mpr c18
      have c18b1 : (t353 != (rd t347 x16_1)) = true := bne_iff_ne.mpr c18
      simp only [Option.some.injEq, Prod.mk.injEq] at H
      obtain ⟨rfl, rfl⟩ := H
      have p350 : 0 ≤ (x16_1 : Int) := oD
      have q350 : x16_1 < (t344.length : Int) := oD
      obtain ⟨ad350, e350, hx350_0⟩ := Kd.at_int (Kd.R_reads' HO_7.out).2.2 x16_1 p350 q350
      cases e350
      replace p350 := eq_true p350
      replace q350 := eq_true q350
      obtain ⟨Ao23, co23, eo23⟩ := Kd.R_slice HO_8.out
      subst eo23
      have p351 : 0 ≤ (x16_1 : Int) := oD
      have q351 : x16_1 < (t347.length : Int) := oD
      obtain ⟨ad351, e351, hx351_0⟩ := Kd.at_int (Kd.R_reads' HO_8.out).2.2 x16_1 p351 q351
      cases e351
      replace p351 := eq_true p351
      replace q351 := eq_true q351
      have p352 : 0 ≤ (x16_1 : Int) := oD
      have q352 : x16_1 < (t344.length : Int) := oD
      obtain ⟨ad352, e352, hx352_0⟩ := Kd.at_int (Kd.R_reads' HO_7.out).2.2 x16_1 p352 q352
      obtain rfl : ad350 = ad352 := (by injection e352)
      replace p352 := eq_true p352
      replace q352 := eq_true q352
      have hnb24 := NB342_343.out
      have hnc24 := NB343_342.out
      have hcz25_0 := cZ BK342 0 (.int .i64 a0_0)
      have hcz25_1 := cZ BK342 1 (.int .i64 a0_1)
      have hfz25_0 := blk_frozen BK342.out 0
      have hfz25_1 := blk_frozen BK342.out 1
      have hcz26_0 := cZ BK343 0 (.int .i64 x344000_1)
      have hcz26_1 := cZ BK343 1 (.int .i64 x344001_1)
      have hfz26_0 := blk_frozen BK343.out 0
      have hfz26_1 := blk_frozen BK343.out 1
      go_wp2
      repeat (go_quiet (first | (go_at_call 59; refine (spec_l1Mod.calls (wrap64 ((rd t344 x16_1) + 1)) a0_1 t353 _ A17.out).mono ?_; rintro e w' ⟨rfl, ⟨nd, rfl⟩⟩; exact ⟨rfl, _, Eq.trans (World.drewN_drewN _ _ _) (congrArg (World.drewN _) (Nat.add_assoc _ _ _))⟩)); try go_wp2)
      refine bodyPost_ret (results_cell_row rfl _ _ gb343 59 #[.int .i64 x16_1, .int .i64 (-1)] (0, 0) _ rfl (by (with_reducible repeat (first | refine blk_drewN ?_ _ | refine blk_drew ?_ | refine blk_alloc ?_ _)); refine blk_put (cs := #[.int .i64 x16_1, .int .i64 x344001_1]) ?_ 1 _ rfl; (with_reducible repeat (first | refine blk_drewN ?_ _ | refine blk_drew ?_ | refine blk_alloc ?_ _)); refine blk_put (cs := #[.int .i64 x344000_1, .int .i64 x344001_1]) ?_ 0 _ rfl; (with_reducible repeat (first | refine blk_drewN ?_ _ | refine blk_drew ?_ | refine blk_alloc ?_ _)); exact BK343.out) Tryz.underlying59 rfl (by kernel_rfl)) rfl ?_
      exact ⟨rE, bG⟩
   ·rw [if_neg c11] at H
    have c11b0 : decide (x16_1 < (t344.length : Int)) = false := decide_eq_false c11
    clear c11
    simp only [Option.some.injEq, Prod.mk.injEq] at H
    obtain ⟨rfl, rfl⟩ := H
    have hnb27 := NB343_342.out
    have hnc27 := NB342_343.out
    have hcz28_0 := cZ BK343 0 (.int .i64 x344000_1)
    have hcz28_1 := cZ BK343 1 (.int .i64 x344001_1)
    have hfz28_0 := blk_frozen BK343.out 0
    have hfz28_1 := blk_frozen BK343.out 1
    go_wp2
    repeat (go_quiet (fail); try go_wp2)
    refine bodyPost_ret (results_cell_row rfl _ _ gb343 59 #[.int .i64 0, .int .i64 0] (0, 0) _ rfl (by (with_reducible repeat (first | refine blk_drewN ?_ _ | refine blk_drew ?_ | refine blk_alloc ?_ _)); refine blk_put (cs := #[.int .i64 0, .int .i64 x344001_1]) ?_ 1 _ rfl; (with_reducible repeat (first | refine blk_drewN ?_ _ | refine blk_drew ?_ | refine blk_alloc ?_ _)); refine blk_put (cs := #[.int .i64 x344000_1, .int .i64 x344001_1]) ?_ 0 _ rfl; (with_reducible repeat (first | refine blk_drewN ?_ _ | refine blk_drew ?_ | refine blk_alloc ?_ _)); exact BK343.out) Tryz.underlying59 rfl (by kernel_rfl)) rfl ?_
    exact ⟨rE, bG⟩

end Go.Proofs.YthpmpkmdjpaemaaGreat.P
