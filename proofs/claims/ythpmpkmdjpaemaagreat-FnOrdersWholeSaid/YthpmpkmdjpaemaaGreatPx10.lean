-- Printed by hp.py, a program of this session: a machine's side of laws, out of the translation; Lean checks it.
import Derived.Test.YthpmpkmdjpaemaaGreatPx0
import Derived.Test.YthpmpkmdjpaemaaGreatPx5
import Derived.Test.YthpmpkmdjpaemaaGreatPx9
namespace Go.Proofs.YthpmpkmdjpaemaaGreat.P
open Go.RowKit Go.Proofs.YthpmpkmdjpaemaaGreatW.PrintWords Go.Proofs.YthpmpkmdjpaemaaGreatW.PrintLast Go.Proofs.YthpmpkmdjpaemaaGreatW.PrintMore
attribute [local go_sem] max2_int min2_int max_two min_two max_three min_three max_four min_four   -- for this text's walks alone
set_option maxHeartbeats 8000000
set_option maxRecDepth 100000
set_option linter.unusedVariables false
set_option linter.unusedSimpArgs false

/-! ### impl_Lock_isClosed: function 38 -/
def impl_Lock_isClosed.f (k : Nat) (a0_0 : Int) (a0_1 : Int) (l1 : List ByteArray) : Option (Bool) := (impl_Lock_isWhole.f k a0_0 a0_1 l1).bind fun t323 => (if t323 = true then (if 0 < (l1.length : Int) then (if 0 ≤ (wrap64 ((l1.length : Int) - 1)) then (if (wrap64 ((l1.length : Int) - 1)) < (l1.length : Int) then ((impl_Lock_distance.f k a0_0 a0_1 (rdOf ByteArray.empty l1 0) (rdOf ByteArray.empty l1 (wrap64 ((l1.length : Int) - 1)))).bind fun t326 => (some (t326 == 1))) else (none)) else (none)) else (none)) else (some false))
theorem impl_Lock_isClosed.mono : ∀ a0 a1 a2 k, LeO (impl_Lock_isClosed.f k a0 a1 a2) (impl_Lock_isClosed.f (k + 1) a0 a1 a2) := by
 intro a0 a1 a2 k
 unfold impl_Lock_isClosed.f
 repeat' first
   | (with_reducible first | exact impl_Lock_distance.mono _ _ _ _ _ | exact impl_Lock_isWhole.mono _ _ _ _ | exact LeO.refl _ | exact LeO.none _ | refine LeO.ite ?_ ?_ | refine LeO.bind ?_ (fun _ => ?_))
   | exact impl_Lock_distance.mono _ _ _ _ _
   | exact impl_Lock_isWhole.mono _ _ _ _
   | exact LeO.none _
   | refine LeO.ite ?_ ?_
   | refine LeO.bind ?_ (fun _ => ?_)
def impl_Lock_isClosed.T1 : Bool × List (List Nat × List Nat) := (true, [([], []), ([], []), ([0, 1], [0, 1]), ([2, 2], [2]), ([3], [3]), ([3], [3]), ([5, 3], [3, 5]), ([6, 3], [3, 6]), ([3], [3]), ([3], [3]), ([9, 3], [3, 9]), ([10, 3], [3, 10]), ([8, 11, 3], [3, 8, 11]), ([12, 3], [3, 12]), ([4, 7, 13, 3, 3], [3, 4, 7, 13]), ([14, 3], [3, 14]), ([3, 15], [3, 15]), ([16, 14, 0, 1, 2, 3, 4, 5, 6, 7, 8, 9, 10, 11, 12, 13, 14, 15, 16], [16])])
def impl_Lock_isClosed.B1 : List Nat := [0, 0, 3, 7, 15, 15, 47, 111, 15, 15, 527, 1551, 3855, 7951, 16383, 32767, 65535, 131071]
theorem impl_Lock_isClosed.tab1 : rtab .any (opsOf Tryz.f38 1) = impl_Lock_isClosed.T1 := by kernel_rfl
theorem impl_Lock_isClosed.bits1 : waitsOk impl_Lock_isClosed.T1.2 impl_Lock_isClosed.B1 = true := by kernel_rfl
theorem impl_Lock_isClosed.calls (k : Nat) (a0_0 : Int) (a0_1 : Int) (A1 : Option Addr) (c1 : Nat) (l1 : List ByteArray) (r : Bool) (w : World) (hr1 : Kd.C Kd.string w A1 l1.length l1) (hc1 : l1.length ≤ c1) (h : impl_Lock_isClosed.f k a0_0 a0_1 l1 = some r) :
  Calls Tryz.prog 38 #[.agg #[.int .i64 a0_0, .int .i64 a0_1], .slice A1 l1.length c1] w fun e w' => e = .returned (.bool r) ∧ Below w.heap.size w w' := by
 have hu25 := Tryz.underlying25
 have HR1 := Aside0.mk hr1
 have HC1 := Aside0.mk hc1
 clear hr1 hc1
 have HB := Aside0.mk (Below.refl w.heap.size w)
 have H := h
 unfold impl_Lock_isClosed.f at H
 clear h
 replace H := Option.bind_eq_some_iff.mp H
 obtain ⟨t323, A30, H⟩ := H
 (try dsimp only at H)
 have A3 := Aside0.mk A30
 clear A30
 by_cases c4 : t323 = true
 ·subst c4
  replace H := zt H
  replace H := nz H; obtain ⟨c5, H⟩ := H
  have c5b0 : decide (0 < (l1.length : Int)) = true := decide_eq_true c5
  have c5b1 : decide (0 < l1.length) = true := decide_eq_true (by omega)
  clear c5
  obtain ⟨ji6, hji6⟩ : ∃ j_ : Int, (wrap64 ((l1.length : Int) - 1)) = j_ := ⟨_, rfl⟩
  replace H : (if 0 ≤ (ji6) then (if (ji6) < (l1.length : Int) then ((impl_Lock_distance.f k a0_0 a0_1 (rdOf ByteArray.empty l1 0) (rdOf ByteArray.empty l1 (ji6))).bind fun t326 => (some (t326 == 1))) else (none)) else (none)) = some r := by first | (rw [hji6] at H; exact H) | (simp only [hji6] at H ⊢; exact H)
  (try rw [hji6] at A3)
  have hji6w : (IntKind.i64.wrap ((l1.length : Int) - 1)) = ji6 := (i64_w _).trans hji6
  replace H := nz H; obtain ⟨c7, H⟩ := H
  have c7b0 : decide (0 ≤ (ji6)) = true := decide_eq_true c7
  clear c7
  replace H := nz H; obtain ⟨c8, H⟩ := H
  have c8b0 : decide ((ji6) < (l1.length : Int)) = true := decide_eq_true c8
  clear c8
  replace H := Option.bind_eq_some_iff.mp H
  obtain ⟨t326, A90, H⟩ := H
  (try dsimp only at H)
  have A9 := Aside0.mk A90
  clear A90
  obtain rfl := Option.some.inj H
  go_enter Tryz.func38, Tryz.ntmps38
  try go_wp2_with (first | ((with_reducible refine gate_dst (N := 2) rfl ?_); (try (refine gate_guard (by rfl) ?_; dsimp only)); refine box_event ?hg (N := 2) ?hd (cs := #[.int .i64 a0_0, .int .i64 a0_1]) (t := 25) ?hr ?_; (case hd => rfl); (case hg => rfl); (case hr => first | (go_simp; done) | (go_simp; rfl)); intro gb322 hg w10 hbox hb; have BK322 := Aside0.mk (hbox); have GW322 : Aside0 (w.heap.size ≤ gb322) := gW hg; have GE322 := GW322; replace HB := Aside0.mk (below_step bB hb); clear hb hbox hg))
  have n0_ := Aside0.mk (blk_drew BK322.out)
  have n1_ := Aside0.mk (below_drew1 HB.out)
  clear BK322
  clear HB
  have BK322 := n0_
  have HB := n1_
  clear n0_ n1_
  have p324 : 0 ≤ (0 : Int) := (by omega)
  have q324 : 0 < (l1.length : Int) := oD
  obtain ⟨ad324, e324, hx324_0⟩ := Kd.at_string HR1.out 0 p324 q324
  have hw324_0 := hx324_0
  (try rw [show ((0 : Int)).toNat = 0 from rfl] at hw324_0)
  (try rw [show 0 * 1 = 0 from rfl] at hw324_0)
  (try rw [Addr.add_zero'] at hw324_0)
  cases e324
  have qi324 : (0 < l1.length) = True := eq_true (by omega)
  (try rw [show ((0 : Int)).toNat = 0 from rfl] at hx324_0)
  (try rw [Addr.add_zero'] at hx324_0)
  replace hx324_0 := (HB.out.cell (World.block_lt_of_cell? w _ hx324_0)).trans hx324_0
  replace p324 := eq_true p324
  replace q324 := eq_true q324
  have p325 : 0 ≤ ((ji6) : Int) := oD
  have q325 : (ji6) < (l1.length : Int) := oD
  obtain ⟨ad325, e325, hx325_0⟩ := Kd.at_string HR1.out (ji6) p325 q325
  have hw325_0 := hx325_0
  obtain rfl : ad324 = ad325 := (by injection e325)
  replace hx325_0 := (HB.out.cell (World.block_lt_of_cell? w _ hx325_0)).trans hx325_0
  replace p325 := eq_true p325
  replace q325 := eq_true q325
  refine start_ (n := 18) (S := fun w' => w'.cell? ⟨gb322, 0, none⟩ = some (.int .i64 a0_0) ∧ w'.cell? ⟨gb322, 1, none⟩ = some (.int .i64 a0_1) ∧ w'.cell? ad324 = some (.string (rdOf ByteArray.empty l1 0)) ∧ w'.cell? (ad324.add ((ji6)).toNat) = some (.string (rdOf ByteArray.empty l1 (ji6)))) (ds := []) #[false, false, false, false, false, false, false, false, false, false, false, false, false, false, false, false, false, false] (by kernel_rfl) rfl rfl ⟨(blk_cell BK322.out 0).trans rfl, (blk_cell BK322.out 1).trans rfl, ((HB.out.cell (World.block_lt_of_cell? w _ hw324_0)).trans hw324_0), ((HB.out.cell (World.block_lt_of_cell? w _ hw325_0)).trans hw325_0)⟩ (fun hHeld => ?_); refine with_tabW impl_Lock_isClosed.tab1 impl_Lock_isClosed.bits1 (fun HT_ HW_ => ?_)
  generalize w10.drew = w11 at BK322 HB hx324_0 hx325_0 hHeld ⊢
  refine pU (i := 1) (N := some 6) ?_
  refine tU4 (i := 0) (N := some 5) ?_
  refine oU (i := 2) (N := some 7) (fun K hK => ?_)
  refine goes_ Tryz.func36 (by kernel_rfl) rfl #[.agg #[.int .i64 a0_0, .int .i64 a0_1], .slice (some ad324) l1.length c1] (by rfl) rfl rfl lM ?_
  with_reducible refine (impl_Lock_isWhole.calls k a0_0 a0_1 _ _ l1 true _ ?side1 ?side2 A3.out).mono ?_
  (case side1 => exact cS (Kd.C_below HR1.out HB.out))
  (case side2 => exact HC1.out)
  rintro e w12 ⟨rfl, hb⟩
  refine ⟨_, rfl, ?_⟩
  have n0_ := Aside0.mk (blk_below (g := gb322) (o := .cells #[.int .i64 a0_0, .int .i64 a0_1] 25 (0, 0)) bK hb)
  have n1_ := Aside0.mk (below_step bG hb)
  clear BK322
  clear HB
  have BK322 := n0_
  have HB := n1_
  clear n0_ n1_
  (try clear hb)
  refine hK.out _ _ ⟨(blk_cell BK322.out 0).trans rfl, (blk_cell BK322.out 1).trans rfl, ((HB.out.cell (World.block_lt_of_cell? w _ hw324_0)).trans hw324_0), ((HB.out.cell (World.block_lt_of_cell? w _ hw325_0)).trans hw325_0)⟩ (fun hHeld => ?_)
  clear hK K
  refine nU (some 7) ?_
  refine pU (i := 3) (N := some 8) ?_
  refine pU (i := 5) (N := some 10) ?_
  refine pU (i := 6) (N := some 11) ?_
  refine pU (i := 8) (N := some 13) ?_
  refine pU (i := 9) (N := some 14) ?_
  refine pU (i := 10) (N := some 15) ?_
  refine pU (i := 11) (N := some 16) ?_
  refine pU (i := 12) (N := some 17) ?_
  refine tU4 (i := 4) (N := some 9) ?_
  refine tU4 (i := 7) (N := some 12) ?_
  refine tU4 (i := 13) (N := some 18) ?_
  refine oU (i := 14) (N := some 19) (fun K hK => ?_)
  refine goes_ Tryz.func69 (by kernel_rfl) rfl #[.agg #[.int .i64 a0_0, .int .i64 a0_1], .string (rdOf ByteArray.empty l1 0), .string (rdOf ByteArray.empty l1 (ji6))] (by rfl) rfl rfl (by (try simp only [List.map_toArray, List.map_cons, List.map_nil]); first | done | (simp only [hji6]; rfl) | rfl | (simp only [List.length_drop, List.length_take]; rfl)) ?_
  with_reducible refine (impl_Lock_distance.calls k a0_0 a0_1 (rdOf ByteArray.empty l1 0) (rdOf ByteArray.empty l1 (ji6)) t326 _ A9.out).mono ?_
  rintro e w13 ⟨rfl, hb⟩
  refine ⟨_, rfl, ?_⟩
  have n0_ := Aside0.mk (blk_below (g := gb322) (o := .cells #[.int .i64 a0_0, .int .i64 a0_1] 25 (0, 0)) bK hb)
  have n1_ := Aside0.mk (below_step bG hb)
  clear BK322
  clear HB
  have BK322 := n0_
  have HB := n1_
  clear n0_ n1_
  (try clear hb)
  refine hK.out _ _ ⟨(blk_cell BK322.out 0).trans rfl, (blk_cell BK322.out 1).trans rfl, ((HB.out.cell (World.block_lt_of_cell? w _ hw324_0)).trans hw324_0), ((HB.out.cell (World.block_lt_of_cell? w _ hw325_0)).trans hw325_0)⟩ (fun hHeld => ?_)
  clear hK K
  refine nU (some 19) ?_
  refine pU (i := 15) (N := some 20) ?_
  refine pU (i := 16) (N := some 21) ?_
  refine pU (i := 17) (N := some 4) ?_
  refine done_ (done_of HT_.out (by kernel_rfl)) ?_
  try go_wp2
  go_ret
  exact ⟨by first | rfl | (simp [errW_none, errW_some] <;> rfl) | (simp only [← hji6]; first | rfl | (simp [errW_none, errW_some] <;> rfl)) | (simp [*, errW_none, errW_some] <;> rfl), bG⟩
 ·replace c4 := Bool.eq_false_iff.mpr c4
  subst c4
  replace H := zf H
  obtain rfl := Option.some.inj H
  go_enter Tryz.func38, Tryz.ntmps38
  try go_wp2_with (first | ((with_reducible refine gate_dst (N := 2) rfl ?_); (try (refine gate_guard (by rfl) ?_; dsimp only)); refine box_event ?hg (N := 2) ?hd (cs := #[.int .i64 a0_0, .int .i64 a0_1]) (t := 25) ?hr ?_; (case hd => rfl); (case hg => rfl); (case hr => first | (go_simp; done) | (go_simp; rfl)); intro gb322 hg w14 hbox hb; have BK322 := Aside0.mk (hbox); have GW322 : Aside0 (w.heap.size ≤ gb322) := gW hg; have GE322 := GW322; replace HB := Aside0.mk (below_step bB hb); clear hb hbox hg))
  have n0_ := Aside0.mk (blk_drew BK322.out)
  have n1_ := Aside0.mk (below_drew1 HB.out)
  clear BK322
  clear HB
  have BK322 := n0_
  have HB := n1_
  clear n0_ n1_
  refine start_ (n := 18) (S := fun w' => w'.cell? ⟨gb322, 0, none⟩ = some (.int .i64 a0_0) ∧ w'.cell? ⟨gb322, 1, none⟩ = some (.int .i64 a0_1)) (ds := []) #[false, false, false, false, false, false, false, false, false, false, false, false, false, false, false, false, false, false] (by kernel_rfl) rfl rfl ⟨(blk_cell BK322.out 0).trans rfl, (blk_cell BK322.out 1).trans rfl⟩ (fun hHeld => ?_); refine with_tabW impl_Lock_isClosed.tab1 impl_Lock_isClosed.bits1 (fun HT_ HW_ => ?_)
  generalize w14.drew = w15 at BK322 HB hHeld ⊢
  refine pU (i := 1) (N := some 6) ?_
  refine tU2 (i := 0) (N := some 5) ?_
  refine oU (i := 2) (N := some 7) (fun K hK => ?_)
  refine goes_ Tryz.func36 (by kernel_rfl) rfl #[.agg #[.int .i64 a0_0, .int .i64 a0_1], .slice A1 l1.length c1] (by rfl) rfl rfl lM ?_
  with_reducible refine (impl_Lock_isWhole.calls k a0_0 a0_1 _ _ l1 false _ ?side1 ?side2 A3.out).mono ?_
  (case side1 => exact cS (Kd.C_below HR1.out HB.out))
  (case side2 => exact HC1.out)
  rintro e w16 ⟨rfl, hb⟩
  refine ⟨_, rfl, ?_⟩
  have n0_ := Aside0.mk (blk_below (g := gb322) (o := .cells #[.int .i64 a0_0, .int .i64 a0_1] 25 (0, 0)) bK hb)
  have n1_ := Aside0.mk (below_step bG hb)
  clear BK322
  clear HB
  have BK322 := n0_
  have HB := n1_
  clear n0_ n1_
  (try clear hb)
  refine hK.out _ _ ⟨(blk_cell BK322.out 0).trans rfl, (blk_cell BK322.out 1).trans rfl⟩ (fun hHeld => ?_)
  clear hK K
  refine nU (some 7) ?_
  refine pU (i := 3) (N := some 8) ?_
  refine pV (i := 4) (N := some 9) (v := undef) ?_
  refine pV (i := 5) (N := some 10) (v := undef) ?_
  refine pV (i := 6) (N := some 11) (v := undef) ?_
  refine pV (i := 7) (N := some 12) (v := undef) ?_
  refine pV (i := 8) (N := some 13) (v := undef) ?_
  refine pV (i := 9) (N := some 14) (v := undef) ?_
  refine pV (i := 10) (N := some 15) (v := undef) ?_
  refine pV (i := 11) (N := some 16) (v := undef) ?_
  refine pV (i := 12) (N := some 17) (v := undef) ?_
  refine pV (i := 13) (N := some 18) (v := undef) ?_
  refine pV (i := 14) (N := some 19) (v := undef) ?_
  refine pV (i := 15) (N := some 20) (v := undef) ?_
  refine pU (i := 16) (N := some 21) ?_
  refine pU (i := 17) (N := some 4) ?_
  refine done_ (done_of HT_.out (by kernel_rfl)) ?_
  try go_wp2
  go_ret
  exact ⟨rE, bG⟩

/-! ### impl_IsClosedOrder: function 10 -/
def impl_IsClosedOrder.f (k : Nat) (a0_0 : Int) (a0_1 : Int) (l1 : List ByteArray) : Option (Bool × Bool) := (impl_IsLock.f a0_0 a0_1).bind fun t328 => (if t328 = true then ((impl_Lock_isClosed.f k a0_0 a0_1 l1).bind fun t329 => (some (t329, true))) else (some (false, false)))
theorem impl_IsClosedOrder.mono : ∀ a0 a1 a2 k, LeO (impl_IsClosedOrder.f k a0 a1 a2) (impl_IsClosedOrder.f (k + 1) a0 a1 a2) := by
 intro a0 a1 a2 k
 unfold impl_IsClosedOrder.f
 repeat' first
   | (with_reducible first | exact impl_Lock_isClosed.mono _ _ _ _ | exact LeO.refl _ | exact LeO.none _ | refine LeO.ite ?_ ?_ | refine LeO.bind ?_ (fun _ => ?_))
   | exact impl_Lock_isClosed.mono _ _ _ _
   | exact LeO.none _
   | refine LeO.ite ?_ ?_
   | refine LeO.bind ?_ (fun _ => ?_)
theorem impl_IsClosedOrder.calls (k : Nat) (a0_0 : Int) (a0_1 : Int) (A1 : Option Addr) (c1 : Nat) (l1 : List ByteArray) (r1 : Bool) (r2 : Bool) (w : World) (hr1 : Kd.C Kd.string w A1 l1.length l1) (hc1 : l1.length ≤ c1) (h : impl_IsClosedOrder.f k a0_0 a0_1 l1 = some (r1, r2)) :
  Calls Tryz.prog 10 #[.agg #[.int .i64 a0_0, .int .i64 a0_1], .slice A1 l1.length c1] w fun e w' => e = .returned (.tuple #[.bool r1, .bool r2]) ∧ Below w.heap.size w w' := by
 have hu25 := Tryz.underlying25
 have HR1 := Aside0.mk hr1
 have HC1 := Aside0.mk hc1
 clear hr1 hc1
 have HB := Aside0.mk (Below.refl w.heap.size w)
 have H := h
 unfold impl_IsClosedOrder.f at H
 clear h
 replace H := Option.bind_eq_some_iff.mp H
 obtain ⟨t328, A30, H⟩ := H
 (try dsimp only at H)
 have A3 := Aside0.mk A30
 clear A30
 by_cases c4 : t328 = true
 ·subst c4
  replace H := zt H
  replace H := Option.bind_eq_some_iff.mp H
  obtain ⟨t329, A50, H⟩ := H
  (try dsimp only at H)
  have A5 := Aside0.mk A50
  clear A50
  simp only [Option.some.injEq, Prod.mk.injEq] at H
  obtain ⟨rfl, rfl⟩ := H
  go_enter Tryz.func10, Tryz.ntmps10
  go_wp2_with (first | ((with_reducible refine gate_dst (N := 2) rfl ?_); refine box_event ?hg (N := 2) ?hd (cs := #[.int .i64 a0_0, .int .i64 a0_1]) (t := 25) ?hr ?_; (case hd => rfl); (case hg => rfl); (case hr => first | (go_simp; done) | (go_simp; rfl)); intro gb327 hg w6 hbox hb; have BK327 := Aside0.mk (hbox); have GW327 : Aside0 (w.heap.size ≤ gb327) := gW hg; have GE327 := GW327; replace HB := Aside0.mk (below_step bB hb); clear hb hbox hg; have hcz7_0 := cZ BK327 0 (.int .i64 a0_0); have hcz7_1 := cZ BK327 1 (.int .i64 a0_1); have hfz7_0 := blk_frozen BK327.out 0; have hfz7_1 := blk_frozen BK327.out 1) | ((with_reducible refine gate_callee (f := 33) rfl ?_); refine goesL_ (some 7) rfl rfl Tryz.func33 (by kernel_rfl) rfl #[.agg #[.int .i64 a0_0, .int .i64 a0_1]] rfl lM ?_; (with_reducible refine (impl_IsLock.calls a0_0 a0_1 true _ A3.out).mono ?_); rintro e w8 ⟨rfl, hb⟩; refine ⟨_, rfl, ?_⟩; replace BK327 := bW BK327 hb; replace HB := Aside0.mk (below_step bG hb); (try clear hb); have hcz9_0 := cZ BK327 0 (.int .i64 a0_0); have hcz9_1 := cZ BK327 1 (.int .i64 a0_1); have hfz9_0 := blk_frozen BK327.out 0; have hfz9_1 := blk_frozen BK327.out 1) | ((with_reducible refine gate_callee (f := 38) rfl ?_); refine goesL_ (some 11) rfl rfl Tryz.func38 (by kernel_rfl) rfl #[.agg #[.int .i64 a0_0, .int .i64 a0_1], .slice A1 l1.length c1] rfl lM ?_; (with_reducible refine (impl_Lock_isClosed.calls k a0_0 a0_1 _ _ l1 t329 _ ?side1 ?side2 A5.out).mono ?_); (case side1 => exact cS (Kd.C_below HR1.out HB.out)); (case side2 => exact HC1.out); rintro e w10 ⟨rfl, hb⟩; refine ⟨_, rfl, ?_⟩; replace BK327 := bW BK327 hb; replace HB := Aside0.mk (below_step bG hb); (try clear hb)))
  go_ret2
  exact ⟨rE, bG⟩
 ·replace c4 := Bool.eq_false_iff.mpr c4
  subst c4
  replace H := zf H
  simp only [Option.some.injEq, Prod.mk.injEq] at H
  obtain ⟨rfl, rfl⟩ := H
  go_enter Tryz.func10, Tryz.ntmps10
  go_wp2_with (first | ((with_reducible refine gate_dst (N := 2) rfl ?_); refine box_event ?hg (N := 2) ?hd (cs := #[.int .i64 a0_0, .int .i64 a0_1]) (t := 25) ?hr ?_; (case hd => rfl); (case hg => rfl); (case hr => first | (go_simp; done) | (go_simp; rfl)); intro gb327 hg w11 hbox hb; have BK327 := Aside0.mk (hbox); have GW327 : Aside0 (w.heap.size ≤ gb327) := gW hg; have GE327 := GW327; replace HB := Aside0.mk (below_step bB hb); clear hb hbox hg; have hcz12_0 := cZ BK327 0 (.int .i64 a0_0); have hcz12_1 := cZ BK327 1 (.int .i64 a0_1); have hfz12_0 := blk_frozen BK327.out 0; have hfz12_1 := blk_frozen BK327.out 1) | ((with_reducible refine gate_callee (f := 33) rfl ?_); refine goesL_ (some 7) rfl rfl Tryz.func33 (by kernel_rfl) rfl #[.agg #[.int .i64 a0_0, .int .i64 a0_1]] rfl lM ?_; (with_reducible refine (impl_IsLock.calls a0_0 a0_1 false _ A3.out).mono ?_); rintro e w13 ⟨rfl, hb⟩; refine ⟨_, rfl, ?_⟩; replace BK327 := bW BK327 hb; replace HB := Aside0.mk (below_step bG hb); (try clear hb)))
  go_ret2
  exact ⟨rE, bG⟩

end Go.Proofs.YthpmpkmdjpaemaaGreat.P
