-- Printed by hp.py, a program of this session: a machine's side of laws, out of the translation; Lean checks it.
import Derived.Test.YthpmpkmdjpaemaaGreatPx0
import Derived.Test.YthpmpkmdjpaemaaGreatPx3
import Derived.Test.YthpmpkmdjpaemaaGreatPx13
import Derived.Test.YthpmpkmdjpaemaaGreatPx15
import Derived.Test.YthpmpkmdjpaemaaGreatPx16
import Derived.Test.YthpmpkmdjpaemaaGreatPx19
namespace Go.Proofs.YthpmpkmdjpaemaaGreat.P
open Go.RowKit Go.Proofs.YthpmpkmdjpaemaaGreatW.PrintWords Go.Proofs.YthpmpkmdjpaemaaGreatW.PrintLast Go.Proofs.YthpmpkmdjpaemaaGreatW.PrintMore
attribute [local go_sem] max2_int min2_int max_two min_two max_three min_three max_four min_four   -- for this text's walks alone
set_option maxHeartbeats 8000000
set_option maxRecDepth 100000
set_option linter.unusedVariables false
set_option linter.unusedSimpArgs false

/-! ### spec_orZero: function 50 -/
def spec_orZero.f (k : Nat) (a0_0 : Int) (a0_1 : Int) : Option (List ByteArray) := (spec_whOf.f k a0_0 a0_1 0).bind fun t540 => (some (([t540] : List ByteArray)))
theorem spec_orZero.mono : ∀ a0 a1 k, LeO (spec_orZero.f k a0 a1) (spec_orZero.f (k + 1) a0 a1) := by
 intro a0 a1 k
 unfold spec_orZero.f
 repeat' first
   | (with_reducible first | exact spec_whOf.mono _ _ _ _ | exact LeO.refl _ | exact LeO.none _ | refine LeO.ite ?_ ?_ | refine LeO.bind ?_ (fun _ => ?_))
   | exact spec_whOf.mono _ _ _ _
   | exact LeO.none _
   | refine LeO.ite ?_ ?_
   | refine LeO.bind ?_ (fun _ => ?_)
theorem spec_orZero.calls (k : Nat) (a0_0 : Int) (a0_1 : Int) (r : List ByteArray) (w : World) (h : spec_orZero.f k a0_0 a0_1 = some r) :
  Calls Tryz.prog 50 #[.agg #[.int .i64 a0_0, .int .i64 a0_1]] w fun e w' => ∃ v0_ : Value, e = .returned (v0_) ∧ Kd.R Kd.string 9 w' w.heap.size (fun _ => True) v0_ r ∧ Below w.heap.size w w' := by
 have hu25 := Tryz.underlying25
 have HB := Aside0.mk (Below.refl w.heap.size w)
 have H := h
 unfold spec_orZero.f at H
 clear h
 replace H := Option.bind_eq_some_iff.mp H
 obtain ⟨t540, A20, H⟩ := H
 (try dsimp only at H)
 have A2 := Aside0.mk A20
 clear A20
 obtain ⟨y541, hy541⟩ : ∃ y_ : List ByteArray, y_ = (([t540] : List ByteArray)) := ⟨_, rfl⟩
 replace H : (some y541) = some r := hZ hy541 H
 have Ny541 := Aside0.mk hy541
 clear hy541
 obtain rfl := Option.some.inj H
 go_enter Tryz.func50, Tryz.ntmps50
 go_wp2_with (first | ((with_reducible refine gate_dst (N := 1) rfl ?_); refine box_event ?hg (N := 1) ?hd (cs := #[.int .i64 a0_0, .int .i64 a0_1]) (t := 25) ?hr ?_; (case hd => rfl); (case hg => rfl); (case hr => first | (go_simp; done) | (go_simp; rfl)); intro gb539 hg w3 hbox hb; have BK539 := Aside0.mk (hbox); have GW539 : Aside0 (w.heap.size ≤ gb539) := gW hg; have GE539 := GW539; replace HB := Aside0.mk (below_step bB hb); clear hb hbox hg; have hcz4_0 := cZ BK539 0 (.int .i64 a0_0); have hcz4_1 := cZ BK539 1 (.int .i64 a0_1); have hfz4_0 := blk_frozen BK539.out 0; have hfz4_1 := blk_frozen BK539.out 1) | ((with_reducible refine gate_callee (f := 57) rfl ?_); refine goesL_ (some 4) rfl rfl Tryz.func57 (by kernel_rfl) rfl #[.agg #[.int .i64 a0_0, .int .i64 a0_1], .int .i64 0] rfl lM ?_; (with_reducible refine (spec_whOf.calls k a0_0 a0_1 0 t540 _ A2.out).mono ?_); rintro e w5 ⟨rfl, hb⟩; refine ⟨_, rfl, ?_⟩; replace BK539 := bW BK539 hb; replace HB := Aside0.mk (below_step bG hb); (try clear hb)) | ((with_reducible refine gate_dst (N := 5) rfl ?_); refine Kd.R_lit Kd.string _ 9 ?hg (N := 5) ?hd (xs := ([t540] : List ByteArray)) (inner := [.string t540]) (ok := fun _ => True) (okp := fun _ => True) ?hr ?hp (fun _ hk => hk) trivial (Below.refl _ _) (Nat.le_refl _) (by simp) ?_; (case hd => rfl); (case hg => rfl); (case hr => first | (go_simp; done) | (go_simp; rfl)); (case hp => exact (Reps.one (show Kd.M Kd.string _ _ _ t540 [.string t540] from rfl) (Reps.none _ _))); intro v542 w6 ho7 hb hg_ hnew_; clear hg_ hnew_; (first | rw [← Ny541.out] at ho7 | (simp only [Int.reduceToNat] at ho7; rw [← Ny541.out] at ho7)); have HO543 := Aside0.mk (Kd.R_lower ho7 (below_size bG)); replace BK539 := bW BK539 hb; replace HB := Aside0.mk (below_step bG hb); clear hb ho7))
 go_ret
 exact ⟨_, rE, kR HO543, bG⟩

/-! ### spec_FirstWhole: function 19 -/
def spec_FirstWhole.f (k : Nat) (a0_0 : Int) (a0_1 : Int) : Option (List ByteArray × Bool) := (spec_orFew.f k a0_0 a0_1).bind fun t545 => (if t545 = true then ((spec_orZero.f k a0_0 a0_1).bind fun t546 => ((spec_orSearch.f k a0_0 a0_1 t546).bind fun bt549 => (some (bt549.1, true)))) else (some (([] : List ByteArray), false)))
theorem spec_FirstWhole.mono : ∀ a0 a1 k, LeO (spec_FirstWhole.f k a0 a1) (spec_FirstWhole.f (k + 1) a0 a1) := by
 intro a0 a1 k
 unfold spec_FirstWhole.f
 repeat' first
   | (with_reducible first | exact spec_orFew.mono _ _ _ | exact spec_orSearch.mono _ _ _ _ | exact spec_orZero.mono _ _ _ | exact LeO.refl _ | exact LeO.none _ | refine LeO.ite ?_ ?_ | refine LeO.bind ?_ (fun _ => ?_))
   | exact spec_orFew.mono _ _ _
   | exact spec_orSearch.mono _ _ _ _
   | exact spec_orZero.mono _ _ _
   | exact LeO.none _
   | refine LeO.ite ?_ ?_
   | refine LeO.bind ?_ (fun _ => ?_)
def spec_FirstWhole.T3 : Bool × List (List Nat × List Nat) := (true, [([], []), ([], []), ([1], [1]), ([0, 2, 2], [0, 2]), ([3], [3]), ([4], [4]), ([4], [4]), ([4], [4]), ([5, 3, 0, 1, 2, 3, 4, 5], [5]), ([6, 8, 0, 1, 2, 3, 4, 5, 6, 8], [6]), ([7, 9, 0, 1, 2, 3, 4, 5, 6, 7, 8, 9], [7])])
def spec_FirstWhole.B3 : List Nat := [0, 0, 2, 7, 15, 31, 31, 31, 63, 383, 1023]
theorem spec_FirstWhole.tab3 : rtab .any (opsOf Tryz.f19 3) = spec_FirstWhole.T3 := by kernel_rfl
theorem spec_FirstWhole.bits3 : waitsOk spec_FirstWhole.T3.2 spec_FirstWhole.B3 = true := by kernel_rfl
theorem spec_FirstWhole.calls (k : Nat) (a0_0 : Int) (a0_1 : Int) (r1 : List ByteArray) (r2 : Bool) (w : World) (h : spec_FirstWhole.f k a0_0 a0_1 = some (r1, r2)) :
  Calls Tryz.prog 19 #[.agg #[.int .i64 a0_0, .int .i64 a0_1]] w fun e w' => ∃ v0_ : Value, e = .returned (.tuple #[v0_, .bool r2]) ∧ Kd.R Kd.string 9 w' w.heap.size (fun _ => True) v0_ r1 ∧ Below w.heap.size w w' := by
 have hu25 := Tryz.underlying25
 have HB := Aside0.mk (Below.refl w.heap.size w)
 have H := h
 unfold spec_FirstWhole.f at H
 clear h
 replace H := Option.bind_eq_some_iff.mp H
 obtain ⟨t545, A20, H⟩ := H
 (try dsimp only at H)
 have A2 := Aside0.mk A20
 clear A20
 by_cases c3 : t545 = true
 ·subst c3
  replace H := zt H
  replace H := Option.bind_eq_some_iff.mp H
  obtain ⟨t546, A40, H⟩ := H
  (try dsimp only at H)
  have A4 := Aside0.mk A40
  clear A40
  replace H := Option.bind_eq_some_iff.mp H
  obtain ⟨⟨t549, t552, t553⟩, A50, H⟩ := H
  (try dsimp only at H)
  have A5 := Aside0.mk A50
  clear A50
  simp only [Option.some.injEq, Prod.mk.injEq] at H
  obtain ⟨rfl, rfl⟩ := H
  go_enter Tryz.func19, Tryz.ntmps19
  try go_wp2_with (first | ((with_reducible refine gate_dst (N := 1) rfl ?_); refine box_event ?hg (N := 1) ?hd (cs := #[.int .i64 a0_0, .int .i64 a0_1]) (t := 25) ?hr ?_; (case hd => rfl); (case hg => rfl); (case hr => first | (go_simp; done) | (go_simp; rfl)); intro gb544 hg w6 hbox hb; have BK544 := Aside0.mk (hbox); have GW544 : Aside0 (w.heap.size ≤ gb544) := gW hg; have GE544 := GW544; replace HB := Aside0.mk (below_step bB hb); clear hb hbox hg; have hcz7_0 := cZ BK544 0 (.int .i64 a0_0); have hcz7_1 := cZ BK544 1 (.int .i64 a0_1); have hfz7_0 := blk_frozen BK544.out 0; have hfz7_1 := blk_frozen BK544.out 1) | ((with_reducible refine gate_callee (f := 48) rfl ?_); refine goesL_ (some 8) rfl rfl Tryz.func48 (by kernel_rfl) rfl #[.agg #[.int .i64 a0_0, .int .i64 a0_1]] rfl lM ?_; (with_reducible refine (spec_orFew.calls k a0_0 a0_1 true _ A2.out).mono ?_); rintro e w8 ⟨rfl, hb⟩; refine ⟨_, rfl, ?_⟩; replace BK544 := bW BK544 hb; replace HB := Aside0.mk (below_step bG hb); (try clear hb)))
  have n0_ := Aside0.mk (blk_drew BK544.out)
  have n1_ := Aside0.mk (below_drew1 HB.out)
  clear BK544
  clear HB
  have BK544 := n0_
  have HB := n1_
  clear n0_ n1_
  refine start_ (n := 11) (S := fun w' => w'.cell? ⟨gb544, 0, none⟩ = some (.int .i64 a0_0) ∧ w'.cell? ⟨gb544, 1, none⟩ = some (.int .i64 a0_1)) (ds := []) #[false, false, false, false, false, false, false, false, false, false, false] (by kernel_rfl) rfl rfl ⟨(blk_cell BK544.out 0).trans rfl, (blk_cell BK544.out 1).trans rfl⟩ (fun hHeld => ?_); refine with_tabW spec_FirstWhole.tab3 spec_FirstWhole.bits3 (fun HT_ HW_ => ?_)
  generalize w8.drew = w9 at BK544 HB hHeld ⊢
  refine tU2 (i := 0) (N := some 11) ?_
  refine tU2 (i := 1) (N := some 12) ?_
  refine oU (i := 2) (N := some 13) (fun K hK => ?_)
  refine goes_ Tryz.func50 (by kernel_rfl) rfl #[.agg #[.int .i64 a0_0, .int .i64 a0_1]] (by rfl) rfl rfl lM ?_
  with_reducible refine (spec_orZero.calls k a0_0 a0_1 t546 _ A4.out).mono ?_
  rintro e w10 ⟨v547, rfl, ho0, hb⟩
  refine ⟨_, rfl, ?_⟩
  have n0_ := Aside0.mk (Kd.R_lower ho0 (below_size bG))
  have n1_ := Aside0.mk (blk_below (g := gb544) (o := .cells #[.int .i64 a0_0, .int .i64 a0_1] 25 (0, 0)) bK hb)
  have n2_ := Aside0.mk (below_step bG hb)
  clear BK544
  clear HB
  have HO548 := n0_
  have BK544 := n1_
  have HB := n2_
  clear n0_ n1_ n2_
  (try clear hb)
  (try clear hb2)
  (try clear hk)
  (try clear hi)
  (try clear ho0)
  obtain ⟨Ao11, co11, eo11⟩ := Kd.R_slice HO548.out
  (first | subst eo11 | (injection eo11 with f1_ f2_ f3_; have f4_ := f1_.symm; have f5_ := f3_.symm; clear f1_ f2_ f3_; subst f4_; subst f5_))
  refine hK.out _ _ ⟨(blk_cell BK544.out 0).trans rfl, (blk_cell BK544.out 1).trans rfl⟩ (fun hHeld => ?_)
  clear hK K
  refine nU (some 13) ?_
  refine oU (i := 3) (N := some 14) (fun K hK => ?_)
  refine goes_ Tryz.func49 (by kernel_rfl) rfl #[.agg #[.int .i64 a0_0, .int .i64 a0_1], .slice Ao11 t546.length co11] (by rfl) rfl rfl lM ?_
  with_reducible refine (spec_orSearch.calls k a0_0 a0_1 _ _ t546 t549 t552 t553 _ ?side1 ?side2 A5.out).mono ?_
  (case side1 => exact cS ((Kd.R_reads' HO548.out).2.2))
  (case side2 => exact (Kd.R_reads' HO548.out).2.1)
  rintro e w12 ⟨v550, rfl, ho0, hb⟩
  refine ⟨_, rfl, ?_⟩
  have n0_ := Aside0.mk (Kd.R_elder' (kR HO548) (Kd.R_base ho0) hb)
  have n1_ := Aside0.mk (Kd.R_lower (Kd.R_new' ho0 (Kd.R_lt (kR HO548))) (below_size bG))
  have n2_ := Aside0.mk (blk_below (g := gb544) (o := .cells #[.int .i64 a0_0, .int .i64 a0_1] 25 (0, 0)) bK hb)
  have n3_ := Aside0.mk (below_step bG hb)
  clear HO548
  clear BK544
  clear HB
  have HO548 := n0_
  have HO551 := n1_
  have BK544 := n2_
  have HB := n3_
  clear n0_ n1_ n2_ n3_
  (try clear hb)
  (try clear ho0)
  refine hK.out _ _ ⟨(blk_cell BK544.out 0).trans rfl, (blk_cell BK544.out 1).trans rfl⟩ (fun hHeld => ?_)
  clear hK K
  refine nU (some 14) ?_
  refine pU (i := 4) (N := some 10) ?_
  refine pU (i := 5) (N := some 15) ?_
  refine pU (i := 6) (N := some 16) ?_
  refine pU (i := 7) (N := some 17) ?_
  refine pU (i := 8) (N := some 4) ?_
  refine pU (i := 9) (N := some 5) ?_
  refine pU (i := 10) (N := some 6) ?_
  refine done_ (done_of HT_.out (by kernel_rfl)) ?_
  try go_wp2
  go_ret2
  exact ⟨_, rE, by (with_reducible repeat (first | apply Kd.R_alloc | apply Kd.R_drewN | apply Kd.R_drew)); exact Kd.R_mono HO551.out (fun _ hk => trivial), bG⟩
 ·replace c3 := Bool.eq_false_iff.mpr c3
  subst c3
  replace H := zf H
  simp only [Option.some.injEq, Prod.mk.injEq] at H
  obtain ⟨rfl, rfl⟩ := H
  go_enter Tryz.func19, Tryz.ntmps19
  go_wp2_with (first | ((with_reducible refine gate_dst (N := 1) rfl ?_); refine box_event ?hg (N := 1) ?hd (cs := #[.int .i64 a0_0, .int .i64 a0_1]) (t := 25) ?hr ?_; (case hd => rfl); (case hg => rfl); (case hr => first | (go_simp; done) | (go_simp; rfl)); intro gb544 hg w13 hbox hb; have BK544 := Aside0.mk (hbox); have GW544 : Aside0 (w.heap.size ≤ gb544) := gW hg; have GE544 := GW544; replace HB := Aside0.mk (below_step bB hb); clear hb hbox hg; have hcz14_0 := cZ BK544 0 (.int .i64 a0_0); have hcz14_1 := cZ BK544 1 (.int .i64 a0_1); have hfz14_0 := blk_frozen BK544.out 0; have hfz14_1 := blk_frozen BK544.out 1) | ((with_reducible refine gate_callee (f := 48) rfl ?_); refine goesL_ (some 8) rfl rfl Tryz.func48 (by kernel_rfl) rfl #[.agg #[.int .i64 a0_0, .int .i64 a0_1]] rfl lM ?_; (with_reducible refine (spec_orFew.calls k a0_0 a0_1 false _ A2.out).mono ?_); rintro e w15 ⟨rfl, hb⟩; refine ⟨_, rfl, ?_⟩; replace BK544 := bW BK544 hb; replace HB := Aside0.mk (below_step bG hb); (try clear hb)))
  go_ret2
  exact ⟨_, rE, by first | exact Kd.R_nil _ _ _ _ _ | exact Kd.N_nil _ _ _ _ _ | exact Kd.V_nil _ _ _ _ _ | exact Kd.Q_nil _ _ _ _ _ | exact Kd.S_nil _ _ _ _ _, bG⟩

/-! ### impl_CountWhole: function 20 -/
def impl_CountWhole.f (k : Nat) (a0_0 : Int) (a0_1 : Int) : Option (Int × Bool) := (impl_isSmall.f k a0_0 a0_1 9).bind fun t555 => (if t555 = true then ((impl_Lock_wholes.f k a0_0 a0_1).bind fun bt556 => (some (bt556.2.1, true))) else (some (0, false)))
theorem impl_CountWhole.mono : ∀ a0 a1 k, LeO (impl_CountWhole.f k a0 a1) (impl_CountWhole.f (k + 1) a0 a1) := by
 intro a0 a1 k
 unfold impl_CountWhole.f
 repeat' first
   | (with_reducible first | exact impl_Lock_wholes.mono _ _ _ | exact impl_isSmall.mono _ _ _ _ | exact LeO.refl _ | exact LeO.none _ | refine LeO.ite ?_ ?_ | refine LeO.bind ?_ (fun _ => ?_))
   | exact impl_Lock_wholes.mono _ _ _
   | exact impl_isSmall.mono _ _ _ _
   | exact LeO.none _
   | refine LeO.ite ?_ ?_
   | refine LeO.bind ?_ (fun _ => ?_)
theorem impl_CountWhole.calls (k : Nat) (a0_0 : Int) (a0_1 : Int) (r1 : Int) (r2 : Bool) (w : World) (h : impl_CountWhole.f k a0_0 a0_1 = some (r1, r2)) :
  Calls Tryz.prog 20 #[.agg #[.int .i64 a0_0, .int .i64 a0_1]] w fun e w' => e = .returned (.tuple #[.int .i64 r1, .bool r2]) ∧ Below w.heap.size w w' := by
 have hu25 := Tryz.underlying25
 have HB := Aside0.mk (Below.refl w.heap.size w)
 have H := h
 unfold impl_CountWhole.f at H
 clear h
 replace H := Option.bind_eq_some_iff.mp H
 obtain ⟨t555, A20, H⟩ := H
 (try dsimp only at H)
 have A2 := Aside0.mk A20
 clear A20
 by_cases c3 : t555 = true
 ·subst c3
  replace H := zt H
  replace H := Option.bind_eq_some_iff.mp H
  obtain ⟨⟨t556, t559, t560⟩, A40, H⟩ := H
  (try dsimp only at H)
  have A4 := Aside0.mk A40
  clear A40
  simp only [Option.some.injEq, Prod.mk.injEq] at H
  obtain ⟨rfl, rfl⟩ := H
  go_enter Tryz.func20, Tryz.ntmps20
  go_wp2_with (first | ((with_reducible refine gate_dst (N := 1) rfl ?_); refine box_event ?hg (N := 1) ?hd (cs := #[.int .i64 a0_0, .int .i64 a0_1]) (t := 25) ?hr ?_; (case hd => rfl); (case hg => rfl); (case hr => first | (go_simp; done) | (go_simp; rfl)); intro gb554 hg w5 hbox hb; have BK554 := Aside0.mk (hbox); have GW554 : Aside0 (w.heap.size ≤ gb554) := gW hg; have GE554 := GW554; replace HB := Aside0.mk (below_step bB hb); clear hb hbox hg; have hcz6_0 := cZ BK554 0 (.int .i64 a0_0); have hcz6_1 := cZ BK554 1 (.int .i64 a0_1); have hfz6_0 := blk_frozen BK554.out 0; have hfz6_1 := blk_frozen BK554.out 1) | ((with_reducible refine gate_callee (f := 46) rfl ?_); refine goesL_ (some 8) rfl rfl Tryz.func46 (by kernel_rfl) rfl #[.agg #[.int .i64 a0_0, .int .i64 a0_1], .int .i64 9] rfl lM ?_; (with_reducible refine (impl_isSmall.calls k a0_0 a0_1 9 true _ A2.out).mono ?_); rintro e w7 ⟨rfl, hb⟩; refine ⟨_, rfl, ?_⟩; replace BK554 := bW BK554 hb; replace HB := Aside0.mk (below_step bG hb); (try clear hb); have hcz8_0 := cZ BK554 0 (.int .i64 a0_0); have hcz8_1 := cZ BK554 1 (.int .i64 a0_1); have hfz8_0 := blk_frozen BK554.out 0; have hfz8_1 := blk_frozen BK554.out 1) | ((with_reducible refine gate_callee (f := 47) rfl ?_); refine goesL_ (some 12) rfl rfl Tryz.func47 (by kernel_rfl) rfl #[.agg #[.int .i64 a0_0, .int .i64 a0_1]] rfl lM ?_; (with_reducible refine (impl_Lock_wholes.calls k a0_0 a0_1 t556 t559 t560 _ A4.out).mono ?_); rintro e w9 ⟨v557, rfl, ho0, hb⟩; refine ⟨_, rfl, ?_⟩; have HO558 := Aside0.mk (Kd.R_lower ho0 (below_size bG)); replace BK554 := bW BK554 hb; replace HB := Aside0.mk (below_step bG hb); (try clear hb); (try clear ho0)))
  go_ret2
  exact ⟨rE, bG⟩
 ·replace c3 := Bool.eq_false_iff.mpr c3
  subst c3
  replace H := zf H
  simp only [Option.some.injEq, Prod.mk.injEq] at H
  obtain ⟨rfl, rfl⟩ := H
  go_enter Tryz.func20, Tryz.ntmps20
  go_wp2_with (first | ((with_reducible refine gate_dst (N := 1) rfl ?_); refine box_event ?hg (N := 1) ?hd (cs := #[.int .i64 a0_0, .int .i64 a0_1]) (t := 25) ?hr ?_; (case hd => rfl); (case hg => rfl); (case hr => first | (go_simp; done) | (go_simp; rfl)); intro gb554 hg w10 hbox hb; have BK554 := Aside0.mk (hbox); have GW554 : Aside0 (w.heap.size ≤ gb554) := gW hg; have GE554 := GW554; replace HB := Aside0.mk (below_step bB hb); clear hb hbox hg; have hcz11_0 := cZ BK554 0 (.int .i64 a0_0); have hcz11_1 := cZ BK554 1 (.int .i64 a0_1); have hfz11_0 := blk_frozen BK554.out 0; have hfz11_1 := blk_frozen BK554.out 1) | ((with_reducible refine gate_callee (f := 46) rfl ?_); refine goesL_ (some 8) rfl rfl Tryz.func46 (by kernel_rfl) rfl #[.agg #[.int .i64 a0_0, .int .i64 a0_1], .int .i64 9] rfl lM ?_; (with_reducible refine (impl_isSmall.calls k a0_0 a0_1 9 false _ A2.out).mono ?_); rintro e w12 ⟨rfl, hb⟩; refine ⟨_, rfl, ?_⟩; replace BK554 := bW BK554 hb; replace HB := Aside0.mk (below_step bG hb); (try clear hb)))
  go_ret2
  exact ⟨rE, bG⟩

/-! ### spec_CountWhole: function 21 -/
def spec_CountWhole.f (k : Nat) (a0_0 : Int) (a0_1 : Int) : Option (Int × Bool) := (spec_orFew.f k a0_0 a0_1).bind fun t562 => (if t562 = true then ((spec_orZero.f k a0_0 a0_1).bind fun t563 => ((spec_orSearch.f k a0_0 a0_1 t563).bind fun bt566 => (some (bt566.2.1, true)))) else (some (0, false)))
theorem spec_CountWhole.mono : ∀ a0 a1 k, LeO (spec_CountWhole.f k a0 a1) (spec_CountWhole.f (k + 1) a0 a1) := by
 intro a0 a1 k
 unfold spec_CountWhole.f
 repeat' first
   | (with_reducible first | exact spec_orFew.mono _ _ _ | exact spec_orSearch.mono _ _ _ _ | exact spec_orZero.mono _ _ _ | exact LeO.refl _ | exact LeO.none _ | refine LeO.ite ?_ ?_ | refine LeO.bind ?_ (fun _ => ?_))
   | exact spec_orFew.mono _ _ _
   | exact spec_orSearch.mono _ _ _ _
   | exact spec_orZero.mono _ _ _
   | exact LeO.none _
   | refine LeO.ite ?_ ?_
   | refine LeO.bind ?_ (fun _ => ?_)
def spec_CountWhole.T3 : Bool × List (List Nat × List Nat) := (true, [([], []), ([], []), ([1], [1]), ([0, 2, 2], [0, 2]), ([3], [3]), ([4], [4]), ([4], [4]), ([4], [4]), ([5, 3, 0, 1, 2, 3, 4, 5], [5]), ([6, 8, 0, 1, 2, 3, 4, 5, 6, 8], [6]), ([7, 9, 0, 1, 2, 3, 4, 5, 6, 7, 8, 9], [7])])
def spec_CountWhole.B3 : List Nat := [0, 0, 2, 7, 15, 31, 31, 31, 63, 383, 1023]
theorem spec_CountWhole.tab3 : rtab .any (opsOf Tryz.f21 3) = spec_CountWhole.T3 := by kernel_rfl
theorem spec_CountWhole.bits3 : waitsOk spec_CountWhole.T3.2 spec_CountWhole.B3 = true := by kernel_rfl
theorem spec_CountWhole.calls (k : Nat) (a0_0 : Int) (a0_1 : Int) (r1 : Int) (r2 : Bool) (w : World) (h : spec_CountWhole.f k a0_0 a0_1 = some (r1, r2)) :
  Calls Tryz.prog 21 #[.agg #[.int .i64 a0_0, .int .i64 a0_1]] w fun e w' => e = .returned (.tuple #[.int .i64 r1, .bool r2]) ∧ Below w.heap.size w w' := by
 have hu25 := Tryz.underlying25
 have HB := Aside0.mk (Below.refl w.heap.size w)
 have H := h
 unfold spec_CountWhole.f at H
 clear h
 replace H := Option.bind_eq_some_iff.mp H
 obtain ⟨t562, A20, H⟩ := H
 (try dsimp only at H)
 have A2 := Aside0.mk A20
 clear A20
 by_cases c3 : t562 = true
 ·subst c3
  replace H := zt H
  replace H := Option.bind_eq_some_iff.mp H
  obtain ⟨t563, A40, H⟩ := H
  (try dsimp only at H)
  have A4 := Aside0.mk A40
  clear A40
  replace H := Option.bind_eq_some_iff.mp H
  obtain ⟨⟨t566, t569, t570⟩, A50, H⟩ := H
  (try dsimp only at H)
  have A5 := Aside0.mk A50
  clear A50
  simp only [Option.some.injEq, Prod.mk.injEq] at H
  obtain ⟨rfl, rfl⟩ := H
  go_enter Tryz.func21, Tryz.ntmps21
  try go_wp2_with (first | ((with_reducible refine gate_dst (N := 1) rfl ?_); refine box_event ?hg (N := 1) ?hd (cs := #[.int .i64 a0_0, .int .i64 a0_1]) (t := 25) ?hr ?_; (case hd => rfl); (case hg => rfl); (case hr => first | (go_simp; done) | (go_simp; rfl)); intro gb561 hg w6 hbox hb; have BK561 := Aside0.mk (hbox); have GW561 : Aside0 (w.heap.size ≤ gb561) := gW hg; have GE561 := GW561; replace HB := Aside0.mk (below_step bB hb); clear hb hbox hg; have hcz7_0 := cZ BK561 0 (.int .i64 a0_0); have hcz7_1 := cZ BK561 1 (.int .i64 a0_1); have hfz7_0 := blk_frozen BK561.out 0; have hfz7_1 := blk_frozen BK561.out 1) | ((with_reducible refine gate_callee (f := 48) rfl ?_); refine goesL_ (some 8) rfl rfl Tryz.func48 (by kernel_rfl) rfl #[.agg #[.int .i64 a0_0, .int .i64 a0_1]] rfl lM ?_; (with_reducible refine (spec_orFew.calls k a0_0 a0_1 true _ A2.out).mono ?_); rintro e w8 ⟨rfl, hb⟩; refine ⟨_, rfl, ?_⟩; replace BK561 := bW BK561 hb; replace HB := Aside0.mk (below_step bG hb); (try clear hb)))
  have n0_ := Aside0.mk (blk_drew BK561.out)
  have n1_ := Aside0.mk (below_drew1 HB.out)
  clear BK561
  clear HB
  have BK561 := n0_
  have HB := n1_
  clear n0_ n1_
  refine start_ (n := 11) (S := fun w' => w'.cell? ⟨gb561, 0, none⟩ = some (.int .i64 a0_0) ∧ w'.cell? ⟨gb561, 1, none⟩ = some (.int .i64 a0_1)) (ds := []) #[false, false, false, false, false, false, false, false, false, false, false] (by kernel_rfl) rfl rfl ⟨(blk_cell BK561.out 0).trans rfl, (blk_cell BK561.out 1).trans rfl⟩ (fun hHeld => ?_); refine with_tabW spec_CountWhole.tab3 spec_CountWhole.bits3 (fun HT_ HW_ => ?_)
  generalize w8.drew = w9 at BK561 HB hHeld ⊢
  refine tU2 (i := 0) (N := some 11) ?_
  refine tU2 (i := 1) (N := some 12) ?_
  refine oU (i := 2) (N := some 13) (fun K hK => ?_)
  refine goes_ Tryz.func50 (by kernel_rfl) rfl #[.agg #[.int .i64 a0_0, .int .i64 a0_1]] (by rfl) rfl rfl lM ?_
  with_reducible refine (spec_orZero.calls k a0_0 a0_1 t563 _ A4.out).mono ?_
  rintro e w10 ⟨v564, rfl, ho0, hb⟩
  refine ⟨_, rfl, ?_⟩
  have n0_ := Aside0.mk (Kd.R_lower ho0 (below_size bG))
  have n1_ := Aside0.mk (blk_below (g := gb561) (o := .cells #[.int .i64 a0_0, .int .i64 a0_1] 25 (0, 0)) bK hb)
  have n2_ := Aside0.mk (below_step bG hb)
  clear BK561
  clear HB
  have HO565 := n0_
  have BK561 := n1_
  have HB := n2_
  clear n0_ n1_ n2_
  (try clear hb)
  (try clear hb2)
  (try clear hk)
  (try clear hi)
  (try clear ho0)
  obtain ⟨Ao11, co11, eo11⟩ := Kd.R_slice HO565.out
  (first | subst eo11 | (injection eo11 with f1_ f2_ f3_; have f4_ := f1_.symm; have f5_ := f3_.symm; clear f1_ f2_ f3_; subst f4_; subst f5_))
  refine hK.out _ _ ⟨(blk_cell BK561.out 0).trans rfl, (blk_cell BK561.out 1).trans rfl⟩ (fun hHeld => ?_)
  clear hK K
  refine nU (some 13) ?_
  refine oU (i := 3) (N := some 14) (fun K hK => ?_)
  refine goes_ Tryz.func49 (by kernel_rfl) rfl #[.agg #[.int .i64 a0_0, .int .i64 a0_1], .slice Ao11 t563.length co11] (by rfl) rfl rfl lM ?_
  with_reducible refine (spec_orSearch.calls k a0_0 a0_1 _ _ t563 t566 t569 t570 _ ?side1 ?side2 A5.out).mono ?_
  (case side1 => exact cS ((Kd.R_reads' HO565.out).2.2))
  (case side2 => exact (Kd.R_reads' HO565.out).2.1)
  rintro e w12 ⟨v567, rfl, ho0, hb⟩
  refine ⟨_, rfl, ?_⟩
  have n0_ := Aside0.mk (Kd.R_elder' (kR HO565) (Kd.R_base ho0) hb)
  have n1_ := Aside0.mk (Kd.R_lower (Kd.R_new' ho0 (Kd.R_lt (kR HO565))) (below_size bG))
  have n2_ := Aside0.mk (blk_below (g := gb561) (o := .cells #[.int .i64 a0_0, .int .i64 a0_1] 25 (0, 0)) bK hb)
  have n3_ := Aside0.mk (below_step bG hb)
  clear HO565
  clear BK561
  clear HB
  have HO565 := n0_
  have HO568 := n1_
  have BK561 := n2_
  have HB := n3_
  clear n0_ n1_ n2_ n3_
  (try clear hb)
  (try clear ho0)
  refine hK.out _ _ ⟨(blk_cell BK561.out 0).trans rfl, (blk_cell BK561.out 1).trans rfl⟩ (fun hHeld => ?_)
  clear hK K
  refine nU (some 14) ?_
  refine pU (i := 4) (N := some 10) ?_
  refine pU (i := 5) (N := some 15) ?_
  refine pU (i := 6) (N := some 16) ?_
  refine pU (i := 7) (N := some 17) ?_
  refine pU (i := 8) (N := some 4) ?_
  refine pU (i := 9) (N := some 5) ?_
  refine pU (i := 10) (N := some 6) ?_
  refine done_ (done_of HT_.out (by kernel_rfl)) ?_
  try go_wp2
  go_ret2
  exact ⟨rE, bG⟩
 ·replace c3 := Bool.eq_false_iff.mpr c3
  subst c3
  replace H := zf H
  simp only [Option.some.injEq, Prod.mk.injEq] at H
  obtain ⟨rfl, rfl⟩ := H
  go_enter Tryz.func21, Tryz.ntmps21
  go_wp2_with (first | ((with_reducible refine gate_dst (N := 1) rfl ?_); refine box_event ?hg (N := 1) ?hd (cs := #[.int .i64 a0_0, .int .i64 a0_1]) (t := 25) ?hr ?_; (case hd => rfl); (case hg => rfl); (case hr => first | (go_simp; done) | (go_simp; rfl)); intro gb561 hg w13 hbox hb; have BK561 := Aside0.mk (hbox); have GW561 : Aside0 (w.heap.size ≤ gb561) := gW hg; have GE561 := GW561; replace HB := Aside0.mk (below_step bB hb); clear hb hbox hg; have hcz14_0 := cZ BK561 0 (.int .i64 a0_0); have hcz14_1 := cZ BK561 1 (.int .i64 a0_1); have hfz14_0 := blk_frozen BK561.out 0; have hfz14_1 := blk_frozen BK561.out 1) | ((with_reducible refine gate_callee (f := 48) rfl ?_); refine goesL_ (some 8) rfl rfl Tryz.func48 (by kernel_rfl) rfl #[.agg #[.int .i64 a0_0, .int .i64 a0_1]] rfl lM ?_; (with_reducible refine (spec_orFew.calls k a0_0 a0_1 false _ A2.out).mono ?_); rintro e w15 ⟨rfl, hb⟩; refine ⟨_, rfl, ?_⟩; replace BK561 := bW BK561 hb; replace HB := Aside0.mk (below_step bG hb); (try clear hb)))
  go_ret2
  exact ⟨rE, bG⟩

/-! ### impl_CountClosed: function 22 -/
def impl_CountClosed.f (k : Nat) (a0_0 : Int) (a0_1 : Int) : Option (Int × Bool) := (impl_isSmall.f k a0_0 a0_1 9).bind fun t572 => (if t572 = true then ((impl_Lock_wholes.f k a0_0 a0_1).bind fun bt573 => (some (bt573.2.2, true))) else (some (0, false)))
theorem impl_CountClosed.mono : ∀ a0 a1 k, LeO (impl_CountClosed.f k a0 a1) (impl_CountClosed.f (k + 1) a0 a1) := by
 intro a0 a1 k
 unfold impl_CountClosed.f
 repeat' first
   | (with_reducible first | exact impl_Lock_wholes.mono _ _ _ | exact impl_isSmall.mono _ _ _ _ | exact LeO.refl _ | exact LeO.none _ | refine LeO.ite ?_ ?_ | refine LeO.bind ?_ (fun _ => ?_))
   | exact impl_Lock_wholes.mono _ _ _
   | exact impl_isSmall.mono _ _ _ _
   | exact LeO.none _
   | refine LeO.ite ?_ ?_
   | refine LeO.bind ?_ (fun _ => ?_)
theorem impl_CountClosed.calls (k : Nat) (a0_0 : Int) (a0_1 : Int) (r1 : Int) (r2 : Bool) (w : World) (h : impl_CountClosed.f k a0_0 a0_1 = some (r1, r2)) :
  Calls Tryz.prog 22 #[.agg #[.int .i64 a0_0, .int .i64 a0_1]] w fun e w' => e = .returned (.tuple #[.int .i64 r1, .bool r2]) ∧ Below w.heap.size w w' := by
 have hu25 := Tryz.underlying25
 have HB := Aside0.mk (Below.refl w.heap.size w)
 have H := h
 unfold impl_CountClosed.f at H
 clear h
 replace H := Option.bind_eq_some_iff.mp H
 obtain ⟨t572, A20, H⟩ := H
 (try dsimp only at H)
 have A2 := Aside0.mk A20
 clear A20
 by_cases c3 : t572 = true
 ·subst c3
  replace H := zt H
  replace H := Option.bind_eq_some_iff.mp H
  obtain ⟨⟨t573, t576, t577⟩, A40, H⟩ := H
  (try dsimp only at H)
  have A4 := Aside0.mk A40
  clear A40
  simp only [Option.some.injEq, Prod.mk.injEq] at H
  obtain ⟨rfl, rfl⟩ := H
  go_enter Tryz.func22, Tryz.ntmps22
  go_wp2_with (first | ((with_reducible refine gate_dst (N := 1) rfl ?_); refine box_event ?hg (N := 1) ?hd (cs := #[.int .i64 a0_0, .int .i64 a0_1]) (t := 25) ?hr ?_; (case hd => rfl); (case hg => rfl); (case hr => first | (go_simp; done) | (go_simp; rfl)); intro gb571 hg w5 hbox hb; have BK571 := Aside0.mk (hbox); have GW571 : Aside0 (w.heap.size ≤ gb571) := gW hg; have GE571 := GW571; replace HB := Aside0.mk (below_step bB hb); clear hb hbox hg; have hcz6_0 := cZ BK571 0 (.int .i64 a0_0); have hcz6_1 := cZ BK571 1 (.int .i64 a0_1); have hfz6_0 := blk_frozen BK571.out 0; have hfz6_1 := blk_frozen BK571.out 1) | ((with_reducible refine gate_callee (f := 46) rfl ?_); refine goesL_ (some 8) rfl rfl Tryz.func46 (by kernel_rfl) rfl #[.agg #[.int .i64 a0_0, .int .i64 a0_1], .int .i64 9] rfl lM ?_; (with_reducible refine (impl_isSmall.calls k a0_0 a0_1 9 true _ A2.out).mono ?_); rintro e w7 ⟨rfl, hb⟩; refine ⟨_, rfl, ?_⟩; replace BK571 := bW BK571 hb; replace HB := Aside0.mk (below_step bG hb); (try clear hb); have hcz8_0 := cZ BK571 0 (.int .i64 a0_0); have hcz8_1 := cZ BK571 1 (.int .i64 a0_1); have hfz8_0 := blk_frozen BK571.out 0; have hfz8_1 := blk_frozen BK571.out 1) | ((with_reducible refine gate_callee (f := 47) rfl ?_); refine goesL_ (some 12) rfl rfl Tryz.func47 (by kernel_rfl) rfl #[.agg #[.int .i64 a0_0, .int .i64 a0_1]] rfl lM ?_; (with_reducible refine (impl_Lock_wholes.calls k a0_0 a0_1 t573 t576 t577 _ A4.out).mono ?_); rintro e w9 ⟨v574, rfl, ho0, hb⟩; refine ⟨_, rfl, ?_⟩; have HO575 := Aside0.mk (Kd.R_lower ho0 (below_size bG)); replace BK571 := bW BK571 hb; replace HB := Aside0.mk (below_step bG hb); (try clear hb); (try clear ho0)))
  go_ret2
  exact ⟨rE, bG⟩
 ·replace c3 := Bool.eq_false_iff.mpr c3
  subst c3
  replace H := zf H
  simp only [Option.some.injEq, Prod.mk.injEq] at H
  obtain ⟨rfl, rfl⟩ := H
  go_enter Tryz.func22, Tryz.ntmps22
  go_wp2_with (first | ((with_reducible refine gate_dst (N := 1) rfl ?_); refine box_event ?hg (N := 1) ?hd (cs := #[.int .i64 a0_0, .int .i64 a0_1]) (t := 25) ?hr ?_; (case hd => rfl); (case hg => rfl); (case hr => first | (go_simp; done) | (go_simp; rfl)); intro gb571 hg w10 hbox hb; have BK571 := Aside0.mk (hbox); have GW571 : Aside0 (w.heap.size ≤ gb571) := gW hg; have GE571 := GW571; replace HB := Aside0.mk (below_step bB hb); clear hb hbox hg; have hcz11_0 := cZ BK571 0 (.int .i64 a0_0); have hcz11_1 := cZ BK571 1 (.int .i64 a0_1); have hfz11_0 := blk_frozen BK571.out 0; have hfz11_1 := blk_frozen BK571.out 1) | ((with_reducible refine gate_callee (f := 46) rfl ?_); refine goesL_ (some 8) rfl rfl Tryz.func46 (by kernel_rfl) rfl #[.agg #[.int .i64 a0_0, .int .i64 a0_1], .int .i64 9] rfl lM ?_; (with_reducible refine (impl_isSmall.calls k a0_0 a0_1 9 false _ A2.out).mono ?_); rintro e w12 ⟨rfl, hb⟩; refine ⟨_, rfl, ?_⟩; replace BK571 := bW BK571 hb; replace HB := Aside0.mk (below_step bG hb); (try clear hb)))
  go_ret2
  exact ⟨rE, bG⟩

/-! ### spec_CountClosed: function 23 -/
def spec_CountClosed.f (k : Nat) (a0_0 : Int) (a0_1 : Int) : Option (Int × Bool) := (spec_orFew.f k a0_0 a0_1).bind fun t579 => (if t579 = true then ((spec_orZero.f k a0_0 a0_1).bind fun t580 => ((spec_orSearch.f k a0_0 a0_1 t580).bind fun bt583 => (some (bt583.2.2, true)))) else (some (0, false)))
theorem spec_CountClosed.mono : ∀ a0 a1 k, LeO (spec_CountClosed.f k a0 a1) (spec_CountClosed.f (k + 1) a0 a1) := by
 intro a0 a1 k
 unfold spec_CountClosed.f
 repeat' first
   | (with_reducible first | exact spec_orFew.mono _ _ _ | exact spec_orSearch.mono _ _ _ _ | exact spec_orZero.mono _ _ _ | exact LeO.refl _ | exact LeO.none _ | refine LeO.ite ?_ ?_ | refine LeO.bind ?_ (fun _ => ?_))
   | exact spec_orFew.mono _ _ _
   | exact spec_orSearch.mono _ _ _ _
   | exact spec_orZero.mono _ _ _
   | exact LeO.none _
   | refine LeO.ite ?_ ?_
   | refine LeO.bind ?_ (fun _ => ?_)
def spec_CountClosed.T3 : Bool × List (List Nat × List Nat) := (true, [([], []), ([], []), ([1], [1]), ([0, 2, 2], [0, 2]), ([3], [3]), ([4], [4]), ([4], [4]), ([4], [4]), ([5, 3, 0, 1, 2, 3, 4, 5], [5]), ([6, 8, 0, 1, 2, 3, 4, 5, 6, 8], [6]), ([7, 9, 0, 1, 2, 3, 4, 5, 6, 7, 8, 9], [7])])
def spec_CountClosed.B3 : List Nat := [0, 0, 2, 7, 15, 31, 31, 31, 63, 383, 1023]
theorem spec_CountClosed.tab3 : rtab .any (opsOf Tryz.f23 3) = spec_CountClosed.T3 := by kernel_rfl
theorem spec_CountClosed.bits3 : waitsOk spec_CountClosed.T3.2 spec_CountClosed.B3 = true := by kernel_rfl
theorem spec_CountClosed.calls (k : Nat) (a0_0 : Int) (a0_1 : Int) (r1 : Int) (r2 : Bool) (w : World) (h : spec_CountClosed.f k a0_0 a0_1 = some (r1, r2)) :
  Calls Tryz.prog 23 #[.agg #[.int .i64 a0_0, .int .i64 a0_1]] w fun e w' => e = .returned (.tuple #[.int .i64 r1, .bool r2]) ∧ Below w.heap.size w w' := by
 have hu25 := Tryz.underlying25
 have HB := Aside0.mk (Below.refl w.heap.size w)
 have H := h
 unfold spec_CountClosed.f at H
 clear h
 replace H := Option.bind_eq_some_iff.mp H
 obtain ⟨t579, A20, H⟩ := H
 (try dsimp only at H)
 have A2 := Aside0.mk A20
 clear A20
 by_cases c3 : t579 = true
 ·subst c3
  replace H := zt H
  replace H := Option.bind_eq_some_iff.mp H
  obtain ⟨t580, A40, H⟩ := H
  (try dsimp only at H)
  have A4 := Aside0.mk A40
  clear A40
  replace H := Option.bind_eq_some_iff.mp H
  obtain ⟨⟨t583, t586, t587⟩, A50, H⟩ := H
  (try dsimp only at H)
  have A5 := Aside0.mk A50
  clear A50
  simp only [Option.some.injEq, Prod.mk.injEq] at H
  obtain ⟨rfl, rfl⟩ := H
  go_enter Tryz.func23, Tryz.ntmps23
  try go_wp2_with (first | ((with_reducible refine gate_dst (N := 1) rfl ?_); refine box_event ?hg (N := 1) ?hd (cs := #[.int .i64 a0_0, .int .i64 a0_1]) (t := 25) ?hr ?_; (case hd => rfl); (case hg => rfl); (case hr => first | (go_simp; done) | (go_simp; rfl)); intro gb578 hg w6 hbox hb; have BK578 := Aside0.mk (hbox); have GW578 : Aside0 (w.heap.size ≤ gb578) := gW hg; have GE578 := GW578; replace HB := Aside0.mk (below_step bB hb); clear hb hbox hg; have hcz7_0 := cZ BK578 0 (.int .i64 a0_0); have hcz7_1 := cZ BK578 1 (.int .i64 a0_1); have hfz7_0 := blk_frozen BK578.out 0; have hfz7_1 := blk_frozen BK578.out 1) | ((with_reducible refine gate_callee (f := 48) rfl ?_); refine goesL_ (some 8) rfl rfl Tryz.func48 (by kernel_rfl) rfl #[.agg #[.int .i64 a0_0, .int .i64 a0_1]] rfl lM ?_; (with_reducible refine (spec_orFew.calls k a0_0 a0_1 true _ A2.out).mono ?_); rintro e w8 ⟨rfl, hb⟩; refine ⟨_, rfl, ?_⟩; replace BK578 := bW BK578 hb; replace HB := Aside0.mk (below_step bG hb); (try clear hb)))
  have n0_ := Aside0.mk (blk_drew BK578.out)
  have n1_ := Aside0.mk (below_drew1 HB.out)
  clear BK578
  clear HB
  have BK578 := n0_
  have HB := n1_
  clear n0_ n1_
  refine start_ (n := 11) (S := fun w' => w'.cell? ⟨gb578, 0, none⟩ = some (.int .i64 a0_0) ∧ w'.cell? ⟨gb578, 1, none⟩ = some (.int .i64 a0_1)) (ds := []) #[false, false, false, false, false, false, false, false, false, false, false] (by kernel_rfl) rfl rfl ⟨(blk_cell BK578.out 0).trans rfl, (blk_cell BK578.out 1).trans rfl⟩ (fun hHeld => ?_); refine with_tabW spec_CountClosed.tab3 spec_CountClosed.bits3 (fun HT_ HW_ => ?_)
  generalize w8.drew = w9 at BK578 HB hHeld ⊢
  refine tU2 (i := 0) (N := some 11) ?_
  refine tU2 (i := 1) (N := some 12) ?_
  refine oU (i := 2) (N := some 13) (fun K hK => ?_)
  refine goes_ Tryz.func50 (by kernel_rfl) rfl #[.agg #[.int .i64 a0_0, .int .i64 a0_1]] (by rfl) rfl rfl lM ?_
  with_reducible refine (spec_orZero.calls k a0_0 a0_1 t580 _ A4.out).mono ?_
  rintro e w10 ⟨v581, rfl, ho0, hb⟩
  refine ⟨_, rfl, ?_⟩
  have n0_ := Aside0.mk (Kd.R_lower ho0 (below_size bG))
  have n1_ := Aside0.mk (blk_below (g := gb578) (o := .cells #[.int .i64 a0_0, .int .i64 a0_1] 25 (0, 0)) bK hb)
  have n2_ := Aside0.mk (below_step bG hb)
  clear BK578
  clear HB
  have HO582 := n0_
  have BK578 := n1_
  have HB := n2_
  clear n0_ n1_ n2_
  (try clear hb)
  (try clear hb2)
  (try clear hk)
  (try clear hi)
  (try clear ho0)
  obtain ⟨Ao11, co11, eo11⟩ := Kd.R_slice HO582.out
  (first | subst eo11 | (injection eo11 with f1_ f2_ f3_; have f4_ := f1_.symm; have f5_ := f3_.symm; clear f1_ f2_ f3_; subst f4_; subst f5_))
  refine hK.out _ _ ⟨(blk_cell BK578.out 0).trans rfl, (blk_cell BK578.out 1).trans rfl⟩ (fun hHeld => ?_)
  clear hK K
  refine nU (some 13) ?_
  refine oU (i := 3) (N := some 14) (fun K hK => ?_)
  refine goes_ Tryz.func49 (by kernel_rfl) rfl #[.agg #[.int .i64 a0_0, .int .i64 a0_1], .slice Ao11 t580.length co11] (by rfl) rfl rfl lM ?_
  with_reducible refine (spec_orSearch.calls k a0_0 a0_1 _ _ t580 t583 t586 t587 _ ?side1 ?side2 A5.out).mono ?_
  (case side1 => exact cS ((Kd.R_reads' HO582.out).2.2))
  (case side2 => exact (Kd.R_reads' HO582.out).2.1)
  rintro e w12 ⟨v584, rfl, ho0, hb⟩
  refine ⟨_, rfl, ?_⟩
  have n0_ := Aside0.mk (Kd.R_elder' (kR HO582) (Kd.R_base ho0) hb)
  have n1_ := Aside0.mk (Kd.R_lower (Kd.R_new' ho0 (Kd.R_lt (kR HO582))) (below_size bG))
  have n2_ := Aside0.mk (blk_below (g := gb578) (o := .cells #[.int .i64 a0_0, .int .i64 a0_1] 25 (0, 0)) bK hb)
  have n3_ := Aside0.mk (below_step bG hb)
  clear HO582
  clear BK578
  clear HB
  have HO582 := n0_
  have HO585 := n1_
  have BK578 := n2_
  have HB := n3_
  clear n0_ n1_ n2_ n3_
  (try clear hb)
  (try clear ho0)
  refine hK.out _ _ ⟨(blk_cell BK578.out 0).trans rfl, (blk_cell BK578.out 1).trans rfl⟩ (fun hHeld => ?_)
  clear hK K
  refine nU (some 14) ?_
  refine pU (i := 4) (N := some 10) ?_
  refine pU (i := 5) (N := some 15) ?_
  refine pU (i := 6) (N := some 16) ?_
  refine pU (i := 7) (N := some 17) ?_
  refine pU (i := 8) (N := some 4) ?_
  refine pU (i := 9) (N := some 5) ?_
  refine pU (i := 10) (N := some 6) ?_
  refine done_ (done_of HT_.out (by kernel_rfl)) ?_
  try go_wp2
  go_ret2
  exact ⟨rE, bG⟩
 ·replace c3 := Bool.eq_false_iff.mpr c3
  subst c3
  replace H := zf H
  simp only [Option.some.injEq, Prod.mk.injEq] at H
  obtain ⟨rfl, rfl⟩ := H
  go_enter Tryz.func23, Tryz.ntmps23
  go_wp2_with (first | ((with_reducible refine gate_dst (N := 1) rfl ?_); refine box_event ?hg (N := 1) ?hd (cs := #[.int .i64 a0_0, .int .i64 a0_1]) (t := 25) ?hr ?_; (case hd => rfl); (case hg => rfl); (case hr => first | (go_simp; done) | (go_simp; rfl)); intro gb578 hg w13 hbox hb; have BK578 := Aside0.mk (hbox); have GW578 : Aside0 (w.heap.size ≤ gb578) := gW hg; have GE578 := GW578; replace HB := Aside0.mk (below_step bB hb); clear hb hbox hg; have hcz14_0 := cZ BK578 0 (.int .i64 a0_0); have hcz14_1 := cZ BK578 1 (.int .i64 a0_1); have hfz14_0 := blk_frozen BK578.out 0; have hfz14_1 := blk_frozen BK578.out 1) | ((with_reducible refine gate_callee (f := 48) rfl ?_); refine goesL_ (some 8) rfl rfl Tryz.func48 (by kernel_rfl) rfl #[.agg #[.int .i64 a0_0, .int .i64 a0_1]] rfl lM ?_; (with_reducible refine (spec_orFew.calls k a0_0 a0_1 false _ A2.out).mono ?_); rintro e w15 ⟨rfl, hb⟩; refine ⟨_, rfl, ?_⟩; replace BK578 := bW BK578 hb; replace HB := Aside0.mk (below_step bG hb); (try clear hb)))
  go_ret2
  exact ⟨rE, bG⟩

end Go.Proofs.YthpmpkmdjpaemaaGreat.P
