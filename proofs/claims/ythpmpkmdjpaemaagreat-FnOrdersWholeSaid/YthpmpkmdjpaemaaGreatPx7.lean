-- Printed by hp.py, a program of this session: a machine's side of laws, out of the translation; Lean checks it.
import Derived.Test.YthpmpkmdjpaemaaGreatPx0
import Derived.Test.YthpmpkmdjpaemaaGreatPx2
import Derived.Test.YthpmpkmdjpaemaaGreatPx4
import Derived.Test.YthpmpkmdjpaemaaGreatPx6
namespace Go.Proofs.YthpmpkmdjpaemaaGreat.P
open Go.RowKit Go.Proofs.YthpmpkmdjpaemaaGreatW.PrintWords Go.Proofs.YthpmpkmdjpaemaaGreatW.PrintLast Go.Proofs.YthpmpkmdjpaemaaGreatW.PrintMore
attribute [local go_sem] max2_int min2_int max_two min_two max_three min_three max_four min_four   -- for this text's walks alone
set_option maxHeartbeats 8000000
set_option maxRecDepth 100000
set_option linter.unusedVariables false
set_option linter.unusedSimpArgs false

/-! ### spec_whDistance: function 39 -/
def spec_whDistance.l0 : Nat → List Int → List Int → Int → Int → Int → Int → Int → Option (Int)
 | 0, _, _, _, _, _, _, _ => none
 | k + 1, x7, x8, x9, x18, x19, x263000, x263001 => if x19 < x18 then (if 0 ≤ x19 then (if x19 < (x7.length : Int) then (if x19 < (x8.length : Int) then ((spec_whFar.f x263000 x263001 (rd x7 x19) (rd x8 x19)).bind fun bt271 => ((spec_l1Least.f bt271.1 bt271.2).bind fun t273 => (spec_whDistance.l0 k x7 x8 (wrap64 (x9 + t273)) x18 (wrap64 (x19 + 1)) x263000 x263001))) else (none)) else (none)) else (none)) else (some x9)
def spec_whDistance.f (k : Nat) (a0_0 : Int) (a0_1 : Int) (a1 : ByteArray) (a2 : ByteArray) : Option (Int) := (spec_whDigits.f k a1).bind fun t263 => ((spec_whDigits.f k a2).bind fun t266 => (spec_whDistance.l0 k t263 t266 0 (t263.length : Int) 0 a0_0 a0_1))
theorem spec_whDistance.mono_l : ∀ k, (∀ y0 y1 y2 y3 y4 y5 y6, LeO (spec_whDistance.l0 k y0 y1 y2 y3 y4 y5 y6) (spec_whDistance.l0 (k + 1) y0 y1 y2 y3 y4 y5 y6))
 | 0 => fun _ _ _ _ _ _ _ r h => by simp [spec_whDistance.l0] at h
 | k + 1 => by
  have ih0 := spec_whDistance.mono_l k
  ·intro y0 y1 y2 y3 y4 y5 y6
   unfold spec_whDistance.l0
   repeat' first
   | (with_reducible first | exact ih0 _ _ _ _ _ _ _ | exact spec_whDigits.mono _ _ | exact LeO.refl _ | exact LeO.none _ | refine LeO.ite ?_ ?_ | refine LeO.bind ?_ (fun _ => ?_))
   | exact ih0 _ _ _ _ _ _ _
   | exact spec_whDigits.mono _ _
   | exact LeO.none _
   | refine LeO.ite ?_ ?_
   | refine LeO.bind ?_ (fun _ => ?_)
theorem spec_whDistance.mono : ∀ a0 a1 a2 a3 k, LeO (spec_whDistance.f k a0 a1 a2 a3) (spec_whDistance.f (k + 1) a0 a1 a2 a3) := by
 intro a0 a1 a2 a3 k
 have ih0 := spec_whDistance.mono_l k
 unfold spec_whDistance.f
 repeat' first
   | (with_reducible first | exact ih0 _ _ _ _ _ _ _ | exact spec_whDigits.mono _ _ | exact LeO.refl _ | exact LeO.none _ | refine LeO.ite ?_ ?_ | refine LeO.bind ?_ (fun _ => ?_))
   | exact ih0 _ _ _ _ _ _ _
   | exact spec_whDigits.mono _ _
   | exact LeO.none _
   | refine LeO.ite ?_ ?_
   | refine LeO.bind ?_ (fun _ => ?_)
def spec_whDistance.T6 : Bool × List (List Nat × List Nat) := (true, [([], []), ([], []), ([], []), ([1, 2], [1, 2]), ([3], [3]), ([], []), ([], []), ([5, 6], [5, 6]), ([7], [7]), ([0, 4, 8], [0, 4, 8]), ([9], [9]), ([10], [10]), ([10], [10]), ([11, 9, 0, 1, 2, 3, 4, 5, 6, 7, 8, 9, 10, 11], [11]), ([12, 13, 0, 1, 2, 3, 4, 5, 6, 7, 8, 9, 10, 11, 12, 13], [12])])
def spec_whDistance.B6 : List Nat := [0, 0, 0, 6, 14, 0, 0, 96, 224, 511, 1023, 2047, 2047, 4095, 16383]
theorem spec_whDistance.tab6 : rtab .any (opsOf Tryz.f39 6) = spec_whDistance.T6 := by kernel_rfl
theorem spec_whDistance.bits6 : waitsOk spec_whDistance.T6.2 spec_whDistance.B6 = true := by kernel_rfl
theorem spec_whDistance.calls (k : Nat) (a0_0 : Int) (a0_1 : Int) (a1 : ByteArray) (a2 : ByteArray) (r : Int) (w : World) (h : spec_whDistance.f k a0_0 a0_1 a1 a2 = some r) :
  Calls Tryz.prog 39 #[.agg #[.int .i64 a0_0, .int .i64 a0_1], .string a1, .string a2] w fun e w' => e = .returned (.int .i64 r) ∧ Below w.heap.size w w' := by
 have hu25 := Tryz.underlying25
 have HB := Aside0.mk (Below.refl w.heap.size w)
 have H := h
 unfold spec_whDistance.f at H
 clear h
 replace H := Option.bind_eq_some_iff.mp H
 obtain ⟨t263, A40, H⟩ := H
 (try dsimp only at H)
 have A4 := Aside0.mk A40
 clear A40
 replace H := Option.bind_eq_some_iff.mp H
 obtain ⟨t266, A50, H⟩ := H
 (try dsimp only at H)
 have A5 := Aside0.mk A50
 clear A50
 have H' := Aside0.mk H
 clear H
 go_enter Tryz.func39, Tryz.ntmps39
 go_wp2_with (first | ((with_reducible refine gate_dst (N := 3) rfl ?_); refine box_event ?hg (N := 3) ?hd (cs := #[.int .i64 a0_0, .int .i64 a0_1]) (t := 25) ?hr ?_; (case hd => rfl); (case hg => rfl); (case hr => first | (go_simp; done) | (go_simp; rfl)); intro gb262 hg w6 hbox hb; have BK262 := Aside0.mk (hbox); have GW262 : Aside0 (w.heap.size ≤ gb262) := gW hg; have GE262 := GW262; replace HB := Aside0.mk (below_step bB hb); clear hb hbox hg) | ((with_reducible refine gate_callee (f := 56) rfl ?_); refine goesL_ (some 14) rfl rfl Tryz.func56 (by kernel_rfl) rfl #[.string a1] rfl lM ?_; (with_reducible refine (spec_whDigits.calls k a1 t263 _ A4.out).mono ?_); rintro e w7 ⟨v264, rfl, ho0, hb⟩; refine ⟨_, rfl, ?_⟩; have HO265 := Aside0.mk (Kd.R_lower ho0 (below_size bG)); replace BK262 := bW BK262 hb; replace HB := Aside0.mk (below_step bG hb); (try clear hb); (try clear ho0)) | ((with_reducible refine gate_callee (f := 56) rfl ?_); refine goesL_ (some 16) rfl rfl Tryz.func56 (by kernel_rfl) rfl #[.string a2] rfl lM ?_; (with_reducible refine (spec_whDigits.calls k a2 t266 _ A5.out).mono ?_); rintro e w8 ⟨v267, rfl, ho0, hb⟩; refine ⟨_, rfl, ?_⟩; have HO268 := Aside0.mk (Kd.R_lower (Kd.R_new' ho0 (Kd.R_lt (kR HO265))) (below_size bG)); replace HO265 := Aside0.mk (Kd.R_elder' (kR HO265) (Kd.R_base ho0) hb); replace BK262 := bW BK262 hb; replace HB := Aside0.mk (below_step bG hb); (try clear hb); (try clear ho0); obtain ⟨Ao9, co9, eo9⟩ := Kd.R_slice HO265.out; subst eo9))
 go_loopg [9, 19] k (fun kq v9 v19 w' => ∃ (x9_1 : Int) (x19_1 : Int), v9 = .int .i64 x9_1 ∧ v19 = .int .i64 x19_1 ∧ Aside0 (spec_whDistance.l0 kq t263 t266 x9_1 (t263.length : Int) x19_1 a0_0 a0_1 = some r) ∧ Aside0 (kq ≤ k) ∧ Aside0 (Kd.R (Kd.int .i64) 3 w' w.heap.size (fun k_ => some k_ ≠ (v267 : Value).ownBlock) (.slice Ao9 t263.length co9) t263) ∧ Aside0 (Kd.R (Kd.int .i64) 3 w' w.heap.size (fun k_ => some k_ ≠ ((.slice Ao9 t263.length co9) : Value).ownBlock) v267 t266) ∧ Aside0 (w'.heap[gb262]? = some (.cells #[.int .i64 a0_0, .int .i64 a0_1] 25 (0, 0))) ∧ Aside0 (Below w.heap.size w w'))
 case atStart => exact ⟨(0), (0), fR, fR, H', ⟨Nat.le_refl _⟩, ⟨by (with_reducible repeat (first | apply Kd.R_alloc | apply Kd.R_drewN | apply Kd.R_drew)); exact Kd.R_mono HO265.out (fun _ hk => hk.2)⟩, ⟨by (with_reducible repeat (first | apply Kd.R_alloc | apply Kd.R_drewN | apply Kd.R_drew)); exact Kd.R_mono HO268.out (fun _ hk => hk.2)⟩, ⟨bK⟩, ⟨bG⟩⟩
 case round =>
  clear H'
  try clear p2
  try clear c3
  try clear c5
  obtain ⟨x9_1, x19_1, rfl, rfl, HA, HK1, HO_7, HO_8, BK262, HB⟩ := hrel
  cases gk with
  | zero => exact absurd HA.out (by simp [spec_whDistance.l0])
  | succ k1 =>
   have H := HA.out
   clear HA
   simp only [spec_whDistance.l0] at H
   by_cases c10 : x19_1 < (t263.length : Int)
   ·rw [if_pos c10] at H
    have c10b0 : decide (x19_1 < (t263.length : Int)) = true := decide_eq_true c10
    clear c10
    replace H := nz H; obtain ⟨c11, H⟩ := H
    have c11b0 : decide (0 ≤ x19_1) = true := decide_eq_true c11
    clear c11
    replace H := nz H; obtain ⟨c12, H⟩ := H
    have c12b0 : decide (x19_1 < (t263.length : Int)) = true := decide_eq_true c12
    clear c12
    replace H := nz H; obtain ⟨c13, H⟩ := H
    have c13b0 : decide (x19_1 < (t266.length : Int)) = true := decide_eq_true c13
    clear c13
    replace H := Option.bind_eq_some_iff.mp H
    obtain ⟨⟨t271, t272⟩, A140, H⟩ := H
    (try dsimp only at H)
    have A14 := Aside0.mk A140
    clear A140
    replace H := Option.bind_eq_some_iff.mp H
    obtain ⟨t273, A150, H⟩ := H
    (try dsimp only at H)
    have A15 := Aside0.mk A150
    clear A150
    have H' := Aside0.mk H
    clear H
    try go_wp2
    have n0_ := Aside0.mk (Kd.R_drew HO_7.out)
    have n1_ := Aside0.mk (Kd.R_drew HO_8.out)
    have n2_ := Aside0.mk (blk_drew BK262.out)
    have n3_ := Aside0.mk (below_drew1 HB.out)
    clear HO_7
    clear HO_8
    clear BK262
    clear HB
    have HO_7 := n0_
    have HO_8 := n1_
    have BK262 := n2_
    have HB := n3_
    clear n0_ n1_ n2_ n3_
    have p269 : 0 ≤ (x19_1 : Int) := oD
    have q269 : x19_1 < (t263.length : Int) := oD
    obtain ⟨ad269, e269, hx269_0⟩ := Kd.at_int (Kd.R_reads' HO_7.out).2.2 x19_1 p269 q269
    cases e269
    replace p269 := eq_true p269
    replace q269 := eq_true q269
    obtain ⟨Ao17, co17, eo17⟩ := Kd.R_slice HO_8.out
    (first | subst eo17 | (injection eo17 with f1_ f2_ f3_; have f4_ := f1_.symm; have f5_ := f3_.symm; clear f1_ f2_ f3_; subst f4_; subst f5_))
    have p270 : 0 ≤ (x19_1 : Int) := oD
    have q270 : x19_1 < (t266.length : Int) := oD
    obtain ⟨ad270, e270, hx270_0⟩ := Kd.at_int (Kd.R_reads' HO_8.out).2.2 x19_1 p270 q270
    cases e270
    replace p270 := eq_true p270
    replace q270 := eq_true q270
    refine start_ (n := 15) (S := fun w' => w'.cell? ⟨gb262, 0, none⟩ = some (.int .i64 a0_0) ∧ w'.cell? ⟨gb262, 1, none⟩ = some (.int .i64 a0_1) ∧ w'.cell? (ad269.add (x19_1).toNat) = some (.int .i64 (rd t263 x19_1)) ∧ w'.cell? (ad270.add (x19_1).toNat) = some (.int .i64 (rd t266 x19_1))) (ds := []) #[false, false, false, false, false, false, false, false, false, false, false, false, false, false, false] (by kernel_rfl) rfl rfl ⟨(blk_cell BK262.out 0).trans rfl, (blk_cell BK262.out 1).trans rfl, hx269_0, hx270_0⟩ (fun hHeld => ?_); refine with_tabW spec_whDistance.tab6 spec_whDistance.bits6 (fun HT_ HW_ => ?_)
    generalize wr.drew = w16 at HO_7 HO_8 BK262 HB hx269_0 hx270_0 hHeld ⊢
    refine pU (i := 1) (N := some 24) ?_
    refine pU (i := 2) (N := some 25) ?_
    refine pU (i := 3) (N := some 26) ?_
    refine pU (i := 5) (N := some 28) ?_
    refine pU (i := 6) (N := some 29) ?_
    refine pU (i := 7) (N := some 30) ?_
    refine tU4 (i := 0) (N := some 23) ?_
    refine tU4 (i := 4) (N := some 27) ?_
    refine tU4 (i := 8) (N := some 31) ?_
    refine oU (i := 9) (N := some 32) (fun K hK => ?_)
    refine goes_ Tryz.func70 (by kernel_rfl) rfl #[.agg #[.int .i64 a0_0, .int .i64 a0_1], .int .i64 (rd t263 x19_1), .int .i64 (rd t266 x19_1)] (by rfl) rfl rfl lM ?_
    with_reducible refine (spec_whFar.calls a0_0 a0_1 (rd t263 x19_1) (rd t266 x19_1) t271 t272 _ A14.out).mono ?_
    rintro e w18 ⟨rfl, hb⟩
    have HS2_ := (hb.cell (World.block_lt_of_cell? _ _ (hHeld.2.2.1))).trans (hHeld.2.2.1)
    have HS3_ := (hb.cell (World.block_lt_of_cell? _ _ (hHeld.2.2.2))).trans (hHeld.2.2.2)
    refine ⟨_, rfl, ?_⟩
    have n0_ := Aside0.mk (Kd.R_below (kR HO_7) hb)
    have n1_ := Aside0.mk (Kd.R_below (kR HO_8) hb)
    have n2_ := Aside0.mk (blk_below (g := gb262) (o := .cells #[.int .i64 a0_0, .int .i64 a0_1] 25 (0, 0)) bK hb)
    have n3_ := Aside0.mk (below_step bG hb)
    clear HO_7
    clear HO_8
    clear BK262
    clear HB
    have HO_7 := n0_
    have HO_8 := n1_
    have BK262 := n2_
    have HB := n3_
    clear n0_ n1_ n2_ n3_
    (try clear hb)
    (try clear hb2)
    (try clear hk)
    (try clear hi)
    refine hK.out _ _ ⟨(blk_cell BK262.out 0).trans rfl, (blk_cell BK262.out 1).trans rfl, HS2_, HS3_⟩ (fun hHeld => ?_)
    clear hK K
    refine nU (some 32) ?_
    refine pU (i := 10) (N := some 22) ?_
    refine pU (i := 11) (N := some 33) ?_
    refine pU (i := 12) (N := some 34) ?_
    refine pU (i := 13) (N := some 11) ?_
    refine pU (i := 14) (N := some 12) ?_
    refine done_ (done_of HT_.out (by kernel_rfl)) ?_
    try go_wp2_with (first | ((with_reducible refine gate_callee (f := 62) rfl ?_); refine goesL_ (some 38) rfl rfl Tryz.func62 (by kernel_rfl) rfl #[.int .i64 t271, .int .i64 t272] rfl lM ?_; (with_reducible refine (spec_l1Least.calls t271 t272 t273 _ A15.out).mono ?_); rintro e w' ⟨rfl, ⟨nd, rfl⟩⟩; refine ⟨_, rfl, ?_⟩))
    go_roundg k1
    case measure => have := HK1.out; omega
    case rel => exact ⟨(wrap64 (x9_1 + t273)), (wrap64 (x19_1 + 1)), fR, fR, H', ⟨by have := HK1.out; omega⟩, ⟨kR HO_7⟩, ⟨kR HO_8⟩, ⟨bK⟩, ⟨bG⟩⟩
   ·rw [if_neg c10] at H
    have c10b0 : decide (x19_1 < (t263.length : Int)) = false := decide_eq_false c10
    clear c10
    obtain rfl := Option.some.inj H
    go_wp2
    go_ret
    exact ⟨rE, bG⟩

/-! ### spec_whCode: function 67 -/
def spec_whCode.l0 : Nat → ByteArray → Int → Int → Int → Option (Bool)
 | 0, _, _, _, _ => none
 | k + 1, x1, x5, x275000, x275001 => if x5 < (x1.size : Int) then (if 0 ≤ x5 then ((spec_l1In.f (wrap64 ((wrap64 (bt x1 x5)) - 48)) 0 (wrap64 (x275001 - 1))).bind fun t275 => (if t275 = true then (spec_whCode.l0 k x1 (wrap64 (x5 + 1)) x275000 x275001) else (some false))) else (none)) else (some true)
def spec_whCode.f (k : Nat) (a0_0 : Int) (a0_1 : Int) (a1 : ByteArray) : Option (Bool) := if (a1.size : Int) = a0_0 then (spec_whCode.l0 k a1 0 a0_0 a0_1) else (some false)
theorem spec_whCode.mono_l : ∀ k, (∀ y0 y1 y2 y3, LeO (spec_whCode.l0 k y0 y1 y2 y3) (spec_whCode.l0 (k + 1) y0 y1 y2 y3))
 | 0 => fun _ _ _ _ r h => by simp [spec_whCode.l0] at h
 | k + 1 => by
  have ih0 := spec_whCode.mono_l k
  ·intro y0 y1 y2 y3
   unfold spec_whCode.l0
   repeat' first
   | (with_reducible first | exact ih0 _ _ _ _ | exact LeO.refl _ | exact LeO.none _ | refine LeO.ite ?_ ?_ | refine LeO.bind ?_ (fun _ => ?_))
   | exact ih0 _ _ _ _
   | exact LeO.none _
   | refine LeO.ite ?_ ?_
   | refine LeO.bind ?_ (fun _ => ?_)
theorem spec_whCode.mono : ∀ a0 a1 a2 k, LeO (spec_whCode.f k a0 a1 a2) (spec_whCode.f (k + 1) a0 a1 a2) := by
 intro a0 a1 a2 k
 have ih0 := spec_whCode.mono_l k
 unfold spec_whCode.f
 repeat' first
   | (with_reducible first | exact ih0 _ _ _ _ | exact LeO.refl _ | exact LeO.none _ | refine LeO.ite ?_ ?_ | refine LeO.bind ?_ (fun _ => ?_))
   | exact ih0 _ _ _ _
   | exact LeO.none _
   | refine LeO.ite ?_ ?_
   | refine LeO.bind ?_ (fun _ => ?_)
theorem spec_whCode.calls (k : Nat) (a0_0 : Int) (a0_1 : Int) (a1 : ByteArray) (r : Bool) (w : World) (h : spec_whCode.f k a0_0 a0_1 a1 = some r) :
  Calls Tryz.prog 67 #[.agg #[.int .i64 a0_0, .int .i64 a0_1], .string a1] w fun e w' => e = .returned (.bool r) ∧ Below w.heap.size w w' := by
 have hu25 := Tryz.underlying25
 have HB := Aside0.mk (Below.refl w.heap.size w)
 have H := h
 unfold spec_whCode.f at H
 clear h
 by_cases c3 : (a1.size : Int) = a0_0
 ·rw [if_pos c3] at H
  have c3b0 : ((a1.size : Int) == a0_0) = true := beq_iff_eq.mpr c3
  have c3b1 : ((a1.size : Int) != a0_0) = false := bne_eq_false_iff_eq.mpr c3
  clear c3
  have H' := Aside0.mk H
  clear H
  go_enter Tryz.func67, Tryz.ntmps67
  go_wp2_with (first | ((with_reducible refine gate_dst (N := 2) rfl ?_); refine box_event ?hg (N := 2) ?hd (cs := #[.int .i64 a0_0, .int .i64 a0_1]) (t := 25) ?hr ?_; (case hd => rfl); (case hg => rfl); (case hr => first | (go_simp; done) | (go_simp; rfl)); intro gb274 hg w4 hbox hb; have BK274 := Aside0.mk (hbox); have GW274 : Aside0 (w.heap.size ≤ gb274) := gW hg; have GE274 := GW274; replace HB := Aside0.mk (below_step bB hb); clear hb hbox hg; have hcz5_0 := cZ BK274 0 (.int .i64 a0_0); have hcz5_1 := cZ BK274 1 (.int .i64 a0_1); have hfz5_0 := blk_frozen BK274.out 0; have hfz5_1 := blk_frozen BK274.out 1))
  repeat (go_quiet (first | ((with_reducible refine gate_dst (N := 2) rfl ?_); refine box_event ?hg (N := 2) ?hd (cs := #[.int .i64 a0_0, .int .i64 a0_1]) (t := 25) ?hr ?_; (case hd => rfl); (case hg => rfl); (case hr => first | (go_simp; done) | (go_simp; rfl)); intro gb274 hg w4 hbox hb; have BK274 := Aside0.mk (hbox); have GW274 : Aside0 (w.heap.size ≤ gb274) := gW hg; have GE274 := GW274; replace HB := Aside0.mk (below_step bB hb); clear hb hbox hg; have hcz5_0 := cZ BK274 0 (.int .i64 a0_0); have hcz5_1 := cZ BK274 1 (.int .i64 a0_1); have hfz5_0 := blk_frozen BK274.out 0; have hfz5_1 := blk_frozen BK274.out 1)); try go_wp2_with (first | ((with_reducible refine gate_dst (N := 2) rfl ?_); refine box_event ?hg (N := 2) ?hd (cs := #[.int .i64 a0_0, .int .i64 a0_1]) (t := 25) ?hr ?_; (case hd => rfl); (case hg => rfl); (case hr => first | (go_simp; done) | (go_simp; rfl)); intro gb274 hg w4 hbox hb; have BK274 := Aside0.mk (hbox); have GW274 : Aside0 (w.heap.size ≤ gb274) := gW hg; have GE274 := GW274; replace HB := Aside0.mk (below_step bB hb); clear hb hbox hg; have hcz5_0 := cZ BK274 0 (.int .i64 a0_0); have hcz5_1 := cZ BK274 1 (.int .i64 a0_1); have hfz5_0 := blk_frozen BK274.out 0; have hfz5_1 := blk_frozen BK274.out 1)))
  go_loopg [5] k (fun kq v5 w' => ∃ (x5_1 : Int), v5 = .int .i64 x5_1 ∧ Aside0 (spec_whCode.l0 kq a1 x5_1 a0_0 a0_1 = some r) ∧ Aside0 (kq ≤ k) ∧ Aside0 (w'.heap[gb274]? = some (.cells #[.int .i64 a0_0, .int .i64 a0_1] 25 (0, 0))) ∧ Aside0 (Below w.heap.size w w'))
  case atStart => exact ⟨(0), fR, H', ⟨Nat.le_refl _⟩, ⟨bK⟩, ⟨bG⟩⟩
  case round =>
   clear H'
   try clear p2
   try clear c3
   try clear c3b0
   try clear c3b1
   try clear hcz5_0
   try clear hcz5_1
   try clear hfz5_0
   try clear hfz5_1
   obtain ⟨x5_1, rfl, HA, HK1, BK274, HB⟩ := hrel
   cases gk with
   | zero => exact absurd HA.out (by simp [spec_whCode.l0])
   | succ k1 =>
    have H := HA.out
    clear HA
    simp only [spec_whCode.l0] at H
    by_cases c6 : x5_1 < (a1.size : Int)
    ·rw [if_pos c6] at H
     have c6b0 : decide (x5_1 < (a1.size : Int)) = true := decide_eq_true c6
     clear c6
     replace H := nz H; obtain ⟨c7, H⟩ := H
     have c7b0 : decide (0 ≤ x5_1) = true := decide_eq_true c7
     clear c7
     replace H := Option.bind_eq_some_iff.mp H
     obtain ⟨t275, A90, H⟩ := H
     (try dsimp only at H)
     have A9 := Aside0.mk A90
     clear A90
     by_cases c10 : t275 = true
     ·subst c10
      replace H := zt H
      have H' := Aside0.mk H
      clear H
      have p8 : 0 ≤ (x5_1 : Int) := oD
      have q8 : x5_1 < (a1.size : Int) := oD
      have hx8 := bt_at a1 x5_1
      replace p8 := eq_true p8
      replace q8 := eq_true q8
      have hcz11_0 := cZ BK274 0 (.int .i64 a0_0)
      have hcz11_1 := cZ BK274 1 (.int .i64 a0_1)
      have hfz11_0 := blk_frozen BK274.out 0
      have hfz11_1 := blk_frozen BK274.out 1
      go_wp2_with (first | (go_at_call 54; (with_reducible refine (spec_l1In.calls (wrap64 ((wrap64 (bt a1 x5_1)) - 48)) 0 (wrap64 (a0_1 - 1)) true _ A9.out).mono ?_); rintro e w' ⟨rfl, ⟨nd, rfl⟩⟩; (try first | exact ⟨rfl, _, World.drewN_drewN _ _ _⟩ | exact ⟨rfl, _, Eq.trans (World.drewN_drewN _ _ _) (congrArg (World.drewN _) (Nat.add_assoc _ _ _))⟩)))
      repeat (go_quiet (first | (go_at_call 54; (with_reducible refine (spec_l1In.calls (wrap64 ((wrap64 (bt a1 x5_1)) - 48)) 0 (wrap64 (a0_1 - 1)) true _ A9.out).mono ?_); rintro e w' ⟨rfl, ⟨nd, rfl⟩⟩; (try first | exact ⟨rfl, _, World.drewN_drewN _ _ _⟩ | exact ⟨rfl, _, Eq.trans (World.drewN_drewN _ _ _) (congrArg (World.drewN _) (Nat.add_assoc _ _ _))⟩))); try go_wp2_with (first | (go_at_call 54; (with_reducible refine (spec_l1In.calls (wrap64 ((wrap64 (bt a1 x5_1)) - 48)) 0 (wrap64 (a0_1 - 1)) true _ A9.out).mono ?_); rintro e w' ⟨rfl, ⟨nd, rfl⟩⟩; (try first | exact ⟨rfl, _, World.drewN_drewN _ _ _⟩ | exact ⟨rfl, _, Eq.trans (World.drewN_drewN _ _ _) (congrArg (World.drewN _) (Nat.add_assoc _ _ _))⟩))))
      go_roundg k1
      case measure => have := HK1.out; omega
      case rel => exact ⟨(wrap64 (x5_1 + 1)), fR, H', ⟨by have := HK1.out; omega⟩, ⟨bK⟩, ⟨bG⟩⟩
     ·replace c10 := Bool.eq_false_iff.mpr c10
      subst c10
      replace H := zf H
      obtain rfl := Option.some.inj H
      have p8 : 0 ≤ (x5_1 : Int) := oD
      have q8 : x5_1 < (a1.size : Int) := oD
      have hx8 := bt_at a1 x5_1
      replace p8 := eq_true p8
      replace q8 := eq_true q8
      have hcz12_0 := cZ BK274 0 (.int .i64 a0_0)
      have hcz12_1 := cZ BK274 1 (.int .i64 a0_1)
      have hfz12_0 := blk_frozen BK274.out 0
      have hfz12_1 := blk_frozen BK274.out 1
      go_wp2_with (first | (go_at_call 54; (with_reducible refine (spec_l1In.calls (wrap64 ((wrap64 (bt a1 x5_1)) - 48)) 0 (wrap64 (a0_1 - 1)) false _ A9.out).mono ?_); rintro e w' ⟨rfl, ⟨nd, rfl⟩⟩; (try first | exact ⟨rfl, _, World.drewN_drewN _ _ _⟩ | exact ⟨rfl, _, Eq.trans (World.drewN_drewN _ _ _) (congrArg (World.drewN _) (Nat.add_assoc _ _ _))⟩)))
      repeat (go_quiet (first | (go_at_call 54; (with_reducible refine (spec_l1In.calls (wrap64 ((wrap64 (bt a1 x5_1)) - 48)) 0 (wrap64 (a0_1 - 1)) false _ A9.out).mono ?_); rintro e w' ⟨rfl, ⟨nd, rfl⟩⟩; (try first | exact ⟨rfl, _, World.drewN_drewN _ _ _⟩ | exact ⟨rfl, _, Eq.trans (World.drewN_drewN _ _ _) (congrArg (World.drewN _) (Nat.add_assoc _ _ _))⟩))); try go_wp2_with (first | (go_at_call 54; (with_reducible refine (spec_l1In.calls (wrap64 ((wrap64 (bt a1 x5_1)) - 48)) 0 (wrap64 (a0_1 - 1)) false _ A9.out).mono ?_); rintro e w' ⟨rfl, ⟨nd, rfl⟩⟩; (try first | exact ⟨rfl, _, World.drewN_drewN _ _ _⟩ | exact ⟨rfl, _, Eq.trans (World.drewN_drewN _ _ _) (congrArg (World.drewN _) (Nat.add_assoc _ _ _))⟩))))
      go_ret
      exact ⟨rE, bG⟩
    ·rw [if_neg c6] at H
     have c6b0 : decide (x5_1 < (a1.size : Int)) = false := decide_eq_false c6
     clear c6
     obtain rfl := Option.some.inj H
     go_wp2
     repeat (go_quiet (fail); try go_wp2)
     go_ret
     exact ⟨rE, bG⟩
 ·rw [if_neg c3] at H
  have c3b0 : ((a1.size : Int) == a0_0) = false := beq_eq_false_iff_ne.mpr c3
  have c3b1 : ((a1.size : Int) != a0_0) = true := bne_iff_ne.mpr c3
  obtain rfl := Option.some.inj H
  go_enter Tryz.func67, Tryz.ntmps67
  go_wp2_with (first | ((with_reducible refine gate_dst (N := 2) rfl ?_); refine box_event ?hg (N := 2) ?hd (cs := #[.int .i64 a0_0, .int .i64 a0_1]) (t := 25) ?hr ?_; (case hd => rfl); (case hg => rfl); (case hr => first | (go_simp; done) | (go_simp; rfl)); intro gb274 hg w13 hbox hb; have BK274 := Aside0.mk (hbox); have GW274 : Aside0 (w.heap.size ≤ gb274) := gW hg; have GE274 := GW274; replace HB := Aside0.mk (below_step bB hb); clear hb hbox hg; have hcz14_0 := cZ BK274 0 (.int .i64 a0_0); have hcz14_1 := cZ BK274 1 (.int .i64 a0_1); have hfz14_0 := blk_frozen BK274.out 0; have hfz14_1 := blk_frozen BK274.out 1))
  repeat (go_quiet (first | ((with_reducible refine gate_dst (N := 2) rfl ?_); refine box_event ?hg (N := 2) ?hd (cs := #[.int .i64 a0_0, .int .i64 a0_1]) (t := 25) ?hr ?_; (case hd => rfl); (case hg => rfl); (case hr => first | (go_simp; done) | (go_simp; rfl)); intro gb274 hg w13 hbox hb; have BK274 := Aside0.mk (hbox); have GW274 : Aside0 (w.heap.size ≤ gb274) := gW hg; have GE274 := GW274; replace HB := Aside0.mk (below_step bB hb); clear hb hbox hg; have hcz14_0 := cZ BK274 0 (.int .i64 a0_0); have hcz14_1 := cZ BK274 1 (.int .i64 a0_1); have hfz14_0 := blk_frozen BK274.out 0; have hfz14_1 := blk_frozen BK274.out 1)); try go_wp2_with (first | ((with_reducible refine gate_dst (N := 2) rfl ?_); refine box_event ?hg (N := 2) ?hd (cs := #[.int .i64 a0_0, .int .i64 a0_1]) (t := 25) ?hr ?_; (case hd => rfl); (case hg => rfl); (case hr => first | (go_simp; done) | (go_simp; rfl)); intro gb274 hg w13 hbox hb; have BK274 := Aside0.mk (hbox); have GW274 : Aside0 (w.heap.size ≤ gb274) := gW hg; have GE274 := GW274; replace HB := Aside0.mk (below_step bB hb); clear hb hbox hg; have hcz14_0 := cZ BK274 0 (.int .i64 a0_0); have hcz14_1 := cZ BK274 1 (.int .i64 a0_1); have hfz14_0 := blk_frozen BK274.out 0; have hfz14_1 := blk_frozen BK274.out 1)))
  go_ret
  exact ⟨rE, bG⟩

/-! ### spec_whNumber: function 68 -/
def spec_whNumber.l0 : Nat → Int → List Int → Int → Int → Int → Int → Option (Int)
 | 0, _, _, _, _, _, _ => none
 | k + 1, x5, x9, x10, x11, x277000, x277001 => if x11 < x10 then (if 0 ≤ x11 then (if x11 < (x9.length : Int) then (spec_whNumber.l0 k (wrap64 ((wrap64 (x5 * x277001)) + (rd x9 x11))) x9 x10 (wrap64 (x11 + 1)) x277000 x277001) else (none)) else (none)) else (some x5)
def spec_whNumber.f (k : Nat) (a0_0 : Int) (a0_1 : Int) (a1 : ByteArray) : Option (Int) := (spec_whDigits.f k a1).bind fun t277 => (spec_whNumber.l0 k 0 t277 (t277.length : Int) 0 a0_0 a0_1)
theorem spec_whNumber.mono_l : ∀ k, (∀ y0 y1 y2 y3 y4 y5, LeO (spec_whNumber.l0 k y0 y1 y2 y3 y4 y5) (spec_whNumber.l0 (k + 1) y0 y1 y2 y3 y4 y5))
 | 0 => fun _ _ _ _ _ _ r h => by simp [spec_whNumber.l0] at h
 | k + 1 => by
  have ih0 := spec_whNumber.mono_l k
  ·intro y0 y1 y2 y3 y4 y5
   unfold spec_whNumber.l0
   repeat' first
   | (with_reducible first | exact ih0 _ _ _ _ _ _ | exact spec_whDigits.mono _ _ | exact LeO.refl _ | exact LeO.none _ | refine LeO.ite ?_ ?_ | refine LeO.bind ?_ (fun _ => ?_))
   | exact ih0 _ _ _ _ _ _
   | exact spec_whDigits.mono _ _
   | exact LeO.none _
   | refine LeO.ite ?_ ?_
   | refine LeO.bind ?_ (fun _ => ?_)
theorem spec_whNumber.mono : ∀ a0 a1 a2 k, LeO (spec_whNumber.f k a0 a1 a2) (spec_whNumber.f (k + 1) a0 a1 a2) := by
 intro a0 a1 a2 k
 have ih0 := spec_whNumber.mono_l k
 unfold spec_whNumber.f
 repeat' first
   | (with_reducible first | exact ih0 _ _ _ _ _ _ | exact spec_whDigits.mono _ _ | exact LeO.refl _ | exact LeO.none _ | refine LeO.ite ?_ ?_ | refine LeO.bind ?_ (fun _ => ?_))
   | exact ih0 _ _ _ _ _ _
   | exact spec_whDigits.mono _ _
   | exact LeO.none _
   | refine LeO.ite ?_ ?_
   | refine LeO.bind ?_ (fun _ => ?_)
theorem spec_whNumber.calls (k : Nat) (a0_0 : Int) (a0_1 : Int) (a1 : ByteArray) (r : Int) (w : World) (h : spec_whNumber.f k a0_0 a0_1 a1 = some r) :
  Calls Tryz.prog 68 #[.agg #[.int .i64 a0_0, .int .i64 a0_1], .string a1] w fun e w' => e = .returned (.int .i64 r) ∧ Below w.heap.size w w' := by
 have hu25 := Tryz.underlying25
 have HB := Aside0.mk (Below.refl w.heap.size w)
 have H := h
 unfold spec_whNumber.f at H
 clear h
 replace H := Option.bind_eq_some_iff.mp H
 obtain ⟨t277, A30, H⟩ := H
 (try dsimp only at H)
 have A3 := Aside0.mk A30
 clear A30
 have H' := Aside0.mk H
 clear H
 go_enter Tryz.func68, Tryz.ntmps68
 go_wp2_with (first | ((with_reducible refine gate_dst (N := 2) rfl ?_); refine box_event ?hg (N := 2) ?hd (cs := #[.int .i64 a0_0, .int .i64 a0_1]) (t := 25) ?hr ?_; (case hd => rfl); (case hg => rfl); (case hr => first | (go_simp; done) | (go_simp; rfl)); intro gb276 hg w4 hbox hb; have BK276 := Aside0.mk (hbox); have GW276 : Aside0 (w.heap.size ≤ gb276) := gW hg; have GE276 := GW276; replace HB := Aside0.mk (below_step bB hb); clear hb hbox hg) | ((with_reducible refine gate_callee (f := 56) rfl ?_); refine goesL_ (some 9) rfl rfl Tryz.func56 (by kernel_rfl) rfl #[.string a1] rfl lM ?_; (with_reducible refine (spec_whDigits.calls k a1 t277 _ A3.out).mono ?_); rintro e w5 ⟨v278, rfl, ho0, hb⟩; refine ⟨_, rfl, ?_⟩; have HO279 := Aside0.mk (Kd.R_lower ho0 (below_size bG)); replace BK276 := bW BK276 hb; replace HB := Aside0.mk (below_step bG hb); (try clear hb); (try clear ho0); obtain ⟨Ao6, co6, eo6⟩ := Kd.R_slice HO279.out; subst eo6))
 go_loopg [5, 11] k (fun kq v5 v11 w' => ∃ (x5_1 : Int) (x11_1 : Int), v5 = .int .i64 x5_1 ∧ v11 = .int .i64 x11_1 ∧ Aside0 (spec_whNumber.l0 kq x5_1 t277 (t277.length : Int) x11_1 a0_0 a0_1 = some r) ∧ Aside0 (kq ≤ k) ∧ Aside0 (Kd.R (Kd.int .i64) 3 w' w.heap.size (fun _ => True) (.slice Ao6 t277.length co6) t277) ∧ Aside0 (w'.heap[gb276]? = some (.cells #[.int .i64 a0_0, .int .i64 a0_1] 25 (0, 0))) ∧ Aside0 (Below w.heap.size w w'))
 case atStart => exact ⟨(0), (0), fR, fR, H', ⟨Nat.le_refl _⟩, ⟨kR HO279⟩, ⟨bK⟩, ⟨bG⟩⟩
 case round =>
  clear H'
  try clear p2
  try clear c5
  try clear c6
  obtain ⟨x5_1, x11_1, rfl, rfl, HA, HK1, HO_9, BK276, HB⟩ := hrel
  cases gk with
  | zero => exact absurd HA.out (by simp [spec_whNumber.l0])
  | succ k1 =>
   have H := HA.out
   clear HA
   simp only [spec_whNumber.l0] at H
   by_cases c7 : x11_1 < (t277.length : Int)
   ·rw [if_pos c7] at H
    have c7b0 : decide (x11_1 < (t277.length : Int)) = true := decide_eq_true c7
    clear c7
    replace H := nz H; obtain ⟨c8, H⟩ := H
    have c8b0 : decide (0 ≤ x11_1) = true := decide_eq_true c8
    clear c8
    replace H := nz H; obtain ⟨c9, H⟩ := H
    have c9b0 : decide (x11_1 < (t277.length : Int)) = true := decide_eq_true c9
    clear c9
    have H' := Aside0.mk H
    clear H
    have p280 : 0 ≤ (x11_1 : Int) := oD
    have q280 : x11_1 < (t277.length : Int) := oD
    obtain ⟨ad280, e280, hx280_0⟩ := Kd.at_int (Kd.R_reads' HO_9.out).2.2 x11_1 p280 q280
    cases e280
    replace p280 := eq_true p280
    replace q280 := eq_true q280
    have hcz10_0 := cZ BK276 0 (.int .i64 a0_0)
    have hcz10_1 := cZ BK276 1 (.int .i64 a0_1)
    have hfz10_0 := blk_frozen BK276.out 0
    have hfz10_1 := blk_frozen BK276.out 1
    go_wp2
    go_roundg k1
    case measure => have := HK1.out; omega
    case rel => exact ⟨(wrap64 ((wrap64 (x5_1 * a0_1)) + (rd t277 x11_1))), (wrap64 (x11_1 + 1)), fR, fR, H', ⟨by have := HK1.out; omega⟩, ⟨kR HO_9⟩, ⟨bK⟩, ⟨bG⟩⟩
   ·rw [if_neg c7] at H
    have c7b0 : decide (x11_1 < (t277.length : Int)) = false := decide_eq_false c7
    clear c7
    obtain rfl := Option.some.inj H
    go_wp2
    go_ret
    exact ⟨rE, bG⟩

end Go.Proofs.YthpmpkmdjpaemaaGreat.P
