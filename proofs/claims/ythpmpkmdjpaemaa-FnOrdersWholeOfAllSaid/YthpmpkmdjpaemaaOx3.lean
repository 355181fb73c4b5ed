-- Printed by hp.py, a program of this session: a machine's side of laws, out of the translation; Lean checks it.
import Derived.Test.YthpmpkmdjpaemaaOx0
import Derived.Test.YthpmpkmdjpaemaaOx2
namespace Go.Proofs.Ythpmpkmdjpaemaa.O
open Go.RowKit Go.Proofs.YthpmpkmdjpaemaaW.PrintWords Go.Proofs.YthpmpkmdjpaemaaW.PrintLast Go.Proofs.YthpmpkmdjpaemaaW.PrintMore
attribute [local go_sem] max2_int min2_int max_two min_two max_three min_three max_four min_four   -- for this text's walks alone
set_option maxHeartbeats 8000000
set_option maxRecDepth 100000
set_option linter.unusedVariables false
set_option linter.unusedSimpArgs false

/-! ### impl_Lock_between: function 44 -/
def impl_Lock_between.l0 : Nat → ByteArray → ByteArray → List (S46) → Int → Int → Int → Int → Option (Int × Int × Bool)
 | 0, _, _, _, _, _, _, _ => none
 | k + 1, x1, x2, x12, x13, x14, x140000, x140001 => if x14 < x13 then (if 0 ≤ x14 then (if x14 < (x12.length : Int) then ((impl_Lock_turned.f k x140000 x140001 x1 ((rd_T46 x12 x14).f0) ((rd_T46 x12 x14).f1)).bind fun t146 => (if t146.toList = x2.toList then (some ((rd_T46 x12 x14).f0, (rd_T46 x12 x14).f1, true)) else (impl_Lock_between.l0 k x1 x2 x12 x13 (wrap64 (x14 + 1)) x140000 x140001))) else (none)) else (none)) else (some (0, 0, false))
def impl_Lock_between.f (k : Nat) (a0_0 : Int) (a0_1 : Int) (a1 : ByteArray) (a2 : ByteArray) : Option (Int × Int × Bool) := (impl_turns.f k a0_0).bind fun t141 => (impl_Lock_between.l0 k a1 a2 t141 (t141.length : Int) 0 a0_0 a0_1)
theorem impl_Lock_between.mono_l : ∀ k, (∀ y0 y1 y2 y3 y4 y5 y6, LeO (impl_Lock_between.l0 k y0 y1 y2 y3 y4 y5 y6) (impl_Lock_between.l0 (k + 1) y0 y1 y2 y3 y4 y5 y6))
 | 0 => fun _ _ _ _ _ _ _ r h => by simp [impl_Lock_between.l0] at h
 | k + 1 => by
  have ih0 := impl_Lock_between.mono_l k
  ·intro y0 y1 y2 y3 y4 y5 y6
   unfold impl_Lock_between.l0
   repeat' first
   | (with_reducible first | exact ih0 _ _ _ _ _ _ _ | exact impl_Lock_turned.mono _ _ _ _ _ _ | exact impl_turns.mono _ _ | exact LeO.refl _ | exact LeO.none _ | refine LeO.ite ?_ ?_ | refine LeO.bind ?_ (fun _ => ?_))
   | exact ih0 _ _ _ _ _ _ _
   | exact impl_Lock_turned.mono _ _ _ _ _ _
   | exact impl_turns.mono _ _
   | exact LeO.none _
   | refine LeO.ite ?_ ?_
   | refine LeO.bind ?_ (fun _ => ?_)
theorem impl_Lock_between.mono : ∀ a0 a1 a2 a3 k, LeO (impl_Lock_between.f k a0 a1 a2 a3) (impl_Lock_between.f (k + 1) a0 a1 a2 a3) := by
 intro a0 a1 a2 a3 k
 have ih0 := impl_Lock_between.mono_l k
 unfold impl_Lock_between.f
 repeat' first
   | (with_reducible first | exact ih0 _ _ _ _ _ _ _ | exact impl_Lock_turned.mono _ _ _ _ _ _ | exact impl_turns.mono _ _ | exact LeO.refl _ | exact LeO.none _ | refine LeO.ite ?_ ?_ | refine LeO.bind ?_ (fun _ => ?_))
   | exact ih0 _ _ _ _ _ _ _
   | exact impl_Lock_turned.mono _ _ _ _ _ _
   | exact impl_turns.mono _ _
   | exact LeO.none _
   | refine LeO.ite ?_ ?_
   | refine LeO.bind ?_ (fun _ => ?_)
theorem impl_Lock_between.calls (k : Nat) (a0_0 : Int) (a0_1 : Int) (a1 : ByteArray) (a2 : ByteArray) (r1 : Int) (r2 : Int) (r3 : Bool) (w : World) (h : impl_Lock_between.f k a0_0 a0_1 a1 a2 = some (r1, r2, r3)) :
  Calls Try.prog 44 #[.agg #[.int .i64 a0_0, .int .i64 a0_1], .string a1, .string a2] w fun e w' => e = .returned (.tuple #[.agg #[.int .i64 r1, .int .i64 r2], .bool r3]) ∧ Below w.heap.size w w' := by
 have hu23 := Try.underlying23
 have hu46 := Try.underlying46
 have HB := Aside0.mk (Below.refl w.heap.size w)
 have H := h
 unfold impl_Lock_between.f at H
 clear h
 replace H := Option.bind_eq_some_iff.mp H
 obtain ⟨t141, A40, H⟩ := H
 (try dsimp only at H)
 have A4 := Aside0.mk A40
 clear A40
 have H' := Aside0.mk H
 clear H
 go_enter Try.func44, Try.ntmps44
 go_wp2_with (first | ((with_reducible refine gate_dst (N := 3) rfl ?_); refine box_event ?hg (N := 3) ?hd (cs := #[.int .i64 a0_0, .int .i64 a0_1]) (t := 23) ?hr ?_; (case hd => rfl); (case hg => rfl); (case hr => first | (go_simp; done) | (go_simp; rfl)); intro gb139 hg w5 hbox hb; have BK139 := Aside0.mk (hbox); have GW139 : Aside0 (w.heap.size ≤ gb139) := gW hg; have GE139 := GW139; replace HB := Aside0.mk (below_step bB hb); clear hb hbox hg) | ((with_reducible refine gate_dst (N := 6) rfl ?_); refine box_event ?hg (N := 6) ?hd (cs := #[.int .i64 0, .int .i64 0]) (t := 46) ?hr ?_; (case hd => rfl); (case hg => rfl); (case hr => first | (go_simp; done) | (go_simp; rfl)); intro gb140 hg w6 hbox hb; have n0_ := Aside0.mk (blk_below (g := gb139) (o := .cells #[.int .i64 a0_0, .int .i64 a0_1] 23 (0, 0)) bK hb); have n1_ := Aside0.mk (below_step bG hb); have n2_ := Aside0.mk (hbox); have n3_ := Aside0.mk ((by rw [hg]; exact (below_size bG) : w.heap.size ≤ gb140)); have n4_ := Aside0.mk ((by rw [hg]; exact (below_size bG) : w.heap.size ≤ gb140)); have n5_ := Aside0.mk ((by rw [hg]; exact Nat.ne_of_lt (blk_lt (g := gb139) (o := .cells #[.int .i64 a0_0, .int .i64 a0_1] 23 (0, 0)) bK) : gb139 ≠ gb140)); have n6_ := Aside0.mk ((by rw [hg]; exact Nat.ne_of_gt (blk_lt (g := gb139) (o := .cells #[.int .i64 a0_0, .int .i64 a0_1] 23 (0, 0)) bK) : gb140 ≠ gb139)); clear BK139; clear HB; have BK139 := n0_; have HB := n1_; have BK140 := n2_; have GW140 := n3_; have GE140 := n4_; have NB139_140 := n5_; have NB140_139 := n6_; clear n0_ n1_ n2_ n3_ n4_ n5_ n6_; clear hb hbox hg; have hnb7 := NB139_140.out; have hnc7 := NB140_139.out; have hcz8_0 := cZ BK139 0 (.int .i64 a0_0); have hcz8_1 := cZ BK139 1 (.int .i64 a0_1); have hfz8_0 := blk_frozen BK139.out 0; have hfz8_1 := blk_frozen BK139.out 1) | ((with_reducible refine gate_callee (f := 67) rfl ?_); refine goesL_ (some 12) rfl rfl Try.func67 (by kernel_rfl) rfl #[.int .i64 a0_0] rfl lM ?_; (with_reducible refine (impl_turns.calls k a0_0 t141 _ A4.out).mono ?_); rintro e w9 ⟨v142, rfl, ho0, hb⟩; refine ⟨_, rfl, ?_⟩; have n0_ := Aside0.mk (Kd.R_lower (Kd.R_newB ho0 (g := gb140) (o := .cells #[.int .i64 0, .int .i64 0] 46 (0, 0)) bK) (below_size bG)); have n1_ := Aside0.mk (blk_below (g := gb139) (o := .cells #[.int .i64 a0_0, .int .i64 a0_1] 23 (0, 0)) bK hb); have n2_ := Aside0.mk (blk_below (g := gb140) (o := .cells #[.int .i64 0, .int .i64 0] 46 (0, 0)) bK hb); have n3_ := Aside0.mk (below_step bG hb); clear BK139; clear BK140; clear HB; have HO143 := n0_; have BK139 := n1_; have BK140 := n2_; have HB := n3_; clear n0_ n1_ n2_ n3_; (try clear hb); (try clear ho0); obtain ⟨Ao10, co10, eo10⟩ := Kd.R_slice HO143.out; subst eo10))
 go_loopg [14] k (fun kq v14 w' => ∃ (x14_1 : Int) (x141000_1 : Int) (x141001_1 : Int), v14 = .int .i64 x14_1 ∧ Aside0 (impl_Lock_between.l0 kq a1 a2 t141 (t141.length : Int) x14_1 a0_0 a0_1 = some (r1, r2, r3)) ∧ Aside0 (kq ≤ k) ∧ Aside0 (Kd.R k46 46 w' w.heap.size (fun k_ => k_ ≠ gb140) (.slice Ao10 t141.length co10) t141) ∧ Aside0 (w'.heap[gb139]? = some (.cells #[.int .i64 a0_0, .int .i64 a0_1] 23 (0, 0))) ∧ Aside0 (w'.heap[gb140]? = some (.cells #[.int .i64 x141000_1, .int .i64 x141001_1] 46 (0, 0))) ∧ Aside0 (Below w.heap.size w w'))
 case atStart => exact ⟨(0), (0), (0), fR, H', ⟨Nat.le_refl _⟩, ⟨by (with_reducible repeat (first | apply Kd.R_alloc | apply Kd.R_drewN | apply Kd.R_drew)); exact Kd.R_mono HO143.out (fun _ hk => hk.2)⟩, ⟨bK⟩, ⟨bK⟩, ⟨bG⟩⟩
 case round =>
  clear H'
  try clear p2
  try clear c4
  try clear c6
  try clear c7
  try clear hcz8_0
  try clear hcz8_1
  try clear hfz8_0
  try clear hfz8_1
  obtain ⟨x14_1, x141000_1, x141001_1, rfl, HA, HK1, HO_12, BK139, BK140, HB⟩ := hrel
  cases gk with
  | zero => exact absurd HA.out (by simp [impl_Lock_between.l0])
  | succ k1 =>
   have H := HA.out
   clear HA
   simp only [impl_Lock_between.l0] at H
   by_cases c11 : x14_1 < (t141.length : Int)
   ·rw [if_pos c11] at H
    have c11b0 : decide (x14_1 < (t141.length : Int)) = true := decide_eq_true c11
    clear c11
    replace H := nz H; obtain ⟨c12, H⟩ := H
    have c12b0 : decide (0 ≤ x14_1) = true := decide_eq_true c12
    clear c12
    replace H := nz H; obtain ⟨c13, H⟩ := H
    have c13b0 : decide (x14_1 < (t141.length : Int)) = true := decide_eq_true c13
    clear c13
    replace H := Option.bind_eq_some_iff.mp H
    obtain ⟨t146, A140, H⟩ := H
    (try dsimp only at H)
    have A14 := Aside0.mk A140
    clear A140
    by_cases c15 : t146.toList = a2.toList
    ·rw [if_pos c15] at H
     have c15b0 : (t146.toList == a2.toList) = true := beq_iff_eq.mpr c15
     have c15b1 : (t146.toList != a2.toList) = false := bne_eq_false_iff_eq.mpr c15
     clear c15
     simp only [Option.some.injEq, Prod.mk.injEq] at H
     obtain ⟨rfl, rfl, rfl⟩ := H
     have p144 : 0 ≤ (x14_1 : Int) := oD
     have q144 : x14_1 < (t141.length : Int) := oD
     obtain ⟨ad144, e144, hx144_0, hx144_1⟩ := at_T46 (Kd.R_reads' HO_12.out).2.2 x14_1 p144 q144
     cases e144
     replace p144 := eq_true p144
     replace q144 := eq_true q144
     go_wp2_with (first | ((with_reducible refine gate_dst (N := 9) rfl ?_); refine box_event ?hg (N := 9) ?hd (cs := #[.int .i64 0, .int .i64 0]) (t := 46) ?hr ?_; (case hd => rfl); (case hg => rfl); (case hr => first | (go_simp; done) | (go_simp; rfl)); intro gb145 hg w16 hbox hb; have n0_ := Aside0.mk (Kd.R_below (Kd.R_elderB (kR HO_12) gb145 (Nat.le_of_eq hg.symm)) hb); have n1_ := Aside0.mk (blk_below (g := gb139) (o := .cells #[.int .i64 a0_0, .int .i64 a0_1] 23 (0, 0)) bK hb); have n2_ := Aside0.mk (blk_below (g := gb140) (o := .cells #[.int .i64 x141000_1, .int .i64 x141001_1] 46 (0, 0)) bK hb); have n3_ := Aside0.mk (below_step bG hb); have n4_ := Aside0.mk (hbox); have n5_ := Aside0.mk ((by rw [hg]; exact (below_size bG) : w.heap.size ≤ gb145)); have n6_ := Aside0.mk ((by rw [hg]; exact (below_size bG) : w.heap.size ≤ gb145)); have n7_ := Aside0.mk ((by rw [hg]; exact Nat.ne_of_lt (blk_lt (g := gb139) (o := .cells #[.int .i64 a0_0, .int .i64 a0_1] 23 (0, 0)) bK) : gb139 ≠ gb145)); have n8_ := Aside0.mk ((by rw [hg]; exact Nat.ne_of_gt (blk_lt (g := gb139) (o := .cells #[.int .i64 a0_0, .int .i64 a0_1] 23 (0, 0)) bK) : gb145 ≠ gb139)); have n9_ := Aside0.mk ((by rw [hg]; exact Nat.ne_of_lt (blk_lt (g := gb140) (o := .cells #[.int .i64 x141000_1, .int .i64 x141001_1] 46 (0, 0)) bK) : gb140 ≠ gb145)); have n10_ := Aside0.mk ((by rw [hg]; exact Nat.ne_of_gt (blk_lt (g := gb140) (o := .cells #[.int .i64 x141000_1, .int .i64 x141001_1] 46 (0, 0)) bK) : gb145 ≠ gb140)); clear HO_12; clear BK139; clear BK140; clear HB; have HO_12 := n0_; have BK139 := n1_; have BK140 := n2_; have HB := n3_; have BK145 := n4_; have GW145 := n5_; have GE145 := n6_; have NB139_145 := n7_; have NB145_139 := n8_; have NB140_145 := n9_; have NB145_140 := n10_; clear n0_ n1_ n2_ n3_ n4_ n5_ n6_ n7_ n8_ n9_ n10_; clear hb hbox hg; have hnb17 := NB145_139.out; have hnc17 := NB139_145.out; have hnb18 := NB145_140.out; have hnc18 := NB140_145.out; have hcz19_0 := cZ BK145 0 (.int .i64 0); have hcz19_1 := cZ BK145 1 (.int .i64 0); have hfz19_0 := blk_frozen BK145.out 0; have hfz19_1 := blk_frozen BK145.out 1; have hnb20 := NB139_140.out; have hnc20 := NB140_139.out; have hcz21_0 := cZ BK139 0 (.int .i64 a0_0); have hcz21_1 := cZ BK139 1 (.int .i64 a0_1); have hfz21_0 := blk_frozen BK139.out 0; have hfz21_1 := blk_frozen BK139.out 1) | ((with_reducible refine gate_callee (f := 34) rfl ?_); refine goesL_ (some 21) rfl rfl Try.func34 (by kernel_rfl) rfl #[.agg #[.int .i64 a0_0, .int .i64 a0_1], .string a1, .agg #[.int .i64 ((rd_T46 t141 x14_1).f0), .int .i64 ((rd_T46 t141 x14_1).f1)]] rfl lM ?_; (with_reducible refine (impl_Lock_turned.calls k1 a0_0 a0_1 a1 ((rd_T46 t141 x14_1).f0) ((rd_T46 t141 x14_1).f1) t146 _ A14.out).mono ?_); rintro e w22 ⟨rfl, hb⟩; refine ⟨_, rfl, ?_⟩; replace HO_12 := Aside0.mk (Kd.R_below (by (with_reducible repeat (first | apply Kd.R_alloc | apply Kd.R_drewN | apply Kd.R_drew)); exact (Kd.R_mono (Kd.R_far (p := ⟨gb145, 1, none⟩) (Kd.R_far (p := ⟨gb145, 0, none⟩) (Kd.R_mono HO_12.out (fun k_ hk => (⟨hk, hk.2⟩ : _ ∧ k_ ≠ gb145))) (fun _ hk => hk.2) (.int .i64 ((rd_T46 t141 x14_1).f0))) (fun _ hk => hk.2) (.int .i64 ((rd_T46 t141 x14_1).f1))) (fun _ h_ => h_.1))) hb); replace BK139 := Aside0.mk (blk_below (g := gb139) (o := .cells #[.int .i64 a0_0, .int .i64 a0_1] 23 (0, 0)) (by (with_reducible repeat (first | refine blk_drewN ?_ _ | refine blk_drew ?_ | refine blk_alloc ?_ _)); refine blk_far ?_ NB139_145.out _; (with_reducible repeat (first | refine blk_drewN ?_ _ | refine blk_drew ?_ | refine blk_alloc ?_ _)); refine blk_far ?_ NB139_145.out _; (with_reducible repeat (first | refine blk_drewN ?_ _ | refine blk_drew ?_ | refine blk_alloc ?_ _)); exact BK139.out) hb); replace BK140 := Aside0.mk (blk_below (g := gb140) (o := .cells #[.int .i64 x141000_1, .int .i64 x141001_1] 46 (0, 0)) (by (with_reducible repeat (first | refine blk_drewN ?_ _ | refine blk_drew ?_ | refine blk_alloc ?_ _)); refine blk_far ?_ NB140_145.out _; (with_reducible repeat (first | refine blk_drewN ?_ _ | refine blk_drew ?_ | refine blk_alloc ?_ _)); refine blk_far ?_ NB140_145.out _; (with_reducible repeat (first | refine blk_drewN ?_ _ | refine blk_drew ?_ | refine blk_alloc ?_ _)); exact BK140.out) hb); replace BK145 := Aside0.mk (blk_below (g := gb145) (o := .cells #[.int .i64 ((rd_T46 t141 x14_1).f0), .int .i64 ((rd_T46 t141 x14_1).f1)] 46 (0, 0)) (by (with_reducible repeat (first | refine blk_drewN ?_ _ | refine blk_drew ?_ | refine blk_alloc ?_ _)); refine blk_put (cs := #[.int .i64 ((rd_T46 t141 x14_1).f0), .int .i64 0]) ?_ 1 _ rfl; (with_reducible repeat (first | refine blk_drewN ?_ _ | refine blk_drew ?_ | refine blk_alloc ?_ _)); refine blk_put (cs := #[.int .i64 0, .int .i64 0]) ?_ 0 _ rfl; (with_reducible repeat (first | refine blk_drewN ?_ _ | refine blk_drew ?_ | refine blk_alloc ?_ _)); exact BK145.out) hb); replace HB := Aside0.mk (below_step bG hb); (try clear hb); have hcz23_0 := cZ BK145 0 (.int .i64 ((rd_T46 t141 x14_1).f0)); have hcz23_1 := cZ BK145 1 (.int .i64 ((rd_T46 t141 x14_1).f1)); have hfz23_0 := blk_frozen BK145.out 0; have hfz23_1 := blk_frozen BK145.out 1; have hcz24_0 := cZ BK140 0 (.int .i64 x141000_1); have hcz24_1 := cZ BK140 1 (.int .i64 x141001_1); have hfz24_0 := blk_frozen BK140.out 0; have hfz24_1 := blk_frozen BK140.out 1))
     refine bodyPost_ret (results_ct rfl _ _ gb140 46 #[.int .i64 ((rd_T46 t141 x14_1).f0), .int .i64 ((rd_T46 t141 x14_1).f1)] (0, 0) _ rfl (by (with_reducible repeat (first | refine blk_drewN ?_ _ | refine blk_drew ?_ | refine blk_alloc ?_ _)); refine blk_put (cs := #[.int .i64 ((rd_T46 t141 x14_1).f0), .int .i64 x141001_1]) ?_ 1 _ rfl; (with_reducible repeat (first | refine blk_drewN ?_ _ | refine blk_drew ?_ | refine blk_alloc ?_ _)); refine blk_put (cs := #[.int .i64 x141000_1, .int .i64 x141001_1]) ?_ 0 _ rfl; (with_reducible repeat (first | refine blk_drewN ?_ _ | refine blk_drew ?_ | refine blk_alloc ?_ _)); exact BK140.out) Try.underlying46 rfl (by kernel_rfl)) rfl ?_
     exact ⟨rE, bG⟩
    ·rw [if_neg c15] at H
     have c15b0 : (t146.toList == a2.toList) = false := beq_eq_false_iff_ne.mpr c15
     have c15b1 : (t146.toList != a2.toList) = true := bne_iff_ne.mpr c15
     have H' := Aside0.mk H
     clear H
     have p144 : 0 ≤ (x14_1 : Int) := oD
     have q144 : x14_1 < (t141.length : Int) := oD
     obtain ⟨ad144, e144, hx144_0, hx144_1⟩ := at_T46 (Kd.R_reads' HO_12.out).2.2 x14_1 p144 q144
     cases e144
     replace p144 := eq_true p144
     replace q144 := eq_true q144
     go_wp2_with (first | ((with_reducible refine gate_dst (N := 9) rfl ?_); refine box_event ?hg (N := 9) ?hd (cs := #[.int .i64 0, .int .i64 0]) (t := 46) ?hr ?_; (case hd => rfl); (case hg => rfl); (case hr => first | (go_simp; done) | (go_simp; rfl)); intro gb145 hg w25 hbox hb; have n0_ := Aside0.mk (Kd.R_below (Kd.R_elderB (kR HO_12) gb145 (Nat.le_of_eq hg.symm)) hb); have n1_ := Aside0.mk (blk_below (g := gb139) (o := .cells #[.int .i64 a0_0, .int .i64 a0_1] 23 (0, 0)) bK hb); have n2_ := Aside0.mk (blk_below (g := gb140) (o := .cells #[.int .i64 x141000_1, .int .i64 x141001_1] 46 (0, 0)) bK hb); have n3_ := Aside0.mk (below_step bG hb); have n4_ := Aside0.mk (hbox); have n5_ := Aside0.mk ((by rw [hg]; exact (below_size bG) : w.heap.size ≤ gb145)); have n6_ := Aside0.mk ((by rw [hg]; exact (below_size bG) : w.heap.size ≤ gb145)); have n7_ := Aside0.mk ((by rw [hg]; exact Nat.ne_of_lt (blk_lt (g := gb139) (o := .cells #[.int .i64 a0_0, .int .i64 a0_1] 23 (0, 0)) bK) : gb139 ≠ gb145)); have n8_ := Aside0.mk ((by rw [hg]; exact Nat.ne_of_gt (blk_lt (g := gb139) (o := .cells #[.int .i64 a0_0, .int .i64 a0_1] 23 (0, 0)) bK) : gb145 ≠ gb139)); have n9_ := Aside0.mk ((by rw [hg]; exact Nat.ne_of_lt (blk_lt (g := gb140) (o := .cells #[.int .i64 x141000_1, .int .i64 x141001_1] 46 (0, 0)) bK) : gb140 ≠ gb145)); have n10_ := Aside0.mk ((by rw [hg]; exact Nat.ne_of_gt (blk_lt (g := gb140) (o := .cells #[.int .i64 x141000_1, .int .i64 x141001_1] 46 (0, 0)) bK) : gb145 ≠ gb140)); clear HO_12; clear BK139; clear BK140; clear HB; have HO_12 := n0_; have BK139 := n1_; have BK140 := n2_; have HB := n3_; have BK145 := n4_; have GW145 := n5_; have GE145 := n6_; have NB139_145 := n7_; have NB145_139 := n8_; have NB140_145 := n9_; have NB145_140 := n10_; clear n0_ n1_ n2_ n3_ n4_ n5_ n6_ n7_ n8_ n9_ n10_; clear hb hbox hg; have hnb26 := NB145_139.out; have hnc26 := NB139_145.out; have hnb27 := NB145_140.out; have hnc27 := NB140_145.out; have hcz28_0 := cZ BK145 0 (.int .i64 0); have hcz28_1 := cZ BK145 1 (.int .i64 0); have hfz28_0 := blk_frozen BK145.out 0; have hfz28_1 := blk_frozen BK145.out 1; have hnb29 := NB139_140.out; have hnc29 := NB140_139.out; have hcz30_0 := cZ BK139 0 (.int .i64 a0_0); have hcz30_1 := cZ BK139 1 (.int .i64 a0_1); have hfz30_0 := blk_frozen BK139.out 0; have hfz30_1 := blk_frozen BK139.out 1) | ((with_reducible refine gate_callee (f := 34) rfl ?_); refine goesL_ (some 21) rfl rfl Try.func34 (by kernel_rfl) rfl #[.agg #[.int .i64 a0_0, .int .i64 a0_1], .string a1, .agg #[.int .i64 ((rd_T46 t141 x14_1).f0), .int .i64 ((rd_T46 t141 x14_1).f1)]] rfl lM ?_; (with_reducible refine (impl_Lock_turned.calls k1 a0_0 a0_1 a1 ((rd_T46 t141 x14_1).f0) ((rd_T46 t141 x14_1).f1) t146 _ A14.out).mono ?_); rintro e w31 ⟨rfl, hb⟩; refine ⟨_, rfl, ?_⟩; replace HO_12 := Aside0.mk (Kd.R_below (by (with_reducible repeat (first | apply Kd.R_alloc | apply Kd.R_drewN | apply Kd.R_drew)); exact (Kd.R_mono (Kd.R_far (p := ⟨gb145, 1, none⟩) (Kd.R_far (p := ⟨gb145, 0, none⟩) (Kd.R_mono HO_12.out (fun k_ hk => (⟨hk, hk.2⟩ : _ ∧ k_ ≠ gb145))) (fun _ hk => hk.2) (.int .i64 ((rd_T46 t141 x14_1).f0))) (fun _ hk => hk.2) (.int .i64 ((rd_T46 t141 x14_1).f1))) (fun _ h_ => h_.1))) hb); replace BK139 := Aside0.mk (blk_below (g := gb139) (o := .cells #[.int .i64 a0_0, .int .i64 a0_1] 23 (0, 0)) (by (with_reducible repeat (first | refine blk_drewN ?_ _ | refine blk_drew ?_ | refine blk_alloc ?_ _)); refine blk_far ?_ NB139_145.out _; (with_reducible repeat (first | refine blk_drewN ?_ _ | refine blk_drew ?_ | refine blk_alloc ?_ _)); refine blk_far ?_ NB139_145.out _; (with_reducible repeat (first | refine blk_drewN ?_ _ | refine blk_drew ?_ | refine blk_alloc ?_ _)); exact BK139.out) hb); replace BK140 := Aside0.mk (blk_below (g := gb140) (o := .cells #[.int .i64 x141000_1, .int .i64 x141001_1] 46 (0, 0)) (by (with_reducible repeat (first | refine blk_drewN ?_ _ | refine blk_drew ?_ | refine blk_alloc ?_ _)); refine blk_far ?_ NB140_145.out _; (with_reducible repeat (first | refine blk_drewN ?_ _ | refine blk_drew ?_ | refine blk_alloc ?_ _)); refine blk_far ?_ NB140_145.out _; (with_reducible repeat (first | refine blk_drewN ?_ _ | refine blk_drew ?_ | refine blk_alloc ?_ _)); exact BK140.out) hb); replace BK145 := Aside0.mk (blk_below (g := gb145) (o := .cells #[.int .i64 ((rd_T46 t141 x14_1).f0), .int .i64 ((rd_T46 t141 x14_1).f1)] 46 (0, 0)) (by (with_reducible repeat (first | refine blk_drewN ?_ _ | refine blk_drew ?_ | refine blk_alloc ?_ _)); refine blk_put (cs := #[.int .i64 ((rd_T46 t141 x14_1).f0), .int .i64 0]) ?_ 1 _ rfl; (with_reducible repeat (first | refine blk_drewN ?_ _ | refine blk_drew ?_ | refine blk_alloc ?_ _)); refine blk_put (cs := #[.int .i64 0, .int .i64 0]) ?_ 0 _ rfl; (with_reducible repeat (first | refine blk_drewN ?_ _ | refine blk_drew ?_ | refine blk_alloc ?_ _)); exact BK145.out) hb); replace HB := Aside0.mk (below_step bG hb); (try clear hb)))
     go_roundg k1
     case measure => have := HK1.out; omega
     case rel => exact ⟨(wrap64 (x14_1 + 1)), (x141000_1), (x141001_1), fR, H', ⟨by have := HK1.out; omega⟩, ⟨by (with_reducible repeat (first | apply Kd.R_alloc | apply Kd.R_drewN | apply Kd.R_drew)); exact Kd.R_mono HO_12.out (fun _ hk => hk.1)⟩, ⟨bK⟩, ⟨bK⟩, ⟨bG⟩⟩
   ·rw [if_neg c11] at H
    have c11b0 : decide (x14_1 < (t141.length : Int)) = false := decide_eq_false c11
    clear c11
    simp only [Option.some.injEq, Prod.mk.injEq] at H
    obtain ⟨rfl, rfl, rfl⟩ := H
    have hnb32 := NB140_139.out
    have hnc32 := NB139_140.out
    have hcz33_0 := cZ BK140 0 (.int .i64 x141000_1)
    have hcz33_1 := cZ BK140 1 (.int .i64 x141001_1)
    have hfz33_0 := blk_frozen BK140.out 0
    have hfz33_1 := blk_frozen BK140.out 1
    go_wp2
    refine bodyPost_ret (results_ct rfl _ _ gb140 46 #[.int .i64 0, .int .i64 0] (0, 0) _ rfl (by (with_reducible repeat (first | refine blk_drewN ?_ _ | refine blk_drew ?_ | refine blk_alloc ?_ _)); refine blk_put (cs := #[.int .i64 0, .int .i64 x141001_1]) ?_ 1 _ rfl; (with_reducible repeat (first | refine blk_drewN ?_ _ | refine blk_drew ?_ | refine blk_alloc ?_ _)); refine blk_put (cs := #[.int .i64 x141000_1, .int .i64 x141001_1]) ?_ 0 _ rfl; (with_reducible repeat (first | refine blk_drewN ?_ _ | refine blk_drew ?_ | refine blk_alloc ?_ _)); exact BK140.out) Try.underlying46 rfl (by kernel_rfl)) rfl ?_
    exact ⟨rE, bG⟩

/-! ### impl_Lock_orderTurns: function 24 -/
def hasB (s : ByteArray) (met : List ByteArray) : Bool := met.any fun t => decide (s.data.toList = t.data.toList)
def ordD : List ByteArray → DataW Unit
 | [] => .map []
 | s :: met => (ordD met).put (.string s.data.toList) (.lit (.bool true))
theorem ordD_map : ∀ met, Maps.IsMap (ordD met)
 | [] => Maps.isMap_empty
 | _ :: met => (ordD_map met).put _ _
theorem ord_key (s : ByteArray) (hs : s.size ≤ 1000) : keyOf Try.prog 9 (.string s) = some (.string s.data.toList) := by
 have hu := Try.underlying9
 have h : s.size ≤ maxLen := by unfold maxLen; omega
 simp [keyOf, mapKey, hu, h]
theorem ordK : Maps.Keyed Try.prog 9 := Maps.string_keyed Try.underlying9
theorem ordD_at (s : ByteArray) (hs : s.size ≤ 1000) : ∀ met, (ordD met).atKey (.string s.data.toList) (.lit (.bool false)) = .lit (.bool (hasB s met))
 | [] => by
  rw [ordD, WideAt.atKey_none _ (by intro p hp; cases hp)]
  simp [hasB]
 | t :: met => by
  rw [ordD]
  by_cases h : s.data.toList = t.data.toList
  ·rw [← h, Maps.atKey_put_same (ordD_map met) (ordK.key (ord_key s hs))]
   simp [hasB, h]
  ·have hne : (Lit.string s.data.toList) ≠ .string t.data.toList := by
    intro e
    injection e with e
    exact h e
   rw [Maps.atKey_put_other hne, ordD_at s hs met]
   simp [hasB, h]
   exact fun e => absurd (congrArg Array.toList e) h
set_option maxRecDepth 100000 in
theorem ord_bool_inv {v : Value} {z : DataW Unit × List MemPlace} (h : plainElem Try.prog 4 v = some z) : ∃ x, v = .bool x ∧ z = (.lit (.bool x), []) := by
 unfold plainElem at h
 rw [Try.underlying4] at h
 cases v <;> simp at h
 exact ⟨_, rfl, h.symm⟩
theorem ord_zero (w : World) : (zeroValue 4).run Try.prog w = .ok (.bool false) w := by kernel_rfl
set_option maxRecDepth 100000 in
theorem ord_look (s : ByteArray) (hs : s.size ≤ 1000) (met : List ByteArray) (W : World) (b n : Nat) (h : W.ownsMap Try.prog 9 (plainElem (H := Unit) Try.prog 4) b n (ordD met)) :
  (Instr.lookup 59 (.map (some b)) (.string s) false).run Try.prog W = .ok (.bool (hasB s met)) W := by
 obtain ⟨v, ps, hrun, hv⟩ := h.lookup ordK Try.underlying59 (z := .bool false) (ord_zero W) (plainElem_bool Try.underlying4 false) (ord_key s hs)
 rw [ordD_at s hs met] at hv
 obtain ⟨x, rfl, hx⟩ := ord_bool_inv hv
 simp at hx
 obtain ⟨hx, _⟩ := hx
 rw [hrun, hx]
theorem ord_store (s : ByteArray) (hs : s.size ≤ 1000) (met : List ByteArray) (W : World) (b n : Nat) (hn : n < 100000) (h : W.ownsMap Try.prog 9 (plainElem (H := Unit) Try.prog 4) b n (ordD met)) :
  ∃ w', (Instr.mapUpdate 59 (.map (some b)) (.string s) (.bool true)).run Try.prog W = .ok () w' ∧ w'.ownsMap Try.prog 9 (plainElem (H := Unit) Try.prog 4) b (n + 1) (ordD (s :: met)) ∧ W.grownBy w' (some b) :=
 h.update ordK Try.underlying59 (by unfold maxLen; omega) (ord_key s hs) (plainElem_bool Try.underlying4 true)
theorem ord_ne {α : Type} {d : Kd α} {e base : Nat} {ok : Nat → Prop} {W : World} {v : Value} {xs : List α} {P : Program} {k : TypeId} {R : Value → Option (DataW Unit × List MemPlace)} {b n : Nat} {D : DataW Unit} (h : d.R e W base ok v xs) (hm : W.ownsMap P k R b n D) : some b ≠ v.ownBlock := by
 intro he
 obtain ⟨es, clock, hb, _⟩ := hm
 obtain ⟨cells, hc⟩ := Kd.R_typed h b he.symm
 rw [hb] at hc
 exact absurd hc (by simp)
theorem ord_far {W : World} {P : Program} {k : TypeId} {R : Value → Option (DataW Unit × List MemPlace)} {b n : Nat} {D : DataW Unit} (h : W.ownsMap P k R b n D) {p : Addr} (hne : b ≠ p.block) (v : Value) : (W.setCell p v).ownsMap P k R b n D := by
 obtain ⟨es, clock, hb, r⟩ := h
 exact ⟨es, clock, (Below.heap_setCell W p v b hne).trans hb, r⟩
def impl_Lock_orderTurns.g (k : Nat) (a b : Int) : List ByteArray → List ByteArray → List S46 → Option (List S46 × Bool)
 | _, [], out => some (out, true)
 | met, s :: rest, out => (impl_Lock_isCode.f k a b s).bind fun c =>
   if c = true then
    if s.size ≤ 1000 then
    if hasB s met = true then some ([], false) else
    if 1000 ≤ met.length then some ([], false) else
    match met with
    | [] => impl_Lock_orderTurns.g k a b [s] rest out
    | p :: m => (impl_Lock_between.f k a b p s).bind fun t => if t.2.2 = true then impl_Lock_orderTurns.g k a b (s :: p :: m) rest (out ++ [⟨t.1, t.2.1⟩]) else some ([], false)
    else none
   else some ([], false)
def impl_Lock_orderTurns.f (k : Nat) (a0_0 a0_1 : Int) (l1 : List ByteArray) : Option (List S46 × Bool) := impl_Lock_orderTurns.g k a0_0 a0_1 [] l1 []
theorem impl_Lock_orderTurns.monog : ∀ (rest met : List ByteArray) (out : List S46) (a b : Int) (k : Nat), LeO (impl_Lock_orderTurns.g k a b met rest out) (impl_Lock_orderTurns.g (k + 1) a b met rest out)
 | [], _, _, _, _, _ => by simp only [impl_Lock_orderTurns.g]; exact LeO.refl _
 | s :: rest, met, out, a, b, k => by
  cases met with
  | nil =>
   simp only [impl_Lock_orderTurns.g]
   exact LeO.bind (impl_Lock_isCode.mono _ _ _ _) (fun c => LeO.ite (LeO.ite (LeO.ite (LeO.refl _) (LeO.ite (LeO.refl _) (impl_Lock_orderTurns.monog rest _ _ _ _ _))) (LeO.refl _)) (LeO.refl _))
  | cons p m =>
   simp only [impl_Lock_orderTurns.g]
   exact LeO.bind (impl_Lock_isCode.mono _ _ _ _) (fun c => LeO.ite (LeO.ite (LeO.ite (LeO.refl _) (LeO.ite (LeO.refl _) (LeO.bind (impl_Lock_between.mono _ _ _ _ _) (fun t => LeO.ite (impl_Lock_orderTurns.monog rest _ _ _ _ _) (LeO.refl _))))) (LeO.refl _)) (LeO.refl _))
theorem impl_Lock_orderTurns.mono : ∀ a0 a1 a2 k, LeO (impl_Lock_orderTurns.f k a0 a1 a2) (impl_Lock_orderTurns.f (k + 1) a0 a1 a2) := fun a0 a1 a2 k => impl_Lock_orderTurns.monog a2 [] [] a0 a1 k
theorem impl_Lock_orderTurns.calls (k : Nat) (a b : Int) (A1 : Option Addr) (c1 : Nat) (l1 : List ByteArray) (r1 : List S46) (r2 : Bool) (w : World) (hr1 : Kd.C Kd.string w A1 l1.length l1) (hc1 : l1.length ≤ c1)
  (h : impl_Lock_orderTurns.f k a b l1 = some (r1, r2)) :
  Calls Try.prog 24 #[.agg #[.int .i64 a, .int .i64 b], .slice A1 l1.length c1] w fun e w' => ∃ v0_ : Value, e = .returned (.tuple #[v0_, .bool r2]) ∧ Kd.R k46 46 w' w.heap.size (fun _ => True) v0_ r1 ∧ Below w.heap.size w w' := by
 have hu23 := Try.underlying23
 have hmm := @run_makeMap Try.prog
 have HR := Aside0.mk hr1
 have HC := Aside0.mk hc1
 have HG := Aside0.mk h
 have HM := Aside0.mk (Kd.C_max hr1)
 clear hr1 hc1 h
 obtain ⟨n, hn⟩ : ∃ n, n = l1.length := ⟨_, rfl⟩
 have HN := Aside0.mk hn
 rw [← hn] at HM HR ⊢
 clear hn
 obtain ⟨W0, hW0⟩ : ∃ W0, W0 = ((w.alloc (.cells #[.int .i64 a, .int .i64 b] 23)).alloc (.cells #[] 46)).alloc (.map #[] 0) := ⟨_, rfl⟩
 have s1 : (w.alloc (.cells #[.int .i64 a, .int .i64 b] 23)).heap.size = w.heap.size + 1 := World.size_alloc _ _
 have s2 : ((w.alloc (.cells #[.int .i64 a, .int .i64 b] 23)).alloc (.cells #[] 46)).heap.size = w.heap.size + 1 + 1 := by rw [World.size_alloc, s1]
 have HB0 : Aside0 (Below w.heap.size w W0) := ⟨by rw [hW0]; exact below_alloc (below_alloc (below_alloc (Below.refl _ _) _) _) _⟩
 have HO0 : Aside0 (Kd.R k46 46 W0 w.heap.size (fun q => q ≠ w.heap.size + 1 + 1) (.slice (some ⟨w.heap.size + 1, 0, none⟩) 0 0) []) := ⟨by
  have := hw_R_lit k46 (w.alloc (.cells #[.int .i64 a, .int .i64 b] 23)) 46 w.heap.size (w.heap.size + 1) (ok := fun q => q ≠ w.heap.size + 1 + 1) (xs := []) (inner := []) (okp := fun _ => False) s1.symm (Reps.none _ _) (fun _ hk => hk.elim) (by rw [s1]; omega) (by rw [s1]; omega) (by simp)
  rw [hW0]
  exact Kd.R_alloc this _⟩
 have HD0 : Aside0 (W0.ownsMap Try.prog 9 (plainElem (H := Unit) Try.prog 4) (w.heap.size + 1 + 1) 0 (ordD [])) := ⟨by rw [hW0, ← s2]; exact World.ownsMap_made _ _ _ _⟩
 have HK0 : Aside0 (W0.heap[w.heap.size]? = some (.cells #[.int .i64 a, .int .i64 b] 23 (0, 0))) := ⟨by rw [hW0]; exact blk_alloc (blk_alloc (blk_new w _) _) _⟩
 have HW0 := Aside0.mk hW0
 clear hW0 s1 s2
 go_enter Try.func24, Try.ntmps24
 go_wp2
 rw [← HW0.out]
 clear HW0 hmm
 go_loopg [6, 16] n (fun gg v6 v16 wr => ∃ (met rest : List ByteArray) (out : List S46) (i : Nat), v16 = .int .i64 (i : Int) ∧ i = met.length ∧ i + rest.length = n ∧ rest.length ≤ gg ∧ Aside0 (met.reverse ++ rest = l1) ∧ Aside0 (out.length ≤ i ∧ i ≤ 1000) ∧ Aside0 (impl_Lock_orderTurns.g k a b met rest out = some (r1, r2)) ∧
  Aside0 (Kd.R k46 46 wr w.heap.size (fun q => q ≠ w.heap.size + 1 + 1) v6 out) ∧ Aside0 (wr.ownsMap Try.prog 9 (plainElem (H := Unit) Try.prog 4) (w.heap.size + 1 + 1) i (ordD met)) ∧
  Aside0 (wr.heap[w.heap.size]? = some (.cells #[.int .i64 a, .int .i64 b] 23 (0, 0))) ∧ Aside0 (Below w.heap.size w wr))
 case atStart => exact ⟨[], l1, [], 0, rfl, rfl, by have := HN.out; omega, by have := HN.out; omega, ⟨rfl⟩, ⟨by simp⟩, HG, HO0, HD0, HK0, HB0⟩
 case round =>
  clear HO0 HD0 HK0 HB0 HG
  obtain ⟨met, rest, out, i, rfl, hi, hin, hg, HL, HLE, HG, HO, HD, HK, HB⟩ := hrel
  cases rest with
  | nil =>
   have hlt : decide (i < n) = false := decide_eq_false (by simp at hin; omega)
   obtain ⟨h1, h2⟩ : out = r1 ∧ true = r2 := by have := HG.out; simpa [impl_Lock_orderTurns.g] using this
   subst h1 h2
   clear hin hg hi HG HL
   obtain ⟨Ao, co, rfl⟩ := Kd.R_slice HO.out
   go_wp2
   go_ret2
   exact ⟨_, rfl, Kd.R_mono HO.out (fun _ _ => trivial), HB.out⟩
  | cons s rest =>
   have hlt : (i : Int) < (n : Int) := by simp at hin; omega
   have hltn : i < n := by omega
   have hltz : decide (i < n) = true := decide_eq_true hltn
   have h := HG.out
   rw [impl_Lock_orderTurns.g.eq_def] at h
   dsimp only at h
   obtain ⟨c, hc, h⟩ := Option.bind_eq_some_iff.mp h
   have hget : rdOf ByteArray.empty l1 (i : Int) = s := by
    have := HL.out
    rw [← this, hi]
    unfold rdOf
    rw [Int.toNat_natCast, List.getD_eq_getElem?_getD, List.getElem?_append_right (by simp)]
    simp
   obtain ⟨ad, ead, hx⟩ := Kd.at_string HR.out (i : Int) (by omega) hlt
   subst ead
   rw [hget, Int.toNat_natCast] at hx
   have hxr := (HB.out.cell (World.block_lt_of_cell? w _ hx)).trans hx
   have hk0 : wr.cell? ⟨w.heap.size, 0, none⟩ = some (.int .i64 a) := (blk_cell HK.out 0).trans rfl
   have hk1 : wr.cell? ⟨w.heap.size, 1, none⟩ = some (.int .i64 b) := (blk_cell HK.out 1).trans rfl
   have hf0 := blk_frozen HK.out 0
   have hf1 := blk_frozen HK.out 1
   have HXW := Aside0.mk hx
   have HC43 := Aside0.mk hc
   have HGO := Aside0.mk h
   have HIN := Aside0.mk hin
   have HGG := Aside0.mk hg
   have HI := Aside0.mk hi
   clear HG h hc hin hg hi hx
   cases c with
   | false =>
    have h := HGO.out
    rw [if_neg (by decide)] at h
    obtain ⟨h1, h2⟩ : [] = r1 ∧ false = r2 := by simpa using h
    subst h1 h2
    go_wp2_with (go_at_call 43; refine (impl_Lock_isCode.calls k a b s false _ HC43.out).mono ?_; rintro e w2 ⟨rfl, hb⟩; have HB2 := Aside0.mk hb; clear hb)
    go_ret2
    exact ⟨_, rfl, Kd.R_nil _ _ _ _ _, HB.out.trans (HB2.out.mono HB.out.size)⟩
   | true =>
    have h := HGO.out
    rw [if_pos rfl] at h
    clear HGO
    split at h
    case isFalse => exact absurd h (by simp)
    rename_i hsz
    have HSZ := Aside0.mk hsz
    clear hsz
    cases hm : hasB s met with
    | true =>
     rw [hm, if_pos rfl] at h
     obtain ⟨h1, h2⟩ : [] = r1 ∧ false = r2 := by simpa using h
     subst h1 h2
     go_wp2_with (go_at_call 43; refine (impl_Lock_isCode.calls k a b s true _ HC43.out).mono ?_; rintro e w2 ⟨rfl, hb⟩; have HD2 := Aside0.mk (HD.out.kept (grown_of_below hb none) (by simp)); have hlk := ord_look s HSZ.out _ w2 _ _ HD2.out; rw [hm] at hlk; have HO2 := Aside0.mk (Kd.R_below HO.out hb); have HK2 := Aside0.mk (blk_below HK.out hb); have HB2 := Aside0.mk (below_step HB.out hb); clear hb HD HO HK HB hk0 hk1 hf0 hf1 hxr)
     go_ret2
     exact ⟨_, rfl, Kd.R_nil _ _ _ _ _, HB2.out⟩
    | false =>
     rw [hm, if_neg (by decide)] at h
     by_cases hq : 1000 ≤ met.length
     ·rw [if_pos hq] at h
      obtain ⟨h1, h2⟩ : [] = r1 ∧ false = r2 := by simpa using h
      subst h1 h2
      have hq1 : (1000 : Int) ≤ (i : Int) := by have := HI.out; omega
      have hq2 : decide ((1000 : Int) ≤ (i : Int)) = true := decide_eq_true hq1
      go_wp2_with (go_at_call 43; refine (impl_Lock_isCode.calls k a b s true _ HC43.out).mono ?_; rintro e w2 ⟨rfl, hb⟩; have HD2 := Aside0.mk (HD.out.kept (grown_of_below hb none) (by simp)); have hlk := ord_look s HSZ.out _ w2 _ _ HD2.out; rw [hm] at hlk; have HO2 := Aside0.mk (Kd.R_below HO.out hb); have HK2 := Aside0.mk (blk_below HK.out hb); have HB2 := Aside0.mk (below_step HB.out hb); clear hb HD HO HK HB hk0 hk1 hf0 hf1 hxr)
      go_ret2
      exact ⟨_, rfl, Kd.R_nil _ _ _ _ _, HB2.out⟩
     ·rw [if_neg hq] at h
      have hq1 : (i : Int) < 1000 := by have := HI.out; omega
      have hq2 : decide ((1000 : Int) ≤ (i : Int)) = false := decide_eq_false (by omega)
      have HQ := Aside0.mk hq
      clear hq
      cases met with
      | nil =>
       dsimp only at h
       have hi0 : i = 0 := HI.out
       have hz : ((i : Int) == 0) = true := by simp [hi0]
       have HI0 := Aside0.mk hi0
       clear hi0
       have HGN := Aside0.mk h
       clear h
       go_wp2_with (go_at_call 43; refine (impl_Lock_isCode.calls k a b s true _ HC43.out).mono ?_; rintro e w2 ⟨rfl, hb⟩; have HD2 := Aside0.mk (HD.out.kept (grown_of_below hb none) (by simp)); have hlk := ord_look s HSZ.out _ w2 _ _ HD2.out; rw [hm] at hlk; have HO2 := Aside0.mk (Kd.R_below HO.out hb); have HK2 := Aside0.mk (blk_below HK.out hb); have HB2 := Aside0.mk (below_step HB.out hb); clear hb HD HO HK HB hk0 hk1 hf0 hf1 hxr; obtain ⟨w3, hst, hd3, hgr⟩ := ord_store s HSZ.out [] w2 _ _ (by omega) HD2.out; have HD3 := Aside0.mk hd3; have HO3 := Aside0.mk (Kd.R_grown HO2.out hgr (fun q hq => by intro e; injection e with e; exact hq e)); have HK3 := Aside0.mk (blk_grown HK2.out hgr (by intro e; injection e with e; omega)); have HB3 := Aside0.mk (pw_below_grown HB2.out _ HB2.out.size hgr (by intro q e; injection e with e; omega)); clear HD2 HO2 HK2 HB2 hgr hd3)
       go_roundg (rest.length)
       case measure => have := HGG.out; simp at this; omega
       case rel => exact ⟨[s], rest, out, i + 1, by simp, by have := HI0.out; simp; omega, by have := HIN.out; simp at this; omega, Nat.le_refl _, ⟨by have := HL.out; simpa using this⟩, ⟨by have := HLE.out; have := HI0.out; omega⟩, HGN, HO3, HD3, HK3, HB3⟩
      | cons p m =>
       dsimp only at h
       obtain ⟨⟨t1, t2, t3⟩, ht, h⟩ := Option.bind_eq_some_iff.mp h
       obtain ⟨j, hj⟩ : ∃ j, j = m.length := ⟨_, rfl⟩
       have hij : i = j + 1 := by have := HI.out; simp at this; omega
       have hz : ((i : Int) == 0) = false := by simp; omega
       have hw1 : IntKind.i64.wrap ((i : Int) - 1) = (j : Int) := by simp [IntKind.wrap, IntKind.bits, IntKind.signed]; omega
       have hgp : rdOf ByteArray.empty l1 (j : Int) = p := by
        have := HL.out
        rw [← this, hj]
        unfold rdOf
        rw [Int.toNat_natCast, List.getD_eq_getElem?_getD, List.reverse_cons, List.append_assoc, List.getElem?_append_right (by simp)]
        simp
       have hjn : (j : Int) < (n : Int) := by omega
       obtain ⟨ad', ead, hxp⟩ := Kd.at_string HR.out (j : Int) (by omega) hjn
       injection ead with ead
       subst ead
       rw [hgp, Int.toNat_natCast] at hxp
       have HXP := Aside0.mk hxp
       have HJ := Aside0.mk hj
       have HIJ := Aside0.mk hij
       have HT := Aside0.mk ht
       have HGN := Aside0.mk h
       clear h ht hxp hj hgp hij
       go_upto_region 9 with (go_at_call 43; refine (impl_Lock_isCode.calls k a b s true _ HC43.out).mono ?_; rintro e w2 ⟨rfl, hb⟩; have HD2 := Aside0.mk (HD.out.kept (grown_of_below hb none) (by simp)); have hlk := ord_look s HSZ.out _ w2 _ _ HD2.out; rw [hm] at hlk; have HO2 := Aside0.mk (Kd.R_below HO.out hb); have HK2 := Aside0.mk (blk_below HK.out hb); have HB2 := Aside0.mk (below_step HB.out hb); clear hb HD HO HK HB hk0 hk1 hf0 hf1 hxr; obtain ⟨w3, hst, hd3, hgr⟩ := ord_store s HSZ.out (p :: m) w2 _ _ (by omega) HD2.out; have HD3 := Aside0.mk hd3; have HO3 := Aside0.mk (Kd.R_grown HO2.out hgr (fun q hq => by intro e; injection e with e; exact hq e)); have HK3 := Aside0.mk (blk_grown HK2.out hgr (by intro e; injection e with e; omega)); have HB3 := Aside0.mk (pw_below_grown HB2.out _ HB2.out.size hgr (by intro q e; injection e with e; omega)); clear HD2 HO2 HK2 HB2 hgr hd3)
       have hk0 : w3.cell? ⟨w.heap.size, 0, none⟩ = some (.int .i64 a) := (blk_cell HK3.out 0).trans rfl
       have hk1 : w3.cell? ⟨w.heap.size, 1, none⟩ = some (.int .i64 b) := (blk_cell HK3.out 1).trans rfl
       have hxr := (HB3.out.cell (World.block_lt_of_cell? w _ HXP.out)).trans HXP.out
       have hk0a : (w3.alloc (.cells #[.int .i64 0, .int .i64 0] 46)).cell? ⟨w.heap.size, 0, none⟩ = some (.int .i64 a) := (World.cell?_alloc_lt _ _ _ (World.block_lt_of_cell? _ _ hk0)).trans hk0
       have hk1a : (w3.alloc (.cells #[.int .i64 0, .int .i64 0] 46)).cell? ⟨w.heap.size, 1, none⟩ = some (.int .i64 b) := (World.cell?_alloc_lt _ _ _ (World.block_lt_of_cell? _ _ hk1)).trans hk1
       have hxra : (w3.alloc (.cells #[.int .i64 0, .int .i64 0] 46)).cell? (ad.add j) = some (.string p) := (World.cell?_alloc_lt _ _ _ (World.block_lt_of_cell? _ _ hxr)).trans hxr
       go_cut [10, 11] from 38 to 48 (fun v10 v11 wx => ∃ g, v10 = .pointer (some ⟨g, 0, none⟩) ∧ v11 = .bool t3 ∧ Aside0 (wx.heap[g]? = some (.cells #[.int .i64 t1, .int .i64 t2] 46 (0, 0))) ∧ Aside0 (Kd.R k46 46 wx w.heap.size (fun q => q ≠ w.heap.size + 1 + 1 ∧ q ≠ g) u6 out) ∧
        Aside0 (wx.ownsMap Try.prog 9 (plainElem (H := Unit) Try.prog 4) (w.heap.size + 1 + 1) (i + 1) (ordD (s :: p :: m))) ∧ Aside0 (wx.heap[w.heap.size]? = some (.cells #[.int .i64 a, .int .i64 b] 23 (0, 0))) ∧ Aside0 (Below w.heap.size w wx))
       case first =>
        go_region_with (go_at_call 44; refine (impl_Lock_between.calls k a b p s t1 t2 t3 _ HT.out).mono ?_; rintro e w4 ⟨rfl, hb⟩; (first | (have hnb := blk_below (blk_drew (blk_new w3 (.cells #[.int .i64 0, .int .i64 0] 46))) hb; have hn0 := blk_cell hnb 0; have hn1 := blk_cell hnb 1; have hnf0 := blk_frozen hnb 0; have hnf1 := blk_frozen hnb 1; dsimp at hn0 hn1) | skip); have HB4 := Aside0.mk hb; clear hb)
        all_goals (go_wp2_with (fail); go_meet)
        all_goals first
         | exact ⟨w4.heap.size, rfl, rfl, ⟨blk_new _ _⟩, ⟨Kd.R_alloc (Kd.R_elderB (Kd.R_below (Kd.R_drew HO3.out) HB4.out) w4.heap.size (Nat.le_refl _)) _⟩, ⟨((HD3.out.drew).kept (grown_of_below HB4.out none) (by simp)).alloc _⟩, ⟨blk_alloc (blk_below (blk_drew HK3.out) HB4.out) _⟩, ⟨below_alloc (below_step (below_drew1 HB3.out) HB4.out) _⟩⟩
         | exact ⟨w3.heap.size, rfl, rfl, ⟨blk_put (cs := #[.int .i64 t1, .int .i64 0]) (blk_put (cs := #[.int .i64 0, .int .i64 0]) hnb 0 _ rfl) 1 _ rfl⟩, ⟨Kd.R_far (Kd.R_far (Kd.R_below (Kd.R_drew (Kd.R_alloc (Kd.R_elderB HO3.out w3.heap.size (Nat.le_refl _)) _)) HB4.out) (fun _ hq => hq.2) _) (fun _ hq => hq.2) _⟩, ⟨ord_far (ord_far ((HD3.out.alloc _).drew.kept (grown_of_below HB4.out none) (by simp)) (Nat.ne_of_lt HD3.out.lt) _) (Nat.ne_of_lt HD3.out.lt) _⟩, ⟨blk_far (blk_far (blk_below (blk_drew (blk_alloc HK3.out _)) HB4.out) (Nat.ne_of_lt (blk_lt HK3.out)) _) (Nat.ne_of_lt (blk_lt HK3.out)) _⟩, ⟨below_set (below_set (below_step (below_drew1 (below_alloc HB3.out _)) HB4.out) HB3.out.size) HB3.out.size⟩⟩
       case rest =>
        clear hk0 hk1 hk0a hk1a hxr hxra HO3 HD3 HK3 HB3 hlk hst hw1
        obtain ⟨g, rfl, rfl, HG10, HO4, HD4, HK4, HB4⟩ := hcut
        have hgc0 := blk_cell HG10.out 0
        have hgc1 := blk_cell HG10.out 1
        have hgf0 := blk_frozen HG10.out 0
        have hgf1 := blk_frozen HG10.out 1
        dsimp at hgc0 hgc1
        have h := HGN.out
        cases t3 with
        | false =>
         rw [if_neg (by decide)] at h
         obtain ⟨h1, h2⟩ : [] = r1 ∧ false = r2 := by simpa using h
         subst h1 h2
         go_wp2
         go_ret2
         exact ⟨_, rfl, Kd.R_nil _ _ _ _ _, HB4.out⟩
        | true =>
         rw [if_pos rfl] at h
         have HGN2 := Aside0.mk h
         clear h HGN
         have info46 : (Try.prog.info? 46).map (fun i => (i.zero, i.size, i.bytes)) = some (some (.agg #[(.int .i64 0), (.int .i64 0)]), 2, 16) := by kernel_rfl
         have HIN46 := Aside0.mk info46
         clear info46
         obtain ⟨Ao, co, ev6⟩ := Kd.R_slice HO4.out
         subst ev6
         go_wp2_with ((with_reducible refine gate_builtin (b := .append) (xs := #[.tmp 51, .tmp 53]) rfl ?_); at_builtin; refine Kd.R_append k46 (w0 := w) w.heap.size rfl (.tmp 51) (.tmp 53) 27 46 (.agg #[(.int .i64 0), (.int .i64 0)]) 16 rfl Try.underlying27 HIN46.out rfl (by decide) (by omega) (.slice Ao out.length co) out (⟨t1, t2⟩ : S46) [.int .i64 t1, .int .i64 t2] (fun q => q ≠ w.heap.size + 1 + 1 ∧ q ≠ g) (fun _ => False) rfl rfl ?aP (fun _ hk => hk.elim) ?aF ?aO ?aB ?aS ?aL ?_; (case aP => exact k46_mkM _ _ _ (⟨t1, t2⟩ : S46)); (case aB => exact HB4.out); (case aF => exact (fun q hq => by have h1 := HD4.out.lt; have h2 := blk_lt HG10.out; exact ⟨by omega, by omega⟩)); (case aO => exact HO4.out); (case aS => exact below_size HB4.out); (case aL => have := HLE.out; omega); intro v9 w9 ho hb hg hat; have HO9 := Aside0.mk ho; have HB9 := Aside0.mk hb; have HG9 := Aside0.mk hg; clear ho hb hg hat)
         go_roundg (rest.length)
         case measure => have := HGG.out; simp at this; omega
         case rel => exact ⟨s :: p :: m, rest, out ++ [⟨t1, t2⟩], i + 1, by simp, by have := HI.out; simp at this; simp; omega, by have := HIN.out; simp at this; omega, Nat.le_refl _, ⟨by have := HL.out; simpa using this⟩, ⟨by have := HLE.out; simp; omega⟩, HGN2, ⟨Kd.R_mono HO9.out (fun _ hq => hq.1)⟩, ⟨(HD4.out.kept HG9.out (ord_ne HO4.out HD4.out))⟩, ⟨blk_grown HK4.out HG9.out (Kd.R_ne HO4.out HK4.out (by decide))⟩, HB9⟩


/-! ### impl_IsTurnOrder: function 4 -/
def impl_IsTurnOrder.f (k : Nat) (a0_0 : Int) (a0_1 : Int) (l1 : List ByteArray) : Option (Bool × Bool) := (impl_IsLock.f a0_0 a0_1).bind fun t148 => (if t148 = true then ((impl_Lock_orderTurns.f k a0_0 a0_1 l1).bind fun bt149 => (some (bt149.2, true))) else (some (false, false)))
theorem impl_IsTurnOrder.mono : ∀ a0 a1 a2 k, LeO (impl_IsTurnOrder.f k a0 a1 a2) (impl_IsTurnOrder.f (k + 1) a0 a1 a2) := by
 intro a0 a1 a2 k
 unfold impl_IsTurnOrder.f
 repeat' first
   | (with_reducible first | exact impl_Lock_orderTurns.mono _ _ _ _ | exact LeO.refl _ | exact LeO.none _ | refine LeO.ite ?_ ?_ | refine LeO.bind ?_ (fun _ => ?_))
   | exact impl_Lock_orderTurns.mono _ _ _ _
   | exact LeO.none _
   | refine LeO.ite ?_ ?_
   | refine LeO.bind ?_ (fun _ => ?_)
theorem impl_IsTurnOrder.calls (k : Nat) (a0_0 : Int) (a0_1 : Int) (A1 : Option Addr) (c1 : Nat) (l1 : List ByteArray) (r1 : Bool) (r2 : Bool) (w : World) (hr1 : Kd.C Kd.string w A1 l1.length l1) (hc1 : l1.length ≤ c1) (h : impl_IsTurnOrder.f k a0_0 a0_1 l1 = some (r1, r2)) :
  Calls Try.prog 4 #[.agg #[.int .i64 a0_0, .int .i64 a0_1], .slice A1 l1.length c1] w fun e w' => e = .returned (.tuple #[.bool r1, .bool r2]) ∧ Below w.heap.size w w' := by
 have hu23 := Try.underlying23
 have HR1 := Aside0.mk hr1
 have HC1 := Aside0.mk hc1
 clear hr1 hc1
 have HB := Aside0.mk (Below.refl w.heap.size w)
 have H := h
 unfold impl_IsTurnOrder.f at H
 clear h
 replace H := Option.bind_eq_some_iff.mp H
 obtain ⟨t148, A30, H⟩ := H
 (try dsimp only at H)
 have A3 := Aside0.mk A30
 clear A30
 by_cases c4 : t148 = true
 ·subst c4
  replace H := zt H
  replace H := Option.bind_eq_some_iff.mp H
  obtain ⟨⟨t149, t152⟩, A50, H⟩ := H
  (try dsimp only at H)
  have A5 := Aside0.mk A50
  clear A50
  simp only [Option.some.injEq, Prod.mk.injEq] at H
  obtain ⟨rfl, rfl⟩ := H
  go_enter Try.func4, Try.ntmps4
  go_wp2_with (first | ((with_reducible refine gate_dst (N := 2) rfl ?_); refine box_event ?hg (N := 2) ?hd (cs := #[.int .i64 a0_0, .int .i64 a0_1]) (t := 23) ?hr ?_; (case hd => rfl); (case hg => rfl); (case hr => first | (go_simp; done) | (go_simp; rfl)); intro gb147 hg w6 hbox hb; have BK147 := Aside0.mk (hbox); have GW147 : Aside0 (w.heap.size ≤ gb147) := gW hg; have GE147 := GW147; replace HB := Aside0.mk (below_step bB hb); clear hb hbox hg; have hcz7_0 := cZ BK147 0 (.int .i64 a0_0); have hcz7_1 := cZ BK147 1 (.int .i64 a0_1); have hfz7_0 := blk_frozen BK147.out 0; have hfz7_1 := blk_frozen BK147.out 1) | ((with_reducible refine gate_callee (f := 23) rfl ?_); refine goesL_ (some 9) rfl rfl Try.func23 (by kernel_rfl) rfl #[.agg #[.int .i64 a0_0, .int .i64 a0_1]] rfl lM ?_; (with_reducible refine (impl_IsLock.calls a0_0 a0_1 true _ A3.out).mono ?_); rintro e w8 ⟨rfl, hb⟩; refine ⟨_, rfl, ?_⟩; replace BK147 := bW BK147 hb; replace HB := Aside0.mk (below_step bG hb); (try clear hb); have hcz9_0 := cZ BK147 0 (.int .i64 a0_0); have hcz9_1 := cZ BK147 1 (.int .i64 a0_1); have hfz9_0 := blk_frozen BK147.out 0; have hfz9_1 := blk_frozen BK147.out 1) | ((with_reducible refine gate_callee (f := 24) rfl ?_); refine goesL_ (some 14) rfl rfl Try.func24 (by kernel_rfl) rfl #[.agg #[.int .i64 a0_0, .int .i64 a0_1], .slice A1 l1.length c1] rfl lM ?_; (with_reducible refine (impl_Lock_orderTurns.calls k a0_0 a0_1 _ _ l1 t149 t152 _ ?side1 ?side2 A5.out).mono ?_); (case side1 => exact cS (Kd.C_below HR1.out HB.out)); (case side2 => exact HC1.out); rintro e w10 ⟨v150, rfl, ho0, hb⟩; refine ⟨_, rfl, ?_⟩; have HO151 := Aside0.mk (Kd.R_lower ho0 (below_size bG)); replace BK147 := bW BK147 hb; replace HB := Aside0.mk (below_step bG hb); (try clear hb); (try clear ho0)))
  go_ret2
  exact ⟨rE, bG⟩
 ·replace c4 := Bool.eq_false_iff.mpr c4
  subst c4
  replace H := zf H
  simp only [Option.some.injEq, Prod.mk.injEq] at H
  obtain ⟨rfl, rfl⟩ := H
  go_enter Try.func4, Try.ntmps4
  go_wp2_with (first | ((with_reducible refine gate_dst (N := 2) rfl ?_); refine box_event ?hg (N := 2) ?hd (cs := #[.int .i64 a0_0, .int .i64 a0_1]) (t := 23) ?hr ?_; (case hd => rfl); (case hg => rfl); (case hr => first | (go_simp; done) | (go_simp; rfl)); intro gb147 hg w11 hbox hb; have BK147 := Aside0.mk (hbox); have GW147 : Aside0 (w.heap.size ≤ gb147) := gW hg; have GE147 := GW147; replace HB := Aside0.mk (below_step bB hb); clear hb hbox hg; have hcz12_0 := cZ BK147 0 (.int .i64 a0_0); have hcz12_1 := cZ BK147 1 (.int .i64 a0_1); have hfz12_0 := blk_frozen BK147.out 0; have hfz12_1 := blk_frozen BK147.out 1) | ((with_reducible refine gate_callee (f := 23) rfl ?_); refine goesL_ (some 9) rfl rfl Try.func23 (by kernel_rfl) rfl #[.agg #[.int .i64 a0_0, .int .i64 a0_1]] rfl lM ?_; (with_reducible refine (impl_IsLock.calls a0_0 a0_1 false _ A3.out).mono ?_); rintro e w13 ⟨rfl, hb⟩; refine ⟨_, rfl, ?_⟩; replace BK147 := bW BK147 hb; replace HB := Aside0.mk (below_step bG hb); (try clear hb)))
  go_ret2
  exact ⟨rE, bG⟩

/-! ### spec_l1In: function 45 -/
def spec_l1In.f (a0 : Int) (a1 : Int) (a2 : Int) : Option (Bool) := if a0 ≥ a1 then (some (decide (a0 ≤ a2))) else (some false)
theorem spec_l1In.calls (a0 : Int) (a1 : Int) (a2 : Int) (r : Bool) (w : World) (h : spec_l1In.f a0 a1 a2 = some r) :
  Calls Try.prog 45 #[.int .i64 a0, .int .i64 a1, .int .i64 a2] w fun e w' => e = .returned (.bool r) ∧ Drawn0 w w' := by
 have H := h
 unfold spec_l1In.f at H
 clear h
 by_cases c4 : a0 ≥ a1
 ·rw [if_pos c4] at H
  have c4b0 : decide (a1 ≤ a0) = true := decide_eq_true c4
  clear c4
  obtain rfl := Option.some.inj H
  go_enter Try.func45, Try.ntmps45
  go_wp2
  go_ret
  exact ⟨fR, by repeat (first | exact Drawn0.refl _ | apply Drawn0.step)⟩
 ·rw [if_neg c4] at H
  have c4b0 : decide (a1 ≤ a0) = false := decide_eq_false c4
  clear c4
  obtain rfl := Option.some.inj H
  go_enter Try.func45, Try.ntmps45
  go_wp2
  go_ret
  exact ⟨fR, by repeat (first | exact Drawn0.refl _ | apply Drawn0.step)⟩

/-! ### spec_whGood: function 25 -/
def spec_whGood.f (a0_0 : Int) (a0_1 : Int) : Option (Bool) := (spec_l1In.f a0_0 1 6).bind fun t154 => (if t154 = true then ((spec_l1In.f a0_1 2 10).bind fun t155 => (some t155)) else (some false))
theorem spec_whGood.calls (a0_0 : Int) (a0_1 : Int) (r : Bool) (w : World) (h : spec_whGood.f a0_0 a0_1 = some r) :
  Calls Try.prog 25 #[.agg #[.int .i64 a0_0, .int .i64 a0_1]] w fun e w' => e = .returned (.bool r) ∧ Below w.heap.size w w' := by
 have hu23 := Try.underlying23
 have HB := Aside0.mk (Below.refl w.heap.size w)
 have H := h
 unfold spec_whGood.f at H
 clear h
 replace H := Option.bind_eq_some_iff.mp H
 obtain ⟨t154, A20, H⟩ := H
 (try dsimp only at H)
 have A2 := Aside0.mk A20
 clear A20
 by_cases c3 : t154 = true
 ·subst c3
  replace H := zt H
  replace H := Option.bind_eq_some_iff.mp H
  obtain ⟨t155, A40, H⟩ := H
  (try dsimp only at H)
  have A4 := Aside0.mk A40
  clear A40
  obtain rfl := Option.some.inj H
  go_enter Try.func25, Try.ntmps25
  go_wp2_with (first | ((with_reducible refine gate_dst (N := 1) rfl ?_); refine box_event ?hg (N := 1) ?hd (cs := #[.int .i64 a0_0, .int .i64 a0_1]) (t := 23) ?hr ?_; (case hd => rfl); (case hg => rfl); (case hr => first | (go_simp; done) | (go_simp; rfl)); intro gb153 hg w5 hbox hb; have BK153 := Aside0.mk (hbox); have GW153 : Aside0 (w.heap.size ≤ gb153) := gW hg; have GE153 := GW153; replace HB := Aside0.mk (below_step bB hb); clear hb hbox hg; have hcz6_0 := cZ BK153 0 (.int .i64 a0_0); have hcz6_1 := cZ BK153 1 (.int .i64 a0_1); have hfz6_0 := blk_frozen BK153.out 0; have hfz6_1 := blk_frozen BK153.out 1) | ((with_reducible refine gate_callee (f := 45) rfl ?_); refine goesL_ (some 5) rfl rfl Try.func45 (by kernel_rfl) rfl #[.int .i64 a0_0, .int .i64 1, .int .i64 6] rfl lM ?_; (with_reducible refine (spec_l1In.calls a0_0 1 6 true _ A2.out).mono ?_); rintro e w' ⟨rfl, ⟨nd, rfl⟩⟩; refine ⟨_, rfl, ?_⟩) | (go_at_call 45; (with_reducible refine (spec_l1In.calls a0_1 2 10 t155 _ A4.out).mono ?_); rintro e w' ⟨rfl, ⟨nd, rfl⟩⟩))
  go_ret
  exact ⟨rE, bG⟩
 ·replace c3 := Bool.eq_false_iff.mpr c3
  subst c3
  replace H := zf H
  obtain rfl := Option.some.inj H
  go_enter Try.func25, Try.ntmps25
  go_wp2_with (first | ((with_reducible refine gate_dst (N := 1) rfl ?_); refine box_event ?hg (N := 1) ?hd (cs := #[.int .i64 a0_0, .int .i64 a0_1]) (t := 23) ?hr ?_; (case hd => rfl); (case hg => rfl); (case hr => first | (go_simp; done) | (go_simp; rfl)); intro gb153 hg w7 hbox hb; have BK153 := Aside0.mk (hbox); have GW153 : Aside0 (w.heap.size ≤ gb153) := gW hg; have GE153 := GW153; replace HB := Aside0.mk (below_step bB hb); clear hb hbox hg; have hcz8_0 := cZ BK153 0 (.int .i64 a0_0); have hcz8_1 := cZ BK153 1 (.int .i64 a0_1); have hfz8_0 := blk_frozen BK153.out 0; have hfz8_1 := blk_frozen BK153.out 1) | ((with_reducible refine gate_callee (f := 45) rfl ?_); refine goesL_ (some 5) rfl rfl Try.func45 (by kernel_rfl) rfl #[.int .i64 a0_0, .int .i64 1, .int .i64 6] rfl lM ?_; (with_reducible refine (spec_l1In.calls a0_0 1 6 false _ A2.out).mono ?_); rintro e w' ⟨rfl, ⟨nd, rfl⟩⟩; refine ⟨_, rfl, ?_⟩))
  go_ret
  exact ⟨rE, bG⟩

/-! ### spec_whDigits: function 50 -/
def spec_whDigits.l0 : Nat → ByteArray → List Int → Int → Option (List Int)
 | 0, _, _, _ => none
 | k + 1, x0, x3, x4 => if x4 < (x0.size : Int) then (if 0 ≤ x4 then (if x3.length < 17592186044416 then (spec_whDigits.l0 k x0 (x3 ++ [((bt x0 x4) - 48) % 256]) (wrap64 (x4 + 1))) else (none)) else (none)) else (some x3)
def spec_whDigits.f (k : Nat) (a0 : ByteArray) : Option (List Int) := spec_whDigits.l0 k a0 ([] : List Int) 0
theorem spec_whDigits.mono_l : ∀ k, (∀ y0 y1 y2, LeO (spec_whDigits.l0 k y0 y1 y2) (spec_whDigits.l0 (k + 1) y0 y1 y2))
 | 0 => fun _ _ _ r h => by simp [spec_whDigits.l0] at h
 | k + 1 => by
  have ih0 := spec_whDigits.mono_l k
  ·intro y0 y1 y2
   unfold spec_whDigits.l0
   repeat' first
   | (with_reducible first | exact ih0 _ _ _ | exact LeO.refl _ | exact LeO.none _ | refine LeO.ite ?_ ?_ | refine LeO.bind ?_ (fun _ => ?_))
   | exact ih0 _ _ _
   | exact LeO.none _
   | refine LeO.ite ?_ ?_
   | refine LeO.bind ?_ (fun _ => ?_)
theorem spec_whDigits.mono : ∀ a0 k, LeO (spec_whDigits.f k a0) (spec_whDigits.f (k + 1) a0) := by
 intro a0 k
 have ih0 := spec_whDigits.mono_l k
 unfold spec_whDigits.f
 repeat' first
   | (with_reducible first | exact ih0 _ _ _ | exact LeO.refl _ | exact LeO.none _ | refine LeO.ite ?_ ?_ | refine LeO.bind ?_ (fun _ => ?_))
   | exact ih0 _ _ _
   | exact LeO.none _
   | refine LeO.ite ?_ ?_
   | refine LeO.bind ?_ (fun _ => ?_)
theorem spec_whDigits.calls (k : Nat) (a0 : ByteArray) (r : List Int) (w : World) (h : spec_whDigits.f k a0 = some r) :
  Calls Try.prog 50 #[.string a0] w fun e w' => ∃ v0_ : Value, e = .returned (v0_) ∧ Kd.R (Kd.int .i64) 3 w' w.heap.size (fun _ => True) v0_ r ∧ Below w.heap.size w w' := by
 have HB := Aside0.mk (Below.refl w.heap.size w)
 have H := h
 unfold spec_whDigits.f at H
 clear h
 have H' := Aside0.mk H
 clear H
 go_enter Try.func50, Try.ntmps50
 go_wp2
 go_loopg [3, 4] k (fun kq v3 v4 w' => ∃ (x3_1 : List Int) (x4_1 : Int), v4 = .int .i64 x4_1 ∧ Aside0 (spec_whDigits.l0 kq a0 x3_1 x4_1 = some r) ∧ Aside0 (kq ≤ k) ∧ Aside0 (Kd.R (Kd.int .i64) 3 w' w.heap.size (fun _ => True) v3 x3_1) ∧ Aside0 (Below w.heap.size w w'))
 case atStart => exact ⟨(([] : List Int)), (0), fR, H', ⟨Nat.le_refl _⟩, ⟨by first | exact Kd.R_nil _ _ _ _ _ | exact Kd.N_nil _ _ _ _ _ | exact Kd.V_nil _ _ _ _ _ | exact Kd.Q_nil _ _ _ _ _ | exact Kd.S_nil _ _ _ _ _⟩, ⟨bB⟩⟩
 case round =>
  clear H'
  obtain ⟨x3_1, x4_1, rfl, HA, HK1, HO_3, HB⟩ := hrel
  cases gk with
  | zero => exact absurd HA.out (by simp [spec_whDigits.l0])
  | succ k1 =>
   have H := HA.out
   clear HA
   simp only [spec_whDigits.l0] at H
   by_cases c2 : x4_1 < (a0.size : Int)
   ·rw [if_pos c2] at H
    have c2b0 : decide (x4_1 < (a0.size : Int)) = true := decide_eq_true c2
    clear c2
    replace H := nz H; obtain ⟨c3, H⟩ := H
    have c3b0 : decide (0 ≤ x4_1) = true := decide_eq_true c3
    clear c3
    replace H := nz H; obtain ⟨c5, H⟩ := H
    have LMc5 := Aside0.mk c5
    clear c5
    obtain ⟨y156, hy156⟩ : ∃ y_ : List Int, y_ = (x3_1 ++ [((bt a0 x4_1) - 48) % 256]) := ⟨_, rfl⟩
    replace H : (spec_whDigits.l0 k1 a0 y156 (wrap64 (x4_1 + 1))) = some r := hZ hy156 H
    have Ny156 := Aside0.mk hy156
    clear hy156
    have H' := Aside0.mk H
    clear H
    have p4 : 0 ≤ (x4_1 : Int) := oD
    have q4 : x4_1 < (a0.size : Int) := oD
    have hx4 := bt_at a0 x4_1
    replace p4 := eq_true p4
    replace q4 := eq_true q4
    go_wp2_with (first | ((with_reducible refine gate_builtin (b := .append) (xs := #[.tmp 11, .tmp 17]) rfl ?_); at_builtin; refine Kd.R_append (Kd.int .i64) (w0 := w) w.heap.size rfl (.tmp 11) (.tmp 17) 68 3 (.int .i64 0) 8 rfl Try.underlying68 info3 rfl (by decide) (by omega) u3 x3_1 (((bt a0 x4_1) - 48) % 256) [.int .i64 (((bt a0 x4_1) - 48) % 256)] (fun _ => True) (fun _ => False) rfl rfl ?aP (fun _ hk => hk.elim) ?aF ?aO ?aB ?aS ?aL ?_; (case aP => exact rfl); (case aB => exact bB); (case aF => exact (fun _ _ => trivial)); (case aO => exact (kR HO_3)); (case aS => exact (below_size bB)); (case aL => have := LMc5.out; omega); intro v157 w6 ho hb hg hat; rw [← Ny156.out] at ho; have n0_ := Aside0.mk (hb); have n1_ := Aside0.mk (ho); clear HB; clear HO_3; have HB := n0_; have HO158 := n1_; clear n0_ n1_; clear ho hb hg hat))
    go_roundg k1
    case measure => have := HK1.out; omega
    case rel => exact ⟨(y156), (wrap64 (x4_1 + 1)), fR, H', ⟨by have := HK1.out; omega⟩, ⟨kR HO158⟩, ⟨bB⟩⟩
   ·rw [if_neg c2] at H
    have c2b0 : decide (x4_1 < (a0.size : Int)) = false := decide_eq_false c2
    clear c2
    obtain rfl := Option.some.inj H
    go_wp2
    go_ret
    exact ⟨_, rE, kR HO_3, bB⟩

/-! ### spec_l1Mod: function 53 -/
def spec_l1Mod.f (a0 : Int) (a1 : Int) : Option (Int) := if a1 = 0 then (none) else (some (Int.tmod (wrap64 ((Int.tmod a0 a1) + a1)) a1))
theorem spec_l1Mod.calls (a0 : Int) (a1 : Int) (r : Int) (w : World) (h : spec_l1Mod.f a0 a1 = some r) :
  Calls Try.prog 53 #[.int .i64 a0, .int .i64 a1] w fun e w' => e = .returned (.int .i64 r) ∧ Drawn0 w w' := by
 have H := h
 unfold spec_l1Mod.f at H
 clear h
 replace H := nz' H; obtain ⟨c3, H⟩ := H
 have c3b0 : (a1 == 0) = false := beq_eq_false_iff_ne.mpr c3
 have c3b1 : (a1 != 0) = true := bne_iff_ne.mpr c3
 obtain rfl := Option.some.inj H
 go_enter Try.func53, Try.ntmps53
 go_wp2
 go_ret
 exact ⟨fR, by repeat (first | exact Drawn0.refl _ | apply Drawn0.step)⟩

/-! ### spec_whFar: function 51 -/
def spec_whFar.f (a0_0 : Int) (a0_1 : Int) (a1 : Int) (a2 : Int) : Option (Int × Int) := (spec_l1Mod.f (wrap64 (a2 - a1)) a0_1).bind fun t160 => (if a0_1 = 0 then (none) else (some (t160, Int.tmod (wrap64 (a0_1 - t160)) a0_1)))
theorem spec_whFar.calls (a0_0 : Int) (a0_1 : Int) (a1 : Int) (a2 : Int) (r1 : Int) (r2 : Int) (w : World) (h : spec_whFar.f a0_0 a0_1 a1 a2 = some (r1, r2)) :
  Calls Try.prog 51 #[.agg #[.int .i64 a0_0, .int .i64 a0_1], .int .i64 a1, .int .i64 a2] w fun e w' => e = .returned (.tuple #[.int .i64 r1, .int .i64 r2]) ∧ Below w.heap.size w w' := by
 have hu23 := Try.underlying23
 have HB := Aside0.mk (Below.refl w.heap.size w)
 have H := h
 unfold spec_whFar.f at H
 clear h
 replace H := Option.bind_eq_some_iff.mp H
 obtain ⟨t160, A40, H⟩ := H
 (try dsimp only at H)
 have A4 := Aside0.mk A40
 clear A40
 replace H := nz' H; obtain ⟨c5, H⟩ := H
 have c5b0 : (a0_1 == 0) = false := beq_eq_false_iff_ne.mpr c5
 have c5b1 : (a0_1 != 0) = true := bne_iff_ne.mpr c5
 simp only [Option.some.injEq, Prod.mk.injEq] at H
 obtain ⟨rfl, rfl⟩ := H
 go_enter Try.func51, Try.ntmps51
 go_wp2_with (first | ((with_reducible refine gate_dst (N := 3) rfl ?_); refine box_event ?hg (N := 3) ?hd (cs := #[.int .i64 a0_0, .int .i64 a0_1]) (t := 23) ?hr ?_; (case hd => rfl); (case hg => rfl); (case hr => first | (go_simp; done) | (go_simp; rfl)); intro gb159 hg w6 hbox hb; have BK159 := Aside0.mk (hbox); have GW159 : Aside0 (w.heap.size ≤ gb159) := gW hg; have GE159 := GW159; replace HB := Aside0.mk (below_step bB hb); clear hb hbox hg; have hcz7_0 := cZ BK159 0 (.int .i64 a0_0); have hcz7_1 := cZ BK159 1 (.int .i64 a0_1); have hfz7_0 := blk_frozen BK159.out 0; have hfz7_1 := blk_frozen BK159.out 1) | (go_at_call 53; (with_reducible refine (spec_l1Mod.calls (wrap64 (a2 - a1)) a0_1 t160 _ A4.out).mono ?_); rintro e w' ⟨rfl, ⟨nd, rfl⟩⟩; (try first | exact ⟨rfl, _, World.drewN_drewN _ _ _⟩ | exact ⟨rfl, _, Eq.trans (World.drewN_drewN _ _ _) (congrArg (World.drewN _) (Nat.add_assoc _ _ _))⟩)))
 repeat (go_quiet (first | ((with_reducible refine gate_dst (N := 3) rfl ?_); refine box_event ?hg (N := 3) ?hd (cs := #[.int .i64 a0_0, .int .i64 a0_1]) (t := 23) ?hr ?_; (case hd => rfl); (case hg => rfl); (case hr => first | (go_simp; done) | (go_simp; rfl)); intro gb159 hg w6 hbox hb; have BK159 := Aside0.mk (hbox); have GW159 : Aside0 (w.heap.size ≤ gb159) := gW hg; have GE159 := GW159; replace HB := Aside0.mk (below_step bB hb); clear hb hbox hg; have hcz7_0 := cZ BK159 0 (.int .i64 a0_0); have hcz7_1 := cZ BK159 1 (.int .i64 a0_1); have hfz7_0 := blk_frozen BK159.out 0; have hfz7_1 := blk_frozen BK159.out 1) | (go_at_call 53; (with_reducible refine (spec_l1Mod.calls (wrap64 (a2 - a1)) a0_1 t160 _ A4.out).mono ?_); rintro e w' ⟨rfl, ⟨nd, rfl⟩⟩; (try first | exact ⟨rfl, _, World.drewN_drewN _ _ _⟩ | exact ⟨rfl, _, Eq.trans (World.drewN_drewN _ _ _) (congrArg (World.drewN _) (Nat.add_assoc _ _ _))⟩))); try go_wp2_with (first | ((with_reducible refine gate_dst (N := 3) rfl ?_); refine box_event ?hg (N := 3) ?hd (cs := #[.int .i64 a0_0, .int .i64 a0_1]) (t := 23) ?hr ?_; (case hd => rfl); (case hg => rfl); (case hr => first | (go_simp; done) | (go_simp; rfl)); intro gb159 hg w6 hbox hb; have BK159 := Aside0.mk (hbox); have GW159 : Aside0 (w.heap.size ≤ gb159) := gW hg; have GE159 := GW159; replace HB := Aside0.mk (below_step bB hb); clear hb hbox hg; have hcz7_0 := cZ BK159 0 (.int .i64 a0_0); have hcz7_1 := cZ BK159 1 (.int .i64 a0_1); have hfz7_0 := blk_frozen BK159.out 0; have hfz7_1 := blk_frozen BK159.out 1) | (go_at_call 53; (with_reducible refine (spec_l1Mod.calls (wrap64 (a2 - a1)) a0_1 t160 _ A4.out).mono ?_); rintro e w' ⟨rfl, ⟨nd, rfl⟩⟩; (try first | exact ⟨rfl, _, World.drewN_drewN _ _ _⟩ | exact ⟨rfl, _, Eq.trans (World.drewN_drewN _ _ _) (congrArg (World.drewN _) (Nat.add_assoc _ _ _))⟩))))
 go_ret2
 exact ⟨rE, bG⟩

/-! ### spec_l1Least: function 52 -/
def spec_l1Least.f (a0 : Int) (a1 : Int) : Option (Int) := if a0 < a1 then (some a0) else (some a1)
theorem spec_l1Least.calls (a0 : Int) (a1 : Int) (r : Int) (w : World) (h : spec_l1Least.f a0 a1 = some r) :
  Calls Try.prog 52 #[.int .i64 a0, .int .i64 a1] w fun e w' => e = .returned (.int .i64 r) ∧ Drawn0 w w' := by
 have H := h
 unfold spec_l1Least.f at H
 clear h
 by_cases c3 : a0 < a1
 ·rw [if_pos c3] at H
  have c3b0 : decide (a0 < a1) = true := decide_eq_true c3
  clear c3
  obtain rfl := Option.some.inj H
  go_enter Try.func52, Try.ntmps52
  go_wp2
  go_ret
  exact ⟨fR, by repeat (first | exact Drawn0.refl _ | apply Drawn0.step)⟩
 ·rw [if_neg c3] at H
  have c3b0 : decide (a0 < a1) = false := decide_eq_false c3
  clear c3
  obtain rfl := Option.some.inj H
  go_enter Try.func52, Try.ntmps52
  go_wp2
  go_ret
  exact ⟨fR, by repeat (first | exact Drawn0.refl _ | apply Drawn0.step)⟩

end Go.Proofs.Ythpmpkmdjpaemaa.O
