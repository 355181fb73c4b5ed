-- Printed by hp.py, a program of this session: a machine's side of laws, out of the translation; Lean checks it.
import Derived.Test.YtcpnmiempaofdaaFx0
import Derived.Test.YtcpnmiempaofdaaFx1
import Derived.Test.YtcpnmiempaofdaaFx2
import Derived.Test.YtcpnmiempaofdaaFx3
namespace Go.Proofs.Ytcpnmiempaofdaa.F
open Go.RowKit Go.Proofs.YtcpnmiempaofdaaW.PrintWords Go.Proofs.YtcpnmiempaofdaaW.PrintLast Go.Proofs.YtcpnmiempaofdaaW.PrintMore
attribute [local go_sem] max2_int min2_int max_two min_two max_three min_three max_four min_four   -- for this text's walks alone
set_option maxHeartbeats 8000000
set_option maxRecDepth 100000
set_option linter.unusedVariables false
set_option linter.unusedSimpArgs false

/-! ### impl_CountFitting: function 24 -/
def impl_CountFitting.f (k : Nat) (a0_0 : Int) (a0_1 : Int) (l1 : List (S31)) : Option (Int × Bool) := (impl_areHints.f k a0_0 a0_1 l1).bind fun t168 => (if t168 = true then ((impl_Lock_fitting.f k a0_0 a0_1 l1).bind fun t169 => (some ((t169.length : Int), true))) else (some (0, false)))
theorem impl_CountFitting.mono : ∀ a0 a1 a2 k, LeO (impl_CountFitting.f k a0 a1 a2) (impl_CountFitting.f (k + 1) a0 a1 a2) := by
 intro a0 a1 a2 k
 unfold impl_CountFitting.f
 repeat' first
   | (with_reducible first | exact impl_Lock_fitting.mono _ _ _ _ | exact impl_areHints.mono _ _ _ _ | exact LeO.refl _ | exact LeO.none _ | refine LeO.ite ?_ ?_ | refine LeO.bind ?_ (fun _ => ?_))
   | exact impl_Lock_fitting.mono _ _ _ _
   | exact impl_areHints.mono _ _ _ _
   | exact LeO.none _
   | refine LeO.ite ?_ ?_
   | refine LeO.bind ?_ (fun _ => ?_)
theorem impl_CountFitting.calls (k : Nat) (a0_0 : Int) (a0_1 : Int) (A1 : Option Addr) (c1 : Nat) (l1 : List (S31)) (r1 : Int) (r2 : Bool) (w : World) (hr1 : Kd.C k31 w A1 l1.length l1) (hc1 : l1.length ≤ c1) (h : impl_CountFitting.f k a0_0 a0_1 l1 = some (r1, r2)) :
  Calls Try.prog 24 #[.agg #[.int .i64 a0_0, .int .i64 a0_1], .slice A1 l1.length c1] w fun e w' => e = .returned (.tuple #[.int .i64 r1, .bool r2]) ∧ Below w.heap.size w w' := by
 have hu23 := Try.underlying23
 have HR1 := Aside0.mk hr1
 have HC1 := Aside0.mk hc1
 clear hr1 hc1
 have HB := Aside0.mk (Below.refl w.heap.size w)
 have H := h
 unfold impl_CountFitting.f at H
 clear h
 replace H := Option.bind_eq_some_iff.mp H
 obtain ⟨t168, A30, H⟩ := H
 (try dsimp only at H)
 have A3 := Aside0.mk A30
 clear A30
 by_cases c4 : t168 = true
 ·subst c4
  replace H := zt H
  replace H := Option.bind_eq_some_iff.mp H
  obtain ⟨t169, A50, H⟩ := H
  (try dsimp only at H)
  have A5 := Aside0.mk A50
  clear A50
  simp only [Option.some.injEq, Prod.mk.injEq] at H
  obtain ⟨rfl, rfl⟩ := H
  go_enter Try.func24, Try.ntmps24
  go_wp2_with (first | ((with_reducible refine gate_dst (N := 2) rfl ?_); refine box_event ?hg (N := 2) ?hd (cs := #[.int .i64 a0_0, .int .i64 a0_1]) (t := 23) ?hr ?_; (case hd => rfl); (case hg => rfl); (case hr => first | (go_simp; done) | (go_simp; rfl)); intro gb167 hg w6 hbox hb; have BK167 := Aside0.mk (hbox); have GW167 : Aside0 (w.heap.size ≤ gb167) := gW hg; have GE167 := GW167; replace HB := Aside0.mk (below_step bB hb); clear hb hbox hg; have hcz7_0 := cZ BK167 0 (.int .i64 a0_0); have hcz7_1 := cZ BK167 1 (.int .i64 a0_1); have hfz7_0 := blk_frozen BK167.out 0; have hfz7_1 := blk_frozen BK167.out 1) | ((with_reducible refine gate_callee (f := 49) rfl ?_); refine goesL_ (some 8) rfl rfl Try.func49 (by kernel_rfl) rfl #[.agg #[.int .i64 a0_0, .int .i64 a0_1], .slice A1 l1.length c1] rfl lM ?_; (with_reducible refine (impl_areHints.calls k a0_0 a0_1 _ _ l1 true _ ?side1 ?side2 A3.out).mono ?_); (case side1 => exact cS (Kd.C_below HR1.out HB.out)); (case side2 => exact HC1.out); rintro e w8 ⟨rfl, hb⟩; refine ⟨_, rfl, ?_⟩; replace BK167 := bW BK167 hb; replace HB := Aside0.mk (below_step bG hb); (try clear hb); have hcz9_0 := cZ BK167 0 (.int .i64 a0_0); have hcz9_1 := cZ BK167 1 (.int .i64 a0_1); have hfz9_0 := blk_frozen BK167.out 0; have hfz9_1 := blk_frozen BK167.out 1) | ((with_reducible refine gate_callee (f := 50) rfl ?_); refine goesL_ (some 12) rfl rfl Try.func50 (by kernel_rfl) rfl #[.agg #[.int .i64 a0_0, .int .i64 a0_1], .slice A1 l1.length c1] rfl lM ?_; (with_reducible refine (impl_Lock_fitting.calls k a0_0 a0_1 _ _ l1 t169 _ ?side1 ?side2 A5.out).mono ?_); (case side1 => exact cS (Kd.C_below HR1.out HB.out)); (case side2 => exact HC1.out); rintro e w10 ⟨v170, rfl, ho0, hb⟩; refine ⟨_, rfl, ?_⟩; have HO171 := Aside0.mk (Kd.R_lower ho0 (below_size bG)); replace BK167 := bW BK167 hb; replace HB := Aside0.mk (below_step bG hb); (try clear hb); (try clear ho0); obtain ⟨Ao11, co11, eo11⟩ := Kd.R_slice HO171.out; subst eo11))
  go_ret2
  exact ⟨rE, bG⟩
 ·replace c4 := Bool.eq_false_iff.mpr c4
  subst c4
  replace H := zf H
  simp only [Option.some.injEq, Prod.mk.injEq] at H
  obtain ⟨rfl, rfl⟩ := H
  go_enter Try.func24, Try.ntmps24
  go_wp2_with (first | ((with_reducible refine gate_dst (N := 2) rfl ?_); refine box_event ?hg (N := 2) ?hd (cs := #[.int .i64 a0_0, .int .i64 a0_1]) (t := 23) ?hr ?_; (case hd => rfl); (case hg => rfl); (case hr => first | (go_simp; done) | (go_simp; rfl)); intro gb167 hg w12 hbox hb; have BK167 := Aside0.mk (hbox); have GW167 : Aside0 (w.heap.size ≤ gb167) := gW hg; have GE167 := GW167; replace HB := Aside0.mk (below_step bB hb); clear hb hbox hg; have hcz13_0 := cZ BK167 0 (.int .i64 a0_0); have hcz13_1 := cZ BK167 1 (.int .i64 a0_1); have hfz13_0 := blk_frozen BK167.out 0; have hfz13_1 := blk_frozen BK167.out 1) | ((with_reducible refine gate_callee (f := 49) rfl ?_); refine goesL_ (some 8) rfl rfl Try.func49 (by kernel_rfl) rfl #[.agg #[.int .i64 a0_0, .int .i64 a0_1], .slice A1 l1.length c1] rfl lM ?_; (with_reducible refine (impl_areHints.calls k a0_0 a0_1 _ _ l1 false _ ?side1 ?side2 A3.out).mono ?_); (case side1 => exact cS (Kd.C_below HR1.out HB.out)); (case side2 => exact HC1.out); rintro e w14 ⟨rfl, hb⟩; refine ⟨_, rfl, ?_⟩; replace BK167 := bW BK167 hb; replace HB := Aside0.mk (below_step bG hb); (try clear hb)))
  go_ret2
  exact ⟨rE, bG⟩

/-! ### spec_l1In: function 82 -/
def spec_l1In.f (a0 : Int) (a1 : Int) (a2 : Int) : Option (Bool) := if a0 ≥ a1 then (some (decide (a0 ≤ a2))) else (some false)
theorem spec_l1In.calls (a0 : Int) (a1 : Int) (a2 : Int) (r : Bool) (w : World) (h : spec_l1In.f a0 a1 a2 = some r) :
  Calls Try.prog 82 #[.int .i64 a0, .int .i64 a1, .int .i64 a2] w fun e w' => e = .returned (.bool r) ∧ Drawn0 w w' := by
 have H := h
 unfold spec_l1In.f at H
 clear h
 by_cases c4 : a0 ≥ a1
 ·rw [if_pos c4] at H
  have c4b0 : decide (a1 ≤ a0) = true := decide_eq_true c4
  clear c4
  obtain rfl := Option.some.inj H
  go_enter Try.func82, Try.ntmps82
  go_wp2
  go_ret
  exact ⟨fR, by repeat (first | exact Drawn0.refl _ | apply Drawn0.step)⟩
 ·rw [if_neg c4] at H
  have c4b0 : decide (a1 ≤ a0) = false := decide_eq_false c4
  clear c4
  obtain rfl := Option.some.inj H
  go_enter Try.func82, Try.ntmps82
  go_wp2
  go_ret
  exact ⟨fR, by repeat (first | exact Drawn0.refl _ | apply Drawn0.step)⟩

/-! ### spec_whGood: function 80 -/
def spec_whGood.f (a0_0 : Int) (a0_1 : Int) : Option (Bool) := (spec_l1In.f a0_0 1 6).bind fun t173 => (if t173 = true then ((spec_l1In.f a0_1 2 10).bind fun t174 => (some t174)) else (some false))
theorem spec_whGood.calls (a0_0 : Int) (a0_1 : Int) (r : Bool) (w : World) (h : spec_whGood.f a0_0 a0_1 = some r) :
  Calls Try.prog 80 #[.agg #[.int .i64 a0_0, .int .i64 a0_1]] w fun e w' => e = .returned (.bool r) ∧ Below w.heap.size w w' := by
 have hu23 := Try.underlying23
 have HB := Aside0.mk (Below.refl w.heap.size w)
 have H := h
 unfold spec_whGood.f at H
 clear h
 replace H := Option.bind_eq_some_iff.mp H
 obtain ⟨t173, A20, H⟩ := H
 (try dsimp only at H)
 have A2 := Aside0.mk A20
 clear A20
 by_cases c3 : t173 = true
 ·subst c3
  replace H := zt H
  replace H := Option.bind_eq_some_iff.mp H
  obtain ⟨t174, A40, H⟩ := H
  (try dsimp only at H)
  have A4 := Aside0.mk A40
  clear A40
  obtain rfl := Option.some.inj H
  go_enter Try.func80, Try.ntmps80
  go_wp2_with (first | ((with_reducible refine gate_dst (N := 1) rfl ?_); refine box_event ?hg (N := 1) ?hd (cs := #[.int .i64 a0_0, .int .i64 a0_1]) (t := 23) ?hr ?_; (case hd => rfl); (case hg => rfl); (case hr => first | (go_simp; done) | (go_simp; rfl)); intro gb172 hg w5 hbox hb; have BK172 := Aside0.mk (hbox); have GW172 : Aside0 (w.heap.size ≤ gb172) := gW hg; have GE172 := GW172; replace HB := Aside0.mk (below_step bB hb); clear hb hbox hg; have hcz6_0 := cZ BK172 0 (.int .i64 a0_0); have hcz6_1 := cZ BK172 1 (.int .i64 a0_1); have hfz6_0 := blk_frozen BK172.out 0; have hfz6_1 := blk_frozen BK172.out 1) | ((with_reducible refine gate_callee (f := 82) rfl ?_); refine goesL_ (some 5) rfl rfl Try.func82 (by kernel_rfl) rfl #[.int .i64 a0_0, .int .i64 1, .int .i64 6] rfl lM ?_; (with_reducible refine (spec_l1In.calls a0_0 1 6 true _ A2.out).mono ?_); rintro e w' ⟨rfl, ⟨nd, rfl⟩⟩; refine ⟨_, rfl, ?_⟩) | (go_at_call 82; (with_reducible refine (spec_l1In.calls a0_1 2 10 t174 _ A4.out).mono ?_); rintro e w' ⟨rfl, ⟨nd, rfl⟩⟩))
  go_ret
  exact ⟨rE, bG⟩
 ·replace c3 := Bool.eq_false_iff.mpr c3
  subst c3
  replace H := zf H
  obtain rfl := Option.some.inj H
  go_enter Try.func80, Try.ntmps80
  go_wp2_with (first | ((with_reducible refine gate_dst (N := 1) rfl ?_); refine box_event ?hg (N := 1) ?hd (cs := #[.int .i64 a0_0, .int .i64 a0_1]) (t := 23) ?hr ?_; (case hd => rfl); (case hg => rfl); (case hr => first | (go_simp; done) | (go_simp; rfl)); intro gb172 hg w7 hbox hb; have BK172 := Aside0.mk (hbox); have GW172 : Aside0 (w.heap.size ≤ gb172) := gW hg; have GE172 := GW172; replace HB := Aside0.mk (below_step bB hb); clear hb hbox hg; have hcz8_0 := cZ BK172 0 (.int .i64 a0_0); have hcz8_1 := cZ BK172 1 (.int .i64 a0_1); have hfz8_0 := blk_frozen BK172.out 0; have hfz8_1 := blk_frozen BK172.out 1) | ((with_reducible refine gate_callee (f := 82) rfl ?_); refine goesL_ (some 5) rfl rfl Try.func82 (by kernel_rfl) rfl #[.int .i64 a0_0, .int .i64 1, .int .i64 6] rfl lM ?_; (with_reducible refine (spec_l1In.calls a0_0 1 6 false _ A2.out).mono ?_); rintro e w' ⟨rfl, ⟨nd, rfl⟩⟩; refine ⟨_, rfl, ?_⟩))
  go_ret
  exact ⟨rE, bG⟩

/-! ### spec_whCount: function 81 -/
def spec_whCount.l0 : Nat → Int → Int → Int → Int → Option (Int)
 | 0, _, _, _, _ => none
 | k + 1, x3, x4, x176000, x176001 => if x4 > 0 then (spec_whCount.l0 k (wrap64 (x3 * x176001)) (wrap64 (x4 - 1)) x176000 x176001) else (some x3)
def spec_whCount.f (k : Nat) (a0_0 : Int) (a0_1 : Int) : Option (Int) := spec_whCount.l0 k 1 a0_0 a0_0 a0_1
theorem spec_whCount.mono_l : ∀ k, (∀ y0 y1 y2 y3, LeO (spec_whCount.l0 k y0 y1 y2 y3) (spec_whCount.l0 (k + 1) y0 y1 y2 y3))
 | 0 => fun _ _ _ _ r h => by simp [spec_whCount.l0] at h
 | k + 1 => by
  have ih0 := spec_whCount.mono_l k
  ·intro y0 y1 y2 y3
   unfold spec_whCount.l0
   repeat' first
   | (with_reducible first | exact ih0 _ _ _ _ | exact LeO.refl _ | exact LeO.none _ | refine LeO.ite ?_ ?_ | refine LeO.bind ?_ (fun _ => ?_))
   | exact ih0 _ _ _ _
   | exact LeO.none _
   | refine LeO.ite ?_ ?_
   | refine LeO.bind ?_ (fun _ => ?_)
theorem spec_whCount.mono : ∀ a0 a1 k, LeO (spec_whCount.f k a0 a1) (spec_whCount.f (k + 1) a0 a1) := by
 intro a0 a1 k
 have ih0 := spec_whCount.mono_l k
 unfold spec_whCount.f
 repeat' first
   | (with_reducible first | exact ih0 _ _ _ _ | exact LeO.refl _ | exact LeO.none _ | refine LeO.ite ?_ ?_ | refine LeO.bind ?_ (fun _ => ?_))
   | exact ih0 _ _ _ _
   | exact LeO.none _
   | refine LeO.ite ?_ ?_
   | refine LeO.bind ?_ (fun _ => ?_)
theorem spec_whCount.calls (k : Nat) (a0_0 : Int) (a0_1 : Int) (r : Int) (w : World) (h : spec_whCount.f k a0_0 a0_1 = some r) :
  Calls Try.prog 81 #[.agg #[.int .i64 a0_0, .int .i64 a0_1]] w fun e w' => e = .returned (.int .i64 r) ∧ Below w.heap.size w w' := by
 have hu23 := Try.underlying23
 have HB := Aside0.mk (Below.refl w.heap.size w)
 have H : (spec_whCount.l0 k 1 a0_0 a0_0 a0_1) = some r := h
 clear h
 have H' := Aside0.mk H
 clear H
 go_enter Try.func81, Try.ntmps81
 go_wp2_with (first | ((with_reducible refine gate_dst (N := 1) rfl ?_); refine box_event ?hg (N := 1) ?hd (cs := #[.int .i64 a0_0, .int .i64 a0_1]) (t := 23) ?hr ?_; (case hd => rfl); (case hg => rfl); (case hr => first | (go_simp; done) | (go_simp; rfl)); intro gb175 hg w2 hbox hb; have BK175 := Aside0.mk (hbox); have GW175 : Aside0 (w.heap.size ≤ gb175) := gW hg; have GE175 := GW175; replace HB := Aside0.mk (below_step bB hb); clear hb hbox hg; have hcz3_0 := cZ BK175 0 (.int .i64 a0_0); have hcz3_1 := cZ BK175 1 (.int .i64 a0_1); have hfz3_0 := blk_frozen BK175.out 0; have hfz3_1 := blk_frozen BK175.out 1))
 go_loopg [3, 4] k (fun kq v3 v4 w' => ∃ (x3_1 : Int) (x4_1 : Int), v3 = .int .i64 x3_1 ∧ v4 = .int .i64 x4_1 ∧ Aside0 (spec_whCount.l0 kq x3_1 x4_1 a0_0 a0_1 = some r) ∧ Aside0 (kq ≤ k) ∧ Aside0 (w'.heap[gb175]? = some (.cells #[.int .i64 a0_0, .int .i64 a0_1] 23 (0, 0))) ∧ Aside0 (Below w.heap.size w w'))
 case atStart => exact ⟨(1), (a0_0), fR, fR, H', ⟨Nat.le_refl _⟩, ⟨bK⟩, ⟨bG⟩⟩
 case round =>
  clear H'
  try clear p2
  try clear hcz3_0
  try clear hcz3_1
  try clear hfz3_0
  try clear hfz3_1
  obtain ⟨x3_1, x4_1, rfl, rfl, HA, HK1, BK175, HB⟩ := hrel
  cases gk with
  | zero => exact absurd HA.out (by simp [spec_whCount.l0])
  | succ k1 =>
   have H := HA.out
   clear HA
   simp only [spec_whCount.l0] at H
   by_cases c4 : x4_1 > 0
   ·rw [if_pos c4] at H
    have c4b0 : decide (0 < x4_1) = true := decide_eq_true c4
    clear c4
    have H' := Aside0.mk H
    clear H
    have hcz5_0 := cZ BK175 0 (.int .i64 a0_0)
    have hcz5_1 := cZ BK175 1 (.int .i64 a0_1)
    have hfz5_0 := blk_frozen BK175.out 0
    have hfz5_1 := blk_frozen BK175.out 1
    go_wp2
    go_roundg k1
    case measure => have := HK1.out; omega
    case rel => exact ⟨(wrap64 (x3_1 * a0_1)), (wrap64 (x4_1 - 1)), fR, fR, H', ⟨by have := HK1.out; omega⟩, ⟨bK⟩, ⟨bG⟩⟩
   ·rw [if_neg c4] at H
    have c4b0 : decide (0 < x4_1) = false := decide_eq_false c4
    clear c4
    obtain rfl := Option.some.inj H
    go_wp2
    go_ret
    exact ⟨rE, bG⟩

/-! ### spec_hiLock: function 45 -/
def spec_hiLock.f (k : Nat) (a0_0 : Int) (a0_1 : Int) (a1 : Int) : Option (Bool) := (spec_whGood.f a0_0 a0_1).bind fun t177 => (if t177 = true then ((spec_whCount.f k a0_0 a0_1).bind fun t178 => (some (decide (t178 ≤ a1)))) else (some false))
theorem spec_hiLock.mono : ∀ a0 a1 a2 k, LeO (spec_hiLock.f k a0 a1 a2) (spec_hiLock.f (k + 1) a0 a1 a2) := by
 intro a0 a1 a2 k
 unfold spec_hiLock.f
 repeat' first
   | (with_reducible first | exact spec_whCount.mono _ _ _ | exact LeO.refl _ | exact LeO.none _ | refine LeO.ite ?_ ?_ | refine LeO.bind ?_ (fun _ => ?_))
   | exact spec_whCount.mono _ _ _
   | exact LeO.none _
   | refine LeO.ite ?_ ?_
   | refine LeO.bind ?_ (fun _ => ?_)
theorem spec_hiLock.calls (k : Nat) (a0_0 : Int) (a0_1 : Int) (a1 : Int) (r : Bool) (w : World) (h : spec_hiLock.f k a0_0 a0_1 a1 = some r) :
  Calls Try.prog 45 #[.agg #[.int .i64 a0_0, .int .i64 a0_1], .int .i64 a1] w fun e w' => e = .returned (.bool r) ∧ Below w.heap.size w w' := by
 have hu23 := Try.underlying23
 have HB := Aside0.mk (Below.refl w.heap.size w)
 have H := h
 unfold spec_hiLock.f at H
 clear h
 replace H := Option.bind_eq_some_iff.mp H
 obtain ⟨t177, A30, H⟩ := H
 (try dsimp only at H)
 have A3 := Aside0.mk A30
 clear A30
 by_cases c4 : t177 = true
 ·subst c4
  replace H := zt H
  replace H := Option.bind_eq_some_iff.mp H
  obtain ⟨t178, A50, H⟩ := H
  (try dsimp only at H)
  have A5 := Aside0.mk A50
  clear A50
  obtain rfl := Option.some.inj H
  go_enter Try.func45, Try.ntmps45
  go_wp2_with (first | ((with_reducible refine gate_dst (N := 2) rfl ?_); refine box_event ?hg (N := 2) ?hd (cs := #[.int .i64 a0_0, .int .i64 a0_1]) (t := 23) ?hr ?_; (case hd => rfl); (case hg => rfl); (case hr => first | (go_simp; done) | (go_simp; rfl)); intro gb176 hg w6 hbox hb; have BK176 := Aside0.mk (hbox); have GW176 : Aside0 (w.heap.size ≤ gb176) := gW hg; have GE176 := GW176; replace HB := Aside0.mk (below_step bB hb); clear hb hbox hg; have hcz7_0 := cZ BK176 0 (.int .i64 a0_0); have hcz7_1 := cZ BK176 1 (.int .i64 a0_1); have hfz7_0 := blk_frozen BK176.out 0; have hfz7_1 := blk_frozen BK176.out 1) | ((with_reducible refine gate_callee (f := 80) rfl ?_); refine goesL_ (some 6) rfl rfl Try.func80 (by kernel_rfl) rfl #[.agg #[.int .i64 a0_0, .int .i64 a0_1]] rfl lM ?_; (with_reducible refine (spec_whGood.calls a0_0 a0_1 true _ A3.out).mono ?_); rintro e w8 ⟨rfl, hb⟩; refine ⟨_, rfl, ?_⟩; replace BK176 := bW BK176 hb; replace HB := Aside0.mk (below_step bG hb); (try clear hb); have hcz9_0 := cZ BK176 0 (.int .i64 a0_0); have hcz9_1 := cZ BK176 1 (.int .i64 a0_1); have hfz9_0 := blk_frozen BK176.out 0; have hfz9_1 := blk_frozen BK176.out 1) | (go_at_call 81; (with_reducible refine (spec_whCount.calls k a0_0 a0_1 t178 _ A5.out).mono ?_); rintro e w10 ⟨rfl, hb⟩; replace BK176 := bW BK176 hb; replace HB := Aside0.mk (below_step bG hb); (try clear hb)))
  go_ret
  exact ⟨rE, bG⟩
 ·replace c4 := Bool.eq_false_iff.mpr c4
  subst c4
  replace H := zf H
  obtain rfl := Option.some.inj H
  go_enter Try.func45, Try.ntmps45
  go_wp2_with (first | ((with_reducible refine gate_dst (N := 2) rfl ?_); refine box_event ?hg (N := 2) ?hd (cs := #[.int .i64 a0_0, .int .i64 a0_1]) (t := 23) ?hr ?_; (case hd => rfl); (case hg => rfl); (case hr => first | (go_simp; done) | (go_simp; rfl)); intro gb176 hg w11 hbox hb; have BK176 := Aside0.mk (hbox); have GW176 : Aside0 (w.heap.size ≤ gb176) := gW hg; have GE176 := GW176; replace HB := Aside0.mk (below_step bB hb); clear hb hbox hg; have hcz12_0 := cZ BK176 0 (.int .i64 a0_0); have hcz12_1 := cZ BK176 1 (.int .i64 a0_1); have hfz12_0 := blk_frozen BK176.out 0; have hfz12_1 := blk_frozen BK176.out 1) | ((with_reducible refine gate_callee (f := 80) rfl ?_); refine goesL_ (some 6) rfl rfl Try.func80 (by kernel_rfl) rfl #[.agg #[.int .i64 a0_0, .int .i64 a0_1]] rfl lM ?_; (with_reducible refine (spec_whGood.calls a0_0 a0_1 false _ A3.out).mono ?_); rintro e w13 ⟨rfl, hb⟩; refine ⟨_, rfl, ?_⟩; replace BK176 := bW BK176 hb; replace HB := Aside0.mk (below_step bG hb); (try clear hb)))
  go_ret
  exact ⟨rE, bG⟩

/-! ### spec_whCode: function 46 -/
def spec_whCode.l0 : Nat → ByteArray → Int → Int → Int → Option (Bool)
 | 0, _, _, _, _ => none
 | k + 1, x1, x5, x180000, x180001 => if x5 < (x1.size : Int) then (if 0 ≤ x5 then ((spec_l1In.f (wrap64 ((wrap64 (bt x1 x5)) - 48)) 0 (wrap64 (x180001 - 1))).bind fun t180 => (if t180 = true then (spec_whCode.l0 k x1 (wrap64 (x5 + 1)) x180000 x180001) else (some false))) else (none)) else (some true)
def spec_whCode.f (k : Nat) (a0_0 : Int) (a0_1 : Int) (a1 : ByteArray) : Option (Bool) := if (a1.size : Int) = a0_0 then (spec_whCode.l0 k a1 0 a0_0 a0_1) else (some false)
theorem spec_whCode.mono_l : ∀ k, (∀ y0 y1 y2 y3, LeO (spec_whCode.l0 k y0 y1 y2 y3) (spec_whCode.l0 (k + 1) y0 y1 y2 y3))
 | 0 => fun _ _ _ _ r h => by simp [spec_whCode.l0] at h
 | k + 1 => by
  have ih0 := spec_whCode.mono_l k
  ·intro y0 y1 y2 y3
   unfold spec_whCode.l0
   repeat' first
   | (with_reducible first | exact ih0 _ _ _ _ | exact LeO.refl _ | exact LeO.none _ | refine LeO.ite ?_ ?_ | refine LeO.bind ?_ (fun _ => ?_))
   | exact ih0 _ _ _ _
   | exact LeO.none _
   | refine LeO.ite ?_ ?_
   | refine LeO.bind ?_ (fun _ => ?_)
theorem spec_whCode.mono : ∀ a0 a1 a2 k, LeO (spec_whCode.f k a0 a1 a2) (spec_whCode.f (k + 1) a0 a1 a2) := by
 intro a0 a1 a2 k
 have ih0 := spec_whCode.mono_l k
 unfold spec_whCode.f
 repeat' first
   | (with_reducible first | exact ih0 _ _ _ _ | exact LeO.refl _ | exact LeO.none _ | refine LeO.ite ?_ ?_ | refine LeO.bind ?_ (fun _ => ?_))
   | exact ih0 _ _ _ _
   | exact LeO.none _
   | refine LeO.ite ?_ ?_
   | refine LeO.bind ?_ (fun _ => ?_)
theorem spec_whCode.calls (k : Nat) (a0_0 : Int) (a0_1 : Int) (a1 : ByteArray) (r : Bool) (w : World) (h : spec_whCode.f k a0_0 a0_1 a1 = some r) :
  Calls Try.prog 46 #[.agg #[.int .i64 a0_0, .int .i64 a0_1], .string a1] w fun e w' => e = .returned (.bool r) ∧ Below w.heap.size w w' := by
 have hu23 := Try.underlying23
 have HB := Aside0.mk (Below.refl w.heap.size w)
 have H := h
 unfold spec_whCode.f at H
 clear h
 by_cases c3 : (a1.size : Int) = a0_0
 ·rw [if_pos c3] at H
  have c3b0 : ((a1.size : Int) == a0_0) = true := beq_iff_eq.mpr c3
  have c3b1 : ((a1.size : Int) != a0_0) = false := bne_eq_false_iff_eq.mpr c3
  clear c3
  have H' := Aside0.mk H
  clear H
  go_enter Try.func46, Try.ntmps46
  go_wp2_with (first | ((with_reducible refine gate_dst (N := 2) rfl ?_); refine box_event ?hg (N := 2) ?hd (cs := #[.int .i64 a0_0, .int .i64 a0_1]) (t := 23) ?hr ?_; (case hd => rfl); (case hg => rfl); (case hr => first | (go_simp; done) | (go_simp; rfl)); intro gb179 hg w4 hbox hb; have BK179 := Aside0.mk (hbox); have GW179 : Aside0 (w.heap.size ≤ gb179) := gW hg; have GE179 := GW179; replace HB := Aside0.mk (below_step bB hb); clear hb hbox hg; have hcz5_0 := cZ BK179 0 (.int .i64 a0_0); have hcz5_1 := cZ BK179 1 (.int .i64 a0_1); have hfz5_0 := blk_frozen BK179.out 0; have hfz5_1 := blk_frozen BK179.out 1))
  repeat (go_quiet (first | ((with_reducible refine gate_dst (N := 2) rfl ?_); refine box_event ?hg (N := 2) ?hd (cs := #[.int .i64 a0_0, .int .i64 a0_1]) (t := 23) ?hr ?_; (case hd => rfl); (case hg => rfl); (case hr => first | (go_simp; done) | (go_simp; rfl)); intro gb179 hg w4 hbox hb; have BK179 := Aside0.mk (hbox); have GW179 : Aside0 (w.heap.size ≤ gb179) := gW hg; have GE179 := GW179; replace HB := Aside0.mk (below_step bB hb); clear hb hbox hg; have hcz5_0 := cZ BK179 0 (.int .i64 a0_0); have hcz5_1 := cZ BK179 1 (.int .i64 a0_1); have hfz5_0 := blk_frozen BK179.out 0; have hfz5_1 := blk_frozen BK179.out 1)); try go_wp2_with (first | ((with_reducible refine gate_dst (N := 2) rfl ?_); refine box_event ?hg (N := 2) ?hd (cs := #[.int .i64 a0_0, .int .i64 a0_1]) (t := 23) ?hr ?_; (case hd => rfl); (case hg => rfl); (case hr => first | (go_simp; done) | (go_simp; rfl)); intro gb179 hg w4 hbox hb; have BK179 := Aside0.mk (hbox); have GW179 : Aside0 (w.heap.size ≤ gb179) := gW hg; have GE179 := GW179; replace HB := Aside0.mk (below_step bB hb); clear hb hbox hg; have hcz5_0 := cZ BK179 0 (.int .i64 a0_0); have hcz5_1 := cZ BK179 1 (.int .i64 a0_1); have hfz5_0 := blk_frozen BK179.out 0; have hfz5_1 := blk_frozen BK179.out 1)))
  go_loopg [5] k (fun kq v5 w' => ∃ (x5_1 : Int), v5 = .int .i64 x5_1 ∧ Aside0 (spec_whCode.l0 kq a1 x5_1 a0_0 a0_1 = some r) ∧ Aside0 (kq ≤ k) ∧ Aside0 (w'.heap[gb179]? = some (.cells #[.int .i64 a0_0, .int .i64 a0_1] 23 (0, 0))) ∧ Aside0 (Below w.heap.size w w'))
  case atStart => exact ⟨(0), fR, H', ⟨Nat.le_refl _⟩, ⟨bK⟩, ⟨bG⟩⟩
  case round =>
   clear H'
   try clear p2
   try clear c3
   try clear c3b0
   try clear c3b1
   try clear c4
   try clear hcz5_0
   try clear hcz5_1
   try clear hfz5_0
   try clear hfz5_1
   obtain ⟨x5_1, rfl, HA, HK1, BK179, HB⟩ := hrel
   cases gk with
   | zero => exact absurd HA.out (by simp [spec_whCode.l0])
   | succ k1 =>
    have H := HA.out
    clear HA
    simp only [spec_whCode.l0] at H
    by_cases c6 : x5_1 < (a1.size : Int)
    ·rw [if_pos c6] at H
     have c6b0 : decide (x5_1 < (a1.size : Int)) = true := decide_eq_true c6
     clear c6
     replace H := nz H; obtain ⟨c7, H⟩ := H
     have c7b0 : decide (0 ≤ x5_1) = true := decide_eq_true c7
     clear c7
     replace H := Option.bind_eq_some_iff.mp H
     obtain ⟨t180, A90, H⟩ := H
     (try dsimp only at H)
     have A9 := Aside0.mk A90
     clear A90
     by_cases c10 : t180 = true
     ·subst c10
      replace H := zt H
      have H' := Aside0.mk H
      clear H
      have p8 : 0 ≤ (x5_1 : Int) := oD
      have q8 : x5_1 < (a1.size : Int) := oD
      have hx8 := bt_at a1 x5_1
      replace p8 := eq_true p8
      replace q8 := eq_true q8
      have hcz11_0 := cZ BK179 0 (.int .i64 a0_0)
      have hcz11_1 := cZ BK179 1 (.int .i64 a0_1)
      have hfz11_0 := blk_frozen BK179.out 0
      have hfz11_1 := blk_frozen BK179.out 1
      go_wp2_with (first | (go_at_call 82; (with_reducible refine (spec_l1In.calls (wrap64 ((wrap64 (bt a1 x5_1)) - 48)) 0 (wrap64 (a0_1 - 1)) true _ A9.out).mono ?_); rintro e w' ⟨rfl, ⟨nd, rfl⟩⟩; (try first | exact ⟨rfl, _, World.drewN_drewN _ _ _⟩ | exact ⟨rfl, _, Eq.trans (World.drewN_drewN _ _ _) (congrArg (World.drewN _) (Nat.add_assoc _ _ _))⟩)))
      repeat (go_quiet (first | (go_at_call 82; (with_reducible refine (spec_l1In.calls (wrap64 ((wrap64 (bt a1 x5_1)) - 48)) 0 (wrap64 (a0_1 - 1)) true _ A9.out).mono ?_); rintro e w' ⟨rfl, ⟨nd, rfl⟩⟩; (try first | exact ⟨rfl, _, World.drewN_drewN _ _ _⟩ | exact ⟨rfl, _, Eq.trans (World.drewN_drewN _ _ _) (congrArg (World.drewN _) (Nat.add_assoc _ _ _))⟩))); try go_wp2_with (first | (go_at_call 82; (with_reducible refine (spec_l1In.calls (wrap64 ((wrap64 (bt a1 x5_1)) - 48)) 0 (wrap64 (a0_1 - 1)) true _ A9.out).mono ?_); rintro e w' ⟨rfl, ⟨nd, rfl⟩⟩; (try first | exact ⟨rfl, _, World.drewN_drewN _ _ _⟩ | exact ⟨rfl, _, Eq.trans (World.drewN_drewN _ _ _) (congrArg (World.drewN _) (Nat.add_assoc _ _ _))⟩))))
      go_roundg k1
      case measure => have := HK1.out; omega
      case rel => exact ⟨(wrap64 (x5_1 + 1)), fR, H', ⟨by have := HK1.out; omega⟩, ⟨bK⟩, ⟨bG⟩⟩
     ·replace c10 := Bool.eq_false_iff.mpr c10
      subst c10
      replace H := zf H
      obtain rfl := Option.some.inj H
      have p8 : 0 ≤ (x5_1 : Int) := oD
      have q8 : x5_1 < (a1.size : Int) := oD
      have hx8 := bt_at a1 x5_1
      replace p8 := eq_true p8
      replace q8 := eq_true q8
      have hcz12_0 := cZ BK179 0 (.int .i64 a0_0)
      have hcz12_1 := cZ BK179 1 (.int .i64 a0_1)
      have hfz12_0 := blk_frozen BK179.out 0
      have hfz12_1 := blk_frozen BK179.out 1
      go_wp2_with (first | (go_at_call 82; (with_reducible refine (spec_l1In.calls (wrap64 ((wrap64 (bt a1 x5_1)) - 48)) 0 (wrap64 (a0_1 - 1)) false _ A9.out).mono ?_); rintro e w' ⟨rfl, ⟨nd, rfl⟩⟩; (try first | exact ⟨rfl, _, World.drewN_drewN _ _ _⟩ | exact ⟨rfl, _, Eq.trans (World.drewN_drewN _ _ _) (congrArg (World.drewN _) (Nat.add_assoc _ _ _))⟩)))
      repeat (go_quiet (first | (go_at_call 82; (with_reducible refine (spec_l1In.calls (wrap64 ((wrap64 (bt a1 x5_1)) - 48)) 0 (wrap64 (a0_1 - 1)) false _ A9.out).mono ?_); rintro e w' ⟨rfl, ⟨nd, rfl⟩⟩; (try first | exact ⟨rfl, _, World.drewN_drewN _ _ _⟩ | exact ⟨rfl, _, Eq.trans (World.drewN_drewN _ _ _) (congrArg (World.drewN _) (Nat.add_assoc _ _ _))⟩))); try go_wp2_with (first | (go_at_call 82; (with_reducible refine (spec_l1In.calls (wrap64 ((wrap64 (bt a1 x5_1)) - 48)) 0 (wrap64 (a0_1 - 1)) false _ A9.out).mono ?_); rintro e w' ⟨rfl, ⟨nd, rfl⟩⟩; (try first | exact ⟨rfl, _, World.drewN_drewN _ _ _⟩ | exact ⟨rfl, _, Eq.trans (World.drewN_drewN _ _ _) (congrArg (World.drewN _) (Nat.add_assoc _ _ _))⟩))))
      go_ret
      exact ⟨rE, bG⟩
    ·rw [if_neg c6] at H
     have c6b0 : decide (x5_1 < (a1.size : Int)) = false := decide_eq_false c6
     clear c6
     obtain rfl := Option.some.inj H
     go_wp2
     repeat (go_quiet (fail); try go_wp2)
     go_ret
     exact ⟨rE, bG⟩
 ·rw [if_neg c3] at H
  have c3b0 : ((a1.size : Int) == a0_0) = false := beq_eq_false_iff_ne.mpr c3
  have c3b1 : ((a1.size : Int) != a0_0) = true := bne_iff_ne.mpr c3
  obtain rfl := Option.some.inj H
  go_enter Try.func46, Try.ntmps46
  go_wp2_with (first | ((with_reducible refine gate_dst (N := 2) rfl ?_); refine box_event ?hg (N := 2) ?hd (cs := #[.int .i64 a0_0, .int .i64 a0_1]) (t := 23) ?hr ?_; (case hd => rfl); (case hg => rfl); (case hr => first | (go_simp; done) | (go_simp; rfl)); intro gb179 hg w13 hbox hb; have BK179 := Aside0.mk (hbox); have GW179 : Aside0 (w.heap.size ≤ gb179) := gW hg; have GE179 := GW179; replace HB := Aside0.mk (below_step bB hb); clear hb hbox hg; have hcz14_0 := cZ BK179 0 (.int .i64 a0_0); have hcz14_1 := cZ BK179 1 (.int .i64 a0_1); have hfz14_0 := blk_frozen BK179.out 0; have hfz14_1 := blk_frozen BK179.out 1))
  repeat (go_quiet (first | ((with_reducible refine gate_dst (N := 2) rfl ?_); refine box_event ?hg (N := 2) ?hd (cs := #[.int .i64 a0_0, .int .i64 a0_1]) (t := 23) ?hr ?_; (case hd => rfl); (case hg => rfl); (case hr => first | (go_simp; done) | (go_simp; rfl)); intro gb179 hg w13 hbox hb; have BK179 := Aside0.mk (hbox); have GW179 : Aside0 (w.heap.size ≤ gb179) := gW hg; have GE179 := GW179; replace HB := Aside0.mk (below_step bB hb); clear hb hbox hg; have hcz14_0 := cZ BK179 0 (.int .i64 a0_0); have hcz14_1 := cZ BK179 1 (.int .i64 a0_1); have hfz14_0 := blk_frozen BK179.out 0; have hfz14_1 := blk_frozen BK179.out 1)); try go_wp2_with (first | ((with_reducible refine gate_dst (N := 2) rfl ?_); refine box_event ?hg (N := 2) ?hd (cs := #[.int .i64 a0_0, .int .i64 a0_1]) (t := 23) ?hr ?_; (case hd => rfl); (case hg => rfl); (case hr => first | (go_simp; done) | (go_simp; rfl)); intro gb179 hg w13 hbox hb; have BK179 := Aside0.mk (hbox); have GW179 : Aside0 (w.heap.size ≤ gb179) := gW hg; have GE179 := GW179; replace HB := Aside0.mk (below_step bB hb); clear hb hbox hg; have hcz14_0 := cZ BK179 0 (.int .i64 a0_0); have hcz14_1 := cZ BK179 1 (.int .i64 a0_1); have hfz14_0 := blk_frozen BK179.out 0; have hfz14_1 := blk_frozen BK179.out 1)))
  go_ret
  exact ⟨rE, bG⟩

/-! ### spec_HintOf: function 25 -/
def spec_HintOf.f (k : Nat) (a0_0 : Int) (a0_1 : Int) (a1 : ByteArray) (a2 : ByteArray) : Option (Int × Int × Bool) := (spec_hiLock.f k a0_0 a0_1 1000).bind fun t182 => (if t182 = true then ((spec_whCode.f k a0_0 a0_1 a1).bind fun t183 => (if t183 = true then ((spec_whCode.f k a0_0 a0_1 a2).bind fun t184 => (if t184 = true then ((spec_hiOf.f a1 a2).bind fun bt185 => (some (bt185.1, bt185.2, true))) else (some (0, 0, false)))) else (some (0, 0, false)))) else (some (0, 0, false)))
theorem spec_HintOf.mono : ∀ a0 a1 a2 a3 k, LeO (spec_HintOf.f k a0 a1 a2 a3) (spec_HintOf.f (k + 1) a0 a1 a2 a3) := by
 intro a0 a1 a2 a3 k
 unfold spec_HintOf.f
 repeat' first
   | (with_reducible first | exact spec_hiLock.mono _ _ _ _ | exact spec_whCode.mono _ _ _ _ | exact LeO.refl _ | exact LeO.none _ | refine LeO.ite ?_ ?_ | refine LeO.bind ?_ (fun _ => ?_))
   | exact spec_hiLock.mono _ _ _ _
   | exact spec_whCode.mono _ _ _ _
   | exact LeO.none _
   | refine LeO.ite ?_ ?_
   | refine LeO.bind ?_ (fun _ => ?_)
theorem spec_HintOf.calls (k : Nat) (a0_0 : Int) (a0_1 : Int) (a1 : ByteArray) (a2 : ByteArray) (r1 : Int) (r2 : Int) (r3 : Bool) (w : World) (h : spec_HintOf.f k a0_0 a0_1 a1 a2 = some (r1, r2, r3)) :
  Calls Try.prog 25 #[.agg #[.int .i64 a0_0, .int .i64 a0_1], .string a1, .string a2] w fun e w' => e = .returned (.tuple #[.int .i64 r1, .int .i64 r2, .bool r3]) ∧ Below w.heap.size w w' := by
 have hu23 := Try.underlying23
 have HB := Aside0.mk (Below.refl w.heap.size w)
 have H := h
 unfold spec_HintOf.f at H
 clear h
 replace H := Option.bind_eq_some_iff.mp H
 obtain ⟨t182, A40, H⟩ := H
 (try dsimp only at H)
 have A4 := Aside0.mk A40
 clear A40
 by_cases c5 : t182 = true
 ·subst c5
  replace H := zt H
  replace H := Option.bind_eq_some_iff.mp H
  obtain ⟨t183, A60, H⟩ := H
  (try dsimp only at H)
  have A6 := Aside0.mk A60
  clear A60
  by_cases c7 : t183 = true
  ·subst c7
   replace H := zt H
   replace H := Option.bind_eq_some_iff.mp H
   obtain ⟨t184, A80, H⟩ := H
   (try dsimp only at H)
   have A8 := Aside0.mk A80
   clear A80
   by_cases c9 : t184 = true
   ·subst c9
    replace H := zt H
    replace H := Option.bind_eq_some_iff.mp H
    obtain ⟨⟨t185, t186⟩, A100, H⟩ := H
    (try dsimp only at H)
    have A10 := Aside0.mk A100
    clear A100
    simp only [Option.some.injEq, Prod.mk.injEq] at H
    obtain ⟨rfl, rfl, rfl⟩ := H
    go_enter Try.func25, Try.ntmps25
    go_wp2_with (first | ((with_reducible refine gate_dst (N := 3) rfl ?_); refine box_event ?hg (N := 3) ?hd (cs := #[.int .i64 a0_0, .int .i64 a0_1]) (t := 23) ?hr ?_; (case hd => rfl); (case hg => rfl); (case hr => first | (go_simp; done) | (go_simp; rfl)); intro gb181 hg w11 hbox hb; have BK181 := Aside0.mk (hbox); have GW181 : Aside0 (w.heap.size ≤ gb181) := gW hg; have GE181 := GW181; replace HB := Aside0.mk (below_step bB hb); clear hb hbox hg; have hcz12_0 := cZ BK181 0 (.int .i64 a0_0); have hcz12_1 := cZ BK181 1 (.int .i64 a0_1); have hfz12_0 := blk_frozen BK181.out 0; have hfz12_1 := blk_frozen BK181.out 1) | ((with_reducible refine gate_callee (f := 45) rfl ?_); refine goesL_ (some 12) rfl rfl Try.func45 (by kernel_rfl) rfl #[.agg #[.int .i64 a0_0, .int .i64 a0_1], .int .i64 1000] rfl lM ?_; (with_reducible refine (spec_hiLock.calls k a0_0 a0_1 1000 true _ A4.out).mono ?_); rintro e w13 ⟨rfl, hb⟩; refine ⟨_, rfl, ?_⟩; replace BK181 := bW BK181 hb; replace HB := Aside0.mk (below_step bG hb); (try clear hb); have hcz14_0 := cZ BK181 0 (.int .i64 a0_0); have hcz14_1 := cZ BK181 1 (.int .i64 a0_1); have hfz14_0 := blk_frozen BK181.out 0; have hfz14_1 := blk_frozen BK181.out 1) | (go_at_call 46; (with_reducible refine (spec_whCode.calls k a0_0 a0_1 a1 true _ A6.out).mono ?_); rintro e w15 ⟨rfl, hb⟩; replace BK181 := bW BK181 hb; replace HB := Aside0.mk (below_step bG hb); (try clear hb); have hcz16_0 := cZ BK181 0 (.int .i64 a0_0); have hcz16_1 := cZ BK181 1 (.int .i64 a0_1); have hfz16_0 := blk_frozen BK181.out 0; have hfz16_1 := blk_frozen BK181.out 1) | (go_at_call 46; (with_reducible refine (spec_whCode.calls k a0_0 a0_1 a2 true _ A8.out).mono ?_); rintro e w17 ⟨rfl, hb⟩; replace BK181 := bW BK181 hb; replace HB := Aside0.mk (below_step bG hb); (try clear hb)) | ((with_reducible refine gate_callee (f := 66) rfl ?_); refine goesL_ (some 29) rfl rfl Try.func66 (by kernel_rfl) rfl #[.string a1, .string a2] rfl lM ?_; (with_reducible refine (spec_hiOf.calls a1 a2 t185 t186 _ A10.out).mono ?_); rintro e w18 ⟨rfl, hb⟩; refine ⟨_, rfl, ?_⟩; replace BK181 := bW BK181 hb; replace HB := Aside0.mk (below_step bG hb); (try clear hb)))
    go_ret3
    exact ⟨rE, bG⟩
   ·replace c9 := Bool.eq_false_iff.mpr c9
    subst c9
    replace H := zf H
    simp only [Option.some.injEq, Prod.mk.injEq] at H
    obtain ⟨rfl, rfl, rfl⟩ := H
    go_enter Try.func25, Try.ntmps25
    go_wp2_with (first | ((with_reducible refine gate_dst (N := 3) rfl ?_); refine box_event ?hg (N := 3) ?hd (cs := #[.int .i64 a0_0, .int .i64 a0_1]) (t := 23) ?hr ?_; (case hd => rfl); (case hg => rfl); (case hr => first | (go_simp; done) | (go_simp; rfl)); intro gb181 hg w19 hbox hb; have BK181 := Aside0.mk (hbox); have GW181 : Aside0 (w.heap.size ≤ gb181) := gW hg; have GE181 := GW181; replace HB := Aside0.mk (below_step bB hb); clear hb hbox hg; have hcz20_0 := cZ BK181 0 (.int .i64 a0_0); have hcz20_1 := cZ BK181 1 (.int .i64 a0_1); have hfz20_0 := blk_frozen BK181.out 0; have hfz20_1 := blk_frozen BK181.out 1) | ((with_reducible refine gate_callee (f := 45) rfl ?_); refine goesL_ (some 12) rfl rfl Try.func45 (by kernel_rfl) rfl #[.agg #[.int .i64 a0_0, .int .i64 a0_1], .int .i64 1000] rfl lM ?_; (with_reducible refine (spec_hiLock.calls k a0_0 a0_1 1000 true _ A4.out).mono ?_); rintro e w21 ⟨rfl, hb⟩; refine ⟨_, rfl, ?_⟩; replace BK181 := bW BK181 hb; replace HB := Aside0.mk (below_step bG hb); (try clear hb); have hcz22_0 := cZ BK181 0 (.int .i64 a0_0); have hcz22_1 := cZ BK181 1 (.int .i64 a0_1); have hfz22_0 := blk_frozen BK181.out 0; have hfz22_1 := blk_frozen BK181.out 1) | (go_at_call 46; (with_reducible refine (spec_whCode.calls k a0_0 a0_1 a1 true _ A6.out).mono ?_); rintro e w23 ⟨rfl, hb⟩; replace BK181 := bW BK181 hb; replace HB := Aside0.mk (below_step bG hb); (try clear hb); have hcz24_0 := cZ BK181 0 (.int .i64 a0_0); have hcz24_1 := cZ BK181 1 (.int .i64 a0_1); have hfz24_0 := blk_frozen BK181.out 0; have hfz24_1 := blk_frozen BK181.out 1) | (go_at_call 46; (with_reducible refine (spec_whCode.calls k a0_0 a0_1 a2 false _ A8.out).mono ?_); rintro e w25 ⟨rfl, hb⟩; replace BK181 := bW BK181 hb; replace HB := Aside0.mk (below_step bG hb); (try clear hb)))
    go_ret3
    exact ⟨rE, bG⟩
  ·replace c7 := Bool.eq_false_iff.mpr c7
   subst c7
   replace H := zf H
   simp only [Option.some.injEq, Prod.mk.injEq] at H
   obtain ⟨rfl, rfl, rfl⟩ := H
   go_enter Try.func25, Try.ntmps25
   go_wp2_with (first | ((with_reducible refine gate_dst (N := 3) rfl ?_); refine box_event ?hg (N := 3) ?hd (cs := #[.int .i64 a0_0, .int .i64 a0_1]) (t := 23) ?hr ?_; (case hd => rfl); (case hg => rfl); (case hr => first | (go_simp; done) | (go_simp; rfl)); intro gb181 hg w26 hbox hb; have BK181 := Aside0.mk (hbox); have GW181 : Aside0 (w.heap.size ≤ gb181) := gW hg; have GE181 := GW181; replace HB := Aside0.mk (below_step bB hb); clear hb hbox hg; have hcz27_0 := cZ BK181 0 (.int .i64 a0_0); have hcz27_1 := cZ BK181 1 (.int .i64 a0_1); have hfz27_0 := blk_frozen BK181.out 0; have hfz27_1 := blk_frozen BK181.out 1) | ((with_reducible refine gate_callee (f := 45) rfl ?_); refine goesL_ (some 12) rfl rfl Try.func45 (by kernel_rfl) rfl #[.agg #[.int .i64 a0_0, .int .i64 a0_1], .int .i64 1000] rfl lM ?_; (with_reducible refine (spec_hiLock.calls k a0_0 a0_1 1000 true _ A4.out).mono ?_); rintro e w28 ⟨rfl, hb⟩; refine ⟨_, rfl, ?_⟩; replace BK181 := bW BK181 hb; replace HB := Aside0.mk (below_step bG hb); (try clear hb); have hcz29_0 := cZ BK181 0 (.int .i64 a0_0); have hcz29_1 := cZ BK181 1 (.int .i64 a0_1); have hfz29_0 := blk_frozen BK181.out 0; have hfz29_1 := blk_frozen BK181.out 1) | (go_at_call 46; (with_reducible refine (spec_whCode.calls k a0_0 a0_1 a1 false _ A6.out).mono ?_); rintro e w30 ⟨rfl, hb⟩; replace BK181 := bW BK181 hb; replace HB := Aside0.mk (below_step bG hb); (try clear hb)))
   go_ret3
   exact ⟨rE, bG⟩
 ·replace c5 := Bool.eq_false_iff.mpr c5
  subst c5
  replace H := zf H
  simp only [Option.some.injEq, Prod.mk.injEq] at H
  obtain ⟨rfl, rfl, rfl⟩ := H
  go_enter Try.func25, Try.ntmps25
  go_wp2_with (first | ((with_reducible refine gate_dst (N := 3) rfl ?_); refine box_event ?hg (N := 3) ?hd (cs := #[.int .i64 a0_0, .int .i64 a0_1]) (t := 23) ?hr ?_; (case hd => rfl); (case hg => rfl); (case hr => first | (go_simp; done) | (go_simp; rfl)); intro gb181 hg w31 hbox hb; have BK181 := Aside0.mk (hbox); have GW181 : Aside0 (w.heap.size ≤ gb181) := gW hg; have GE181 := GW181; replace HB := Aside0.mk (below_step bB hb); clear hb hbox hg; have hcz32_0 := cZ BK181 0 (.int .i64 a0_0); have hcz32_1 := cZ BK181 1 (.int .i64 a0_1); have hfz32_0 := blk_frozen BK181.out 0; have hfz32_1 := blk_frozen BK181.out 1) | ((with_reducible refine gate_callee (f := 45) rfl ?_); refine goesL_ (some 12) rfl rfl Try.func45 (by kernel_rfl) rfl #[.agg #[.int .i64 a0_0, .int .i64 a0_1], .int .i64 1000] rfl lM ?_; (with_reducible refine (spec_hiLock.calls k a0_0 a0_1 1000 false _ A4.out).mono ?_); rintro e w33 ⟨rfl, hb⟩; refine ⟨_, rfl, ?_⟩; replace BK181 := bW BK181 hb; replace HB := Aside0.mk (below_step bG hb); (try clear hb)))
  go_ret3
  exact ⟨rE, bG⟩

/-! ### impl_FitsHints: function 26 -/
def impl_FitsHints.f (k : Nat) (a0_0 : Int) (a0_1 : Int) (l1 : List (S31)) (a2 : ByteArray) : Option (Bool × Bool) := (impl_areHints.f k a0_0 a0_1 l1).bind fun t188 => (if t188 = true then ((impl_has.f k a0_0 a0_1 (([a2] : List ByteArray))).bind fun t192 => (if t192 = true then ((impl_fits.f k l1 a2).bind fun t193 => (some (t193, true))) else (some (false, false)))) else (some (false, false)))
theorem impl_FitsHints.mono : ∀ a0 a1 a2 a3 k, LeO (impl_FitsHints.f k a0 a1 a2 a3) (impl_FitsHints.f (k + 1) a0 a1 a2 a3) := by
 intro a0 a1 a2 a3 k
 unfold impl_FitsHints.f
 repeat' first
   | (with_reducible first | exact impl_areHints.mono _ _ _ _ | exact impl_fits.mono _ _ _ | exact impl_has.mono _ _ _ _ | exact LeO.refl _ | exact LeO.none _ | refine LeO.ite ?_ ?_ | refine LeO.bind ?_ (fun _ => ?_))
   | exact impl_areHints.mono _ _ _ _
   | exact impl_fits.mono _ _ _
   | exact impl_has.mono _ _ _ _
   | exact LeO.none _
   | refine LeO.ite ?_ ?_
   | refine LeO.bind ?_ (fun _ => ?_)
theorem impl_FitsHints.calls (k : Nat) (a0_0 : Int) (a0_1 : Int) (A1 : Option Addr) (c1 : Nat) (l1 : List (S31)) (a2 : ByteArray) (r1 : Bool) (r2 : Bool) (w : World) (hr1 : Kd.C k31 w A1 l1.length l1) (hc1 : l1.length ≤ c1) (h : impl_FitsHints.f k a0_0 a0_1 l1 a2 = some (r1, r2)) :
  Calls Try.prog 26 #[.agg #[.int .i64 a0_0, .int .i64 a0_1], .slice A1 l1.length c1, .string a2] w fun e w' => e = .returned (.tuple #[.bool r1, .bool r2]) ∧ Below w.heap.size w w' := by
 have hu23 := Try.underlying23
 have HR1 := Aside0.mk hr1
 have HC1 := Aside0.mk hc1
 clear hr1 hc1
 have HB := Aside0.mk (Below.refl w.heap.size w)
 have H := h
 unfold impl_FitsHints.f at H
 clear h
 replace H := Option.bind_eq_some_iff.mp H
 obtain ⟨t188, A40, H⟩ := H
 (try dsimp only at H)
 have A4 := Aside0.mk A40
 clear A40
 by_cases c5 : t188 = true
 ·subst c5
  replace H := zt H
  obtain ⟨y189, hy189⟩ : ∃ y_ : List ByteArray, y_ = (([a2] : List ByteArray)) := ⟨_, rfl⟩
  replace H : ((impl_has.f k a0_0 a0_1 y189).bind fun t192 => (if t192 = true then ((impl_fits.f k l1 a2).bind fun t193 => (some (t193, true))) else (some (false, false)))) = some (r1, r2) := hZ hy189 H
  have Ny189 := Aside0.mk hy189
  clear hy189
  replace H := Option.bind_eq_some_iff.mp H
  obtain ⟨t192, A60, H⟩ := H
  (try dsimp only at H)
  have A6 := Aside0.mk A60
  clear A60
  by_cases c7 : t192 = true
  ·subst c7
   replace H := zt H
   replace H := Option.bind_eq_some_iff.mp H
   obtain ⟨t193, A80, H⟩ := H
   (try dsimp only at H)
   have A8 := Aside0.mk A80
   clear A80
   simp only [Option.some.injEq, Prod.mk.injEq] at H
   obtain ⟨rfl, rfl⟩ := H
   go_enter Try.func26, Try.ntmps26
   go_wp2_with (first | ((with_reducible refine gate_dst (N := 3) rfl ?_); (try (refine gate_guard (by rfl) ?_; dsimp only)); refine box_event ?hg (N := 3) ?hd (cs := #[.int .i64 a0_0, .int .i64 a0_1]) (t := 23) ?hr ?_; (case hd => rfl); (case hg => rfl); (case hr => first | (go_simp; done) | (go_simp; rfl)); intro gb187 hg w9 hbox hb; have BK187 := Aside0.mk (hbox); have GW187 : Aside0 (w.heap.size ≤ gb187) := gW hg; have GE187 := GW187; replace HB := Aside0.mk (below_step bB hb); clear hb hbox hg; have hcz10_0 := cZ BK187 0 (.int .i64 a0_0); have hcz10_1 := cZ BK187 1 (.int .i64 a0_1); have hfz10_0 := blk_frozen BK187.out 0; have hfz10_1 := blk_frozen BK187.out 1) | ((with_reducible refine gate_callee (f := 49) rfl ?_); refine goesL_ (some 10) rfl rfl Try.func49 (by kernel_rfl) rfl #[.agg #[.int .i64 a0_0, .int .i64 a0_1], .slice A1 l1.length c1] rfl lM ?_; (with_reducible refine (impl_areHints.calls k a0_0 a0_1 _ _ l1 true _ ?side1 ?side2 A4.out).mono ?_); (case side1 => exact cS (Kd.C_below HR1.out HB.out)); (case side2 => exact HC1.out); rintro e w11 ⟨rfl, hb⟩; refine ⟨_, rfl, ?_⟩; replace BK187 := bW BK187 hb; replace HB := Aside0.mk (below_step bG hb); (try clear hb); have hcz12_0 := cZ BK187 0 (.int .i64 a0_0); have hcz12_1 := cZ BK187 1 (.int .i64 a0_1); have hfz12_0 := blk_frozen BK187.out 0; have hfz12_1 := blk_frozen BK187.out 1) | ((with_reducible refine gate_dst (N := 15) rfl ?_); (try (refine gate_guard (by rfl) ?_; dsimp only)); refine Kd.R_lit Kd.string _ 9 ?hg (N := 15) ?hd (xs := ([a2] : List ByteArray)) (inner := [.string a2]) (ok := fun _ => True) (okp := fun _ => True) ?hr ?hp (fun _ hk => hk) trivial (Below.refl _ _) (Nat.le_refl _) (by simp) ?_; (case hd => rfl); (case hg => rfl); (case hr => first | (go_simp; done) | (go_simp; rfl)); (case hp => exact (Reps.one (show Kd.M Kd.string _ _ _ a2 [.string a2] from rfl) (Reps.none _ _))); intro v190 w13 ho14 hb hg_ hnew_; clear hg_ hnew_; (first | rw [← Ny189.out] at ho14 | (simp only [Int.reduceToNat] at ho14; rw [← Ny189.out] at ho14)); have HO191 := Aside0.mk (Kd.R_lower ho14 (below_size bG)); replace BK187 := bW BK187 hb; replace HB := Aside0.mk (below_step bG hb); clear hb ho14; obtain ⟨Ao15, co15, eo15⟩ := Kd.R_slice HO191.out; subst eo15) | (go_at_call 67; (with_reducible refine (impl_has.calls k a0_0 a0_1 _ _ y189 true _ ?side1 ?side2 A6.out).mono ?_); (case side1 => exact cS ((Kd.R_reads' HO191.out).2.2)); (case side2 => exact (Kd.R_reads' HO191.out).2.1); rintro e w16 ⟨rfl, hb⟩; replace HO191 := Aside0.mk (Kd.R_below (kR HO191) hb); replace BK187 := bW BK187 hb; replace HB := Aside0.mk (below_step bG hb); (try clear hb)) | ((with_reducible refine gate_callee (f := 68) rfl ?_); refine goesL_ (some 21) rfl rfl Try.func68 (by kernel_rfl) rfl #[.slice A1 l1.length c1, .string a2] rfl lM ?_; (with_reducible refine (impl_fits.calls k _ _ l1 a2 t193 _ ?side1 ?side2 A8.out).mono ?_); (case side1 => exact cS (Kd.C_below HR1.out HB.out)); (case side2 => exact HC1.out); rintro e w17 ⟨rfl, hb⟩; refine ⟨_, rfl, ?_⟩; replace HO191 := Aside0.mk (Kd.R_below (kR HO191) hb); replace BK187 := bW BK187 hb; replace HB := Aside0.mk (below_step bG hb); (try clear hb)))
   go_ret2
   exact ⟨rE, bG⟩
  ·replace c7 := Bool.eq_false_iff.mpr c7
   subst c7
   replace H := zf H
   simp only [Option.some.injEq, Prod.mk.injEq] at H
   obtain ⟨rfl, rfl⟩ := H
   go_enter Try.func26, Try.ntmps26
   go_wp2_with (first | ((with_reducible refine gate_dst (N := 3) rfl ?_); (try (refine gate_guard (by rfl) ?_; dsimp only)); refine box_event ?hg (N := 3) ?hd (cs := #[.int .i64 a0_0, .int .i64 a0_1]) (t := 23) ?hr ?_; (case hd => rfl); (case hg => rfl); (case hr => first | (go_simp; done) | (go_simp; rfl)); intro gb187 hg w18 hbox hb; have BK187 := Aside0.mk (hbox); have GW187 : Aside0 (w.heap.size ≤ gb187) := gW hg; have GE187 := GW187; replace HB := Aside0.mk (below_step bB hb); clear hb hbox hg; have hcz19_0 := cZ BK187 0 (.int .i64 a0_0); have hcz19_1 := cZ BK187 1 (.int .i64 a0_1); have hfz19_0 := blk_frozen BK187.out 0; have hfz19_1 := blk_frozen BK187.out 1) | ((with_reducible refine gate_callee (f := 49) rfl ?_); refine goesL_ (some 10) rfl rfl Try.func49 (by kernel_rfl) rfl #[.agg #[.int .i64 a0_0, .int .i64 a0_1], .slice A1 l1.length c1] rfl lM ?_; (with_reducible refine (impl_areHints.calls k a0_0 a0_1 _ _ l1 true _ ?side1 ?side2 A4.out).mono ?_); (case side1 => exact cS (Kd.C_below HR1.out HB.out)); (case side2 => exact HC1.out); rintro e w20 ⟨rfl, hb⟩; refine ⟨_, rfl, ?_⟩; replace BK187 := bW BK187 hb; replace HB := Aside0.mk (below_step bG hb); (try clear hb); have hcz21_0 := cZ BK187 0 (.int .i64 a0_0); have hcz21_1 := cZ BK187 1 (.int .i64 a0_1); have hfz21_0 := blk_frozen BK187.out 0; have hfz21_1 := blk_frozen BK187.out 1) | ((with_reducible refine gate_dst (N := 15) rfl ?_); (try (refine gate_guard (by rfl) ?_; dsimp only)); refine Kd.R_lit Kd.string _ 9 ?hg (N := 15) ?hd (xs := ([a2] : List ByteArray)) (inner := [.string a2]) (ok := fun _ => True) (okp := fun _ => True) ?hr ?hp (fun _ hk => hk) trivial (Below.refl _ _) (Nat.le_refl _) (by simp) ?_; (case hd => rfl); (case hg => rfl); (case hr => first | (go_simp; done) | (go_simp; rfl)); (case hp => exact (Reps.one (show Kd.M Kd.string _ _ _ a2 [.string a2] from rfl) (Reps.none _ _))); intro v190 w22 ho23 hb hg_ hnew_; clear hg_ hnew_; (first | rw [← Ny189.out] at ho23 | (simp only [Int.reduceToNat] at ho23; rw [← Ny189.out] at ho23)); have HO191 := Aside0.mk (Kd.R_lower ho23 (below_size bG)); replace BK187 := bW BK187 hb; replace HB := Aside0.mk (below_step bG hb); clear hb ho23; obtain ⟨Ao24, co24, eo24⟩ := Kd.R_slice HO191.out; subst eo24) | (go_at_call 67; (with_reducible refine (impl_has.calls k a0_0 a0_1 _ _ y189 false _ ?side1 ?side2 A6.out).mono ?_); (case side1 => exact cS ((Kd.R_reads' HO191.out).2.2)); (case side2 => exact (Kd.R_reads' HO191.out).2.1); rintro e w25 ⟨rfl, hb⟩; replace HO191 := Aside0.mk (Kd.R_below (kR HO191) hb); replace BK187 := bW BK187 hb; replace HB := Aside0.mk (below_step bG hb); (try clear hb)))
   go_ret2
   exact ⟨rE, bG⟩
 ·replace c5 := Bool.eq_false_iff.mpr c5
  subst c5
  replace H := zf H
  simp only [Option.some.injEq, Prod.mk.injEq] at H
  obtain ⟨rfl, rfl⟩ := H
  go_enter Try.func26, Try.ntmps26
  go_wp2_with (first | ((with_reducible refine gate_dst (N := 3) rfl ?_); (try (refine gate_guard (by rfl) ?_; dsimp only)); refine box_event ?hg (N := 3) ?hd (cs := #[.int .i64 a0_0, .int .i64 a0_1]) (t := 23) ?hr ?_; (case hd => rfl); (case hg => rfl); (case hr => first | (go_simp; done) | (go_simp; rfl)); intro gb187 hg w26 hbox hb; have BK187 := Aside0.mk (hbox); have GW187 : Aside0 (w.heap.size ≤ gb187) := gW hg; have GE187 := GW187; replace HB := Aside0.mk (below_step bB hb); clear hb hbox hg; have hcz27_0 := cZ BK187 0 (.int .i64 a0_0); have hcz27_1 := cZ BK187 1 (.int .i64 a0_1); have hfz27_0 := blk_frozen BK187.out 0; have hfz27_1 := blk_frozen BK187.out 1) | ((with_reducible refine gate_callee (f := 49) rfl ?_); refine goesL_ (some 10) rfl rfl Try.func49 (by kernel_rfl) rfl #[.agg #[.int .i64 a0_0, .int .i64 a0_1], .slice A1 l1.length c1] rfl lM ?_; (with_reducible refine (impl_areHints.calls k a0_0 a0_1 _ _ l1 false _ ?side1 ?side2 A4.out).mono ?_); (case side1 => exact cS (Kd.C_below HR1.out HB.out)); (case side2 => exact HC1.out); rintro e w28 ⟨rfl, hb⟩; refine ⟨_, rfl, ?_⟩; replace BK187 := bW BK187 hb; replace HB := Aside0.mk (below_step bG hb); (try clear hb)))
  go_ret2
  exact ⟨rE, bG⟩

/-! ### cmp_Or_int: function 56 -/
def orI (x y : Int) : Int := if x ≠ 0 then x else y
set_option maxHeartbeats 4000000 in
set_option maxRecDepth 100000 in
theorem orI_calls (g c : Nat) (x y : Int) (w : World) (h0 : w.cell? ⟨g, 0, none⟩ = some (.int .i64 x)) (h1 : w.cell? ⟨g, 1, none⟩ = some (.int .i64 y)) :
  Calls Try.prog 56 #[.slice (some ⟨g, 0, none⟩) 2 c] w fun e w' => e = .returned (.int .i64 (orI x y)) ∧ w' = w := by
 go_enter Try.func56, Try.ntmps56
 go_wp2
 go_loopg [8] 2 (fun gg v8 wr => wr = w ∧ ((v8 = .int .i64 0 ∧ 2 ≤ gg) ∨ (v8 = .int .i64 1 ∧ x = 0 ∧ 1 ≤ gg) ∨ (v8 = .int .i64 2 ∧ x = 0 ∧ y = 0)))
 case atStart => exact ⟨rfl, .inl ⟨rfl, Nat.le_refl _⟩⟩
 case round =>
  obtain ⟨rfl, h⟩ := hrel
  rcases h with ⟨rfl, hg⟩ | ⟨rfl, hx, hg⟩ | ⟨rfl, hx, hy⟩
  ·by_cases hx : x = 0
   ·have hb : (x != 0) = false := by simp [hx]
    have HX := Aside0.mk hx
    clear hx
    go_wp2
    go_roundg 1
    case measure => omega
    case rel => exact ⟨rfl, .inr (.inl ⟨rfl, HX.out, Nat.le_refl _⟩)⟩
   ·have hb : (x != 0) = true := by simp [hx]
    have HX := Aside0.mk hx
    clear hx
    go_wp2
    go_ret
    exact ⟨by rw [show orI x y = x from if_pos HX.out]; rfl, rfl⟩
  ·have HX := Aside0.mk hx
   clear hx
   by_cases hy : y = 0
   ·have hb : (y != 0) = false := by simp [hy]
    have HY := Aside0.mk hy
    clear hy
    go_wp2
    go_roundg 0
    case measure => omega
    case rel => exact ⟨rfl, .inr (.inr ⟨rfl, HX.out, HY.out⟩)⟩
   ·have hb : (y != 0) = true := by simp [hy]
    clear hy
    go_wp2
    go_ret
    exact ⟨by rw [show orI x y = y from if_neg (fun h => h HX.out)]; rfl, rfl⟩
  ·have HX := Aside0.mk hx
   have HY := Aside0.mk hy
   clear hx hy
   go_wp2
   go_ret
   exact ⟨by rw [show orI x y = y from if_neg (fun h => h HX.out), HY.out]; rfl, rfl⟩


/-! ### cmp_Compare_int: function 57 -/
set_option maxHeartbeats 1000000 in
theorem cmpI_calls (x y : Int) (w : World) : Calls Try.prog 57 #[.int .i64 x, .int .i64 y] w fun e w' => e = .returned (.int .i64 (Lib.compareInt x y)) ∧ w' = w := by
 go_enter Try.func57, Try.ntmps57
 go_wp2
 all_goals (go_ret; refine ⟨?_, rfl⟩; unfold Lib.compareInt; (repeat' split) <;> first | rfl | (exfalso; omega))


/-! ### impl_PossibleHints_1: function 55 -/
def lexI (p o q r : Int) : Int := orI (Lib.compareInt p q) (Lib.compareInt o r)
set_option maxHeartbeats 4000000 in
set_option maxRecDepth 100000 in
theorem ph1_calls (g1 g2 c1 c2 : Nat) (p o q r : Int) (w : World) (h0 : w.cell? ⟨g1, 0, none⟩ = some (.int .i64 p)) (h1 : w.cell? ⟨g1, 1, none⟩ = some (.int .i64 o)) (h2 : w.cell? ⟨g2, 0, none⟩ = some (.int .i64 q)) (h3 : w.cell? ⟨g2, 1, none⟩ = some (.int .i64 r)) :
  Calls Try.prog 55 #[.slice (some ⟨g1, 0, none⟩) 2 c1, .slice (some ⟨g2, 0, none⟩) 2 c2] w fun e w' => e = .returned (.int .i64 (lexI p o q r)) ∧ ∃ n os, w' = Sort.grow (w.drewN n) os := by
 go_enter Try.func55, Try.ntmps55
 go_wp2
 go_region_held3 (fun w' => w'.cell? ⟨g1, 0, none⟩ = some (.int .i64 p) ∧ w'.cell? ⟨g1, 1, none⟩ = some (.int .i64 o) ∧ w'.cell? ⟨g2, 0, none⟩ = some (.int .i64 q) ∧ w'.cell? ⟨g2, 1, none⟩ = some (.int .i64 r)) (first | go_keep)
  (first | (go_at_call 57; refine (cmpI_calls _ _ _).mono ?_; rintro e w' ⟨rfl, rfl⟩) | (go_at_call 56; refine (orI_calls _ _ (Lib.compareInt p q) (Lib.compareInt o r) _ ?ha ?hb).mono ?_; (case ha => simp); (case hb => simp); rintro e w' ⟨rfl, rfl⟩))
 go_wp2
 go_ret
 exact ⟨rfl, 1, #[.cells #[.int .i64 (Lib.compareInt p q), .int .i64 (Lib.compareInt o r)] 3 (0, 0)], by rw [← Sort.alloc_eq_grow]; rfl⟩


end Go.Proofs.Ytcpnmiempaofdaa.F
