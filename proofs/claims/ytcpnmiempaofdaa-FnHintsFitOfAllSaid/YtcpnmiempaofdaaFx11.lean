-- Printed by hp.py, a program of this session: a machine's side of laws, out of the translation; Lean checks it.
import Derived.Test.YtcpnmiempaofdaaFx0
import Derived.Test.YtcpnmiempaofdaaFx1
import Derived.Test.YtcpnmiempaofdaaFx2
import Derived.Test.YtcpnmiempaofdaaFx3
import Derived.Test.YtcpnmiempaofdaaFx4
import Derived.Test.YtcpnmiempaofdaaFx8
import Derived.Test.YtcpnmiempaofdaaFx9
import Derived.Test.YtcpnmiempaofdaaFx10
namespace Go.Proofs.Ytcpnmiempaofdaa.F
open Go.RowKit Go.Proofs.YtcpnmiempaofdaaW.PrintWords Go.Proofs.YtcpnmiempaofdaaW.PrintLast Go.Proofs.YtcpnmiempaofdaaW.PrintMore
attribute [local go_sem] max2_int min2_int max_two min_two max_three min_three max_four min_four   -- for this text's walks alone
set_option maxHeartbeats 8000000
set_option maxRecDepth 100000
set_option linter.unusedVariables false
set_option linter.unusedSimpArgs false

/-! ### impl_BestGuess: function 33 -/
mutual
def impl_BestGuess.j0 : Nat → List (S31) → Bool → Int → Int → Option (ByteArray × Int × Bool)
 | 0, _, _, _, _ => none
 | k + 1, x1, x21, x304000, x304001 => if x21 = true then (some ((⟨#[]⟩ : ByteArray), 0, false)) else ((impl_Lock_fitting.f k x304000 x304001 x1).bind fun t306 => (if (t306.length : Int) = 0 then (some ((⟨#[]⟩ : ByteArray), 0, false)) else ((impl_Lock_count.f k x304000 x304001).bind fun t309 => ((impl_Lock_count.f k x304000 x304001).bind fun t310 => (impl_BestGuess.l0 k t306 (⟨#[]⟩ : ByteArray) (wrap64 (t309 + 1)) t310 0 x304000 x304001)))))
def impl_BestGuess.l0 : Nat → List ByteArray → ByteArray → Int → Int → Int → Int → Int → Option (ByteArray × Int × Bool)
 | 0, _, _, _, _, _, _, _ => none
 | k + 1, x7, x8, x9, x32, x33, x304000, x304001 => if x33 < x32 then ((impl_Lock_code.f k x304000 x304001 x33).bind fun t311 => ((impl_worst.f k x7 t311).bind fun t312 => (if t312 < x9 then (impl_BestGuess.l0 k x7 t311 t312 x32 (wrap64 (x33 + 1)) x304000 x304001) else (impl_BestGuess.l0 k x7 x8 x9 x32 (wrap64 (x33 + 1)) x304000 x304001)))) else (some (x8, x9, true))
end
def impl_BestGuess.f (k : Nat) (a0_0 : Int) (a0_1 : Int) (l1 : List (S31)) : Option (ByteArray × Int × Bool) := (impl_isSmall.f k a0_0 a0_1 256).bind fun t304 => (if t304 = true then ((impl_areHints.f k a0_0 a0_1 l1).bind fun t305 => (impl_BestGuess.j0 k l1 (!t305) a0_0 a0_1)) else (impl_BestGuess.j0 k l1 true a0_0 a0_1))
theorem impl_BestGuess.mono_l : ∀ k, (∀ y0 y1 y2 y3, LeO (impl_BestGuess.j0 k y0 y1 y2 y3) (impl_BestGuess.j0 (k + 1) y0 y1 y2 y3)) ∧ (∀ y0 y1 y2 y3 y4 y5 y6, LeO (impl_BestGuess.l0 k y0 y1 y2 y3 y4 y5 y6) (impl_BestGuess.l0 (k + 1) y0 y1 y2 y3 y4 y5 y6))
 | 0 => ⟨fun _ _ _ _ r h => by simp [impl_BestGuess.j0] at h, fun _ _ _ _ _ _ _ r h => by simp [impl_BestGuess.l0] at h⟩
 | k + 1 => by
  obtain ⟨ih0, ih1⟩ := impl_BestGuess.mono_l k
  refine ⟨?_, ?_⟩
  intro y0 y1 y2 y3; unfold impl_BestGuess.j0; rotate_left
  intro y0 y1 y2 y3 y4 y5 y6; unfold impl_BestGuess.l0; rotate_left
  all_goals repeat' first
  | (with_reducible first | exact ih0 _ _ _ _ | exact ih1 _ _ _ _ _ _ _ | exact impl_Lock_code.mono _ _ _ _ | exact impl_Lock_count.mono _ _ _ | exact impl_Lock_fitting.mono _ _ _ _ | exact impl_areHints.mono _ _ _ _ | exact impl_isSmall.mono _ _ _ _ | exact impl_worst.mono _ _ _ | exact LeO.refl _ | exact LeO.none _ | refine LeO.ite ?_ ?_ | refine LeO.bind ?_ (fun _ => ?_))
  | exact ih0 _ _ _ _
  | exact ih1 _ _ _ _ _ _ _
  | exact impl_Lock_code.mono _ _ _ _
  | exact impl_Lock_count.mono _ _ _
  | exact impl_Lock_fitting.mono _ _ _ _
  | exact impl_areHints.mono _ _ _ _
  | exact impl_isSmall.mono _ _ _ _
  | exact impl_worst.mono _ _ _
  | exact LeO.none _
  | refine LeO.ite ?_ ?_
  | refine LeO.bind ?_ (fun _ => ?_)
theorem impl_BestGuess.mono : ∀ a0 a1 a2 k, LeO (impl_BestGuess.f k a0 a1 a2) (impl_BestGuess.f (k + 1) a0 a1 a2) := by
 intro a0 a1 a2 k
 obtain ⟨ih0, ih1⟩ := impl_BestGuess.mono_l k
 unfold impl_BestGuess.f
 repeat' first
   | (with_reducible first | exact ih0 _ _ _ _ | exact ih1 _ _ _ _ _ _ _ | exact impl_Lock_code.mono _ _ _ _ | exact impl_Lock_count.mono _ _ _ | exact impl_Lock_fitting.mono _ _ _ _ | exact impl_areHints.mono _ _ _ _ | exact impl_isSmall.mono _ _ _ _ | exact impl_worst.mono _ _ _ | exact LeO.refl _ | exact LeO.none _ | refine LeO.ite ?_ ?_ | refine LeO.bind ?_ (fun _ => ?_))
   | exact ih0 _ _ _ _
   | exact ih1 _ _ _ _ _ _ _
   | exact impl_Lock_code.mono _ _ _ _
   | exact impl_Lock_count.mono _ _ _
   | exact impl_Lock_fitting.mono _ _ _ _
   | exact impl_areHints.mono _ _ _ _
   | exact impl_isSmall.mono _ _ _ _
   | exact impl_worst.mono _ _ _
   | exact LeO.none _
   | refine LeO.ite ?_ ?_
   | refine LeO.bind ?_ (fun _ => ?_)
theorem impl_BestGuess.calls (k : Nat) (a0_0 : Int) (a0_1 : Int) (A1 : Option Addr) (c1 : Nat) (l1 : List (S31)) (r1 : ByteArray) (r2 : Int) (r3 : Bool) (w : World) (hr1 : Kd.C k31 w A1 l1.length l1) (hc1 : l1.length ≤ c1) (h : impl_BestGuess.f k a0_0 a0_1 l1 = some (r1, r2, r3)) :
  Calls Try.prog 33 #[.agg #[.int .i64 a0_0, .int .i64 a0_1], .slice A1 l1.length c1] w fun e w' => e = .returned (.tuple #[.string r1, .int .i64 r2, .bool r3]) ∧ Below w.heap.size w w' := by
 have hu23 := Try.underlying23
 have HR1 := Aside0.mk hr1
 have HC1 := Aside0.mk hc1
 clear hr1 hc1
 have HB := Aside0.mk (Below.refl w.heap.size w)
 have H := h
 unfold impl_BestGuess.f at H
 clear h
 have HC3 := Aside0.mk H
 clear H
 go_enter Try.func33, Try.ntmps33
 go_upto_region 1 with (first | ((with_reducible refine gate_dst (N := 2) rfl ?_); refine box_event ?hg (N := 2) ?hd (cs := #[.int .i64 a0_0, .int .i64 a0_1]) (t := 23) ?hr ?_; (case hd => rfl); (case hg => rfl); (case hr => first | (go_simp; done) | (go_simp; rfl)); intro gb303 hg w4 hbox hb; have BK303 := Aside0.mk (hbox); have GW303 : Aside0 (w.heap.size ≤ gb303) := gW hg; have GE303 := GW303; replace HB := Aside0.mk (below_step bB hb); clear hb hbox hg))
 (try simp only [Act.put, List.setIfInBounds_toArray, List.set_cons_zero, List.set_cons_succ])
 go_cut [21] (fun v21 wc => ∃ (kq : Nat) (x21_2 : Bool), v21 = .bool x21_2 ∧ Aside0 (impl_BestGuess.j0 kq l1 x21_2 a0_0 a0_1 = some (r1, r2, r3)) ∧ Aside0 (kq ≤ k) ∧ Aside0 (wc.heap[gb303]? = some (.cells #[.int .i64 a0_0, .int .i64 a0_1] 23 (0, 0))) ∧ Aside0 (Below w.heap.size w wc))
 case first =>
  have H := HC3.out
  clear HC3
  replace H := Option.bind_eq_some_iff.mp H
  obtain ⟨t304, A50, H⟩ := H
  (try dsimp only at H)
  have A5 := Aside0.mk A50
  clear A50
  by_cases c6 : t304 = true
  ·subst c6
   replace H := zt H
   replace H := Option.bind_eq_some_iff.mp H
   obtain ⟨t305, A70, H⟩ := H
   (try dsimp only at H)
   have A7 := Aside0.mk A70
   clear A70
   have H' := Aside0.mk H
   clear H
   have hcz8_0 := cZ BK303 0 (.int .i64 a0_0)
   have hcz8_1 := cZ BK303 1 (.int .i64 a0_1)
   have hfz8_0 := blk_frozen BK303.out 0
   have hfz8_1 := blk_frozen BK303.out 1
   go_wp2_with (first | ((with_reducible refine gate_callee (f := 51) rfl ?_); refine goesL_ (some 14) rfl rfl Try.func51 (by kernel_rfl) rfl #[.agg #[.int .i64 a0_0, .int .i64 a0_1], .int .i64 256] rfl lM ?_; (with_reducible refine (impl_isSmall.calls k a0_0 a0_1 256 true _ A5.out).mono ?_); rintro e w9 ⟨rfl, hb⟩; refine ⟨_, rfl, ?_⟩; replace BK303 := bW BK303 hb; replace HB := Aside0.mk (below_step bG hb); (try clear hb); have hcz10_0 := cZ BK303 0 (.int .i64 a0_0); have hcz10_1 := cZ BK303 1 (.int .i64 a0_1); have hfz10_0 := blk_frozen BK303.out 0; have hfz10_1 := blk_frozen BK303.out 1) | (go_at_call 49; (with_reducible refine (impl_areHints.calls k a0_0 a0_1 _ _ l1 t305 _ ?side1 ?side2 A7.out).mono ?_); (case side1 => exact cS (Kd.C_below HR1.out HB.out)); (case side2 => exact HC1.out); rintro e w11 ⟨rfl, hb⟩; replace BK303 := bW BK303 hb; replace HB := Aside0.mk (below_step bG hb); (try clear hb)))
   go_meet
   case rel => exact ⟨_, (!t305), fR, H', ⟨by first | omega | exact Nat.le_refl _⟩, ⟨bK⟩, ⟨bG⟩⟩
  ·replace c6 := Bool.eq_false_iff.mpr c6
   subst c6
   replace H := zf H
   have H' := Aside0.mk H
   clear H
   have hcz12_0 := cZ BK303 0 (.int .i64 a0_0)
   have hcz12_1 := cZ BK303 1 (.int .i64 a0_1)
   have hfz12_0 := blk_frozen BK303.out 0
   have hfz12_1 := blk_frozen BK303.out 1
   go_wp2_with (first | ((with_reducible refine gate_callee (f := 51) rfl ?_); refine goesL_ (some 14) rfl rfl Try.func51 (by kernel_rfl) rfl #[.agg #[.int .i64 a0_0, .int .i64 a0_1], .int .i64 256] rfl lM ?_; (with_reducible refine (impl_isSmall.calls k a0_0 a0_1 256 false _ A5.out).mono ?_); rintro e w13 ⟨rfl, hb⟩; refine ⟨_, rfl, ?_⟩; replace BK303 := bW BK303 hb; replace HB := Aside0.mk (below_step bG hb); (try clear hb)))
   go_meet
   case rel => exact ⟨_, (true), fR, H', ⟨by first | omega | exact Nat.le_refl _⟩, ⟨bK⟩, ⟨bG⟩⟩
 case rest =>
  clear HC3
  try clear c1
  try clear p2
  try clear c3
  try clear c5
  try clear c6
  try clear hcz10_0
  try clear hcz10_1
  try clear hcz12_0
  try clear hcz12_1
  try clear hcz8_0
  try clear hcz8_1
  try clear hfz10_0
  try clear hfz10_1
  try clear hfz12_0
  try clear hfz12_1
  try clear hfz8_0
  try clear hfz8_1
  obtain ⟨kq, x21_2, rfl, HA, HJ2, BK303, HB⟩ := hcut
  cases kq with
  | zero => exact absurd HA.out (by simp [impl_BestGuess.j0])
  | succ kj2 =>
   have H := HA.out
   clear HA
   simp only [impl_BestGuess.j0] at H
   by_cases c14 : x21_2 = true
   ·subst c14
    replace H := zt H
    simp only [Option.some.injEq, Prod.mk.injEq] at H
    obtain ⟨rfl, rfl, rfl⟩ := H
    go_wp2
    go_ret3
    exact ⟨rE, bG⟩
   ·replace c14 := Bool.eq_false_iff.mpr c14
    subst c14
    replace H := zf H
    replace H := Option.bind_eq_some_iff.mp H
    obtain ⟨t306, A150, H⟩ := H
    (try dsimp only at H)
    have A15 := Aside0.mk A150
    clear A150
    by_cases c16 : (t306.length : Int) = 0
    ·rw [if_pos c16] at H
     have c16b0 : ((t306.length : Int) == 0) = true := beq_iff_eq.mpr c16
     have c16b1 : ((t306.length : Int) != 0) = false := bne_eq_false_iff_eq.mpr c16
     clear c16
     simp only [Option.some.injEq, Prod.mk.injEq] at H
     obtain ⟨rfl, rfl, rfl⟩ := H
     have hcz17_0 := cZ BK303 0 (.int .i64 a0_0)
     have hcz17_1 := cZ BK303 1 (.int .i64 a0_1)
     have hfz17_0 := blk_frozen BK303.out 0
     have hfz17_1 := blk_frozen BK303.out 1
     go_wp2_with (first | ((with_reducible refine gate_callee (f := 50) rfl ?_); refine goesL_ (some 24) rfl rfl Try.func50 (by kernel_rfl) rfl #[.agg #[.int .i64 a0_0, .int .i64 a0_1], .slice A1 l1.length c1] rfl lM ?_; (with_reducible refine (impl_Lock_fitting.calls kj2 a0_0 a0_1 _ _ l1 t306 _ ?side1 ?side2 A15.out).mono ?_); (case side1 => exact cS (Kd.C_below HR1.out HB.out)); (case side2 => exact HC1.out); rintro e w18 ⟨v307, rfl, ho0, hb⟩; refine ⟨_, rfl, ?_⟩; have HO308 := Aside0.mk (Kd.R_lower ho0 (below_size bG)); replace BK303 := bW BK303 hb; replace HB := Aside0.mk (below_step bG hb); (try clear hb); (try clear ho0); obtain ⟨Ao19, co19, eo19⟩ := Kd.R_slice HO308.out; subst eo19))
     go_ret3
     exact ⟨rE, bG⟩
    ·rw [if_neg c16] at H
     have c16b0 : ((t306.length : Int) == 0) = false := beq_eq_false_iff_ne.mpr c16
     have c16b1 : ((t306.length : Int) != 0) = true := bne_iff_ne.mpr c16
     have c16b2 : ¬ (t306 = []) := fun h_ => c16 (by rw [h_]; rfl)
     replace H := Option.bind_eq_some_iff.mp H
     obtain ⟨t309, A200, H⟩ := H
     (try dsimp only at H)
     have A20 := Aside0.mk A200
     clear A200
     replace H := Option.bind_eq_some_iff.mp H
     obtain ⟨t310, A210, H⟩ := H
     (try dsimp only at H)
     have A21 := Aside0.mk A210
     clear A210
     have H' := Aside0.mk H
     clear H
     have hcz22_0 := cZ BK303 0 (.int .i64 a0_0)
     have hcz22_1 := cZ BK303 1 (.int .i64 a0_1)
     have hfz22_0 := blk_frozen BK303.out 0
     have hfz22_1 := blk_frozen BK303.out 1
     go_wp2_with (first | ((with_reducible refine gate_callee (f := 50) rfl ?_); refine goesL_ (some 24) rfl rfl Try.func50 (by kernel_rfl) rfl #[.agg #[.int .i64 a0_0, .int .i64 a0_1], .slice A1 l1.length c1] rfl lM ?_; (with_reducible refine (impl_Lock_fitting.calls kj2 a0_0 a0_1 _ _ l1 t306 _ ?side1 ?side2 A15.out).mono ?_); (case side1 => exact cS (Kd.C_below HR1.out HB.out)); (case side2 => exact HC1.out); rintro e w23 ⟨v307, rfl, ho0, hb⟩; refine ⟨_, rfl, ?_⟩; have HO308 := Aside0.mk (Kd.R_lower ho0 (below_size bG)); replace BK303 := bW BK303 hb; replace HB := Aside0.mk (below_step bG hb); (try clear hb); (try clear ho0); obtain ⟨Ao24, co24, eo24⟩ := Kd.R_slice HO308.out; subst eo24; have hcz25_0 := cZ BK303 0 (.int .i64 a0_0); have hcz25_1 := cZ BK303 1 (.int .i64 a0_1); have hfz25_0 := blk_frozen BK303.out 0; have hfz25_1 := blk_frozen BK303.out 1) | ((with_reducible refine gate_callee (f := 73) rfl ?_); refine goesL_ (some 29) rfl rfl Try.func73 (by kernel_rfl) rfl #[.agg #[.int .i64 a0_0, .int .i64 a0_1]] rfl lM ?_; (with_reducible refine (impl_Lock_count.calls kj2 a0_0 a0_1 t309 _ A20.out).mono ?_); rintro e w26 ⟨rfl, hb⟩; refine ⟨_, rfl, ?_⟩; replace HO308 := Aside0.mk (Kd.R_below (kR HO308) hb); replace BK303 := bW BK303 hb; replace HB := Aside0.mk (below_step bG hb); (try clear hb); have hcz27_0 := cZ BK303 0 (.int .i64 a0_0); have hcz27_1 := cZ BK303 1 (.int .i64 a0_1); have hfz27_0 := blk_frozen BK303.out 0; have hfz27_1 := blk_frozen BK303.out 1) | ((with_reducible refine gate_callee (f := 73) rfl ?_); refine goesL_ (some 32) rfl rfl Try.func73 (by kernel_rfl) rfl #[.agg #[.int .i64 a0_0, .int .i64 a0_1]] rfl lM ?_; (with_reducible refine (impl_Lock_count.calls kj2 a0_0 a0_1 t310 _ A21.out).mono ?_); rintro e w28 ⟨rfl, hb⟩; refine ⟨_, rfl, ?_⟩; replace HO308 := Aside0.mk (Kd.R_below (kR HO308) hb); replace BK303 := bW BK303 hb; replace HB := Aside0.mk (below_step bG hb); (try clear hb)))
     go_loopg [8, 9, 33] kj2 (fun kq v8 v9 v33 w' => ∃ (x8_2 : ByteArray) (x9_2 : Int) (x33_2 : Int), v8 = .string x8_2 ∧ v9 = .int .i64 x9_2 ∧ v33 = .int .i64 x33_2 ∧ Aside0 (impl_BestGuess.l0 kq t306 x8_2 x9_2 t310 x33_2 a0_0 a0_1 = some (r1, r2, r3)) ∧ Aside0 (kq ≤ kj2) ∧ Aside0 (Kd.R Kd.string 9 w' w.heap.size (fun _ => True) (.slice Ao24 t306.length co24) t306) ∧ Aside0 (w'.heap[gb303]? = some (.cells #[.int .i64 a0_0, .int .i64 a0_1] 23 (0, 0))) ∧ Aside0 (Below w.heap.size w w'))
     case atStart => exact ⟨((⟨#[]⟩ : ByteArray)), (wrap64 (t309 + 1)), (0), fR, fR, fR, H', ⟨Nat.le_refl _⟩, ⟨kR HO308⟩, ⟨bK⟩, ⟨bG⟩⟩
     case round =>
      clear H'
      try clear c1
      try clear p2
      try clear c3
      try clear c5
      try clear c6
      try clear p6
      try clear c7
      try clear c14
      try clear c16
      try clear c16b0
      try clear c16b1
      try clear c16b2
      try clear hcz10_0
      try clear hcz10_1
      try clear hcz12_0
      try clear hcz12_1
      try clear hcz17_0
      try clear hcz17_1
      try clear hcz22_0
      try clear hcz22_1
      try clear hcz25_0
      try clear hcz25_1
      try clear hcz27_0
      try clear hcz27_1
      try clear hcz8_0
      try clear hcz8_1
      try clear hfz10_0
      try clear hfz10_1
      try clear hfz12_0
      try clear hfz12_1
      try clear hfz17_0
      try clear hfz17_1
      try clear hfz22_0
      try clear hfz22_1
      try clear hfz25_0
      try clear hfz25_1
      try clear hfz27_0
      try clear hfz27_1
      try clear hfz8_0
      try clear hfz8_1
      try clear p2
      obtain ⟨x8_2, x9_2, x33_2, rfl, rfl, rfl, HA, HK2, HO_7, BK303, HB⟩ := hrel
      cases gk with
      | zero => exact absurd HA.out (by simp [impl_BestGuess.l0])
      | succ k2 =>
       have H := HA.out
       clear HA
       simp only [impl_BestGuess.l0] at H
       by_cases c29 : x33_2 < t310
       ·rw [if_pos c29] at H
        have c29b0 : decide (x33_2 < t310) = true := decide_eq_true c29
        clear c29
        replace H := Option.bind_eq_some_iff.mp H
        obtain ⟨t311, A300, H⟩ := H
        (try dsimp only at H)
        have A30 := Aside0.mk A300
        clear A300
        replace H := Option.bind_eq_some_iff.mp H
        obtain ⟨t312, A310, H⟩ := H
        (try dsimp only at H)
        have A31 := Aside0.mk A310
        clear A310
        by_cases c32 : t312 < x9_2
        ·rw [if_pos c32] at H
         have c32b0 : decide (t312 < x9_2) = true := decide_eq_true c32
         clear c32
         have H' := Aside0.mk H
         clear H
         have hcz33_0 := cZ BK303 0 (.int .i64 a0_0)
         have hcz33_1 := cZ BK303 1 (.int .i64 a0_1)
         have hfz33_0 := blk_frozen BK303.out 0
         have hfz33_1 := blk_frozen BK303.out 1
         go_wp2_with (first | ((with_reducible refine gate_callee (f := 61) rfl ?_); refine goesL_ (some 38) rfl rfl Try.func61 (by kernel_rfl) rfl #[.agg #[.int .i64 a0_0, .int .i64 a0_1], .int .i64 x33_2] rfl lM ?_; (with_reducible refine (impl_Lock_code.calls k2 a0_0 a0_1 x33_2 t311 _ A30.out).mono ?_); rintro e w34 ⟨rfl, hb⟩; refine ⟨_, rfl, ?_⟩; replace HO_7 := Aside0.mk (Kd.R_below (kR HO_7) hb); replace BK303 := bW BK303 hb; replace HB := Aside0.mk (below_step bG hb); (try clear hb)) | ((with_reducible refine gate_callee (f := 71) rfl ?_); refine goesL_ (some 41) rfl rfl Try.func71 (by kernel_rfl) rfl #[.slice Ao24 t306.length co24, .string t311] rfl lM ?_; (with_reducible refine (impl_worst.calls k2 _ _ t306 t311 t312 _ ?side1 ?side2 A31.out).mono ?_); (case side1 => exact cS ((Kd.R_reads' HO_7.out).2.2)); (case side2 => exact (Kd.R_reads' HO_7.out).2.1); rintro e w35 ⟨rfl, hb⟩; refine ⟨_, rfl, ?_⟩; replace HO_7 := Aside0.mk (Kd.R_below (kR HO_7) hb); replace BK303 := bW BK303 hb; replace HB := Aside0.mk (below_step bG hb); (try clear hb)))
         go_roundg k2
         case measure => have := HJ2.out; have := HK2.out; omega
         case rel => exact ⟨(t311), (t312), (wrap64 (x33_2 + 1)), fR, fR, fR, H', ⟨by have := HJ2.out; have := HK2.out; omega⟩, ⟨kR HO_7⟩, ⟨bK⟩, ⟨bG⟩⟩
        ·rw [if_neg c32] at H
         have c32b0 : decide (t312 < x9_2) = false := decide_eq_false c32
         clear c32
         have H' := Aside0.mk H
         clear H
         have hcz36_0 := cZ BK303 0 (.int .i64 a0_0)
         have hcz36_1 := cZ BK303 1 (.int .i64 a0_1)
         have hfz36_0 := blk_frozen BK303.out 0
         have hfz36_1 := blk_frozen BK303.out 1
         go_wp2_with (first | ((with_reducible refine gate_callee (f := 61) rfl ?_); refine goesL_ (some 38) rfl rfl Try.func61 (by kernel_rfl) rfl #[.agg #[.int .i64 a0_0, .int .i64 a0_1], .int .i64 x33_2] rfl lM ?_; (with_reducible refine (impl_Lock_code.calls k2 a0_0 a0_1 x33_2 t311 _ A30.out).mono ?_); rintro e w37 ⟨rfl, hb⟩; refine ⟨_, rfl, ?_⟩; replace HO_7 := Aside0.mk (Kd.R_below (kR HO_7) hb); replace BK303 := bW BK303 hb; replace HB := Aside0.mk (below_step bG hb); (try clear hb)) | ((with_reducible refine gate_callee (f := 71) rfl ?_); refine goesL_ (some 41) rfl rfl Try.func71 (by kernel_rfl) rfl #[.slice Ao24 t306.length co24, .string t311] rfl lM ?_; (with_reducible refine (impl_worst.calls k2 _ _ t306 t311 t312 _ ?side1 ?side2 A31.out).mono ?_); (case side1 => exact cS ((Kd.R_reads' HO_7.out).2.2)); (case side2 => exact (Kd.R_reads' HO_7.out).2.1); rintro e w38 ⟨rfl, hb⟩; refine ⟨_, rfl, ?_⟩; replace HO_7 := Aside0.mk (Kd.R_below (kR HO_7) hb); replace BK303 := bW BK303 hb; replace HB := Aside0.mk (below_step bG hb); (try clear hb)))
         go_roundg k2
         case measure => have := HJ2.out; have := HK2.out; omega
         case rel => exact ⟨(x8_2), (x9_2), (wrap64 (x33_2 + 1)), fR, fR, fR, H', ⟨by have := HJ2.out; have := HK2.out; omega⟩, ⟨kR HO_7⟩, ⟨bK⟩, ⟨bG⟩⟩
       ·rw [if_neg c29] at H
        have c29b0 : decide (x33_2 < t310) = false := decide_eq_false c29
        clear c29
        simp only [Option.some.injEq, Prod.mk.injEq] at H
        obtain ⟨rfl, rfl, rfl⟩ := H
        go_wp2
        go_ret3
        exact ⟨rE, bG⟩

/-! ### spec_BestGuess: function 34 -/
mutual
def spec_BestGuess.j0 : Nat → List (S31) → Bool → Int → Int → Option (ByteArray × Int × Bool)
 | 0, _, _, _, _ => none
 | k + 1, x1, x21, x314000, x314001 => if x21 = true then (some ((⟨#[]⟩ : ByteArray), 0, false)) else ((spec_hiAll.f k x314000 x314001).bind fun t316 => ((spec_hiFitting.f k t316 x1).bind fun t319 => (if (t319.length : Int) = 0 then (some ((⟨#[]⟩ : ByteArray), 0, false)) else ((spec_hiAll.f k x314000 x314001).bind fun t322 => (spec_BestGuess.l0 k t319 (⟨#[]⟩ : ByteArray) 0 t322 (t322.length : Int) 0 x314000 x314001)))))
def spec_BestGuess.l0 : Nat → List ByteArray → ByteArray → Int → List ByteArray → Int → Int → Int → Int → Option (ByteArray × Int × Bool)
 | 0, _, _, _, _, _, _, _, _ => none
 | k + 1, x7, x8, x9, x30, x31, x32, x314000, x314001 => if x32 < x31 then (if 0 ≤ x32 then (if x32 < (x30.length : Int) then ((spec_hiWorst.f k x314000 (rdOf ByteArray.empty x30 x32) x7).bind fun t326 => (if x8.toList = ([] : List UInt8) then (spec_BestGuess.l0 k x7 (rdOf ByteArray.empty x30 x32) t326 x30 x31 (wrap64 (x32 + 1)) x314000 x314001) else (if t326 < x9 then (spec_BestGuess.l0 k x7 (rdOf ByteArray.empty x30 x32) t326 x30 x31 (wrap64 (x32 + 1)) x314000 x314001) else (spec_BestGuess.l0 k x7 x8 x9 x30 x31 (wrap64 (x32 + 1)) x314000 x314001)))) else (none)) else (none)) else (some (x8, x9, true))
end
def spec_BestGuess.f (k : Nat) (a0_0 : Int) (a0_1 : Int) (l1 : List (S31)) : Option (ByteArray × Int × Bool) := (spec_hiLock.f k a0_0 a0_1 256).bind fun t314 => (if t314 = true then ((spec_hiGood.f k a0_0 a0_1 l1).bind fun t315 => (spec_BestGuess.j0 k l1 (!t315) a0_0 a0_1)) else (spec_BestGuess.j0 k l1 true a0_0 a0_1))
theorem spec_BestGuess.mono_l : ∀ k, (∀ y0 y1 y2 y3, LeO (spec_BestGuess.j0 k y0 y1 y2 y3) (spec_BestGuess.j0 (k + 1) y0 y1 y2 y3)) ∧ (∀ y0 y1 y2 y3 y4 y5 y6 y7, LeO (spec_BestGuess.l0 k y0 y1 y2 y3 y4 y5 y6 y7) (spec_BestGuess.l0 (k + 1) y0 y1 y2 y3 y4 y5 y6 y7))
 | 0 => ⟨fun _ _ _ _ r h => by simp [spec_BestGuess.j0] at h, fun _ _ _ _ _ _ _ _ r h => by simp [spec_BestGuess.l0] at h⟩
 | k + 1 => by
  obtain ⟨ih0, ih1⟩ := spec_BestGuess.mono_l k
  refine ⟨?_, ?_⟩
  intro y0 y1 y2 y3; unfold spec_BestGuess.j0; rotate_left
  intro y0 y1 y2 y3 y4 y5 y6 y7; unfold spec_BestGuess.l0; rotate_left
  all_goals repeat' first
  | (with_reducible first | exact ih0 _ _ _ _ | exact ih1 _ _ _ _ _ _ _ _ | exact spec_hiAll.mono _ _ _ | exact spec_hiFitting.mono _ _ _ | exact spec_hiGood.mono _ _ _ _ | exact spec_hiLock.mono _ _ _ _ | exact spec_hiWorst.mono _ _ _ _ | exact LeO.refl _ | exact LeO.none _ | refine LeO.ite ?_ ?_ | refine LeO.bind ?_ (fun _ => ?_))
  | exact ih0 _ _ _ _
  | exact ih1 _ _ _ _ _ _ _ _
  | exact spec_hiAll.mono _ _ _
  | exact spec_hiFitting.mono _ _ _
  | exact spec_hiGood.mono _ _ _ _
  | exact spec_hiLock.mono _ _ _ _
  | exact spec_hiWorst.mono _ _ _ _
  | exact LeO.none _
  | refine LeO.ite ?_ ?_
  | refine LeO.bind ?_ (fun _ => ?_)
theorem spec_BestGuess.mono : ∀ a0 a1 a2 k, LeO (spec_BestGuess.f k a0 a1 a2) (spec_BestGuess.f (k + 1) a0 a1 a2) := by
 intro a0 a1 a2 k
 obtain ⟨ih0, ih1⟩ := spec_BestGuess.mono_l k
 unfold spec_BestGuess.f
 repeat' first
   | (with_reducible first | exact ih0 _ _ _ _ | exact ih1 _ _ _ _ _ _ _ _ | exact spec_hiAll.mono _ _ _ | exact spec_hiFitting.mono _ _ _ | exact spec_hiGood.mono _ _ _ _ | exact spec_hiLock.mono _ _ _ _ | exact spec_hiWorst.mono _ _ _ _ | exact LeO.refl _ | exact LeO.none _ | refine LeO.ite ?_ ?_ | refine LeO.bind ?_ (fun _ => ?_))
   | exact ih0 _ _ _ _
   | exact ih1 _ _ _ _ _ _ _ _
   | exact spec_hiAll.mono _ _ _
   | exact spec_hiFitting.mono _ _ _
   | exact spec_hiGood.mono _ _ _ _
   | exact spec_hiLock.mono _ _ _ _
   | exact spec_hiWorst.mono _ _ _ _
   | exact LeO.none _
   | refine LeO.ite ?_ ?_
   | refine LeO.bind ?_ (fun _ => ?_)
theorem spec_BestGuess.calls (k : Nat) (a0_0 : Int) (a0_1 : Int) (A1 : Option Addr) (c1 : Nat) (l1 : List (S31)) (r1 : ByteArray) (r2 : Int) (r3 : Bool) (w : World) (hr1 : Kd.C k31 w A1 l1.length l1) (hc1 : l1.length ≤ c1) (h : spec_BestGuess.f k a0_0 a0_1 l1 = some (r1, r2, r3)) :
  Calls Try.prog 34 #[.agg #[.int .i64 a0_0, .int .i64 a0_1], .slice A1 l1.length c1] w fun e w' => e = .returned (.tuple #[.string r1, .int .i64 r2, .bool r3]) ∧ Below w.heap.size w w' := by
 have hu23 := Try.underlying23
 have HR1 := Aside0.mk hr1
 have HC1 := Aside0.mk hc1
 clear hr1 hc1
 have HB := Aside0.mk (Below.refl w.heap.size w)
 have H := h
 unfold spec_BestGuess.f at H
 clear h
 have HC3 := Aside0.mk H
 clear H
 go_enter Try.func34, Try.ntmps34
 go_upto_region 1 with (first | ((with_reducible refine gate_dst (N := 2) rfl ?_); refine box_event ?hg (N := 2) ?hd (cs := #[.int .i64 a0_0, .int .i64 a0_1]) (t := 23) ?hr ?_; (case hd => rfl); (case hg => rfl); (case hr => first | (go_simp; done) | (go_simp; rfl)); intro gb313 hg w4 hbox hb; have BK313 := Aside0.mk (hbox); have GW313 : Aside0 (w.heap.size ≤ gb313) := gW hg; have GE313 := GW313; replace HB := Aside0.mk (below_step bB hb); clear hb hbox hg))
 (try simp only [Act.put, List.setIfInBounds_toArray, List.set_cons_zero, List.set_cons_succ])
 go_cut [21] (fun v21 wc => ∃ (kq : Nat) (x21_2 : Bool), v21 = .bool x21_2 ∧ Aside0 (spec_BestGuess.j0 kq l1 x21_2 a0_0 a0_1 = some (r1, r2, r3)) ∧ Aside0 (kq ≤ k) ∧ Aside0 (wc.heap[gb313]? = some (.cells #[.int .i64 a0_0, .int .i64 a0_1] 23 (0, 0))) ∧ Aside0 (Below w.heap.size w wc))
 case first =>
  have H := HC3.out
  clear HC3
  replace H := Option.bind_eq_some_iff.mp H
  obtain ⟨t314, A50, H⟩ := H
  (try dsimp only at H)
  have A5 := Aside0.mk A50
  clear A50
  by_cases c6 : t314 = true
  ·subst c6
   replace H := zt H
   replace H := Option.bind_eq_some_iff.mp H
   obtain ⟨t315, A70, H⟩ := H
   (try dsimp only at H)
   have A7 := Aside0.mk A70
   clear A70
   have H' := Aside0.mk H
   clear H
   have hcz8_0 := cZ BK313 0 (.int .i64 a0_0)
   have hcz8_1 := cZ BK313 1 (.int .i64 a0_1)
   have hfz8_0 := blk_frozen BK313.out 0
   have hfz8_1 := blk_frozen BK313.out 1
   go_wp2_with (first | ((with_reducible refine gate_callee (f := 45) rfl ?_); refine goesL_ (some 14) rfl rfl Try.func45 (by kernel_rfl) rfl #[.agg #[.int .i64 a0_0, .int .i64 a0_1], .int .i64 256] rfl lM ?_; (with_reducible refine (spec_hiLock.calls k a0_0 a0_1 256 true _ A5.out).mono ?_); rintro e w9 ⟨rfl, hb⟩; refine ⟨_, rfl, ?_⟩; replace BK313 := bW BK313 hb; replace HB := Aside0.mk (below_step bG hb); (try clear hb); have hcz10_0 := cZ BK313 0 (.int .i64 a0_0); have hcz10_1 := cZ BK313 1 (.int .i64 a0_1); have hfz10_0 := blk_frozen BK313.out 0; have hfz10_1 := blk_frozen BK313.out 1) | (go_at_call 74; (with_reducible refine (spec_hiGood.calls k a0_0 a0_1 _ _ l1 t315 _ ?side1 ?side2 A7.out).mono ?_); (case side1 => exact cS (Kd.C_below HR1.out HB.out)); (case side2 => exact HC1.out); rintro e w11 ⟨rfl, hb⟩; replace BK313 := bW BK313 hb; replace HB := Aside0.mk (below_step bG hb); (try clear hb)))
   go_meet
   case rel => exact ⟨_, (!t315), fR, H', ⟨by first | omega | exact Nat.le_refl _⟩, ⟨bK⟩, ⟨bG⟩⟩
  ·replace c6 := Bool.eq_false_iff.mpr c6
   subst c6
   replace H := zf H
   have H' := Aside0.mk H
   clear H
   have hcz12_0 := cZ BK313 0 (.int .i64 a0_0)
   have hcz12_1 := cZ BK313 1 (.int .i64 a0_1)
   have hfz12_0 := blk_frozen BK313.out 0
   have hfz12_1 := blk_frozen BK313.out 1
   go_wp2_with (first | ((with_reducible refine gate_callee (f := 45) rfl ?_); refine goesL_ (some 14) rfl rfl Try.func45 (by kernel_rfl) rfl #[.agg #[.int .i64 a0_0, .int .i64 a0_1], .int .i64 256] rfl lM ?_; (with_reducible refine (spec_hiLock.calls k a0_0 a0_1 256 false _ A5.out).mono ?_); rintro e w13 ⟨rfl, hb⟩; refine ⟨_, rfl, ?_⟩; replace BK313 := bW BK313 hb; replace HB := Aside0.mk (below_step bG hb); (try clear hb)))
   go_meet
   case rel => exact ⟨_, (true), fR, H', ⟨by first | omega | exact Nat.le_refl _⟩, ⟨bK⟩, ⟨bG⟩⟩
 case rest =>
  clear HC3
  try clear c1
  try clear p2
  try clear c3
  try clear c4
  try clear c6
  try clear hcz10_0
  try clear hcz10_1
  try clear hcz12_0
  try clear hcz12_1
  try clear hcz8_0
  try clear hcz8_1
  try clear hfz10_0
  try clear hfz10_1
  try clear hfz12_0
  try clear hfz12_1
  try clear hfz8_0
  try clear hfz8_1
  obtain ⟨kq, x21_2, rfl, HA, HJ2, BK313, HB⟩ := hcut
  cases kq with
  | zero => exact absurd HA.out (by simp [spec_BestGuess.j0])
  | succ kj2 =>
   have H := HA.out
   clear HA
   simp only [spec_BestGuess.j0] at H
   by_cases c14 : x21_2 = true
   ·subst c14
    replace H := zt H
    simp only [Option.some.injEq, Prod.mk.injEq] at H
    obtain ⟨rfl, rfl, rfl⟩ := H
    go_wp2
    go_ret3
    exact ⟨rE, bG⟩
   ·replace c14 := Bool.eq_false_iff.mpr c14
    subst c14
    replace H := zf H
    replace H := Option.bind_eq_some_iff.mp H
    obtain ⟨t316, A150, H⟩ := H
    (try dsimp only at H)
    have A15 := Aside0.mk A150
    clear A150
    replace H := Option.bind_eq_some_iff.mp H
    obtain ⟨t319, A160, H⟩ := H
    (try dsimp only at H)
    have A16 := Aside0.mk A160
    clear A160
    by_cases c17 : (t319.length : Int) = 0
    ·rw [if_pos c17] at H
     have c17b0 : ((t319.length : Int) == 0) = true := beq_iff_eq.mpr c17
     have c17b1 : ((t319.length : Int) != 0) = false := bne_eq_false_iff_eq.mpr c17
     clear c17
     simp only [Option.some.injEq, Prod.mk.injEq] at H
     obtain ⟨rfl, rfl, rfl⟩ := H
     have hcz18_0 := cZ BK313 0 (.int .i64 a0_0)
     have hcz18_1 := cZ BK313 1 (.int .i64 a0_1)
     have hfz18_0 := blk_frozen BK313.out 0
     have hfz18_1 := blk_frozen BK313.out 1
     go_wp2_with (first | ((with_reducible refine gate_callee (f := 58) rfl ?_); refine goesL_ (some 23) rfl rfl Try.func58 (by kernel_rfl) rfl #[.agg #[.int .i64 a0_0, .int .i64 a0_1]] rfl lM ?_; (with_reducible refine (spec_hiAll.calls kj2 a0_0 a0_1 t316 _ A15.out).mono ?_); rintro e w19 ⟨v317, rfl, ho0, hb⟩; refine ⟨_, rfl, ?_⟩; have HO318 := Aside0.mk (Kd.R_lower ho0 (below_size bG)); replace BK313 := bW BK313 hb; replace HB := Aside0.mk (below_step bG hb); (try clear hb); (try clear ho0); obtain ⟨Ao20, co20, eo20⟩ := Kd.R_slice HO318.out; subst eo20) | ((with_reducible refine gate_callee (f := 64) rfl ?_); refine goesL_ (some 25) rfl rfl Try.func64 (by kernel_rfl) rfl #[.slice Ao20 t316.length co20, .slice A1 l1.length c1] rfl lM ?_; (with_reducible refine (spec_hiFitting.calls kj2 _ _ t316 _ _ l1 t319 _ ?side1 ?side2 ?side3 ?side4 A16.out).mono ?_); (case side1 => exact cS ((Kd.R_reads' HO318.out).2.2)); (case side2 => exact (Kd.R_reads' HO318.out).2.1); (case side3 => exact cS (Kd.C_below HR1.out HB.out)); (case side4 => exact HC1.out); rintro e w21 ⟨v320, rfl, ho0, hb⟩; refine ⟨_, rfl, ?_⟩; have HO321 := Aside0.mk (Kd.R_lower (Kd.R_new' ho0 (Kd.R_lt (kR HO318))) (below_size bG)); replace HO318 := Aside0.mk (Kd.R_elder' (kR HO318) (Kd.R_base ho0) hb); replace BK313 := bW BK313 hb; replace HB := Aside0.mk (below_step bG hb); (try clear hb); (try clear ho0); obtain ⟨Ao22, co22, eo22⟩ := Kd.R_slice HO321.out; subst eo22))
     go_ret3
     exact ⟨rE, bG⟩
    ·rw [if_neg c17] at H
     have c17b0 : ((t319.length : Int) == 0) = false := beq_eq_false_iff_ne.mpr c17
     have c17b1 : ((t319.length : Int) != 0) = true := bne_iff_ne.mpr c17
     have c17b2 : ¬ (t319 = []) := fun h_ => c17 (by rw [h_]; rfl)
     replace H := Option.bind_eq_some_iff.mp H
     obtain ⟨t322, A230, H⟩ := H
     (try dsimp only at H)
     have A23 := Aside0.mk A230
     clear A230
     have H' := Aside0.mk H
     clear H
     have hcz24_0 := cZ BK313 0 (.int .i64 a0_0)
     have hcz24_1 := cZ BK313 1 (.int .i64 a0_1)
     have hfz24_0 := blk_frozen BK313.out 0
     have hfz24_1 := blk_frozen BK313.out 1
     go_wp2_with (first | ((with_reducible refine gate_callee (f := 58) rfl ?_); refine goesL_ (some 23) rfl rfl Try.func58 (by kernel_rfl) rfl #[.agg #[.int .i64 a0_0, .int .i64 a0_1]] rfl lM ?_; (with_reducible refine (spec_hiAll.calls kj2 a0_0 a0_1 t316 _ A15.out).mono ?_); rintro e w25 ⟨v317, rfl, ho0, hb⟩; refine ⟨_, rfl, ?_⟩; have HO318 := Aside0.mk (Kd.R_lower ho0 (below_size bG)); replace BK313 := bW BK313 hb; replace HB := Aside0.mk (below_step bG hb); (try clear hb); (try clear ho0); obtain ⟨Ao26, co26, eo26⟩ := Kd.R_slice HO318.out; subst eo26) | ((with_reducible refine gate_callee (f := 64) rfl ?_); refine goesL_ (some 25) rfl rfl Try.func64 (by kernel_rfl) rfl #[.slice Ao26 t316.length co26, .slice A1 l1.length c1] rfl lM ?_; (with_reducible refine (spec_hiFitting.calls kj2 _ _ t316 _ _ l1 t319 _ ?side1 ?side2 ?side3 ?side4 A16.out).mono ?_); (case side1 => exact cS ((Kd.R_reads' HO318.out).2.2)); (case side2 => exact (Kd.R_reads' HO318.out).2.1); (case side3 => exact cS (Kd.C_below HR1.out HB.out)); (case side4 => exact HC1.out); rintro e w27 ⟨v320, rfl, ho0, hb⟩; refine ⟨_, rfl, ?_⟩; have HO321 := Aside0.mk (Kd.R_lower (Kd.R_new' ho0 (Kd.R_lt (kR HO318))) (below_size bG)); replace HO318 := Aside0.mk (Kd.R_elder' (kR HO318) (Kd.R_base ho0) hb); replace BK313 := bW BK313 hb; replace HB := Aside0.mk (below_step bG hb); (try clear hb); (try clear ho0); obtain ⟨Ao28, co28, eo28⟩ := Kd.R_slice HO321.out; subst eo28; have hcz29_0 := cZ BK313 0 (.int .i64 a0_0); have hcz29_1 := cZ BK313 1 (.int .i64 a0_1); have hfz29_0 := blk_frozen BK313.out 0; have hfz29_1 := blk_frozen BK313.out 1) | ((with_reducible refine gate_callee (f := 58) rfl ?_); refine goesL_ (some 30) rfl rfl Try.func58 (by kernel_rfl) rfl #[.agg #[.int .i64 a0_0, .int .i64 a0_1]] rfl lM ?_; (with_reducible refine (spec_hiAll.calls kj2 a0_0 a0_1 t322 _ A23.out).mono ?_); rintro e w30 ⟨v323, rfl, ho0, hb⟩; refine ⟨_, rfl, ?_⟩; have HO324 := Aside0.mk (Kd.R_lower (Kd.R_new' (Kd.R_new' ho0 (Kd.R_lt (kR HO318))) (Kd.R_lt (kR HO321))) (below_size bG)); replace HO318 := Aside0.mk (Kd.R_elder' (kR HO318) (Kd.R_base ho0) hb); replace HO321 := Aside0.mk (Kd.R_elder' (kR HO321) (Kd.R_base ho0) hb); replace BK313 := bW BK313 hb; replace HB := Aside0.mk (below_step bG hb); (try clear hb); (try clear ho0); obtain ⟨Ao31, co31, eo31⟩ := Kd.R_slice HO324.out; subst eo31))
     go_loopg [8, 9, 32] kj2 (fun kq v8 v9 v32 w' => ∃ (x8_2 : ByteArray) (x9_2 : Int) (x32_2 : Int), v8 = .string x8_2 ∧ v9 = .int .i64 x9_2 ∧ v32 = .int .i64 x32_2 ∧ Aside0 (spec_BestGuess.l0 kq t319 x8_2 x9_2 t322 (t322.length : Int) x32_2 a0_0 a0_1 = some (r1, r2, r3)) ∧ Aside0 (kq ≤ kj2) ∧ Aside0 (Kd.R Kd.string 9 w' w.heap.size (fun k_ => some k_ ≠ ((.slice Ao31 t322.length co31) : Value).ownBlock) (.slice Ao28 t319.length co28) t319) ∧ Aside0 (Kd.R Kd.string 9 w' w.heap.size (fun k_ => some k_ ≠ ((.slice Ao28 t319.length co28) : Value).ownBlock) (.slice Ao31 t322.length co31) t322) ∧ Aside0 (w'.heap[gb313]? = some (.cells #[.int .i64 a0_0, .int .i64 a0_1] 23 (0, 0))) ∧ Aside0 (Below w.heap.size w w'))
     case atStart => exact ⟨((⟨#[]⟩ : ByteArray)), (0), (0), fR, fR, fR, H', ⟨Nat.le_refl _⟩, ⟨by (with_reducible repeat (first | apply Kd.R_alloc | apply Kd.R_drewN | apply Kd.R_drew)); exact Kd.R_mono HO321.out (fun _ hk => hk.2)⟩, ⟨by (with_reducible repeat (first | apply Kd.R_alloc | apply Kd.R_drewN | apply Kd.R_drew)); exact Kd.R_mono HO324.out (fun _ hk => hk.2)⟩, ⟨bK⟩, ⟨bG⟩⟩
     case round =>
      clear H'
      try clear c1
      try clear p2
      try clear c3
      try clear c4
      try clear c5
      try clear c6
      try clear c14
      try clear c17
      try clear c17b0
      try clear c17b1
      try clear c17b2
      try clear hcz10_0
      try clear hcz10_1
      try clear hcz12_0
      try clear hcz12_1
      try clear hcz18_0
      try clear hcz18_1
      try clear hcz24_0
      try clear hcz24_1
      try clear hcz29_0
      try clear hcz29_1
      try clear hcz8_0
      try clear hcz8_1
      try clear hfz10_0
      try clear hfz10_1
      try clear hfz12_0
      try clear hfz12_1
      try clear hfz18_0
      try clear hfz18_1
      try clear hfz24_0
      try clear hfz24_1
      try clear hfz29_0
      try clear hfz29_1
      try clear hfz8_0
      try clear hfz8_1
      try clear p2
      obtain ⟨x8_2, x9_2, x32_2, rfl, rfl, rfl, HA, HK2, HO_7, HO_30, BK313, HB⟩ := hrel
      cases gk with
      | zero => exact absurd HA.out (by simp [spec_BestGuess.l0])
      | succ k2 =>
       have H := HA.out
       clear HA
       simp only [spec_BestGuess.l0] at H
       by_cases c32 : x32_2 < (t322.length : Int)
       ·rw [if_pos c32] at H
        have c32b0 : decide (x32_2 < (t322.length : Int)) = true := decide_eq_true c32
        clear c32
        replace H := nz H; obtain ⟨c33, H⟩ := H
        have c33b0 : decide (0 ≤ x32_2) = true := decide_eq_true c33
        clear c33
        replace H := nz H; obtain ⟨c34, H⟩ := H
        have c34b0 : decide (x32_2 < (t322.length : Int)) = true := decide_eq_true c34
        clear c34
        replace H := Option.bind_eq_some_iff.mp H
        obtain ⟨t326, A350, H⟩ := H
        (try dsimp only at H)
        have A35 := Aside0.mk A350
        clear A350
        by_cases c36 : x8_2.toList = ([] : List UInt8)
        ·rw [if_pos c36] at H
         have c36b0 : (x8_2.toList == ([] : List UInt8)) = true := beq_iff_eq.mpr c36
         have c36b1 : (x8_2.toList != ([] : List UInt8)) = false := bne_eq_false_iff_eq.mpr c36
         clear c36
         have H' := Aside0.mk H
         clear H
         have p325 : 0 ≤ (x32_2 : Int) := oD
         have q325 : x32_2 < (t322.length : Int) := oD
         obtain ⟨ad325, e325, hx325_0⟩ := Kd.at_string (Kd.R_reads' HO_30.out).2.2 x32_2 p325 q325
         cases e325
         replace p325 := eq_true p325
         replace q325 := eq_true q325
         have hcz37_0 := cZ BK313 0 (.int .i64 a0_0)
         have hcz37_1 := cZ BK313 1 (.int .i64 a0_1)
         have hfz37_0 := blk_frozen BK313.out 0
         have hfz37_1 := blk_frozen BK313.out 1
         go_wp2_with (first | ((with_reducible refine gate_callee (f := 72) rfl ?_); refine goesL_ (some 40) rfl rfl Try.func72 (by kernel_rfl) rfl #[.int .i64 a0_0, .string (rdOf ByteArray.empty t322 x32_2), .slice Ao28 t319.length co28] rfl lM ?_; (with_reducible refine (spec_hiWorst.calls k2 a0_0 (rdOf ByteArray.empty t322 x32_2) _ _ t319 t326 _ ?side1 ?side2 A35.out).mono ?_); (case side1 => exact cS ((Kd.R_reads' HO_7.out).2.2)); (case side2 => exact (Kd.R_reads' HO_7.out).2.1); rintro e w38 ⟨rfl, hb⟩; refine ⟨_, rfl, ?_⟩; replace HO_7 := Aside0.mk (Kd.R_below (kR HO_7) hb); replace HO_30 := Aside0.mk (Kd.R_below (kR HO_30) hb); replace BK313 := bW BK313 hb; replace HB := Aside0.mk (below_step bG hb); (try clear hb)))
         go_roundg k2
         case measure => have := HJ2.out; have := HK2.out; omega
         case rel => exact ⟨(rdOf ByteArray.empty t322 x32_2), (t326), (wrap64 (x32_2 + 1)), fR, fR, fR, H', ⟨by have := HJ2.out; have := HK2.out; omega⟩, ⟨kR HO_7⟩, ⟨kR HO_30⟩, ⟨bK⟩, ⟨bG⟩⟩
        ·rw [if_neg c36] at H
         have c36b0 : (x8_2.toList == ([] : List UInt8)) = false := beq_eq_false_iff_ne.mpr c36
         have c36b1 : (x8_2.toList != ([] : List UInt8)) = true := bne_iff_ne.mpr c36
         by_cases c39 : t326 < x9_2
         ·rw [if_pos c39] at H
          have c39b0 : decide (t326 < x9_2) = true := decide_eq_true c39
          clear c39
          have H' := Aside0.mk H
          clear H
          have p325 : 0 ≤ (x32_2 : Int) := oD
          have q325 : x32_2 < (t322.length : Int) := oD
          obtain ⟨ad325, e325, hx325_0⟩ := Kd.at_string (Kd.R_reads' HO_30.out).2.2 x32_2 p325 q325
          cases e325
          replace p325 := eq_true p325
          replace q325 := eq_true q325
          have hcz40_0 := cZ BK313 0 (.int .i64 a0_0)
          have hcz40_1 := cZ BK313 1 (.int .i64 a0_1)
          have hfz40_0 := blk_frozen BK313.out 0
          have hfz40_1 := blk_frozen BK313.out 1
          go_wp2_with (first | ((with_reducible refine gate_callee (f := 72) rfl ?_); refine goesL_ (some 40) rfl rfl Try.func72 (by kernel_rfl) rfl #[.int .i64 a0_0, .string (rdOf ByteArray.empty t322 x32_2), .slice Ao28 t319.length co28] rfl lM ?_; (with_reducible refine (spec_hiWorst.calls k2 a0_0 (rdOf ByteArray.empty t322 x32_2) _ _ t319 t326 _ ?side1 ?side2 A35.out).mono ?_); (case side1 => exact cS ((Kd.R_reads' HO_7.out).2.2)); (case side2 => exact (Kd.R_reads' HO_7.out).2.1); rintro e w41 ⟨rfl, hb⟩; refine ⟨_, rfl, ?_⟩; replace HO_7 := Aside0.mk (Kd.R_below (kR HO_7) hb); replace HO_30 := Aside0.mk (Kd.R_below (kR HO_30) hb); replace BK313 := bW BK313 hb; replace HB := Aside0.mk (below_step bG hb); (try clear hb)))
          go_roundg k2
          case measure => have := HJ2.out; have := HK2.out; omega
          case rel => exact ⟨(rdOf ByteArray.empty t322 x32_2), (t326), (wrap64 (x32_2 + 1)), fR, fR, fR, H', ⟨by have := HJ2.out; have := HK2.out; omega⟩, ⟨kR HO_7⟩, ⟨kR HO_30⟩, ⟨bK⟩, ⟨bG⟩⟩
         ·rw [if_neg c39] at H
          have c39b0 : decide (t326 < x9_2) = false := decide_eq_false c39
          clear c39
          have H' := Aside0.mk H
          clear H
          have p325 : 0 ≤ (x32_2 : Int) := oD
          have q325 : x32_2 < (t322.length : Int) := oD
          obtain ⟨ad325, e325, hx325_0⟩ := Kd.at_string (Kd.R_reads' HO_30.out).2.2 x32_2 p325 q325
          cases e325
          replace p325 := eq_true p325
          replace q325 := eq_true q325
          have hcz42_0 := cZ BK313 0 (.int .i64 a0_0)
          have hcz42_1 := cZ BK313 1 (.int .i64 a0_1)
          have hfz42_0 := blk_frozen BK313.out 0
          have hfz42_1 := blk_frozen BK313.out 1
          go_wp2_with (first | ((with_reducible refine gate_callee (f := 72) rfl ?_); refine goesL_ (some 40) rfl rfl Try.func72 (by kernel_rfl) rfl #[.int .i64 a0_0, .string (rdOf ByteArray.empty t322 x32_2), .slice Ao28 t319.length co28] rfl lM ?_; (with_reducible refine (spec_hiWorst.calls k2 a0_0 (rdOf ByteArray.empty t322 x32_2) _ _ t319 t326 _ ?side1 ?side2 A35.out).mono ?_); (case side1 => exact cS ((Kd.R_reads' HO_7.out).2.2)); (case side2 => exact (Kd.R_reads' HO_7.out).2.1); rintro e w43 ⟨rfl, hb⟩; refine ⟨_, rfl, ?_⟩; replace HO_7 := Aside0.mk (Kd.R_below (kR HO_7) hb); replace HO_30 := Aside0.mk (Kd.R_below (kR HO_30) hb); replace BK313 := bW BK313 hb; replace HB := Aside0.mk (below_step bG hb); (try clear hb)))
          go_roundg k2
          case measure => have := HJ2.out; have := HK2.out; omega
          case rel => exact ⟨(x8_2), (x9_2), (wrap64 (x32_2 + 1)), fR, fR, fR, H', ⟨by have := HJ2.out; have := HK2.out; omega⟩, ⟨kR HO_7⟩, ⟨kR HO_30⟩, ⟨bK⟩, ⟨bG⟩⟩
       ·rw [if_neg c32] at H
        have c32b0 : decide (x32_2 < (t322.length : Int)) = false := decide_eq_false c32
        clear c32
        simp only [Option.some.injEq, Prod.mk.injEq] at H
        obtain ⟨rfl, rfl, rfl⟩ := H
        go_wp2
        go_ret3
        exact ⟨rE, bG⟩

/-! ### spec_FitsHints: function 35 -/
def spec_FitsHints.f (k : Nat) (a0_0 : Int) (a0_1 : Int) (l1 : List (S31)) (a2 : ByteArray) : Option (Bool × Bool) := (spec_hiAsked.f k a0_0 a0_1 l1).bind fun t328 => (if t328 = true then ((spec_whCode.f k a0_0 a0_1 a2).bind fun t329 => (if t329 = true then ((spec_hiFits.f k l1 a2).bind fun t330 => (some (t330, true))) else (some (false, false)))) else (some (false, false)))
theorem spec_FitsHints.mono : ∀ a0 a1 a2 a3 k, LeO (spec_FitsHints.f k a0 a1 a2 a3) (spec_FitsHints.f (k + 1) a0 a1 a2 a3) := by
 intro a0 a1 a2 a3 k
 unfold spec_FitsHints.f
 repeat' first
   | (with_reducible first | exact spec_hiAsked.mono _ _ _ _ | exact spec_hiFits.mono _ _ _ | exact spec_whCode.mono _ _ _ _ | exact LeO.refl _ | exact LeO.none _ | refine LeO.ite ?_ ?_ | refine LeO.bind ?_ (fun _ => ?_))
   | exact spec_hiAsked.mono _ _ _ _
   | exact spec_hiFits.mono _ _ _
   | exact spec_whCode.mono _ _ _ _
   | exact LeO.none _
   | refine LeO.ite ?_ ?_
   | refine LeO.bind ?_ (fun _ => ?_)
theorem spec_FitsHints.calls (k : Nat) (a0_0 : Int) (a0_1 : Int) (A1 : Option Addr) (c1 : Nat) (l1 : List (S31)) (a2 : ByteArray) (r1 : Bool) (r2 : Bool) (w : World) (hr1 : Kd.C k31 w A1 l1.length l1) (hc1 : l1.length ≤ c1) (h : spec_FitsHints.f k a0_0 a0_1 l1 a2 = some (r1, r2)) :
  Calls Try.prog 35 #[.agg #[.int .i64 a0_0, .int .i64 a0_1], .slice A1 l1.length c1, .string a2] w fun e w' => e = .returned (.tuple #[.bool r1, .bool r2]) ∧ Below w.heap.size w w' := by
 have hu23 := Try.underlying23
 have HR1 := Aside0.mk hr1
 have HC1 := Aside0.mk hc1
 clear hr1 hc1
 have HB := Aside0.mk (Below.refl w.heap.size w)
 have H := h
 unfold spec_FitsHints.f at H
 clear h
 replace H := Option.bind_eq_some_iff.mp H
 obtain ⟨t328, A40, H⟩ := H
 (try dsimp only at H)
 have A4 := Aside0.mk A40
 clear A40
 by_cases c5 : t328 = true
 ·subst c5
  replace H := zt H
  replace H := Option.bind_eq_some_iff.mp H
  obtain ⟨t329, A60, H⟩ := H
  (try dsimp only at H)
  have A6 := Aside0.mk A60
  clear A60
  by_cases c7 : t329 = true
  ·subst c7
   replace H := zt H
   replace H := Option.bind_eq_some_iff.mp H
   obtain ⟨t330, A80, H⟩ := H
   (try dsimp only at H)
   have A8 := Aside0.mk A80
   clear A80
   simp only [Option.some.injEq, Prod.mk.injEq] at H
   obtain ⟨rfl, rfl⟩ := H
   go_enter Try.func35, Try.ntmps35
   go_wp2_with (first | ((with_reducible refine gate_dst (N := 3) rfl ?_); refine box_event ?hg (N := 3) ?hd (cs := #[.int .i64 a0_0, .int .i64 a0_1]) (t := 23) ?hr ?_; (case hd => rfl); (case hg => rfl); (case hr => first | (go_simp; done) | (go_simp; rfl)); intro gb327 hg w9 hbox hb; have BK327 := Aside0.mk (hbox); have GW327 : Aside0 (w.heap.size ≤ gb327) := gW hg; have GE327 := GW327; replace HB := Aside0.mk (below_step bB hb); clear hb hbox hg; have hcz10_0 := cZ BK327 0 (.int .i64 a0_0); have hcz10_1 := cZ BK327 1 (.int .i64 a0_1); have hfz10_0 := blk_frozen BK327.out 0; have hfz10_1 := blk_frozen BK327.out 1) | ((with_reducible refine gate_callee (f := 70) rfl ?_); refine goesL_ (some 10) rfl rfl Try.func70 (by kernel_rfl) rfl #[.agg #[.int .i64 a0_0, .int .i64 a0_1], .slice A1 l1.length c1] rfl lM ?_; (with_reducible refine (spec_hiAsked.calls k a0_0 a0_1 _ _ l1 true _ ?side1 ?side2 A4.out).mono ?_); (case side1 => exact cS (Kd.C_below HR1.out HB.out)); (case side2 => exact HC1.out); rintro e w11 ⟨rfl, hb⟩; refine ⟨_, rfl, ?_⟩; replace BK327 := bW BK327 hb; replace HB := Aside0.mk (below_step bG hb); (try clear hb); have hcz12_0 := cZ BK327 0 (.int .i64 a0_0); have hcz12_1 := cZ BK327 1 (.int .i64 a0_1); have hfz12_0 := blk_frozen BK327.out 0; have hfz12_1 := blk_frozen BK327.out 1) | (go_at_call 46; (with_reducible refine (spec_whCode.calls k a0_0 a0_1 a2 true _ A6.out).mono ?_); rintro e w13 ⟨rfl, hb⟩; replace BK327 := bW BK327 hb; replace HB := Aside0.mk (below_step bG hb); (try clear hb)) | ((with_reducible refine gate_callee (f := 75) rfl ?_); refine goesL_ (some 20) rfl rfl Try.func75 (by kernel_rfl) rfl #[.slice A1 l1.length c1, .string a2] rfl lM ?_; (with_reducible refine (spec_hiFits.calls k _ _ l1 a2 t330 _ ?side1 ?side2 A8.out).mono ?_); (case side1 => exact cS (Kd.C_below HR1.out HB.out)); (case side2 => exact HC1.out); rintro e w14 ⟨rfl, hb⟩; refine ⟨_, rfl, ?_⟩; replace BK327 := bW BK327 hb; replace HB := Aside0.mk (below_step bG hb); (try clear hb)))
   go_ret2
   exact ⟨rE, bG⟩
  ·replace c7 := Bool.eq_false_iff.mpr c7
   subst c7
   replace H := zf H
   simp only [Option.some.injEq, Prod.mk.injEq] at H
   obtain ⟨rfl, rfl⟩ := H
   go_enter Try.func35, Try.ntmps35
   go_wp2_with (first | ((with_reducible refine gate_dst (N := 3) rfl ?_); refine box_event ?hg (N := 3) ?hd (cs := #[.int .i64 a0_0, .int .i64 a0_1]) (t := 23) ?hr ?_; (case hd => rfl); (case hg => rfl); (case hr => first | (go_simp; done) | (go_simp; rfl)); intro gb327 hg w15 hbox hb; have BK327 := Aside0.mk (hbox); have GW327 : Aside0 (w.heap.size ≤ gb327) := gW hg; have GE327 := GW327; replace HB := Aside0.mk (below_step bB hb); clear hb hbox hg; have hcz16_0 := cZ BK327 0 (.int .i64 a0_0); have hcz16_1 := cZ BK327 1 (.int .i64 a0_1); have hfz16_0 := blk_frozen BK327.out 0; have hfz16_1 := blk_frozen BK327.out 1) | ((with_reducible refine gate_callee (f := 70) rfl ?_); refine goesL_ (some 10) rfl rfl Try.func70 (by kernel_rfl) rfl #[.agg #[.int .i64 a0_0, .int .i64 a0_1], .slice A1 l1.length c1] rfl lM ?_; (with_reducible refine (spec_hiAsked.calls k a0_0 a0_1 _ _ l1 true _ ?side1 ?side2 A4.out).mono ?_); (case side1 => exact cS (Kd.C_below HR1.out HB.out)); (case side2 => exact HC1.out); rintro e w17 ⟨rfl, hb⟩; refine ⟨_, rfl, ?_⟩; replace BK327 := bW BK327 hb; replace HB := Aside0.mk (below_step bG hb); (try clear hb); have hcz18_0 := cZ BK327 0 (.int .i64 a0_0); have hcz18_1 := cZ BK327 1 (.int .i64 a0_1); have hfz18_0 := blk_frozen BK327.out 0; have hfz18_1 := blk_frozen BK327.out 1) | (go_at_call 46; (with_reducible refine (spec_whCode.calls k a0_0 a0_1 a2 false _ A6.out).mono ?_); rintro e w19 ⟨rfl, hb⟩; replace BK327 := bW BK327 hb; replace HB := Aside0.mk (below_step bG hb); (try clear hb)))
   go_ret2
   exact ⟨rE, bG⟩
 ·replace c5 := Bool.eq_false_iff.mpr c5
  subst c5
  replace H := zf H
  simp only [Option.some.injEq, Prod.mk.injEq] at H
  obtain ⟨rfl, rfl⟩ := H
  go_enter Try.func35, Try.ntmps35
  go_wp2_with (first | ((with_reducible refine gate_dst (N := 3) rfl ?_); refine box_event ?hg (N := 3) ?hd (cs := #[.int .i64 a0_0, .int .i64 a0_1]) (t := 23) ?hr ?_; (case hd => rfl); (case hg => rfl); (case hr => first | (go_simp; done) | (go_simp; rfl)); intro gb327 hg w20 hbox hb; have BK327 := Aside0.mk (hbox); have GW327 : Aside0 (w.heap.size ≤ gb327) := gW hg; have GE327 := GW327; replace HB := Aside0.mk (below_step bB hb); clear hb hbox hg; have hcz21_0 := cZ BK327 0 (.int .i64 a0_0); have hcz21_1 := cZ BK327 1 (.int .i64 a0_1); have hfz21_0 := blk_frozen BK327.out 0; have hfz21_1 := blk_frozen BK327.out 1) | ((with_reducible refine gate_callee (f := 70) rfl ?_); refine goesL_ (some 10) rfl rfl Try.func70 (by kernel_rfl) rfl #[.agg #[.int .i64 a0_0, .int .i64 a0_1], .slice A1 l1.length c1] rfl lM ?_; (with_reducible refine (spec_hiAsked.calls k a0_0 a0_1 _ _ l1 false _ ?side1 ?side2 A4.out).mono ?_); (case side1 => exact cS (Kd.C_below HR1.out HB.out)); (case side2 => exact HC1.out); rintro e w22 ⟨rfl, hb⟩; refine ⟨_, rfl, ?_⟩; replace BK327 := bW BK327 hb; replace HB := Aside0.mk (below_step bG hb); (try clear hb)))
  go_ret2
  exact ⟨rE, bG⟩

/-! ### impl_Hint_77: function 77 -/
set_option maxHeartbeats 4000000 in
set_option maxRecDepth 100000 in
theorem cloneH_calls (A0 : Option Addr) (c0 : Nat) (l0 : List S31) (w : World) (hr0 : Kd.C k31 w A0 l0.length l0) (hlen : l0.length ≤ 1000) :
  Calls Try.prog 77 #[.slice A0 l0.length c0] w fun e w' => ∃ v0_ : Value, e = .returned (v0_) ∧ Kd.R k31 31 w' w.heap.size (fun _ => True) v0_ l0 ∧ Below w.heap.size w w' := by
 have hu33 := Try.underlying24
 have hin75 : (Try.prog.info? 31).map (fun i => (i.zero, i.size, i.bytes)) = some (some (.agg #[(.string ⟨#[]⟩), (.int .i64 0), (.int .i64 0)]), 3, 32) := by kernel_rfl
 have HIN := Aside0.mk hin75
 have HC := Aside0.mk hr0
 have HL := Aside0.mk hlen
 clear hin75 hr0 hlen
 cases A0 with
 | none =>
  have h0 : l0 = [] := by
   cases l0 with
   | nil => rfl
   | cons y ys =>
    obtain ⟨ad, e, _⟩ := at_T31 HC.out 0 (by omega) (by simp)
    exact absurd e (by simp)
  subst h0
  rw [List.length_nil]
  have hnil : ∀ W, (binOp .eql 24 (.slice none 0 c0) (.slice none 0 0)).run Try.prog W = .ok (.bool true) W := fun W => Lib.run_eql_slice_nil W _ _ none _ _ 0 0 hu33
  go_enter Try.func77, Try.ntmps77
  go_wp2
  go_ret
  exact ⟨_, rfl, Kd.R_nil _ _ _ _ _, Below.refl _ _⟩
 | some ad =>
  have hnil : ∀ W, (binOp .eql 24 (.slice (some ad) l0.length c0) (.slice none 0 0)).run Try.prog W = .ok (.bool false) W := fun W => Lib.run_eql_slice_nil W _ _ (some ad) _ _ 0 0 hu33
  have HO : Aside0 (Kd.R k31 31 (w.alloc (.cells #[] 31)) w.heap.size (fun _ => True) (.slice (some ⟨w.heap.size, 0, none⟩) 0 0) []) := ⟨hw_R_lit k31 w 31 w.heap.size w.heap.size (xs := []) (inner := []) (okp := fun _ => False) rfl (Reps.none _ _) (fun _ hk => hk.elim) trivial (Nat.le_refl _) (by simp)⟩
  go_enter Try.func77, Try.ntmps77
  go_wp2_with ((with_reducible refine gate_builtin (b := .append) (xs := #[.tmp 5, .tmp 6]) rfl ?_); at_builtin; refine Kd.R_append_rows k31 (Rr := k31.K (w.alloc (.cells #[] 31))) (w0 := w) w.heap.size rfl (.tmp 5) (.tmp 6) 24 31 (.agg #[(.string ⟨#[]⟩), (.int .i64 0), (.int .i64 0)]) 32 rfl Try.underlying24 HIN.out rfl (by decide) (by omega) (.slice (some ⟨w.heap.size, 0, none⟩) 0 0) [] l0 (some ad) l0.length c0 (fun _ => True) (fun _ => False) rfl rfl HO.out (Kd.C_alloc HC.out _) (fun x cs h => by rw [k31_open h]; exact k31_mkM _ _ _ x) (fun _ hk => hk.elim) (fun _ _ => trivial) (below_alloc (Below.refl _ _) _) (by simp only [World.size_alloc]; omega) (by have := HL.out; simp only [List.length_nil]; omega) ?_; intro v1 w1 ho hb hg hat; have HO1 := Aside0.mk ho; have HB1 := Aside0.mk hb; clear ho hb hg hat)
  go_ret
  exact ⟨_, rfl, HO1.out, HB1.out⟩


end Go.Proofs.Ytcpnmiempaofdaa.F
