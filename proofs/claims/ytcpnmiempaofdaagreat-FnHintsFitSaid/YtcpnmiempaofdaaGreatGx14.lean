-- Printed by hp.py, a program of this session: a machine's side of laws, out of the translation; Lean checks it.
import Derived.Test.YtcpnmiempaofdaaGreatGx0
import Derived.Test.YtcpnmiempaofdaaGreatGx1
import Derived.Test.YtcpnmiempaofdaaGreatGx2
import Derived.Test.YtcpnmiempaofdaaGreatGx3
import Derived.Test.YtcpnmiempaofdaaGreatGx6
import Derived.Test.YtcpnmiempaofdaaGreatGx7
import Derived.Test.YtcpnmiempaofdaaGreatGx12
import Derived.Test.YtcpnmiempaofdaaGreatGx13
namespace Go.Proofs.YtcpnmiempaofdaaGreat.G
open Go.RowKit Go.Proofs.YtcpnmiempaofdaaGreatW.PrintWords Go.Proofs.YtcpnmiempaofdaaGreatW.PrintLast Go.Proofs.YtcpnmiempaofdaaGreatW.PrintMore
attribute [local go_sem] max2_int min2_int max_two min_two max_three min_three max_four min_four   -- for this text's walks alone
set_option maxHeartbeats 8000000
set_option maxRecDepth 100000
set_option linter.unusedVariables false
set_option linter.unusedSimpArgs false

/-! ### impl_BestGuess: function 39 -/
mutual
def impl_BestGuess.j0 : Nat → List (S35) → Bool → Int → Int → Option (ByteArray × Int × Bool)
 | 0, _, _, _, _ => none
 | k + 1, x1, x21, x403000, x403001 => if x21 = true then (some ((⟨#[]⟩ : ByteArray), 0, false)) else ((impl_Lock_fitting.f k x403000 x403001 x1).bind fun t405 => (if (t405.length : Int) = 0 then (some ((⟨#[]⟩ : ByteArray), 0, false)) else ((impl_Lock_count.f k x403000 x403001).bind fun t408 => ((impl_Lock_count.f k x403000 x403001).bind fun t409 => (impl_BestGuess.l0 k t405 (⟨#[]⟩ : ByteArray) (wrap64 (t408 + 1)) t409 0 x403000 x403001)))))
def impl_BestGuess.l0 : Nat → List ByteArray → ByteArray → Int → Int → Int → Int → Int → Option (ByteArray × Int × Bool)
 | 0, _, _, _, _, _, _, _ => none
 | k + 1, x7, x8, x9, x32, x33, x403000, x403001 => if x33 < x32 then ((impl_Lock_code.f k x403000 x403001 x33).bind fun t410 => ((impl_worst.f k x7 t410).bind fun t411 => (if t411 < x9 then (impl_BestGuess.l0 k x7 t410 t411 x32 (wrap64 (x33 + 1)) x403000 x403001) else (impl_BestGuess.l0 k x7 x8 x9 x32 (wrap64 (x33 + 1)) x403000 x403001)))) else (some (x8, x9, true))
end
def impl_BestGuess.f (k : Nat) (a0_0 : Int) (a0_1 : Int) (l1 : List (S35)) : Option (ByteArray × Int × Bool) := (impl_isSmall.f k a0_0 a0_1 256).bind fun t403 => (if t403 = true then ((impl_areHints.f k a0_0 a0_1 l1).bind fun t404 => (impl_BestGuess.j0 k l1 (!t404) a0_0 a0_1)) else (impl_BestGuess.j0 k l1 true a0_0 a0_1))
theorem impl_BestGuess.mono_l : ∀ k, (∀ y0 y1 y2 y3, LeO (impl_BestGuess.j0 k y0 y1 y2 y3) (impl_BestGuess.j0 (k + 1) y0 y1 y2 y3)) ∧ (∀ y0 y1 y2 y3 y4 y5 y6, LeO (impl_BestGuess.l0 k y0 y1 y2 y3 y4 y5 y6) (impl_BestGuess.l0 (k + 1) y0 y1 y2 y3 y4 y5 y6))
 | 0 => ⟨fun _ _ _ _ r h => by simp [impl_BestGuess.j0] at h, fun _ _ _ _ _ _ _ r h => by simp [impl_BestGuess.l0] at h⟩
 | k + 1 => by
  obtain ⟨ih0, ih1⟩ := impl_BestGuess.mono_l k
  refine ⟨?_, ?_⟩
  intro y0 y1 y2 y3; unfold impl_BestGuess.j0; rotate_left
  intro y0 y1 y2 y3 y4 y5 y6; unfold impl_BestGuess.l0; rotate_left
  all_goals repeat' first
  | (with_reducible first | exact ih0 _ _ _ _ | exact ih1 _ _ _ _ _ _ _ | exact impl_Lock_code.mono _ _ _ _ | exact impl_Lock_count.mono _ _ _ | exact impl_Lock_fitting.mono _ _ _ _ | exact impl_areHints.mono _ _ _ _ | exact impl_isSmall.mono _ _ _ _ | exact impl_worst.mono _ _ _ | exact LeO.refl _ | exact LeO.none _ | refine LeO.ite ?_ ?_ | refine LeO.bind ?_ (fun _ => ?_))
  | exact ih0 _ _ _ _
  | exact ih1 _ _ _ _ _ _ _
  | exact impl_Lock_code.mono _ _ _ _
  | exact impl_Lock_count.mono _ _ _
  | exact impl_Lock_fitting.mono _ _ _ _
  | exact impl_areHints.mono _ _ _ _
  | exact impl_isSmall.mono _ _ _ _
  | exact impl_worst.mono _ _ _
  | exact LeO.none _
  | refine LeO.ite ?_ ?_
  | refine LeO.bind ?_ (fun _ => ?_)
theorem impl_BestGuess.mono : ∀ a0 a1 a2 k, LeO (impl_BestGuess.f k a0 a1 a2) (impl_BestGuess.f (k + 1) a0 a1 a2) := by
 intro a0 a1 a2 k
 obtain ⟨ih0, ih1⟩ := impl_BestGuess.mono_l k
 unfold impl_BestGuess.f
 repeat' first
   | (with_reducible first | exact ih0 _ _ _ _ | exact ih1 _ _ _ _ _ _ _ | exact impl_Lock_code.mono _ _ _ _ | exact impl_Lock_count.mono _ _ _ | exact impl_Lock_fitting.mono _ _ _ _ | exact impl_areHints.mono _ _ _ _ | exact impl_isSmall.mono _ _ _ _ | exact impl_worst.mono _ _ _ | exact LeO.refl _ | exact LeO.none _ | refine LeO.ite ?_ ?_ | refine LeO.bind ?_ (fun _ => ?_))
   | exact ih0 _ _ _ _
   | exact ih1 _ _ _ _ _ _ _
   | exact impl_Lock_code.mono _ _ _ _
   | exact impl_Lock_count.mono _ _ _
   | exact impl_Lock_fitting.mono _ _ _ _
   | exact impl_areHints.mono _ _ _ _
   | exact impl_isSmall.mono _ _ _ _
   | exact impl_worst.mono _ _ _
   | exact LeO.none _
   | refine LeO.ite ?_ ?_
   | refine LeO.bind ?_ (fun _ => ?_)
theorem impl_BestGuess.calls (k : Nat) (a0_0 : Int) (a0_1 : Int) (A1 : Option Addr) (c1 : Nat) (l1 : List (S35)) (r1 : ByteArray) (r2 : Int) (r3 : Bool) (w : World) (hr1 : Kd.C k35 w A1 l1.length l1) (hc1 : l1.length ≤ c1) (h : impl_BestGuess.f k a0_0 a0_1 l1 = some (r1, r2, r3)) :
  Calls Tryz.prog 39 #[.agg #[.int .i64 a0_0, .int .i64 a0_1], .slice A1 l1.length c1] w fun e w' => e = .returned (.tuple #[.string r1, .int .i64 r2, .bool r3]) ∧ Below w.heap.size w w' := by
 have hu25 := Tryz.underlying25
 have HR1 := Aside0.mk hr1
 have HC1 := Aside0.mk hc1
 clear hr1 hc1
 have HB := Aside0.mk (Below.refl w.heap.size w)
 have H := h
 unfold impl_BestGuess.f at H
 clear h
 have HC3 := Aside0.mk H
 clear H
 go_enter Tryz.func39, Tryz.ntmps39
 go_upto_region 1 with (first | ((with_reducible refine gate_dst (N := 2) rfl ?_); refine box_event ?hg (N := 2) ?hd (cs := #[.int .i64 a0_0, .int .i64 a0_1]) (t := 25) ?hr ?_; (case hd => rfl); (case hg => rfl); (case hr => first | (go_simp; done) | (go_simp; rfl)); intro gb402 hg w4 hbox hb; have BK402 := Aside0.mk (hbox); have GW402 : Aside0 (w.heap.size ≤ gb402) := gW hg; have GE402 := GW402; replace HB := Aside0.mk (below_step bB hb); clear hb hbox hg))
 (try simp only [Act.put, List.setIfInBounds_toArray, List.set_cons_zero, List.set_cons_succ])
 go_cut [21] (fun v21 wc => ∃ (kq : Nat) (x21_2 : Bool), v21 = .bool x21_2 ∧ Aside0 (impl_BestGuess.j0 kq l1 x21_2 a0_0 a0_1 = some (r1, r2, r3)) ∧ Aside0 (kq ≤ k) ∧ Aside0 (wc.heap[gb402]? = some (.cells #[.int .i64 a0_0, .int .i64 a0_1] 25 (0, 0))) ∧ Aside0 (Below w.heap.size w wc))
 case first =>
  have H := HC3.out
  clear HC3
  replace H := Option.bind_eq_some_iff.mp H
  obtain ⟨t403, A50, H⟩ := H
  (try dsimp only at H)
  have A5 := Aside0.mk A50
  clear A50
  by_cases c6 : t403 = true
  ·subst c6
   replace H := zt H
   replace H := Option.bind_eq_some_iff.mp H
   obtain ⟨t404, A70, H⟩ := H
   (try dsimp only at H)
   have A7 := Aside0.mk A70
   clear A70
   have H' := Aside0.mk H
   clear H
   have hcz8_0 := cZ BK402 0 (.int .i64 a0_0)
   have hcz8_1 := cZ BK402 1 (.int .i64 a0_1)
   have hfz8_0 := blk_frozen BK402.out 0
   have hfz8_1 := blk_frozen BK402.out 1
   go_wp2_with (first | ((with_reducible refine gate_callee (f := 59) rfl ?_); refine goesL_ (some 14) rfl rfl Tryz.func59 (by kernel_rfl) rfl #[.agg #[.int .i64 a0_0, .int .i64 a0_1], .int .i64 256] rfl lM ?_; (with_reducible refine (impl_isSmall.calls k a0_0 a0_1 256 true _ A5.out).mono ?_); rintro e w9 ⟨rfl, hb⟩; refine ⟨_, rfl, ?_⟩; replace BK402 := bW BK402 hb; replace HB := Aside0.mk (below_step bG hb); (try clear hb); have hcz10_0 := cZ BK402 0 (.int .i64 a0_0); have hcz10_1 := cZ BK402 1 (.int .i64 a0_1); have hfz10_0 := blk_frozen BK402.out 0; have hfz10_1 := blk_frozen BK402.out 1) | (go_at_call 57; (with_reducible refine (impl_areHints.calls k a0_0 a0_1 _ _ l1 t404 _ ?side1 ?side2 A7.out).mono ?_); (case side1 => exact cS (Kd.C_below HR1.out HB.out)); (case side2 => exact HC1.out); rintro e w11 ⟨rfl, hb⟩; replace BK402 := bW BK402 hb; replace HB := Aside0.mk (below_step bG hb); (try clear hb)))
   go_meet
   case rel => exact ⟨_, (!t404), fR, H', ⟨by first | omega | exact Nat.le_refl _⟩, ⟨bK⟩, ⟨bG⟩⟩
  ·replace c6 := Bool.eq_false_iff.mpr c6
   subst c6
   replace H := zf H
   have H' := Aside0.mk H
   clear H
   have hcz12_0 := cZ BK402 0 (.int .i64 a0_0)
   have hcz12_1 := cZ BK402 1 (.int .i64 a0_1)
   have hfz12_0 := blk_frozen BK402.out 0
   have hfz12_1 := blk_frozen BK402.out 1
   go_wp2_with (first | ((with_reducible refine gate_callee (f := 59) rfl ?_); refine goesL_ (some 14) rfl rfl Tryz.func59 (by kernel_rfl) rfl #[.agg #[.int .i64 a0_0, .int .i64 a0_1], .int .i64 256] rfl lM ?_; (with_reducible refine (impl_isSmall.calls k a0_0 a0_1 256 false _ A5.out).mono ?_); rintro e w13 ⟨rfl, hb⟩; refine ⟨_, rfl, ?_⟩; replace BK402 := bW BK402 hb; replace HB := Aside0.mk (below_step bG hb); (try clear hb)))
   go_meet
   case rel => exact ⟨_, (true), fR, H', ⟨by first | omega | exact Nat.le_refl _⟩, ⟨bK⟩, ⟨bG⟩⟩
 case rest =>
  clear HC3
  try clear c1
  try clear p2
  try clear c3
  try clear c5
  try clear c6
  try clear hcz10_0
  try clear hcz10_1
  try clear hcz12_0
  try clear hcz12_1
  try clear hcz8_0
  try clear hcz8_1
  try clear hfz10_0
  try clear hfz10_1
  try clear hfz12_0
  try clear hfz12_1
  try clear hfz8_0
  try clear hfz8_1
  obtain ⟨kq, x21_2, rfl, HA, HJ2, BK402, HB⟩ := hcut
  cases kq with
  | zero => exact absurd HA.out (by simp [impl_BestGuess.j0])
  | succ kj2 =>
   have H := HA.out
   clear HA
   simp only [impl_BestGuess.j0] at H
   by_cases c14 : x21_2 = true
   ·subst c14
    replace H := zt H
    simp only [Option.some.injEq, Prod.mk.injEq] at H
    obtain ⟨rfl, rfl, rfl⟩ := H
    go_wp2
    go_ret3
    exact ⟨rE, bG⟩
   ·replace c14 := Bool.eq_false_iff.mpr c14
    subst c14
    replace H := zf H
    replace H := Option.bind_eq_some_iff.mp H
    obtain ⟨t405, A150, H⟩ := H
    (try dsimp only at H)
    have A15 := Aside0.mk A150
    clear A150
    by_cases c16 : (t405.length : Int) = 0
    ·rw [if_pos c16] at H
     have c16b0 : ((t405.length : Int) == 0) = true := beq_iff_eq.mpr c16
     have c16b1 : ((t405.length : Int) != 0) = false := bne_eq_false_iff_eq.mpr c16
     clear c16
     simp only [Option.some.injEq, Prod.mk.injEq] at H
     obtain ⟨rfl, rfl, rfl⟩ := H
     have hcz17_0 := cZ BK402 0 (.int .i64 a0_0)
     have hcz17_1 := cZ BK402 1 (.int .i64 a0_1)
     have hfz17_0 := blk_frozen BK402.out 0
     have hfz17_1 := blk_frozen BK402.out 1
     go_wp2_with (first | ((with_reducible refine gate_callee (f := 58) rfl ?_); refine goesL_ (some 24) rfl rfl Tryz.func58 (by kernel_rfl) rfl #[.agg #[.int .i64 a0_0, .int .i64 a0_1], .slice A1 l1.length c1] rfl lM ?_; (with_reducible refine (impl_Lock_fitting.calls kj2 a0_0 a0_1 _ _ l1 t405 _ ?side1 ?side2 A15.out).mono ?_); (case side1 => exact cS (Kd.C_below HR1.out HB.out)); (case side2 => exact HC1.out); rintro e w18 ⟨v406, rfl, ho0, hb⟩; refine ⟨_, rfl, ?_⟩; have HO407 := Aside0.mk (Kd.R_lower ho0 (below_size bG)); replace BK402 := bW BK402 hb; replace HB := Aside0.mk (below_step bG hb); (try clear hb); (try clear ho0); obtain ⟨Ao19, co19, eo19⟩ := Kd.R_slice HO407.out; subst eo19))
     go_ret3
     exact ⟨rE, bG⟩
    ·rw [if_neg c16] at H
     have c16b0 : ((t405.length : Int) == 0) = false := beq_eq_false_iff_ne.mpr c16
     have c16b1 : ((t405.length : Int) != 0) = true := bne_iff_ne.mpr c16
     have c16b2 : ¬ (t405 = []) := fun h_ => c16 (by rw [h_]; rfl)
     replace H := Option.bind_eq_some_iff.mp H
     obtain ⟨t408, A200, H⟩ := H
     (try dsimp only at H)
     have A20 := Aside0.mk A200
     clear A200
     replace H := Option.bind_eq_some_iff.mp H
     obtain ⟨t409, A210, H⟩ := H
     (try dsimp only at H)
     have A21 := Aside0.mk A210
     clear A210
     have H' := Aside0.mk H
     clear H
     have hcz22_0 := cZ BK402 0 (.int .i64 a0_0)
     have hcz22_1 := cZ BK402 1 (.int .i64 a0_1)
     have hfz22_0 := blk_frozen BK402.out 0
     have hfz22_1 := blk_frozen BK402.out 1
     go_wp2_with (first | ((with_reducible refine gate_callee (f := 58) rfl ?_); refine goesL_ (some 24) rfl rfl Tryz.func58 (by kernel_rfl) rfl #[.agg #[.int .i64 a0_0, .int .i64 a0_1], .slice A1 l1.length c1] rfl lM ?_; (with_reducible refine (impl_Lock_fitting.calls kj2 a0_0 a0_1 _ _ l1 t405 _ ?side1 ?side2 A15.out).mono ?_); (case side1 => exact cS (Kd.C_below HR1.out HB.out)); (case side2 => exact HC1.out); rintro e w23 ⟨v406, rfl, ho0, hb⟩; refine ⟨_, rfl, ?_⟩; have HO407 := Aside0.mk (Kd.R_lower ho0 (below_size bG)); replace BK402 := bW BK402 hb; replace HB := Aside0.mk (below_step bG hb); (try clear hb); (try clear ho0); obtain ⟨Ao24, co24, eo24⟩ := Kd.R_slice HO407.out; subst eo24; have hcz25_0 := cZ BK402 0 (.int .i64 a0_0); have hcz25_1 := cZ BK402 1 (.int .i64 a0_1); have hfz25_0 := blk_frozen BK402.out 0; have hfz25_1 := blk_frozen BK402.out 1) | ((with_reducible refine gate_callee (f := 83) rfl ?_); refine goesL_ (some 29) rfl rfl Tryz.func83 (by kernel_rfl) rfl #[.agg #[.int .i64 a0_0, .int .i64 a0_1]] rfl lM ?_; (with_reducible refine (impl_Lock_count.calls kj2 a0_0 a0_1 t408 _ A20.out).mono ?_); rintro e w26 ⟨rfl, hb⟩; refine ⟨_, rfl, ?_⟩; replace HO407 := Aside0.mk (Kd.R_below (kR HO407) hb); replace BK402 := bW BK402 hb; replace HB := Aside0.mk (below_step bG hb); (try clear hb); have hcz27_0 := cZ BK402 0 (.int .i64 a0_0); have hcz27_1 := cZ BK402 1 (.int .i64 a0_1); have hfz27_0 := blk_frozen BK402.out 0; have hfz27_1 := blk_frozen BK402.out 1) | ((with_reducible refine gate_callee (f := 83) rfl ?_); refine goesL_ (some 32) rfl rfl Tryz.func83 (by kernel_rfl) rfl #[.agg #[.int .i64 a0_0, .int .i64 a0_1]] rfl lM ?_; (with_reducible refine (impl_Lock_count.calls kj2 a0_0 a0_1 t409 _ A21.out).mono ?_); rintro e w28 ⟨rfl, hb⟩; refine ⟨_, rfl, ?_⟩; replace HO407 := Aside0.mk (Kd.R_below (kR HO407) hb); replace BK402 := bW BK402 hb; replace HB := Aside0.mk (below_step bG hb); (try clear hb)))
     go_loopg [8, 9, 33] kj2 (fun kq v8 v9 v33 w' => ∃ (x8_2 : ByteArray) (x9_2 : Int) (x33_2 : Int), v8 = .string x8_2 ∧ v9 = .int .i64 x9_2 ∧ v33 = .int .i64 x33_2 ∧ Aside0 (impl_BestGuess.l0 kq t405 x8_2 x9_2 t409 x33_2 a0_0 a0_1 = some (r1, r2, r3)) ∧ Aside0 (kq ≤ kj2) ∧ Aside0 (Kd.R Kd.string 9 w' w.heap.size (fun _ => True) (.slice Ao24 t405.length co24) t405) ∧ Aside0 (w'.heap[gb402]? = some (.cells #[.int .i64 a0_0, .int .i64 a0_1] 25 (0, 0))) ∧ Aside0 (Below w.heap.size w w'))
     case atStart => exact ⟨((⟨#[]⟩ : ByteArray)), (wrap64 (t408 + 1)), (0), fR, fR, fR, H', ⟨Nat.le_refl _⟩, ⟨kR HO407⟩, ⟨bK⟩, ⟨bG⟩⟩
     case round =>
      clear H'
      try clear c1
      try clear p2
      try clear c3
      try clear c5
      try clear c6
      try clear p6
      try clear c8
      try clear c14
      try clear c16
      try clear c16b0
      try clear c16b1
      try clear c16b2
      try clear hcz10_0
      try clear hcz10_1
      try clear hcz12_0
      try clear hcz12_1
      try clear hcz17_0
      try clear hcz17_1
      try clear hcz22_0
      try clear hcz22_1
      try clear hcz25_0
      try clear hcz25_1
      try clear hcz27_0
      try clear hcz27_1
      try clear hcz8_0
      try clear hcz8_1
      try clear hfz10_0
      try clear hfz10_1
      try clear hfz12_0
      try clear hfz12_1
      try clear hfz17_0
      try clear hfz17_1
      try clear hfz22_0
      try clear hfz22_1
      try clear hfz25_0
      try clear hfz25_1
      try clear hfz27_0
      try clear hfz27_1
      try clear hfz8_0
      try clear hfz8_1
      try clear p2
      obtain ⟨x8_2, x9_2, x33_2, rfl, rfl, rfl, HA, HK2, HO_7, BK402, HB⟩ := hrel
      cases gk with
      | zero => exact absurd HA.out (by simp [impl_BestGuess.l0])
      | succ k2 =>
       have H := HA.out
       clear HA
       simp only [impl_BestGuess.l0] at H
       by_cases c29 : x33_2 < t409
       ·rw [if_pos c29] at H
        have c29b0 : decide (x33_2 < t409) = true := decide_eq_true c29
        clear c29
        replace H := Option.bind_eq_some_iff.mp H
        obtain ⟨t410, A300, H⟩ := H
        (try dsimp only at H)
        have A30 := Aside0.mk A300
        clear A300
        replace H := Option.bind_eq_some_iff.mp H
        obtain ⟨t411, A310, H⟩ := H
        (try dsimp only at H)
        have A31 := Aside0.mk A310
        clear A310
        by_cases c32 : t411 < x9_2
        ·rw [if_pos c32] at H
         have c32b0 : decide (t411 < x9_2) = true := decide_eq_true c32
         clear c32
         have H' := Aside0.mk H
         clear H
         have hcz33_0 := cZ BK402 0 (.int .i64 a0_0)
         have hcz33_1 := cZ BK402 1 (.int .i64 a0_1)
         have hfz33_0 := blk_frozen BK402.out 0
         have hfz33_1 := blk_frozen BK402.out 1
         go_wp2_with (first | ((with_reducible refine gate_callee (f := 70) rfl ?_); refine goesL_ (some 38) rfl rfl Tryz.func70 (by kernel_rfl) rfl #[.agg #[.int .i64 a0_0, .int .i64 a0_1], .int .i64 x33_2] rfl lM ?_; (with_reducible refine (impl_Lock_code.calls k2 a0_0 a0_1 x33_2 t410 _ A30.out).mono ?_); rintro e w34 ⟨rfl, hb⟩; refine ⟨_, rfl, ?_⟩; replace HO_7 := Aside0.mk (Kd.R_below (kR HO_7) hb); replace BK402 := bW BK402 hb; replace HB := Aside0.mk (below_step bG hb); (try clear hb)) | ((with_reducible refine gate_callee (f := 81) rfl ?_); refine goesL_ (some 41) rfl rfl Tryz.func81 (by kernel_rfl) rfl #[.slice Ao24 t405.length co24, .string t410] rfl lM ?_; (with_reducible refine (impl_worst.calls k2 _ _ t405 t410 t411 _ ?side1 ?side2 A31.out).mono ?_); (case side1 => exact cS ((Kd.R_reads' HO_7.out).2.2)); (case side2 => exact (Kd.R_reads' HO_7.out).2.1); rintro e w35 ⟨rfl, hb⟩; refine ⟨_, rfl, ?_⟩; replace HO_7 := Aside0.mk (Kd.R_below (kR HO_7) hb); replace BK402 := bW BK402 hb; replace HB := Aside0.mk (below_step bG hb); (try clear hb)))
         go_roundg k2
         case measure => have := HJ2.out; have := HK2.out; omega
         case rel => exact ⟨(t410), (t411), (wrap64 (x33_2 + 1)), fR, fR, fR, H', ⟨by have := HJ2.out; have := HK2.out; omega⟩, ⟨kR HO_7⟩, ⟨bK⟩, ⟨bG⟩⟩
        ·rw [if_neg c32] at H
         have c32b0 : decide (t411 < x9_2) = false := decide_eq_false c32
         clear c32
         have H' := Aside0.mk H
         clear H
         have hcz36_0 := cZ BK402 0 (.int .i64 a0_0)
         have hcz36_1 := cZ BK402 1 (.int .i64 a0_1)
         have hfz36_0 := blk_frozen BK402.out 0
         have hfz36_1 := blk_frozen BK402.out 1
         go_wp2_with (first | ((with_reducible refine gate_callee (f := 70) rfl ?_); refine goesL_ (some 38) rfl rfl Tryz.func70 (by kernel_rfl) rfl #[.agg #[.int .i64 a0_0, .int .i64 a0_1], .int .i64 x33_2] rfl lM ?_; (with_reducible refine (impl_Lock_code.calls k2 a0_0 a0_1 x33_2 t410 _ A30.out).mono ?_); rintro e w37 ⟨rfl, hb⟩; refine ⟨_, rfl, ?_⟩; replace HO_7 := Aside0.mk (Kd.R_below (kR HO_7) hb); replace BK402 := bW BK402 hb; replace HB := Aside0.mk (below_step bG hb); (try clear hb)) | ((with_reducible refine gate_callee (f := 81) rfl ?_); refine goesL_ (some 41) rfl rfl Tryz.func81 (by kernel_rfl) rfl #[.slice Ao24 t405.length co24, .string t410] rfl lM ?_; (with_reducible refine (impl_worst.calls k2 _ _ t405 t410 t411 _ ?side1 ?side2 A31.out).mono ?_); (case side1 => exact cS ((Kd.R_reads' HO_7.out).2.2)); (case side2 => exact (Kd.R_reads' HO_7.out).2.1); rintro e w38 ⟨rfl, hb⟩; refine ⟨_, rfl, ?_⟩; replace HO_7 := Aside0.mk (Kd.R_below (kR HO_7) hb); replace BK402 := bW BK402 hb; replace HB := Aside0.mk (below_step bG hb); (try clear hb)))
         go_roundg k2
         case measure => have := HJ2.out; have := HK2.out; omega
         case rel => exact ⟨(x8_2), (x9_2), (wrap64 (x33_2 + 1)), fR, fR, fR, H', ⟨by have := HJ2.out; have := HK2.out; omega⟩, ⟨kR HO_7⟩, ⟨bK⟩, ⟨bG⟩⟩
       ·rw [if_neg c29] at H
        have c29b0 : decide (x33_2 < t409) = false := decide_eq_false c29
        clear c29
        simp only [Option.some.injEq, Prod.mk.injEq] at H
        obtain ⟨rfl, rfl, rfl⟩ := H
        go_wp2
        go_ret3
        exact ⟨rE, bG⟩

/-! ### spec_BestGuess: function 40 -/
mutual
def spec_BestGuess.j0 : Nat → List (S35) → Bool → Int → Int → Option (ByteArray × Int × Bool)
 | 0, _, _, _, _ => none
 | k + 1, x1, x21, x413000, x413001 => if x21 = true then (some ((⟨#[]⟩ : ByteArray), 0, false)) else ((spec_hiAll.f k x413000 x413001).bind fun t415 => ((spec_hiFitting.f k t415 x1).bind fun t418 => (if (t418.length : Int) = 0 then (some ((⟨#[]⟩ : ByteArray), 0, false)) else ((spec_hiAll.f k x413000 x413001).bind fun t421 => (spec_BestGuess.l0 k t418 (⟨#[]⟩ : ByteArray) 0 t421 (t421.length : Int) 0 x413000 x413001)))))
def spec_BestGuess.l0 : Nat → List ByteArray → ByteArray → Int → List ByteArray → Int → Int → Int → Int → Option (ByteArray × Int × Bool)
 | 0, _, _, _, _, _, _, _, _ => none
 | k + 1, x7, x8, x9, x30, x31, x32, x413000, x413001 => if x32 < x31 then (if 0 ≤ x32 then (if x32 < (x30.length : Int) then ((spec_hiWorst.f k x413000 (rdOf ByteArray.empty x30 x32) x7).bind fun t425 => (if x8.toList = ([] : List UInt8) then (spec_BestGuess.l0 k x7 (rdOf ByteArray.empty x30 x32) t425 x30 x31 (wrap64 (x32 + 1)) x413000 x413001) else (if t425 < x9 then (spec_BestGuess.l0 k x7 (rdOf ByteArray.empty x30 x32) t425 x30 x31 (wrap64 (x32 + 1)) x413000 x413001) else (spec_BestGuess.l0 k x7 x8 x9 x30 x31 (wrap64 (x32 + 1)) x413000 x413001)))) else (none)) else (none)) else (some (x8, x9, true))
end
def spec_BestGuess.f (k : Nat) (a0_0 : Int) (a0_1 : Int) (l1 : List (S35)) : Option (ByteArray × Int × Bool) := (spec_hiLock.f k a0_0 a0_1 256).bind fun t413 => (if t413 = true then ((spec_hiGood.f k a0_0 a0_1 l1).bind fun t414 => (spec_BestGuess.j0 k l1 (!t414) a0_0 a0_1)) else (spec_BestGuess.j0 k l1 true a0_0 a0_1))
theorem spec_BestGuess.mono_l : ∀ k, (∀ y0 y1 y2 y3, LeO (spec_BestGuess.j0 k y0 y1 y2 y3) (spec_BestGuess.j0 (k + 1) y0 y1 y2 y3)) ∧ (∀ y0 y1 y2 y3 y4 y5 y6 y7, LeO (spec_BestGuess.l0 k y0 y1 y2 y3 y4 y5 y6 y7) (spec_BestGuess.l0 (k + 1) y0 y1 y2 y3 y4 y5 y6 y7))
 | 0 => ⟨fun _ _ _ _ r h => by simp [spec_BestGuess.j0] at h, fun _ _ _ _ _ _ _ _ r h => by simp [spec_BestGuess.l0] at h⟩
 | k + 1 => by
  obtain ⟨ih0, ih1⟩ := spec_BestGuess.mono_l k
  refine ⟨?_, ?_⟩
  intro y0 y1 y2 y3; unfold spec_BestGuess.j0; rotate_left
  intro y0 y1 y2 y3 y4 y5 y6 y7; unfold spec_BestGuess.l0; rotate_left
  all_goals repeat' first
  | (with_reducible first | exact ih0 _ _ _ _ | exact ih1 _ _ _ _ _ _ _ _ | exact spec_hiAll.mono _ _ _ | exact spec_hiFitting.mono _ _ _ | exact spec_hiGood.mono _ _ _ _ | exact spec_hiLock.mono _ _ _ _ | exact spec_hiWorst.mono _ _ _ _ | exact LeO.refl _ | exact LeO.none _ | refine LeO.ite ?_ ?_ | refine LeO.bind ?_ (fun _ => ?_))
  | exact ih0 _ _ _ _
  | exact ih1 _ _ _ _ _ _ _ _
  | exact spec_hiAll.mono _ _ _
  | exact spec_hiFitting.mono _ _ _
  | exact spec_hiGood.mono _ _ _ _
  | exact spec_hiLock.mono _ _ _ _
  | exact spec_hiWorst.mono _ _ _ _
  | exact LeO.none _
  | refine LeO.ite ?_ ?_
  | refine LeO.bind ?_ (fun _ => ?_)
theorem spec_BestGuess.mono : ∀ a0 a1 a2 k, LeO (spec_BestGuess.f k a0 a1 a2) (spec_BestGuess.f (k + 1) a0 a1 a2) := by
 intro a0 a1 a2 k
 obtain ⟨ih0, ih1⟩ := spec_BestGuess.mono_l k
 unfold spec_BestGuess.f
 repeat' first
   | (with_reducible first | exact ih0 _ _ _ _ | exact ih1 _ _ _ _ _ _ _ _ | exact spec_hiAll.mono _ _ _ | exact spec_hiFitting.mono _ _ _ | exact spec_hiGood.mono _ _ _ _ | exact spec_hiLock.mono _ _ _ _ | exact spec_hiWorst.mono _ _ _ _ | exact LeO.refl _ | exact LeO.none _ | refine LeO.ite ?_ ?_ | refine LeO.bind ?_ (fun _ => ?_))
   | exact ih0 _ _ _ _
   | exact ih1 _ _ _ _ _ _ _ _
   | exact spec_hiAll.mono _ _ _
   | exact spec_hiFitting.mono _ _ _
   | exact spec_hiGood.mono _ _ _ _
   | exact spec_hiLock.mono _ _ _ _
   | exact spec_hiWorst.mono _ _ _ _
   | exact LeO.none _
   | refine LeO.ite ?_ ?_
   | refine LeO.bind ?_ (fun _ => ?_)
theorem spec_BestGuess.calls (k : Nat) (a0_0 : Int) (a0_1 : Int) (A1 : Option Addr) (c1 : Nat) (l1 : List (S35)) (r1 : ByteArray) (r2 : Int) (r3 : Bool) (w : World) (hr1 : Kd.C k35 w A1 l1.length l1) (hc1 : l1.length ≤ c1) (h : spec_BestGuess.f k a0_0 a0_1 l1 = some (r1, r2, r3)) :
  Calls Tryz.prog 40 #[.agg #[.int .i64 a0_0, .int .i64 a0_1], .slice A1 l1.length c1] w fun e w' => e = .returned (.tuple #[.string r1, .int .i64 r2, .bool r3]) ∧ Below w.heap.size w w' := by
 have hu25 := Tryz.underlying25
 have HR1 := Aside0.mk hr1
 have HC1 := Aside0.mk hc1
 clear hr1 hc1
 have HB := Aside0.mk (Below.refl w.heap.size w)
 have H := h
 unfold spec_BestGuess.f at H
 clear h
 have HC3 := Aside0.mk H
 clear H
 go_enter Tryz.func40, Tryz.ntmps40
 go_upto_region 1 with (first | ((with_reducible refine gate_dst (N := 2) rfl ?_); refine box_event ?hg (N := 2) ?hd (cs := #[.int .i64 a0_0, .int .i64 a0_1]) (t := 25) ?hr ?_; (case hd => rfl); (case hg => rfl); (case hr => first | (go_simp; done) | (go_simp; rfl)); intro gb412 hg w4 hbox hb; have BK412 := Aside0.mk (hbox); have GW412 : Aside0 (w.heap.size ≤ gb412) := gW hg; have GE412 := GW412; replace HB := Aside0.mk (below_step bB hb); clear hb hbox hg))
 (try simp only [Act.put, List.setIfInBounds_toArray, List.set_cons_zero, List.set_cons_succ])
 go_cut [21] (fun v21 wc => ∃ (kq : Nat) (x21_2 : Bool), v21 = .bool x21_2 ∧ Aside0 (spec_BestGuess.j0 kq l1 x21_2 a0_0 a0_1 = some (r1, r2, r3)) ∧ Aside0 (kq ≤ k) ∧ Aside0 (wc.heap[gb412]? = some (.cells #[.int .i64 a0_0, .int .i64 a0_1] 25 (0, 0))) ∧ Aside0 (Below w.heap.size w wc))
 case first =>
  have H := HC3.out
  clear HC3
  replace H := Option.bind_eq_some_iff.mp H
  obtain ⟨t413, A50, H⟩ := H
  (try dsimp only at H)
  have A5 := Aside0.mk A50
  clear A50
  by_cases c6 : t413 = true
  ·subst c6
   replace H := zt H
   replace H := Option.bind_eq_some_iff.mp H
   obtain ⟨t414, A70, H⟩ := H
   (try dsimp only at H)
   have A7 := Aside0.mk A70
   clear A70
   have H' := Aside0.mk H
   clear H
   have hcz8_0 := cZ BK412 0 (.int .i64 a0_0)
   have hcz8_1 := cZ BK412 1 (.int .i64 a0_1)
   have hfz8_0 := blk_frozen BK412.out 0
   have hfz8_1 := blk_frozen BK412.out 1
   go_wp2_with (first | ((with_reducible refine gate_callee (f := 53) rfl ?_); refine goesL_ (some 14) rfl rfl Tryz.func53 (by kernel_rfl) rfl #[.agg #[.int .i64 a0_0, .int .i64 a0_1], .int .i64 256] rfl lM ?_; (with_reducible refine (spec_hiLock.calls k a0_0 a0_1 256 true _ A5.out).mono ?_); rintro e w9 ⟨rfl, hb⟩; refine ⟨_, rfl, ?_⟩; replace BK412 := bW BK412 hb; replace HB := Aside0.mk (below_step bG hb); (try clear hb); have hcz10_0 := cZ BK412 0 (.int .i64 a0_0); have hcz10_1 := cZ BK412 1 (.int .i64 a0_1); have hfz10_0 := blk_frozen BK412.out 0; have hfz10_1 := blk_frozen BK412.out 1) | (go_at_call 84; (with_reducible refine (spec_hiGood.calls k a0_0 a0_1 _ _ l1 t414 _ ?side1 ?side2 A7.out).mono ?_); (case side1 => exact cS (Kd.C_below HR1.out HB.out)); (case side2 => exact HC1.out); rintro e w11 ⟨rfl, hb⟩; replace BK412 := bW BK412 hb; replace HB := Aside0.mk (below_step bG hb); (try clear hb)))
   go_meet
   case rel => exact ⟨_, (!t414), fR, H', ⟨by first | omega | exact Nat.le_refl _⟩, ⟨bK⟩, ⟨bG⟩⟩
  ·replace c6 := Bool.eq_false_iff.mpr c6
   subst c6
   replace H := zf H
   have H' := Aside0.mk H
   clear H
   have hcz12_0 := cZ BK412 0 (.int .i64 a0_0)
   have hcz12_1 := cZ BK412 1 (.int .i64 a0_1)
   have hfz12_0 := blk_frozen BK412.out 0
   have hfz12_1 := blk_frozen BK412.out 1
   go_wp2_with (first | ((with_reducible refine gate_callee (f := 53) rfl ?_); refine goesL_ (some 14) rfl rfl Tryz.func53 (by kernel_rfl) rfl #[.agg #[.int .i64 a0_0, .int .i64 a0_1], .int .i64 256] rfl lM ?_; (with_reducible refine (spec_hiLock.calls k a0_0 a0_1 256 false _ A5.out).mono ?_); rintro e w13 ⟨rfl, hb⟩; refine ⟨_, rfl, ?_⟩; replace BK412 := bW BK412 hb; replace HB := Aside0.mk (below_step bG hb); (try clear hb)))
   go_meet
   case rel => exact ⟨_, (true), fR, H', ⟨by first | omega | exact Nat.le_refl _⟩, ⟨bK⟩, ⟨bG⟩⟩
 case rest =>
  clear HC3
  try clear c1
  try clear p2
  try clear c4
  try clear c5
  try clear c6
  try clear hcz10_0
  try clear hcz10_1
  try clear hcz12_0
  try clear hcz12_1
  try clear hcz8_0
  try clear hcz8_1
  try clear hfz10_0
  try clear hfz10_1
  try clear hfz12_0
  try clear hfz12_1
  try clear hfz8_0
  try clear hfz8_1
  obtain ⟨kq, x21_2, rfl, HA, HJ2, BK412, HB⟩ := hcut
  cases kq with
  | zero => exact absurd HA.out (by simp [spec_BestGuess.j0])
  | succ kj2 =>
   have H := HA.out
   clear HA
   simp only [spec_BestGuess.j0] at H
   by_cases c14 : x21_2 = true
   ·subst c14
    replace H := zt H
    simp only [Option.some.injEq, Prod.mk.injEq] at H
    obtain ⟨rfl, rfl, rfl⟩ := H
    go_wp2
    go_ret3
    exact ⟨rE, bG⟩
   ·replace c14 := Bool.eq_false_iff.mpr c14
    subst c14
    replace H := zf H
    replace H := Option.bind_eq_some_iff.mp H
    obtain ⟨t415, A150, H⟩ := H
    (try dsimp only at H)
    have A15 := Aside0.mk A150
    clear A150
    replace H := Option.bind_eq_some_iff.mp H
    obtain ⟨t418, A160, H⟩ := H
    (try dsimp only at H)
    have A16 := Aside0.mk A160
    clear A160
    by_cases c17 : (t418.length : Int) = 0
    ·rw [if_pos c17] at H
     have c17b0 : ((t418.length : Int) == 0) = true := beq_iff_eq.mpr c17
     have c17b1 : ((t418.length : Int) != 0) = false := bne_eq_false_iff_eq.mpr c17
     clear c17
     simp only [Option.some.injEq, Prod.mk.injEq] at H
     obtain ⟨rfl, rfl, rfl⟩ := H
     have hcz18_0 := cZ BK412 0 (.int .i64 a0_0)
     have hcz18_1 := cZ BK412 1 (.int .i64 a0_1)
     have hfz18_0 := blk_frozen BK412.out 0
     have hfz18_1 := blk_frozen BK412.out 1
     go_wp2_with (first | ((with_reducible refine gate_callee (f := 66) rfl ?_); refine goesL_ (some 23) rfl rfl Tryz.func66 (by kernel_rfl) rfl #[.agg #[.int .i64 a0_0, .int .i64 a0_1]] rfl lM ?_; (with_reducible refine (spec_hiAll.calls kj2 a0_0 a0_1 t415 _ A15.out).mono ?_); rintro e w19 ⟨v416, rfl, ho0, hb⟩; refine ⟨_, rfl, ?_⟩; have HO417 := Aside0.mk (Kd.R_lower ho0 (below_size bG)); replace BK412 := bW BK412 hb; replace HB := Aside0.mk (below_step bG hb); (try clear hb); (try clear ho0); obtain ⟨Ao20, co20, eo20⟩ := Kd.R_slice HO417.out; subst eo20) | ((with_reducible refine gate_callee (f := 73) rfl ?_); refine goesL_ (some 25) rfl rfl Tryz.func73 (by kernel_rfl) rfl #[.slice Ao20 t415.length co20, .slice A1 l1.length c1] rfl lM ?_; (with_reducible refine (spec_hiFitting.calls kj2 _ _ t415 _ _ l1 t418 _ ?side1 ?side2 ?side3 ?side4 A16.out).mono ?_); (case side1 => exact cS ((Kd.R_reads' HO417.out).2.2)); (case side2 => exact (Kd.R_reads' HO417.out).2.1); (case side3 => exact cS (Kd.C_below HR1.out HB.out)); (case side4 => exact HC1.out); rintro e w21 ⟨v419, rfl, ho0, hb⟩; refine ⟨_, rfl, ?_⟩; have HO420 := Aside0.mk (Kd.R_lower (Kd.R_new' ho0 (Kd.R_lt (kR HO417))) (below_size bG)); replace HO417 := Aside0.mk (Kd.R_elder' (kR HO417) (Kd.R_base ho0) hb); replace BK412 := bW BK412 hb; replace HB := Aside0.mk (below_step bG hb); (try clear hb); (try clear ho0); obtain ⟨Ao22, co22, eo22⟩ := Kd.R_slice HO420.out; subst eo22))
     go_ret3
     exact ⟨rE, bG⟩
    ·rw [if_neg c17] at H
     have c17b0 : ((t418.length : Int) == 0) = false := beq_eq_false_iff_ne.mpr c17
     have c17b1 : ((t418.length : Int) != 0) = true := bne_iff_ne.mpr c17
     have c17b2 : ¬ (t418 = []) := fun h_ => c17 (by rw [h_]; rfl)
     replace H := Option.bind_eq_some_iff.mp H
     obtain ⟨t421, A230, H⟩ := H
     (try dsimp only at H)
     have A23 := Aside0.mk A230
     clear A230
     have H' := Aside0.mk H
     clear H
     have hcz24_0 := cZ BK412 0 (.int .i64 a0_0)
     have hcz24_1 := cZ BK412 1 (.int .i64 a0_1)
     have hfz24_0 := blk_frozen BK412.out 0
     have hfz24_1 := blk_frozen BK412.out 1
     go_wp2_with (first | ((with_reducible refine gate_callee (f := 66) rfl ?_); refine goesL_ (some 23) rfl rfl Tryz.func66 (by kernel_rfl) rfl #[.agg #[.int .i64 a0_0, .int .i64 a0_1]] rfl lM ?_; (with_reducible refine (spec_hiAll.calls kj2 a0_0 a0_1 t415 _ A15.out).mono ?_); rintro e w25 ⟨v416, rfl, ho0, hb⟩; refine ⟨_, rfl, ?_⟩; have HO417 := Aside0.mk (Kd.R_lower ho0 (below_size bG)); replace BK412 := bW BK412 hb; replace HB := Aside0.mk (below_step bG hb); (try clear hb); (try clear ho0); obtain ⟨Ao26, co26, eo26⟩ := Kd.R_slice HO417.out; subst eo26) | ((with_reducible refine gate_callee (f := 73) rfl ?_); refine goesL_ (some 25) rfl rfl Tryz.func73 (by kernel_rfl) rfl #[.slice Ao26 t415.length co26, .slice A1 l1.length c1] rfl lM ?_; (with_reducible refine (spec_hiFitting.calls kj2 _ _ t415 _ _ l1 t418 _ ?side1 ?side2 ?side3 ?side4 A16.out).mono ?_); (case side1 => exact cS ((Kd.R_reads' HO417.out).2.2)); (case side2 => exact (Kd.R_reads' HO417.out).2.1); (case side3 => exact cS (Kd.C_below HR1.out HB.out)); (case side4 => exact HC1.out); rintro e w27 ⟨v419, rfl, ho0, hb⟩; refine ⟨_, rfl, ?_⟩; have HO420 := Aside0.mk (Kd.R_lower (Kd.R_new' ho0 (Kd.R_lt (kR HO417))) (below_size bG)); replace HO417 := Aside0.mk (Kd.R_elder' (kR HO417) (Kd.R_base ho0) hb); replace BK412 := bW BK412 hb; replace HB := Aside0.mk (below_step bG hb); (try clear hb); (try clear ho0); obtain ⟨Ao28, co28, eo28⟩ := Kd.R_slice HO420.out; subst eo28; have hcz29_0 := cZ BK412 0 (.int .i64 a0_0); have hcz29_1 := cZ BK412 1 (.int .i64 a0_1); have hfz29_0 := blk_frozen BK412.out 0; have hfz29_1 := blk_frozen BK412.out 1) | ((with_reducible refine gate_callee (f := 66) rfl ?_); refine goesL_ (some 30) rfl rfl Tryz.func66 (by kernel_rfl) rfl #[.agg #[.int .i64 a0_0, .int .i64 a0_1]] rfl lM ?_; (with_reducible refine (spec_hiAll.calls kj2 a0_0 a0_1 t421 _ A23.out).mono ?_); rintro e w30 ⟨v422, rfl, ho0, hb⟩; refine ⟨_, rfl, ?_⟩; have HO423 := Aside0.mk (Kd.R_lower (Kd.R_new' (Kd.R_new' ho0 (Kd.R_lt (kR HO417))) (Kd.R_lt (kR HO420))) (below_size bG)); replace HO417 := Aside0.mk (Kd.R_elder' (kR HO417) (Kd.R_base ho0) hb); replace HO420 := Aside0.mk (Kd.R_elder' (kR HO420) (Kd.R_base ho0) hb); replace BK412 := bW BK412 hb; replace HB := Aside0.mk (below_step bG hb); (try clear hb); (try clear ho0); obtain ⟨Ao31, co31, eo31⟩ := Kd.R_slice HO423.out; subst eo31))
     go_loopg [8, 9, 32] kj2 (fun kq v8 v9 v32 w' => ∃ (x8_2 : ByteArray) (x9_2 : Int) (x32_2 : Int), v8 = .string x8_2 ∧ v9 = .int .i64 x9_2 ∧ v32 = .int .i64 x32_2 ∧ Aside0 (spec_BestGuess.l0 kq t418 x8_2 x9_2 t421 (t421.length : Int) x32_2 a0_0 a0_1 = some (r1, r2, r3)) ∧ Aside0 (kq ≤ kj2) ∧ Aside0 (Kd.R Kd.string 9 w' w.heap.size (fun k_ => some k_ ≠ ((.slice Ao31 t421.length co31) : Value).ownBlock) (.slice Ao28 t418.length co28) t418) ∧ Aside0 (Kd.R Kd.string 9 w' w.heap.size (fun k_ => some k_ ≠ ((.slice Ao28 t418.length co28) : Value).ownBlock) (.slice Ao31 t421.length co31) t421) ∧ Aside0 (w'.heap[gb412]? = some (.cells #[.int .i64 a0_0, .int .i64 a0_1] 25 (0, 0))) ∧ Aside0 (Below w.heap.size w w'))
     case atStart => exact ⟨((⟨#[]⟩ : ByteArray)), (0), (0), fR, fR, fR, H', ⟨Nat.le_refl _⟩, ⟨by (with_reducible repeat (first | apply Kd.R_alloc | apply Kd.R_drewN | apply Kd.R_drew)); exact Kd.R_mono HO420.out (fun _ hk => hk.2)⟩, ⟨by (with_reducible repeat (first | apply Kd.R_alloc | apply Kd.R_drewN | apply Kd.R_drew)); exact Kd.R_mono HO423.out (fun _ hk => hk.2)⟩, ⟨bK⟩, ⟨bG⟩⟩
     case round =>
      clear H'
      try clear c1
      try clear p2
      try clear c4
      try clear c5
      try clear c6
      try clear c7
      try clear c14
      try clear c17
      try clear c17b0
      try clear c17b1
      try clear c17b2
      try clear hcz10_0
      try clear hcz10_1
      try clear hcz12_0
      try clear hcz12_1
      try clear hcz18_0
      try clear hcz18_1
      try clear hcz24_0
      try clear hcz24_1
      try clear hcz29_0
      try clear hcz29_1
      try clear hcz8_0
      try clear hcz8_1
      try clear hfz10_0
      try clear hfz10_1
      try clear hfz12_0
      try clear hfz12_1
      try clear hfz18_0
      try clear hfz18_1
      try clear hfz24_0
      try clear hfz24_1
      try clear hfz29_0
      try clear hfz29_1
      try clear hfz8_0
      try clear hfz8_1
      try clear p2
      obtain ⟨x8_2, x9_2, x32_2, rfl, rfl, rfl, HA, HK2, HO_7, HO_30, BK412, HB⟩ := hrel
      cases gk with
      | zero => exact absurd HA.out (by simp [spec_BestGuess.l0])
      | succ k2 =>
       have H := HA.out
       clear HA
       simp only [spec_BestGuess.l0] at H
       by_cases c32 : x32_2 < (t421.length : Int)
       ·rw [if_pos c32] at H
        have c32b0 : decide (x32_2 < (t421.length : Int)) = true := decide_eq_true c32
        clear c32
        replace H := nz H; obtain ⟨c33, H⟩ := H
        have c33b0 : decide (0 ≤ x32_2) = true := decide_eq_true c33
        clear c33
        replace H := nz H; obtain ⟨c34, H⟩ := H
        have c34b0 : decide (x32_2 < (t421.length : Int)) = true := decide_eq_true c34
        clear c34
        replace H := Option.bind_eq_some_iff.mp H
        obtain ⟨t425, A350, H⟩ := H
        (try dsimp only at H)
        have A35 := Aside0.mk A350
        clear A350
        by_cases c36 : x8_2.toList = ([] : List UInt8)
        ·rw [if_pos c36] at H
         have c36b0 : (x8_2.toList == ([] : List UInt8)) = true := beq_iff_eq.mpr c36
         have c36b1 : (x8_2.toList != ([] : List UInt8)) = false := bne_eq_false_iff_eq.mpr c36
         clear c36
         have H' := Aside0.mk H
         clear H
         have p424 : 0 ≤ (x32_2 : Int) := oD
         have q424 : x32_2 < (t421.length : Int) := oD
         obtain ⟨ad424, e424, hx424_0⟩ := Kd.at_string (Kd.R_reads' HO_30.out).2.2 x32_2 p424 q424
         cases e424
         replace p424 := eq_true p424
         replace q424 := eq_true q424
         have hcz37_0 := cZ BK412 0 (.int .i64 a0_0)
         have hcz37_1 := cZ BK412 1 (.int .i64 a0_1)
         have hfz37_0 := blk_frozen BK412.out 0
         have hfz37_1 := blk_frozen BK412.out 1
         go_wp2_with (first | ((with_reducible refine gate_callee (f := 82) rfl ?_); refine goesL_ (some 40) rfl rfl Tryz.func82 (by kernel_rfl) rfl #[.int .i64 a0_0, .string (rdOf ByteArray.empty t421 x32_2), .slice Ao28 t418.length co28] rfl lM ?_; (with_reducible refine (spec_hiWorst.calls k2 a0_0 (rdOf ByteArray.empty t421 x32_2) _ _ t418 t425 _ ?side1 ?side2 A35.out).mono ?_); (case side1 => exact cS ((Kd.R_reads' HO_7.out).2.2)); (case side2 => exact (Kd.R_reads' HO_7.out).2.1); rintro e w38 ⟨rfl, hb⟩; refine ⟨_, rfl, ?_⟩; replace HO_7 := Aside0.mk (Kd.R_below (kR HO_7) hb); replace HO_30 := Aside0.mk (Kd.R_below (kR HO_30) hb); replace BK412 := bW BK412 hb; replace HB := Aside0.mk (below_step bG hb); (try clear hb)))
         go_roundg k2
         case measure => have := HJ2.out; have := HK2.out; omega
         case rel => exact ⟨(rdOf ByteArray.empty t421 x32_2), (t425), (wrap64 (x32_2 + 1)), fR, fR, fR, H', ⟨by have := HJ2.out; have := HK2.out; omega⟩, ⟨kR HO_7⟩, ⟨kR HO_30⟩, ⟨bK⟩, ⟨bG⟩⟩
        ·rw [if_neg c36] at H
         have c36b0 : (x8_2.toList == ([] : List UInt8)) = false := beq_eq_false_iff_ne.mpr c36
         have c36b1 : (x8_2.toList != ([] : List UInt8)) = true := bne_iff_ne.mpr c36
         by_cases c39 : t425 < x9_2
         ·rw [if_pos c39] at H
          have c39b0 : decide (t425 < x9_2) = true := decide_eq_true c39
          clear c39
          have H' := Aside0.mk H
          clear H
          have p424 : 0 ≤ (x32_2 : Int) := oD
          have q424 : x32_2 < (t421.length : Int) := oD
          obtain ⟨ad424, e424, hx424_0⟩ := Kd.at_string (Kd.R_reads' HO_30.out).2.2 x32_2 p424 q424
          cases e424
          replace p424 := eq_true p424
          replace q424 := eq_true q424
          have hcz40_0 := cZ BK412 0 (.int .i64 a0_0)
          have hcz40_1 := cZ BK412 1 (.int .i64 a0_1)
          have hfz40_0 := blk_frozen BK412.out 0
          have hfz40_1 := blk_frozen BK412.out 1
          go_wp2_with (first | ((with_reducible refine gate_callee (f := 82) rfl ?_); refine goesL_ (some 40) rfl rfl Tryz.func82 (by kernel_rfl) rfl #[.int .i64 a0_0, .string (rdOf ByteArray.empty t421 x32_2), .slice Ao28 t418.length co28] rfl lM ?_; (with_reducible refine (spec_hiWorst.calls k2 a0_0 (rdOf ByteArray.empty t421 x32_2) _ _ t418 t425 _ ?side1 ?side2 A35.out).mono ?_); (case side1 => exact cS ((Kd.R_reads' HO_7.out).2.2)); (case side2 => exact (Kd.R_reads' HO_7.out).2.1); rintro e w41 ⟨rfl, hb⟩; refine ⟨_, rfl, ?_⟩; replace HO_7 := Aside0.mk (Kd.R_below (kR HO_7) hb); replace HO_30 := Aside0.mk (Kd.R_below (kR HO_30) hb); replace BK412 := bW BK412 hb; replace HB := Aside0.mk (below_step bG hb); (try clear hb)))
          go_roundg k2
          case measure => have := HJ2.out; have := HK2.out; omega
          case rel => exact ⟨(rdOf ByteArray.empty t421 x32_2), (t425), (wrap64 (x32_2 + 1)), fR, fR, fR, H', ⟨by have := HJ2.out; have := HK2.out; omega⟩, ⟨kR HO_7⟩, ⟨kR HO_30⟩, ⟨bK⟩, ⟨bG⟩⟩
         ·rw [if_neg c39] at H
          have c39b0 : decide (t425 < x9_2) = false := decide_eq_false c39
          clear c39
          have H' := Aside0.mk H
          clear H
          have p424 : 0 ≤ (x32_2 : Int) := oD
          have q424 : x32_2 < (t421.length : Int) := oD
          obtain ⟨ad424, e424, hx424_0⟩ := Kd.at_string (Kd.R_reads' HO_30.out).2.2 x32_2 p424 q424
          cases e424
          replace p424 := eq_true p424
          replace q424 := eq_true q424
          have hcz42_0 := cZ BK412 0 (.int .i64 a0_0)
          have hcz42_1 := cZ BK412 1 (.int .i64 a0_1)
          have hfz42_0 := blk_frozen BK412.out 0
          have hfz42_1 := blk_frozen BK412.out 1
          go_wp2_with (first | ((with_reducible refine gate_callee (f := 82) rfl ?_); refine goesL_ (some 40) rfl rfl Tryz.func82 (by kernel_rfl) rfl #[.int .i64 a0_0, .string (rdOf ByteArray.empty t421 x32_2), .slice Ao28 t418.length co28] rfl lM ?_; (with_reducible refine (spec_hiWorst.calls k2 a0_0 (rdOf ByteArray.empty t421 x32_2) _ _ t418 t425 _ ?side1 ?side2 A35.out).mono ?_); (case side1 => exact cS ((Kd.R_reads' HO_7.out).2.2)); (case side2 => exact (Kd.R_reads' HO_7.out).2.1); rintro e w43 ⟨rfl, hb⟩; refine ⟨_, rfl, ?_⟩; replace HO_7 := Aside0.mk (Kd.R_below (kR HO_7) hb); replace HO_30 := Aside0.mk (Kd.R_below (kR HO_30) hb); replace BK412 := bW BK412 hb; replace HB := Aside0.mk (below_step bG hb); (try clear hb)))
          go_roundg k2
          case measure => have := HJ2.out; have := HK2.out; omega
          case rel => exact ⟨(x8_2), (x9_2), (wrap64 (x32_2 + 1)), fR, fR, fR, H', ⟨by have := HJ2.out; have := HK2.out; omega⟩, ⟨kR HO_7⟩, ⟨kR HO_30⟩, ⟨bK⟩, ⟨bG⟩⟩
       ·rw [if_neg c32] at H
        have c32b0 : decide (x32_2 < (t421.length : Int)) = false := decide_eq_false c32
        clear c32
        simp only [Option.some.injEq, Prod.mk.injEq] at H
        obtain ⟨rfl, rfl, rfl⟩ := H
        go_wp2
        go_ret3
        exact ⟨rE, bG⟩

/-! ### spec_FitsHints: function 41 -/
def spec_FitsHints.f (k : Nat) (a0_0 : Int) (a0_1 : Int) (l1 : List (S35)) (a2 : ByteArray) : Option (Bool × Bool) := (spec_hiAsked.f k a0_0 a0_1 l1).bind fun t427 => (if t427 = true then ((spec_whCode.f k a0_0 a0_1 a2).bind fun t428 => (if t428 = true then ((spec_hiFits.f k l1 a2).bind fun t429 => (some (t429, true))) else (some (false, false)))) else (some (false, false)))
theorem spec_FitsHints.mono : ∀ a0 a1 a2 a3 k, LeO (spec_FitsHints.f k a0 a1 a2 a3) (spec_FitsHints.f (k + 1) a0 a1 a2 a3) := by
 intro a0 a1 a2 a3 k
 unfold spec_FitsHints.f
 repeat' first
   | (with_reducible first | exact spec_hiAsked.mono _ _ _ _ | exact spec_hiFits.mono _ _ _ | exact spec_whCode.mono _ _ _ _ | exact LeO.refl _ | exact LeO.none _ | refine LeO.ite ?_ ?_ | refine LeO.bind ?_ (fun _ => ?_))
   | exact spec_hiAsked.mono _ _ _ _
   | exact spec_hiFits.mono _ _ _
   | exact spec_whCode.mono _ _ _ _
   | exact LeO.none _
   | refine LeO.ite ?_ ?_
   | refine LeO.bind ?_ (fun _ => ?_)
theorem spec_FitsHints.calls (k : Nat) (a0_0 : Int) (a0_1 : Int) (A1 : Option Addr) (c1 : Nat) (l1 : List (S35)) (a2 : ByteArray) (r1 : Bool) (r2 : Bool) (w : World) (hr1 : Kd.C k35 w A1 l1.length l1) (hc1 : l1.length ≤ c1) (h : spec_FitsHints.f k a0_0 a0_1 l1 a2 = some (r1, r2)) :
  Calls Tryz.prog 41 #[.agg #[.int .i64 a0_0, .int .i64 a0_1], .slice A1 l1.length c1, .string a2] w fun e w' => e = .returned (.tuple #[.bool r1, .bool r2]) ∧ Below w.heap.size w w' := by
 have hu25 := Tryz.underlying25
 have HR1 := Aside0.mk hr1
 have HC1 := Aside0.mk hc1
 clear hr1 hc1
 have HB := Aside0.mk (Below.refl w.heap.size w)
 have H := h
 unfold spec_FitsHints.f at H
 clear h
 replace H := Option.bind_eq_some_iff.mp H
 obtain ⟨t427, A40, H⟩ := H
 (try dsimp only at H)
 have A4 := Aside0.mk A40
 clear A40
 by_cases c5 : t427 = true
 ·subst c5
  replace H := zt H
  replace H := Option.bind_eq_some_iff.mp H
  obtain ⟨t428, A60, H⟩ := H
  (try dsimp only at H)
  have A6 := Aside0.mk A60
  clear A60
  by_cases c7 : t428 = true
  ·subst c7
   replace H := zt H
   replace H := Option.bind_eq_some_iff.mp H
   obtain ⟨t429, A80, H⟩ := H
   (try dsimp only at H)
   have A8 := Aside0.mk A80
   clear A80
   simp only [Option.some.injEq, Prod.mk.injEq] at H
   obtain ⟨rfl, rfl⟩ := H
   go_enter Tryz.func41, Tryz.ntmps41
   go_wp2_with (first | ((with_reducible refine gate_dst (N := 3) rfl ?_); refine box_event ?hg (N := 3) ?hd (cs := #[.int .i64 a0_0, .int .i64 a0_1]) (t := 25) ?hr ?_; (case hd => rfl); (case hg => rfl); (case hr => first | (go_simp; done) | (go_simp; rfl)); intro gb426 hg w9 hbox hb; have BK426 := Aside0.mk (hbox); have GW426 : Aside0 (w.heap.size ≤ gb426) := gW hg; have GE426 := GW426; replace HB := Aside0.mk (below_step bB hb); clear hb hbox hg; have hcz10_0 := cZ BK426 0 (.int .i64 a0_0); have hcz10_1 := cZ BK426 1 (.int .i64 a0_1); have hfz10_0 := blk_frozen BK426.out 0; have hfz10_1 := blk_frozen BK426.out 1) | ((with_reducible refine gate_callee (f := 80) rfl ?_); refine goesL_ (some 10) rfl rfl Tryz.func80 (by kernel_rfl) rfl #[.agg #[.int .i64 a0_0, .int .i64 a0_1], .slice A1 l1.length c1] rfl lM ?_; (with_reducible refine (spec_hiAsked.calls k a0_0 a0_1 _ _ l1 true _ ?side1 ?side2 A4.out).mono ?_); (case side1 => exact cS (Kd.C_below HR1.out HB.out)); (case side2 => exact HC1.out); rintro e w11 ⟨rfl, hb⟩; refine ⟨_, rfl, ?_⟩; replace BK426 := bW BK426 hb; replace HB := Aside0.mk (below_step bG hb); (try clear hb); have hcz12_0 := cZ BK426 0 (.int .i64 a0_0); have hcz12_1 := cZ BK426 1 (.int .i64 a0_1); have hfz12_0 := blk_frozen BK426.out 0; have hfz12_1 := blk_frozen BK426.out 1) | (go_at_call 54; (with_reducible refine (spec_whCode.calls k a0_0 a0_1 a2 true _ A6.out).mono ?_); rintro e w13 ⟨rfl, hb⟩; replace BK426 := bW BK426 hb; replace HB := Aside0.mk (below_step bG hb); (try clear hb)) | ((with_reducible refine gate_callee (f := 85) rfl ?_); refine goesL_ (some 20) rfl rfl Tryz.func85 (by kernel_rfl) rfl #[.slice A1 l1.length c1, .string a2] rfl lM ?_; (with_reducible refine (spec_hiFits.calls k _ _ l1 a2 t429 _ ?side1 ?side2 A8.out).mono ?_); (case side1 => exact cS (Kd.C_below HR1.out HB.out)); (case side2 => exact HC1.out); rintro e w14 ⟨rfl, hb⟩; refine ⟨_, rfl, ?_⟩; replace BK426 := bW BK426 hb; replace HB := Aside0.mk (below_step bG hb); (try clear hb)))
   go_ret2
   exact ⟨rE, bG⟩
  ·replace c7 := Bool.eq_false_iff.mpr c7
   subst c7
   replace H := zf H
   simp only [Option.some.injEq, Prod.mk.injEq] at H
   obtain ⟨rfl, rfl⟩ := H
   go_enter Tryz.func41, Tryz.ntmps41
   go_wp2_with (first | ((with_reducible refine gate_dst (N := 3) rfl ?_); refine box_event ?hg (N := 3) ?hd (cs := #[.int .i64 a0_0, .int .i64 a0_1]) (t := 25) ?hr ?_; (case hd => rfl); (case hg => rfl); (case hr => first | (go_simp; done) | (go_simp; rfl)); intro gb426 hg w15 hbox hb; have BK426 := Aside0.mk (hbox); have GW426 : Aside0 (w.heap.size ≤ gb426) := gW hg; have GE426 := GW426; replace HB := Aside0.mk (below_step bB hb); clear hb hbox hg; have hcz16_0 := cZ BK426 0 (.int .i64 a0_0); have hcz16_1 := cZ BK426 1 (.int .i64 a0_1); have hfz16_0 := blk_frozen BK426.out 0; have hfz16_1 := blk_frozen BK426.out 1) | ((with_reducible refine gate_callee (f := 80) rfl ?_); refine goesL_ (some 10) rfl rfl Tryz.func80 (by kernel_rfl) rfl #[.agg #[.int .i64 a0_0, .int .i64 a0_1], .slice A1 l1.length c1] rfl lM ?_; (with_reducible refine (spec_hiAsked.calls k a0_0 a0_1 _ _ l1 true _ ?side1 ?side2 A4.out).mono ?_); (case side1 => exact cS (Kd.C_below HR1.out HB.out)); (case side2 => exact HC1.out); rintro e w17 ⟨rfl, hb⟩; refine ⟨_, rfl, ?_⟩; replace BK426 := bW BK426 hb; replace HB := Aside0.mk (below_step bG hb); (try clear hb); have hcz18_0 := cZ BK426 0 (.int .i64 a0_0); have hcz18_1 := cZ BK426 1 (.int .i64 a0_1); have hfz18_0 := blk_frozen BK426.out 0; have hfz18_1 := blk_frozen BK426.out 1) | (go_at_call 54; (with_reducible refine (spec_whCode.calls k a0_0 a0_1 a2 false _ A6.out).mono ?_); rintro e w19 ⟨rfl, hb⟩; replace BK426 := bW BK426 hb; replace HB := Aside0.mk (below_step bG hb); (try clear hb)))
   go_ret2
   exact ⟨rE, bG⟩
 ·replace c5 := Bool.eq_false_iff.mpr c5
  subst c5
  replace H := zf H
  simp only [Option.some.injEq, Prod.mk.injEq] at H
  obtain ⟨rfl, rfl⟩ := H
  go_enter Tryz.func41, Tryz.ntmps41
  go_wp2_with (first | ((with_reducible refine gate_dst (N := 3) rfl ?_); refine box_event ?hg (N := 3) ?hd (cs := #[.int .i64 a0_0, .int .i64 a0_1]) (t := 25) ?hr ?_; (case hd => rfl); (case hg => rfl); (case hr => first | (go_simp; done) | (go_simp; rfl)); intro gb426 hg w20 hbox hb; have BK426 := Aside0.mk (hbox); have GW426 : Aside0 (w.heap.size ≤ gb426) := gW hg; have GE426 := GW426; replace HB := Aside0.mk (below_step bB hb); clear hb hbox hg; have hcz21_0 := cZ BK426 0 (.int .i64 a0_0); have hcz21_1 := cZ BK426 1 (.int .i64 a0_1); have hfz21_0 := blk_frozen BK426.out 0; have hfz21_1 := blk_frozen BK426.out 1) | ((with_reducible refine gate_callee (f := 80) rfl ?_); refine goesL_ (some 10) rfl rfl Tryz.func80 (by kernel_rfl) rfl #[.agg #[.int .i64 a0_0, .int .i64 a0_1], .slice A1 l1.length c1] rfl lM ?_; (with_reducible refine (spec_hiAsked.calls k a0_0 a0_1 _ _ l1 false _ ?side1 ?side2 A4.out).mono ?_); (case side1 => exact cS (Kd.C_below HR1.out HB.out)); (case side2 => exact HC1.out); rintro e w22 ⟨rfl, hb⟩; refine ⟨_, rfl, ?_⟩; replace BK426 := bW BK426 hb; replace HB := Aside0.mk (below_step bG hb); (try clear hb)))
  go_ret2
  exact ⟨rE, bG⟩

/-! ### impl_Hint_87: function 87 -/
set_option maxHeartbeats 4000000 in
set_option maxRecDepth 100000 in
theorem cloneH_calls (A0 : Option Addr) (c0 : Nat) (l0 : List S35) (w : World) (hr0 : Kd.C k35 w A0 l0.length l0) (hlen : l0.length ≤ 1000) :
  Calls Tryz.prog 87 #[.slice A0 l0.length c0] w fun e w' => ∃ v0_ : Value, e = .returned (v0_) ∧ Kd.R k35 35 w' w.heap.size (fun _ => True) v0_ l0 ∧ Below w.heap.size w w' := by
 have hu33 := Tryz.underlying28
 have hin75 : (Tryz.prog.info? 35).map (fun i => (i.zero, i.size, i.bytes)) = some (some (.agg #[(.string ⟨#[]⟩), (.int .i64 0), (.int .i64 0)]), 3, 32) := by kernel_rfl
 have HIN := Aside0.mk hin75
 have HC := Aside0.mk hr0
 have HL := Aside0.mk hlen
 clear hin75 hr0 hlen
 cases A0 with
 | none =>
  have h0 : l0 = [] := by
   cases l0 with
   | nil => rfl
   | cons y ys =>
    obtain ⟨ad, e, _⟩ := at_T35 HC.out 0 (by omega) (by simp)
    exact absurd e (by simp)
  subst h0
  rw [List.length_nil]
  have hnil : ∀ W, (binOp .eql 28 (.slice none 0 c0) (.slice none 0 0)).run Tryz.prog W = .ok (.bool true) W := fun W => Lib.run_eql_slice_nil W _ _ none _ _ 0 0 hu33
  go_enter Tryz.func87, Tryz.ntmps87
  go_wp2
  go_ret
  exact ⟨_, rfl, Kd.R_nil _ _ _ _ _, Below.refl _ _⟩
 | some ad =>
  have hnil : ∀ W, (binOp .eql 28 (.slice (some ad) l0.length c0) (.slice none 0 0)).run Tryz.prog W = .ok (.bool false) W := fun W => Lib.run_eql_slice_nil W _ _ (some ad) _ _ 0 0 hu33
  have HO : Aside0 (Kd.R k35 35 (w.alloc (.cells #[] 35)) w.heap.size (fun _ => True) (.slice (some ⟨w.heap.size, 0, none⟩) 0 0) []) := ⟨hw_R_lit k35 w 35 w.heap.size w.heap.size (xs := []) (inner := []) (okp := fun _ => False) rfl (Reps.none _ _) (fun _ hk => hk.elim) trivial (Nat.le_refl _) (by simp)⟩
  go_enter Tryz.func87, Tryz.ntmps87
  go_wp2_with ((with_reducible refine gate_builtin (b := .append) (xs := #[.tmp 5, .tmp 6]) rfl ?_); at_builtin; refine Kd.R_append_rows k35 (Rr := k35.K (w.alloc (.cells #[] 35))) (w0 := w) w.heap.size rfl (.tmp 5) (.tmp 6) 28 35 (.agg #[(.string ⟨#[]⟩), (.int .i64 0), (.int .i64 0)]) 32 rfl Tryz.underlying28 HIN.out rfl (by decide) (by omega) (.slice (some ⟨w.heap.size, 0, none⟩) 0 0) [] l0 (some ad) l0.length c0 (fun _ => True) (fun _ => False) rfl rfl HO.out (Kd.C_alloc HC.out _) (fun x cs h => by rw [k35_open h]; exact k35_mkM _ _ _ x) (fun _ hk => hk.elim) (fun _ _ => trivial) (below_alloc (Below.refl _ _) _) (by simp only [World.size_alloc]; omega) (by have := HL.out; simp only [List.length_nil]; omega) ?_; intro v1 w1 ho hb hg hat; have HO1 := Aside0.mk ho; have HB1 := Aside0.mk hb; clear ho hb hg hat)
  go_ret
  exact ⟨_, rfl, HO1.out, HB1.out⟩


end Go.Proofs.YtcpnmiempaofdaaGreat.G
