-- Printed by hp.py, a program of this session: a machine's side of laws, out of the translation; Lean checks it.
import Derived.Test.YtcpnmiempaofdaaFx0
import Derived.Test.YtcpnmiempaofdaaFx1
import Derived.Test.YtcpnmiempaofdaaFx2
import Derived.Test.YtcpnmiempaofdaaFx3
import Derived.Test.YtcpnmiempaofdaaFx4
import Derived.Test.YtcpnmiempaofdaaFx8
import Derived.Test.YtcpnmiempaofdaaFx9
namespace Go.Proofs.Ytcpnmiempaofdaa.F
open Go.RowKit Go.Proofs.YtcpnmiempaofdaaW.PrintWords Go.Proofs.YtcpnmiempaofdaaW.PrintLast Go.Proofs.YtcpnmiempaofdaaW.PrintMore
attribute [local go_sem] max2_int min2_int max_two min_two max_three min_three max_four min_four   -- for this text's walks alone
set_option maxHeartbeats 8000000
set_option maxRecDepth 100000
set_option linter.unusedVariables false
set_option linter.unusedSimpArgs false

/-! ### impl_WorstOfGuess: function 29 -/
def impl_WorstOfGuess.j0 : Nat → List (S31) → ByteArray → Bool → Int → Int → Option (Int × Bool)
 | 0, _, _, _, _, _ => none
 | k + 1, x1, x2, x18, x263000, x263001 => if x18 = true then (some (0, false)) else ((impl_Lock_fitting.f k x263000 x263001 x1).bind fun t268 => ((impl_worst.f k t268 x2).bind fun t271 => (some (t271, true))))
def impl_WorstOfGuess.f (k : Nat) (a0_0 : Int) (a0_1 : Int) (l1 : List (S31)) (a2 : ByteArray) : Option (Int × Bool) := (impl_areHints.f k a0_0 a0_1 l1).bind fun t263 => (if t263 = true then ((impl_has.f k a0_0 a0_1 (([a2] : List ByteArray))).bind fun t267 => (impl_WorstOfGuess.j0 k l1 a2 (!t267) a0_0 a0_1)) else (impl_WorstOfGuess.j0 k l1 a2 true a0_0 a0_1))
theorem impl_WorstOfGuess.mono_l : ∀ k, (∀ y0 y1 y2 y3 y4, LeO (impl_WorstOfGuess.j0 k y0 y1 y2 y3 y4) (impl_WorstOfGuess.j0 (k + 1) y0 y1 y2 y3 y4))
 | 0 => fun _ _ _ _ _ r h => by simp [impl_WorstOfGuess.j0] at h
 | k + 1 => by
  have ih0 := impl_WorstOfGuess.mono_l k
  ·intro y0 y1 y2 y3 y4
   unfold impl_WorstOfGuess.j0
   repeat' first
   | (with_reducible first | exact ih0 _ _ _ _ _ | exact impl_Lock_fitting.mono _ _ _ _ | exact impl_areHints.mono _ _ _ _ | exact impl_has.mono _ _ _ _ | exact impl_worst.mono _ _ _ | exact LeO.refl _ | exact LeO.none _ | refine LeO.ite ?_ ?_ | refine LeO.bind ?_ (fun _ => ?_))
   | exact ih0 _ _ _ _ _
   | exact impl_Lock_fitting.mono _ _ _ _
   | exact impl_areHints.mono _ _ _ _
   | exact impl_has.mono _ _ _ _
   | exact impl_worst.mono _ _ _
   | exact LeO.none _
   | refine LeO.ite ?_ ?_
   | refine LeO.bind ?_ (fun _ => ?_)
theorem impl_WorstOfGuess.mono : ∀ a0 a1 a2 a3 k, LeO (impl_WorstOfGuess.f k a0 a1 a2 a3) (impl_WorstOfGuess.f (k + 1) a0 a1 a2 a3) := by
 intro a0 a1 a2 a3 k
 have ih0 := impl_WorstOfGuess.mono_l k
 unfold impl_WorstOfGuess.f
 repeat' first
   | (with_reducible first | exact ih0 _ _ _ _ _ | exact impl_Lock_fitting.mono _ _ _ _ | exact impl_areHints.mono _ _ _ _ | exact impl_has.mono _ _ _ _ | exact impl_worst.mono _ _ _ | exact LeO.refl _ | exact LeO.none _ | refine LeO.ite ?_ ?_ | refine LeO.bind ?_ (fun _ => ?_))
   | exact ih0 _ _ _ _ _
   | exact impl_Lock_fitting.mono _ _ _ _
   | exact impl_areHints.mono _ _ _ _
   | exact impl_has.mono _ _ _ _
   | exact impl_worst.mono _ _ _
   | exact LeO.none _
   | refine LeO.ite ?_ ?_
   | refine LeO.bind ?_ (fun _ => ?_)
theorem impl_WorstOfGuess.calls (k : Nat) (a0_0 : Int) (a0_1 : Int) (A1 : Option Addr) (c1 : Nat) (l1 : List (S31)) (a2 : ByteArray) (r1 : Int) (r2 : Bool) (w : World) (hr1 : Kd.C k31 w A1 l1.length l1) (hc1 : l1.length ≤ c1) (h : impl_WorstOfGuess.f k a0_0 a0_1 l1 a2 = some (r1, r2)) :
  Calls Try.prog 29 #[.agg #[.int .i64 a0_0, .int .i64 a0_1], .slice A1 l1.length c1, .string a2] w fun e w' => e = .returned (.tuple #[.int .i64 r1, .bool r2]) ∧ Below w.heap.size w w' := by
 have hu23 := Try.underlying23
 have HR1 := Aside0.mk hr1
 have HC1 := Aside0.mk hc1
 clear hr1 hc1
 have HB := Aside0.mk (Below.refl w.heap.size w)
 have H := h
 unfold impl_WorstOfGuess.f at H
 clear h
 have HC4 := Aside0.mk H
 clear H
 go_enter Try.func29, Try.ntmps29
 go_upto_region 1 with (first | ((with_reducible refine gate_dst (N := 3) rfl ?_); (try (refine gate_guard (by rfl) ?_; dsimp only)); refine box_event ?hg (N := 3) ?hd (cs := #[.int .i64 a0_0, .int .i64 a0_1]) (t := 23) ?hr ?_; (case hd => rfl); (case hg => rfl); (case hr => first | (go_simp; done) | (go_simp; rfl)); intro gb262 hg w5 hbox hb; have BK262 := Aside0.mk (hbox); have GW262 : Aside0 (w.heap.size ≤ gb262) := gW hg; have GE262 := GW262; replace HB := Aside0.mk (below_step bB hb); clear hb hbox hg))
 (try simp only [Act.put, List.setIfInBounds_toArray, List.set_cons_zero, List.set_cons_succ])
 go_cut [18] (fun v18 wc => ∃ (kq : Nat) (x18_3 : Bool), v18 = .bool x18_3 ∧ Aside0 (impl_WorstOfGuess.j0 kq l1 a2 x18_3 a0_0 a0_1 = some (r1, r2)) ∧ Aside0 (kq ≤ k) ∧ Aside0 (wc.heap[gb262]? = some (.cells #[.int .i64 a0_0, .int .i64 a0_1] 23 (0, 0))) ∧ Aside0 (Below w.heap.size w wc))
 case first =>
  have H := HC4.out
  clear HC4
  replace H := Option.bind_eq_some_iff.mp H
  obtain ⟨t263, A60, H⟩ := H
  (try dsimp only at H)
  have A6 := Aside0.mk A60
  clear A60
  by_cases c7 : t263 = true
  ·subst c7
   replace H := zt H
   obtain ⟨y264, hy264⟩ : ∃ y_ : List ByteArray, y_ = (([a2] : List ByteArray)) := ⟨_, rfl⟩
   replace H : ((impl_has.f k a0_0 a0_1 y264).bind fun t267 => (impl_WorstOfGuess.j0 k l1 a2 (!t267) a0_0 a0_1)) = some (r1, r2) := hZ hy264 H
   have Ny264 := Aside0.mk hy264
   clear hy264
   replace H := Option.bind_eq_some_iff.mp H
   obtain ⟨t267, A80, H⟩ := H
   (try dsimp only at H)
   have A8 := Aside0.mk A80
   clear A80
   have H' := Aside0.mk H
   clear H
   have hcz9_0 := cZ BK262 0 (.int .i64 a0_0)
   have hcz9_1 := cZ BK262 1 (.int .i64 a0_1)
   have hfz9_0 := blk_frozen BK262.out 0
   have hfz9_1 := blk_frozen BK262.out 1
   go_wp2_with (first | ((with_reducible refine gate_callee (f := 49) rfl ?_); refine goesL_ (some 10) rfl rfl Try.func49 (by kernel_rfl) rfl #[.agg #[.int .i64 a0_0, .int .i64 a0_1], .slice A1 l1.length c1] rfl lM ?_; (with_reducible refine (impl_areHints.calls k a0_0 a0_1 _ _ l1 true _ ?side1 ?side2 A6.out).mono ?_); (case side1 => exact cS (Kd.C_below HR1.out HB.out)); (case side2 => exact HC1.out); rintro e w10 ⟨rfl, hb⟩; refine ⟨_, rfl, ?_⟩; replace BK262 := bW BK262 hb; replace HB := Aside0.mk (below_step bG hb); (try clear hb); have hcz11_0 := cZ BK262 0 (.int .i64 a0_0); have hcz11_1 := cZ BK262 1 (.int .i64 a0_1); have hfz11_0 := blk_frozen BK262.out 0; have hfz11_1 := blk_frozen BK262.out 1) | ((with_reducible refine gate_dst (N := 15) rfl ?_); (try (refine gate_guard (by rfl) ?_; dsimp only)); refine Kd.R_lit Kd.string _ 9 ?hg (N := 15) ?hd (xs := ([a2] : List ByteArray)) (inner := [.string a2]) (ok := fun _ => True) (okp := fun _ => True) ?hr ?hp (fun _ hk => hk) trivial (Below.refl _ _) (Nat.le_refl _) (by simp) ?_; (case hd => rfl); (case hg => rfl); (case hr => first | (go_simp; done) | (go_simp; rfl)); (case hp => exact (Reps.one (show Kd.M Kd.string _ _ _ a2 [.string a2] from rfl) (Reps.none _ _))); intro v265 w12 ho13 hb hg_ hnew_; clear hg_ hnew_; (first | rw [← Ny264.out] at ho13 | (simp only [Int.reduceToNat] at ho13; rw [← Ny264.out] at ho13)); have HO266 := Aside0.mk (Kd.R_lower ho13 (below_size bG)); replace BK262 := bW BK262 hb; replace HB := Aside0.mk (below_step bG hb); clear hb ho13; obtain ⟨Ao14, co14, eo14⟩ := Kd.R_slice HO266.out; subst eo14) | (go_at_call 67; (with_reducible refine (impl_has.calls k a0_0 a0_1 _ _ y264 t267 _ ?side1 ?side2 A8.out).mono ?_); (case side1 => exact cS ((Kd.R_reads' HO266.out).2.2)); (case side2 => exact (Kd.R_reads' HO266.out).2.1); rintro e w15 ⟨rfl, hb⟩; replace HO266 := Aside0.mk (Kd.R_below (kR HO266) hb); replace BK262 := bW BK262 hb; replace HB := Aside0.mk (below_step bG hb); (try clear hb)))
   go_meet
   case rel => exact ⟨_, (!t267), fR, H', ⟨by first | omega | exact Nat.le_refl _⟩, ⟨bK⟩, ⟨bG⟩⟩
  ·replace c7 := Bool.eq_false_iff.mpr c7
   subst c7
   replace H := zf H
   have H' := Aside0.mk H
   clear H
   have hcz16_0 := cZ BK262 0 (.int .i64 a0_0)
   have hcz16_1 := cZ BK262 1 (.int .i64 a0_1)
   have hfz16_0 := blk_frozen BK262.out 0
   have hfz16_1 := blk_frozen BK262.out 1
   go_wp2_with (first | ((with_reducible refine gate_callee (f := 49) rfl ?_); refine goesL_ (some 10) rfl rfl Try.func49 (by kernel_rfl) rfl #[.agg #[.int .i64 a0_0, .int .i64 a0_1], .slice A1 l1.length c1] rfl lM ?_; (with_reducible refine (impl_areHints.calls k a0_0 a0_1 _ _ l1 false _ ?side1 ?side2 A6.out).mono ?_); (case side1 => exact cS (Kd.C_below HR1.out HB.out)); (case side2 => exact HC1.out); rintro e w17 ⟨rfl, hb⟩; refine ⟨_, rfl, ?_⟩; replace BK262 := bW BK262 hb; replace HB := Aside0.mk (below_step bG hb); (try clear hb)))
   go_meet
   case rel => exact ⟨_, (true), fR, H', ⟨by first | omega | exact Nat.le_refl _⟩, ⟨bK⟩, ⟨bG⟩⟩
 case rest =>
  clear HC4
  try clear c1
  try clear c2
  try clear p2
  try clear c4
  try clear c7
  try clear hcz11_0
  try clear hcz11_1
  try clear hcz16_0
  try clear hcz16_1
  try clear hcz9_0
  try clear hcz9_1
  try clear hfz11_0
  try clear hfz11_1
  try clear hfz16_0
  try clear hfz16_1
  try clear hfz9_0
  try clear hfz9_1
  obtain ⟨kq, x18_3, rfl, HA, HJ3, BK262, HB⟩ := hcut
  cases kq with
  | zero => exact absurd HA.out (by simp [impl_WorstOfGuess.j0])
  | succ kj3 =>
   have H := HA.out
   clear HA
   simp only [impl_WorstOfGuess.j0] at H
   by_cases c18 : x18_3 = true
   ·subst c18
    replace H := zt H
    simp only [Option.some.injEq, Prod.mk.injEq] at H
    obtain ⟨rfl, rfl⟩ := H
    go_wp2
    go_ret2
    exact ⟨rE, bG⟩
   ·replace c18 := Bool.eq_false_iff.mpr c18
    subst c18
    replace H := zf H
    replace H := Option.bind_eq_some_iff.mp H
    obtain ⟨t268, A190, H⟩ := H
    (try dsimp only at H)
    have A19 := Aside0.mk A190
    clear A190
    replace H := Option.bind_eq_some_iff.mp H
    obtain ⟨t271, A200, H⟩ := H
    (try dsimp only at H)
    have A20 := Aside0.mk A200
    clear A200
    simp only [Option.some.injEq, Prod.mk.injEq] at H
    obtain ⟨rfl, rfl⟩ := H
    have hcz21_0 := cZ BK262 0 (.int .i64 a0_0)
    have hcz21_1 := cZ BK262 1 (.int .i64 a0_1)
    have hfz21_0 := blk_frozen BK262.out 0
    have hfz21_1 := blk_frozen BK262.out 1
    go_wp2_with (first | ((with_reducible refine gate_callee (f := 50) rfl ?_); refine goesL_ (some 21) rfl rfl Try.func50 (by kernel_rfl) rfl #[.agg #[.int .i64 a0_0, .int .i64 a0_1], .slice A1 l1.length c1] rfl lM ?_; (with_reducible refine (impl_Lock_fitting.calls kj3 a0_0 a0_1 _ _ l1 t268 _ ?side1 ?side2 A19.out).mono ?_); (case side1 => exact cS (Kd.C_below HR1.out HB.out)); (case side2 => exact HC1.out); rintro e w22 ⟨v269, rfl, ho0, hb⟩; refine ⟨_, rfl, ?_⟩; have HO270 := Aside0.mk (Kd.R_lower ho0 (below_size bG)); replace BK262 := bW BK262 hb; replace HB := Aside0.mk (below_step bG hb); (try clear hb); (try clear ho0); obtain ⟨Ao23, co23, eo23⟩ := Kd.R_slice HO270.out; subst eo23) | ((with_reducible refine gate_callee (f := 71) rfl ?_); refine goesL_ (some 23) rfl rfl Try.func71 (by kernel_rfl) rfl #[.slice Ao23 t268.length co23, .string a2] rfl lM ?_; (with_reducible refine (impl_worst.calls kj3 _ _ t268 a2 t271 _ ?side1 ?side2 A20.out).mono ?_); (case side1 => exact cS ((Kd.R_reads' HO270.out).2.2)); (case side2 => exact (Kd.R_reads' HO270.out).2.1); rintro e w24 ⟨rfl, hb⟩; refine ⟨_, rfl, ?_⟩; replace HO270 := Aside0.mk (Kd.R_below (kR HO270) hb); replace BK262 := bW BK262 hb; replace HB := Aside0.mk (below_step bG hb); (try clear hb)))
    go_ret2
    exact ⟨rE, bG⟩

/-! ### spec_l1Most: function 97 -/
def spec_l1Most.f (a0 : Int) (a1 : Int) : Option (Int) := if a0 > a1 then (some a0) else (some a1)
theorem spec_l1Most.calls (a0 : Int) (a1 : Int) (r : Int) (w : World) (h : spec_l1Most.f a0 a1 = some r) :
  Calls Try.prog 97 #[.int .i64 a0, .int .i64 a1] w fun e w' => e = .returned (.int .i64 r) ∧ Drawn0 w w' := by
 have H := h
 unfold spec_l1Most.f at H
 clear h
 by_cases c3 : a0 > a1
 ·rw [if_pos c3] at H
  have c3b0 : decide (a1 < a0) = true := decide_eq_true c3
  clear c3
  obtain rfl := Option.some.inj H
  go_enter Try.func97, Try.ntmps97
  go_wp2
  go_ret
  exact ⟨fR, by repeat (first | exact Drawn0.refl _ | apply Drawn0.step)⟩
 ·rw [if_neg c3] at H
  have c3b0 : decide (a1 < a0) = false := decide_eq_false c3
  clear c3
  obtain rfl := Option.some.inj H
  go_enter Try.func97, Try.ntmps97
  go_wp2
  go_ret
  exact ⟨fR, by repeat (first | exact Drawn0.refl _ | apply Drawn0.step)⟩

/-! ### spec_hiWorst: function 72 -/
def spec_hiWorst.l0 : Nat → Int → List Int → Int → Int → Option (Int)
 | 0, _, _, _, _ => none
 | k + 1, x7, x13, x14, x15 => if x15 < x14 then (if 0 ≤ x15 then (if x15 < (x13.length : Int) then ((spec_l1Most.f x7 (rd x13 x15)).bind fun t276 => (spec_hiWorst.l0 k t276 x13 x14 (wrap64 (x15 + 1)))) else (none)) else (none)) else (some x7)
def spec_hiWorst.f (k : Nat) (a0 : Int) (a1 : ByteArray) (l2 : List ByteArray) : Option (Int) := (spec_hiParts.f k a0 a1 l2).bind fun t272 => (spec_hiWorst.l0 k 0 t272 (t272.length : Int) 0)
theorem spec_hiWorst.mono_l : ∀ k, (∀ y0 y1 y2 y3, LeO (spec_hiWorst.l0 k y0 y1 y2 y3) (spec_hiWorst.l0 (k + 1) y0 y1 y2 y3))
 | 0 => fun _ _ _ _ r h => by simp [spec_hiWorst.l0] at h
 | k + 1 => by
  have ih0 := spec_hiWorst.mono_l k
  ·intro y0 y1 y2 y3
   unfold spec_hiWorst.l0
   repeat' first
   | (with_reducible first | exact ih0 _ _ _ _ | exact spec_hiParts.mono _ _ _ _ | exact LeO.refl _ | exact LeO.none _ | refine LeO.ite ?_ ?_ | refine LeO.bind ?_ (fun _ => ?_))
   | exact ih0 _ _ _ _
   | exact spec_hiParts.mono _ _ _ _
   | exact LeO.none _
   | refine LeO.ite ?_ ?_
   | refine LeO.bind ?_ (fun _ => ?_)
theorem spec_hiWorst.mono : ∀ a0 a1 a2 k, LeO (spec_hiWorst.f k a0 a1 a2) (spec_hiWorst.f (k + 1) a0 a1 a2) := by
 intro a0 a1 a2 k
 have ih0 := spec_hiWorst.mono_l k
 unfold spec_hiWorst.f
 repeat' first
   | (with_reducible first | exact ih0 _ _ _ _ | exact spec_hiParts.mono _ _ _ _ | exact LeO.refl _ | exact LeO.none _ | refine LeO.ite ?_ ?_ | refine LeO.bind ?_ (fun _ => ?_))
   | exact ih0 _ _ _ _
   | exact spec_hiParts.mono _ _ _ _
   | exact LeO.none _
   | refine LeO.ite ?_ ?_
   | refine LeO.bind ?_ (fun _ => ?_)
theorem spec_hiWorst.calls (k : Nat) (a0 : Int) (a1 : ByteArray) (A2 : Option Addr) (c2 : Nat) (l2 : List ByteArray) (r : Int) (w : World) (hr2 : Kd.C Kd.string w A2 l2.length l2) (hc2 : l2.length ≤ c2) (h : spec_hiWorst.f k a0 a1 l2 = some r) :
  Calls Try.prog 72 #[.int .i64 a0, .string a1, .slice A2 l2.length c2] w fun e w' => e = .returned (.int .i64 r) ∧ Below w.heap.size w w' := by
 have HR2 := Aside0.mk hr2
 have HC2 := Aside0.mk hc2
 clear hr2 hc2
 have HB := Aside0.mk (Below.refl w.heap.size w)
 have H := h
 unfold spec_hiWorst.f at H
 clear h
 replace H := Option.bind_eq_some_iff.mp H
 obtain ⟨t272, A40, H⟩ := H
 (try dsimp only at H)
 have A4 := Aside0.mk A40
 clear A40
 have H' := Aside0.mk H
 clear H
 go_enter Try.func72, Try.ntmps72
 go_wp2_with (first | ((with_reducible refine gate_callee (f := 59) rfl ?_); refine goesL_ (some 13) rfl rfl Try.func59 (by kernel_rfl) rfl #[.int .i64 a0, .string a1, .slice A2 l2.length c2] rfl lM ?_; (with_reducible refine (spec_hiParts.calls k a0 a1 _ _ l2 t272 _ ?side1 ?side2 A4.out).mono ?_); (case side1 => exact cS HR2.out); (case side2 => exact HC2.out); rintro e w5 ⟨v273, rfl, ho0, hb⟩; refine ⟨_, rfl, ?_⟩; have HO274 := Aside0.mk (Kd.R_lower ho0 (below_size bB)); replace HB := Aside0.mk (below_step bB hb); (try clear hb); (try clear ho0); obtain ⟨Ao6, co6, eo6⟩ := Kd.R_slice HO274.out; subst eo6))
 go_loopg [7, 15] k (fun kq v7 v15 w' => ∃ (x7_1 : Int) (x15_1 : Int), v7 = .int .i64 x7_1 ∧ v15 = .int .i64 x15_1 ∧ Aside0 (spec_hiWorst.l0 kq x7_1 t272 (t272.length : Int) x15_1 = some r) ∧ Aside0 (kq ≤ k) ∧ Aside0 (Kd.R (Kd.int .i64) 3 w' w.heap.size (fun _ => True) (.slice Ao6 t272.length co6) t272) ∧ Aside0 (Below w.heap.size w w'))
 case atStart => exact ⟨(0), (0), fR, fR, H', ⟨Nat.le_refl _⟩, ⟨kR HO274⟩, ⟨bB⟩⟩
 case round =>
  clear H'
  try clear c2
  try clear p2
  try clear c5
  obtain ⟨x7_1, x15_1, rfl, rfl, HA, HK1, HO_13, HB⟩ := hrel
  cases gk with
  | zero => exact absurd HA.out (by simp [spec_hiWorst.l0])
  | succ k1 =>
   have H := HA.out
   clear HA
   simp only [spec_hiWorst.l0] at H
   by_cases c7 : x15_1 < (t272.length : Int)
   ·rw [if_pos c7] at H
    have c7b0 : decide (x15_1 < (t272.length : Int)) = true := decide_eq_true c7
    clear c7
    replace H := nz H; obtain ⟨c8, H⟩ := H
    have c8b0 : decide (0 ≤ x15_1) = true := decide_eq_true c8
    clear c8
    replace H := nz H; obtain ⟨c9, H⟩ := H
    have c9b0 : decide (x15_1 < (t272.length : Int)) = true := decide_eq_true c9
    clear c9
    replace H := Option.bind_eq_some_iff.mp H
    obtain ⟨t276, A100, H⟩ := H
    (try dsimp only at H)
    have A10 := Aside0.mk A100
    clear A100
    have H' := Aside0.mk H
    clear H
    have p275 : 0 ≤ (x15_1 : Int) := oD
    have q275 : x15_1 < (t272.length : Int) := oD
    obtain ⟨ad275, e275, hx275_0⟩ := Kd.at_int (Kd.R_reads' HO_13.out).2.2 x15_1 p275 q275
    cases e275
    replace p275 := eq_true p275
    replace q275 := eq_true q275
    go_wp2_with (first | ((with_reducible refine gate_callee (f := 97) rfl ?_); refine goesL_ (some 21) rfl rfl Try.func97 (by kernel_rfl) rfl #[.int .i64 x7_1, .int .i64 (rd t272 x15_1)] rfl lM ?_; (with_reducible refine (spec_l1Most.calls x7_1 (rd t272 x15_1) t276 _ A10.out).mono ?_); rintro e w' ⟨rfl, ⟨nd, rfl⟩⟩; refine ⟨_, rfl, ?_⟩))
    go_roundg k1
    case measure => have := HK1.out; omega
    case rel => exact ⟨(t276), (wrap64 (x15_1 + 1)), fR, fR, H', ⟨by have := HK1.out; omega⟩, ⟨kR HO_13⟩, ⟨bB⟩⟩
   ·rw [if_neg c7] at H
    have c7b0 : decide (x15_1 < (t272.length : Int)) = false := decide_eq_false c7
    clear c7
    obtain rfl := Option.some.inj H
    go_wp2
    go_ret
    exact ⟨rE, bB⟩

/-! ### spec_WorstOfGuess: function 30 -/
def spec_WorstOfGuess.j0 : Nat → List (S31) → ByteArray → Bool → Int → Int → Option (Int × Bool)
 | 0, _, _, _, _, _ => none
 | k + 1, x1, x2, x17, x278000, x278001 => if x17 = true then (some (0, false)) else ((spec_hiAll.f k x278000 x278001).bind fun t280 => ((spec_hiFitting.f k t280 x1).bind fun t283 => ((spec_hiWorst.f k x278000 x2 t283).bind fun t286 => (some (t286, true)))))
def spec_WorstOfGuess.f (k : Nat) (a0_0 : Int) (a0_1 : Int) (l1 : List (S31)) (a2 : ByteArray) : Option (Int × Bool) := (spec_hiAsked.f k a0_0 a0_1 l1).bind fun t278 => (if t278 = true then ((spec_whCode.f k a0_0 a0_1 a2).bind fun t279 => (spec_WorstOfGuess.j0 k l1 a2 (!t279) a0_0 a0_1)) else (spec_WorstOfGuess.j0 k l1 a2 true a0_0 a0_1))
theorem spec_WorstOfGuess.mono_l : ∀ k, (∀ y0 y1 y2 y3 y4, LeO (spec_WorstOfGuess.j0 k y0 y1 y2 y3 y4) (spec_WorstOfGuess.j0 (k + 1) y0 y1 y2 y3 y4))
 | 0 => fun _ _ _ _ _ r h => by simp [spec_WorstOfGuess.j0] at h
 | k + 1 => by
  have ih0 := spec_WorstOfGuess.mono_l k
  ·intro y0 y1 y2 y3 y4
   unfold spec_WorstOfGuess.j0
   repeat' first
   | (with_reducible first | exact ih0 _ _ _ _ _ | exact spec_hiAll.mono _ _ _ | exact spec_hiAsked.mono _ _ _ _ | exact spec_hiFitting.mono _ _ _ | exact spec_hiWorst.mono _ _ _ _ | exact spec_whCode.mono _ _ _ _ | exact LeO.refl _ | exact LeO.none _ | refine LeO.ite ?_ ?_ | refine LeO.bind ?_ (fun _ => ?_))
   | exact ih0 _ _ _ _ _
   | exact spec_hiAll.mono _ _ _
   | exact spec_hiAsked.mono _ _ _ _
   | exact spec_hiFitting.mono _ _ _
   | exact spec_hiWorst.mono _ _ _ _
   | exact spec_whCode.mono _ _ _ _
   | exact LeO.none _
   | refine LeO.ite ?_ ?_
   | refine LeO.bind ?_ (fun _ => ?_)
theorem spec_WorstOfGuess.mono : ∀ a0 a1 a2 a3 k, LeO (spec_WorstOfGuess.f k a0 a1 a2 a3) (spec_WorstOfGuess.f (k + 1) a0 a1 a2 a3) := by
 intro a0 a1 a2 a3 k
 have ih0 := spec_WorstOfGuess.mono_l k
 unfold spec_WorstOfGuess.f
 repeat' first
   | (with_reducible first | exact ih0 _ _ _ _ _ | exact spec_hiAll.mono _ _ _ | exact spec_hiAsked.mono _ _ _ _ | exact spec_hiFitting.mono _ _ _ | exact spec_hiWorst.mono _ _ _ _ | exact spec_whCode.mono _ _ _ _ | exact LeO.refl _ | exact LeO.none _ | refine LeO.ite ?_ ?_ | refine LeO.bind ?_ (fun _ => ?_))
   | exact ih0 _ _ _ _ _
   | exact spec_hiAll.mono _ _ _
   | exact spec_hiAsked.mono _ _ _ _
   | exact spec_hiFitting.mono _ _ _
   | exact spec_hiWorst.mono _ _ _ _
   | exact spec_whCode.mono _ _ _ _
   | exact LeO.none _
   | refine LeO.ite ?_ ?_
   | refine LeO.bind ?_ (fun _ => ?_)
def spec_WorstOfGuess.T3 : Bool × List (List Nat × List Nat) := (true, [([], []), ([0], [0]), ([], []), ([], []), ([3], [3]), ([], []), ([4, 5, 4], [4, 5]), ([1, 2, 6, 6], [1, 2, 6]), ([7, 7, 0, 1, 2, 3, 4, 5, 6, 7], [7]), ([8, 0, 1, 2, 3, 4, 5, 6, 7, 8], [])])
def spec_WorstOfGuess.B3 : List Nat := [0, 1, 0, 0, 8, 0, 56, 127, 255, 511]
theorem spec_WorstOfGuess.tab3 : rtab .any (opsOf Try.f30 3) = spec_WorstOfGuess.T3 := by kernel_rfl
theorem spec_WorstOfGuess.bits3 : waitsOk spec_WorstOfGuess.T3.2 spec_WorstOfGuess.B3 = true := by kernel_rfl
theorem spec_WorstOfGuess.calls (k : Nat) (a0_0 : Int) (a0_1 : Int) (A1 : Option Addr) (c1 : Nat) (l1 : List (S31)) (a2 : ByteArray) (r1 : Int) (r2 : Bool) (w : World) (hr1 : Kd.C k31 w A1 l1.length l1) (hc1 : l1.length ≤ c1) (h : spec_WorstOfGuess.f k a0_0 a0_1 l1 a2 = some (r1, r2)) :
  Calls Try.prog 30 #[.agg #[.int .i64 a0_0, .int .i64 a0_1], .slice A1 l1.length c1, .string a2] w fun e w' => e = .returned (.tuple #[.int .i64 r1, .bool r2]) ∧ Below w.heap.size w w' := by
 have hu23 := Try.underlying23
 have HR1 := Aside0.mk hr1
 have HC1 := Aside0.mk hc1
 clear hr1 hc1
 have HB := Aside0.mk (Below.refl w.heap.size w)
 have H := h
 unfold spec_WorstOfGuess.f at H
 clear h
 have HC4 := Aside0.mk H
 clear H
 go_enter Try.func30, Try.ntmps30
 go_upto_region 1 with (first | ((with_reducible refine gate_dst (N := 3) rfl ?_); refine box_event ?hg (N := 3) ?hd (cs := #[.int .i64 a0_0, .int .i64 a0_1]) (t := 23) ?hr ?_; (case hd => rfl); (case hg => rfl); (case hr => first | (go_simp; done) | (go_simp; rfl)); intro gb277 hg w5 hbox hb; have BK277 := Aside0.mk (hbox); have GW277 : Aside0 (w.heap.size ≤ gb277) := gW hg; have GE277 := GW277; replace HB := Aside0.mk (below_step bB hb); clear hb hbox hg))
 (try simp only [Act.put, List.setIfInBounds_toArray, List.set_cons_zero, List.set_cons_succ])
 go_cut [17] (fun v17 wc => ∃ (kq : Nat) (x17_3 : Bool), v17 = .bool x17_3 ∧ Aside0 (spec_WorstOfGuess.j0 kq l1 a2 x17_3 a0_0 a0_1 = some (r1, r2)) ∧ Aside0 (kq ≤ k) ∧ Aside0 (wc.heap[gb277]? = some (.cells #[.int .i64 a0_0, .int .i64 a0_1] 23 (0, 0))) ∧ Aside0 (Below w.heap.size w wc))
 case first =>
  have H := HC4.out
  clear HC4
  replace H := Option.bind_eq_some_iff.mp H
  obtain ⟨t278, A60, H⟩ := H
  (try dsimp only at H)
  have A6 := Aside0.mk A60
  clear A60
  by_cases c7 : t278 = true
  ·subst c7
   replace H := zt H
   replace H := Option.bind_eq_some_iff.mp H
   obtain ⟨t279, A80, H⟩ := H
   (try dsimp only at H)
   have A8 := Aside0.mk A80
   clear A80
   have H' := Aside0.mk H
   clear H
   have hcz9_0 := cZ BK277 0 (.int .i64 a0_0)
   have hcz9_1 := cZ BK277 1 (.int .i64 a0_1)
   have hfz9_0 := blk_frozen BK277.out 0
   have hfz9_1 := blk_frozen BK277.out 1
   go_wp2_with (first | ((with_reducible refine gate_callee (f := 70) rfl ?_); refine goesL_ (some 10) rfl rfl Try.func70 (by kernel_rfl) rfl #[.agg #[.int .i64 a0_0, .int .i64 a0_1], .slice A1 l1.length c1] rfl lM ?_; (with_reducible refine (spec_hiAsked.calls k a0_0 a0_1 _ _ l1 true _ ?side1 ?side2 A6.out).mono ?_); (case side1 => exact cS (Kd.C_below HR1.out HB.out)); (case side2 => exact HC1.out); rintro e w10 ⟨rfl, hb⟩; refine ⟨_, rfl, ?_⟩; replace BK277 := bW BK277 hb; replace HB := Aside0.mk (below_step bG hb); (try clear hb); have hcz11_0 := cZ BK277 0 (.int .i64 a0_0); have hcz11_1 := cZ BK277 1 (.int .i64 a0_1); have hfz11_0 := blk_frozen BK277.out 0; have hfz11_1 := blk_frozen BK277.out 1) | (go_at_call 46; (with_reducible refine (spec_whCode.calls k a0_0 a0_1 a2 t279 _ A8.out).mono ?_); rintro e w12 ⟨rfl, hb⟩; replace BK277 := bW BK277 hb; replace HB := Aside0.mk (below_step bG hb); (try clear hb)))
   go_meet
   case rel => exact ⟨_, (!t279), fR, H', ⟨by first | omega | exact Nat.le_refl _⟩, ⟨bK⟩, ⟨bG⟩⟩
  ·replace c7 := Bool.eq_false_iff.mpr c7
   subst c7
   replace H := zf H
   have H' := Aside0.mk H
   clear H
   have hcz13_0 := cZ BK277 0 (.int .i64 a0_0)
   have hcz13_1 := cZ BK277 1 (.int .i64 a0_1)
   have hfz13_0 := blk_frozen BK277.out 0
   have hfz13_1 := blk_frozen BK277.out 1
   go_wp2_with (first | ((with_reducible refine gate_callee (f := 70) rfl ?_); refine goesL_ (some 10) rfl rfl Try.func70 (by kernel_rfl) rfl #[.agg #[.int .i64 a0_0, .int .i64 a0_1], .slice A1 l1.length c1] rfl lM ?_; (with_reducible refine (spec_hiAsked.calls k a0_0 a0_1 _ _ l1 false _ ?side1 ?side2 A6.out).mono ?_); (case side1 => exact cS (Kd.C_below HR1.out HB.out)); (case side2 => exact HC1.out); rintro e w14 ⟨rfl, hb⟩; refine ⟨_, rfl, ?_⟩; replace BK277 := bW BK277 hb; replace HB := Aside0.mk (below_step bG hb); (try clear hb)))
   go_meet
   case rel => exact ⟨_, (true), fR, H', ⟨by first | omega | exact Nat.le_refl _⟩, ⟨bK⟩, ⟨bG⟩⟩
 case rest =>
  clear HC4
  try clear c1
  try clear p2
  try clear c3
  try clear c7
  try clear hcz11_0
  try clear hcz11_1
  try clear hcz13_0
  try clear hcz13_1
  try clear hcz9_0
  try clear hcz9_1
  try clear hfz11_0
  try clear hfz11_1
  try clear hfz13_0
  try clear hfz13_1
  try clear hfz9_0
  try clear hfz9_1
  obtain ⟨kq, x17_3, rfl, HA, HJ3, BK277, HB⟩ := hcut
  cases kq with
  | zero => exact absurd HA.out (by simp [spec_WorstOfGuess.j0])
  | succ kj3 =>
   have H := HA.out
   clear HA
   simp only [spec_WorstOfGuess.j0] at H
   by_cases c15 : x17_3 = true
   ·subst c15
    replace H := zt H
    simp only [Option.some.injEq, Prod.mk.injEq] at H
    obtain ⟨rfl, rfl⟩ := H
    go_wp2
    go_ret2
    exact ⟨rE, bG⟩
   ·replace c15 := Bool.eq_false_iff.mpr c15
    subst c15
    replace H := zf H
    replace H := Option.bind_eq_some_iff.mp H
    obtain ⟨t280, A160, H⟩ := H
    (try dsimp only at H)
    have A16 := Aside0.mk A160
    clear A160
    replace H := Option.bind_eq_some_iff.mp H
    obtain ⟨t283, A170, H⟩ := H
    (try dsimp only at H)
    have A17 := Aside0.mk A170
    clear A170
    replace H := Option.bind_eq_some_iff.mp H
    obtain ⟨t286, A180, H⟩ := H
    (try dsimp only at H)
    have A18 := Aside0.mk A180
    clear A180
    simp only [Option.some.injEq, Prod.mk.injEq] at H
    obtain ⟨rfl, rfl⟩ := H
    try go_wp2
    have n0_ := Aside0.mk (blk_drew BK277.out)
    have n1_ := Aside0.mk (below_drew1 HB.out)
    clear BK277
    clear HB
    have BK277 := n0_
    have HB := n1_
    clear n0_ n1_
    refine start_ (n := 10) (S := fun w' => w'.cell? ⟨gb277, 0, none⟩ = some (.int .i64 a0_0) ∧ w'.cell? ⟨gb277, 1, none⟩ = some (.int .i64 a0_1)) (ds := []) #[false, false, false, false, false, false, false, false, false, false] (by kernel_rfl) rfl rfl ⟨(blk_cell BK277.out 0).trans rfl, (blk_cell BK277.out 1).trans rfl⟩ (fun hHeld => ?_); refine with_tabW spec_WorstOfGuess.tab3 spec_WorstOfGuess.bits3 (fun HT_ HW_ => ?_)
    generalize wc.drew = w19 at BK277 HB hHeld ⊢
    refine pure_ (i := 0) (N := some 18) (v := ?_) (a' := ?_) #[true, false, false, false, false, false, false, false, false, false] rfl rfl (any_of HT_.out (by kernel_rfl)) (fun _ _ _ h => h) (Or.inl ⟨by rfl, ?_⟩) ?_ ?_
    rotate_left
    ·intro w'
     go_simp
     with_reducible rfl
    rotate_left
    ·simp only [Act.put, List.setIfInBounds_toArray, List.set_cons_zero, List.set_cons_succ, i64_w, i32_w]
     rfl
    refine pure_ (i := 2) (N := some 20) (v := ?_) (a' := ?_) #[true, false, true, false, false, false, false, false, false, false] rfl rfl (any_of HT_.out (by kernel_rfl)) (fun _ _ _ h => h) (Or.inl ⟨by rfl, ?_⟩) ?_ ?_
    rotate_left
    ·intro w'
     go_simp
     with_reducible rfl
    rotate_left
    ·simp only [Act.put, List.setIfInBounds_toArray, List.set_cons_zero, List.set_cons_succ, i64_w, i32_w]
     rfl
    refine pure_ (i := 5) (N := some 23) (v := ?_) (a' := ?_) #[true, false, true, false, false, true, false, false, false, false] rfl rfl (any_of HT_.out (by kernel_rfl)) (fun _ _ _ h => h) (Or.inl ⟨by rfl, ?_⟩) ?_ ?_
    rotate_left
    ·intro w'
     go_simp
     with_reducible rfl
    rotate_left
    ·simp only [Act.put, List.setIfInBounds_toArray, List.set_cons_zero, List.set_cons_succ, i64_w, i32_w]
     rfl
    refine take_ (i := 1) (N := some 19) (v := ?_) (a' := ?_) #[true, true, true, false, false, true, false, false, false, false] rfl rfl (take_ofW HT_.out HW_.out (by kernel_rfl)) (fun _ _ _ h => h) (Or.inl ⟨by rfl, ?_⟩) hHeld ?_ ?_
    rotate_left
    ·rintro w' ⟨s0, s1⟩
     go_simp
     with_reducible rfl
    rotate_left
    ·simp only [Act.put, List.setIfInBounds_toArray, List.set_cons_zero, List.set_cons_succ, i64_w, i32_w]
     rfl
    refine take_ (i := 3) (N := some 21) (v := ?_) (a' := ?_) #[true, true, true, true, false, true, false, false, false, false] rfl rfl (take_ofW HT_.out HW_.out (by kernel_rfl)) (fun _ _ _ h => h) (Or.inl ⟨by rfl, ?_⟩) hHeld ?_ ?_
    rotate_left
    ·rintro w' ⟨s0, s1⟩
     go_simp
     with_reducible rfl
    rotate_left
    ·simp only [Act.put, List.setIfInBounds_toArray, List.set_cons_zero, List.set_cons_succ, i64_w, i32_w]
     rfl
    refine one_ (i := 4) (N := some 22) #[true, true, true, true, true, true, false, false, false, false] rfl rfl (one_of HT_.out (by kernel_rfl)) (by decide) (fun K hK => ?_)
    refine goes_ Try.func58 (by kernel_rfl) rfl #[.agg #[.int .i64 a0_0, .int .i64 a0_1]] (by rfl) rfl rfl lM ?_
    with_reducible refine (spec_hiAll.calls kj3 a0_0 a0_1 t280 _ A16.out).mono ?_
    rintro e w20 ⟨v281, rfl, ho0, hb⟩
    refine ⟨_, rfl, ?_⟩
    have n0_ := Aside0.mk (Kd.R_lower ho0 (below_size bG))
    have n1_ := Aside0.mk (blk_below (g := gb277) (o := .cells #[.int .i64 a0_0, .int .i64 a0_1] 23 (0, 0)) bK hb)
    have n2_ := Aside0.mk (below_step bG hb)
    clear BK277
    clear HB
    have HO282 := n0_
    have BK277 := n1_
    have HB := n2_
    clear n0_ n1_ n2_
    (try clear hb)
    (try clear ho0)
    obtain ⟨Ao21, co21, eo21⟩ := Kd.R_slice HO282.out
    (first | subst eo21 | (injection eo21 with f1_ f2_ f3_; have f4_ := f1_.symm; have f5_ := f3_.symm; clear f1_ f2_ f3_; subst f4_; subst f5_))
    refine hK.out _ _ ⟨(blk_cell BK277.out 0).trans rfl, (blk_cell BK277.out 1).trans rfl⟩ (fun hHeld => ?_)
    clear hK K
    refine norm_ (a' := ?_) ?_ ?_
    rotate_left
    ·show Act.put _ (some 22) _ = _
     simp only [Act.put, List.setIfInBounds_toArray, List.set_cons_zero, List.set_cons_succ, i64_w, i32_w]
     rfl
    refine one_ (i := 6) (N := some 24) #[true, true, true, true, true, true, true, false, false, false] rfl rfl (one_of HT_.out (by kernel_rfl)) (by decide) (fun K hK => ?_)
    refine goes_ Try.func64 (by kernel_rfl) rfl #[.slice Ao21 t280.length co21, .slice A1 l1.length c1] (by rfl) rfl rfl lM ?_
    with_reducible refine (spec_hiFitting.calls kj3 _ _ t280 _ _ l1 t283 _ ?side1 ?side2 ?side3 ?side4 A17.out).mono ?_
    (case side1 => exact cS ((Kd.R_reads' HO282.out).2.2))
    (case side2 => exact (Kd.R_reads' HO282.out).2.1)
    (case side3 => exact cS (Kd.C_below HR1.out HB.out))
    (case side4 => exact HC1.out)
    rintro e w22 ⟨v284, rfl, ho0, hb⟩
    refine ⟨_, rfl, ?_⟩
    have n0_ := Aside0.mk (Kd.R_elder' (kR HO282) (Kd.R_base ho0) hb)
    have n1_ := Aside0.mk (Kd.R_lower (Kd.R_new' ho0 (Kd.R_lt (kR HO282))) (below_size bG))
    have n2_ := Aside0.mk (blk_below (g := gb277) (o := .cells #[.int .i64 a0_0, .int .i64 a0_1] 23 (0, 0)) bK hb)
    have n3_ := Aside0.mk (below_step bG hb)
    clear HO282
    clear BK277
    clear HB
    have HO282 := n0_
    have HO285 := n1_
    have BK277 := n2_
    have HB := n3_
    clear n0_ n1_ n2_ n3_
    (try clear hb)
    (try clear ho0)
    obtain ⟨Ao23, co23, eo23⟩ := Kd.R_slice HO285.out
    (first | subst eo23 | (injection eo23 with f1_ f2_ f3_; have f4_ := f1_.symm; have f5_ := f3_.symm; clear f1_ f2_ f3_; subst f4_; subst f5_))
    refine hK.out _ _ ⟨(blk_cell BK277.out 0).trans rfl, (blk_cell BK277.out 1).trans rfl⟩ (fun hHeld => ?_)
    clear hK K
    refine norm_ (a' := ?_) ?_ ?_
    rotate_left
    ·show Act.put _ (some 24) _ = _
     simp only [Act.put, List.setIfInBounds_toArray, List.set_cons_zero, List.set_cons_succ, i64_w, i32_w]
     rfl
    refine one_ (i := 7) (N := some 25) #[true, true, true, true, true, true, true, true, false, false] rfl rfl (one_of HT_.out (by kernel_rfl)) (by decide) (fun K hK => ?_)
    refine goes_ Try.func72 (by kernel_rfl) rfl #[.int .i64 a0_0, .string a2, .slice Ao23 t283.length co23] (by rfl) rfl rfl lM ?_
    with_reducible refine (spec_hiWorst.calls kj3 a0_0 a2 _ _ t283 t286 _ ?side1 ?side2 A18.out).mono ?_
    (case side1 => exact cS ((Kd.R_reads' HO285.out).2.2))
    (case side2 => exact (Kd.R_reads' HO285.out).2.1)
    rintro e w24 ⟨rfl, hb⟩
    refine ⟨_, rfl, ?_⟩
    have n0_ := Aside0.mk (Kd.R_below (kR HO282) hb)
    have n1_ := Aside0.mk (Kd.R_below (kR HO285) hb)
    have n2_ := Aside0.mk (blk_below (g := gb277) (o := .cells #[.int .i64 a0_0, .int .i64 a0_1] 23 (0, 0)) bK hb)
    have n3_ := Aside0.mk (below_step bG hb)
    clear HO282
    clear HO285
    clear BK277
    clear HB
    have HO282 := n0_
    have HO285 := n1_
    have BK277 := n2_
    have HB := n3_
    clear n0_ n1_ n2_ n3_
    (try clear hb)
    refine hK.out _ _ ⟨(blk_cell BK277.out 0).trans rfl, (blk_cell BK277.out 1).trans rfl⟩ (fun hHeld => ?_)
    clear hK K
    refine norm_ (a' := ?_) ?_ ?_
    rotate_left
    ·show Act.put _ (some 25) _ = _
     simp only [Act.put, List.setIfInBounds_toArray, List.set_cons_zero, List.set_cons_succ, i64_w, i32_w]
     rfl
    refine pure_ (i := 8) (N := some 6) (v := ?_) (a' := ?_) #[true, true, true, true, true, true, true, true, true, false] rfl rfl (any_of HT_.out (by kernel_rfl)) (fun _ _ _ h => h) (Or.inl ⟨by rfl, ?_⟩) ?_ ?_
    rotate_left
    ·intro w'
     go_simp
     with_reducible rfl
    rotate_left
    ·simp only [Act.put, List.setIfInBounds_toArray, List.set_cons_zero, List.set_cons_succ, i64_w, i32_w]
     rfl
    refine pure_ (i := 9) (N := some 7) (v := ?_) (a' := ?_) #[true, true, true, true, true, true, true, true, true, true] rfl rfl (any_of HT_.out (by kernel_rfl)) (fun _ _ _ h => h) (Or.inl ⟨by rfl, ?_⟩) ?_ ?_
    rotate_left
    ·intro w'
     go_simp
     with_reducible rfl
    rotate_left
    ·simp only [Act.put, List.setIfInBounds_toArray, List.set_cons_zero, List.set_cons_succ, i64_w, i32_w]
     rfl
    refine done_ (done_of HT_.out (by kernel_rfl)) ?_
    try go_wp2
    go_ret2
    exact ⟨rE, bG⟩

/-! ### spec_FittingCodes: function 31 -/
def spec_FittingCodes.f (k : Nat) (a0_0 : Int) (a0_1 : Int) (l1 : List (S31)) : Option (List ByteArray × Bool) := (spec_hiAsked.f k a0_0 a0_1 l1).bind fun t288 => (if t288 = true then ((spec_hiAll.f k a0_0 a0_1).bind fun t289 => ((spec_hiFitting.f k t289 l1).bind fun t292 => (some (t292, true)))) else (some (([] : List ByteArray), false)))
theorem spec_FittingCodes.mono : ∀ a0 a1 a2 k, LeO (spec_FittingCodes.f k a0 a1 a2) (spec_FittingCodes.f (k + 1) a0 a1 a2) := by
 intro a0 a1 a2 k
 unfold spec_FittingCodes.f
 repeat' first
   | (with_reducible first | exact spec_hiAll.mono _ _ _ | exact spec_hiAsked.mono _ _ _ _ | exact spec_hiFitting.mono _ _ _ | exact LeO.refl _ | exact LeO.none _ | refine LeO.ite ?_ ?_ | refine LeO.bind ?_ (fun _ => ?_))
   | exact spec_hiAll.mono _ _ _
   | exact spec_hiAsked.mono _ _ _ _
   | exact spec_hiFitting.mono _ _ _
   | exact LeO.none _
   | refine LeO.ite ?_ ?_
   | refine LeO.bind ?_ (fun _ => ?_)
theorem spec_FittingCodes.calls (k : Nat) (a0_0 : Int) (a0_1 : Int) (A1 : Option Addr) (c1 : Nat) (l1 : List (S31)) (r1 : List ByteArray) (r2 : Bool) (w : World) (hr1 : Kd.C k31 w A1 l1.length l1) (hc1 : l1.length ≤ c1) (h : spec_FittingCodes.f k a0_0 a0_1 l1 = some (r1, r2)) :
  Calls Try.prog 31 #[.agg #[.int .i64 a0_0, .int .i64 a0_1], .slice A1 l1.length c1] w fun e w' => ∃ v0_ : Value, e = .returned (.tuple #[v0_, .bool r2]) ∧ Kd.R Kd.string 9 w' w.heap.size (fun _ => True) v0_ r1 ∧ Below w.heap.size w w' := by
 have hu23 := Try.underlying23
 have HR1 := Aside0.mk hr1
 have HC1 := Aside0.mk hc1
 clear hr1 hc1
 have HB := Aside0.mk (Below.refl w.heap.size w)
 have H := h
 unfold spec_FittingCodes.f at H
 clear h
 replace H := Option.bind_eq_some_iff.mp H
 obtain ⟨t288, A30, H⟩ := H
 (try dsimp only at H)
 have A3 := Aside0.mk A30
 clear A30
 by_cases c4 : t288 = true
 ·subst c4
  replace H := zt H
  replace H := Option.bind_eq_some_iff.mp H
  obtain ⟨t289, A50, H⟩ := H
  (try dsimp only at H)
  have A5 := Aside0.mk A50
  clear A50
  replace H := Option.bind_eq_some_iff.mp H
  obtain ⟨t292, A60, H⟩ := H
  (try dsimp only at H)
  have A6 := Aside0.mk A60
  clear A60
  simp only [Option.some.injEq, Prod.mk.injEq] at H
  obtain ⟨rfl, rfl⟩ := H
  go_enter Try.func31, Try.ntmps31
  go_wp2_with (first | ((with_reducible refine gate_dst (N := 2) rfl ?_); refine box_event ?hg (N := 2) ?hd (cs := #[.int .i64 a0_0, .int .i64 a0_1]) (t := 23) ?hr ?_; (case hd => rfl); (case hg => rfl); (case hr => first | (go_simp; done) | (go_simp; rfl)); intro gb287 hg w7 hbox hb; have BK287 := Aside0.mk (hbox); have GW287 : Aside0 (w.heap.size ≤ gb287) := gW hg; have GE287 := GW287; replace HB := Aside0.mk (below_step bB hb); clear hb hbox hg; have hcz8_0 := cZ BK287 0 (.int .i64 a0_0); have hcz8_1 := cZ BK287 1 (.int .i64 a0_1); have hfz8_0 := blk_frozen BK287.out 0; have hfz8_1 := blk_frozen BK287.out 1) | ((with_reducible refine gate_callee (f := 70) rfl ?_); refine goesL_ (some 8) rfl rfl Try.func70 (by kernel_rfl) rfl #[.agg #[.int .i64 a0_0, .int .i64 a0_1], .slice A1 l1.length c1] rfl lM ?_; (with_reducible refine (spec_hiAsked.calls k a0_0 a0_1 _ _ l1 true _ ?side1 ?side2 A3.out).mono ?_); (case side1 => exact cS (Kd.C_below HR1.out HB.out)); (case side2 => exact HC1.out); rintro e w9 ⟨rfl, hb⟩; refine ⟨_, rfl, ?_⟩; replace BK287 := bW BK287 hb; replace HB := Aside0.mk (below_step bG hb); (try clear hb); have hcz10_0 := cZ BK287 0 (.int .i64 a0_0); have hcz10_1 := cZ BK287 1 (.int .i64 a0_1); have hfz10_0 := blk_frozen BK287.out 0; have hfz10_1 := blk_frozen BK287.out 1) | ((with_reducible refine gate_callee (f := 58) rfl ?_); refine goesL_ (some 11) rfl rfl Try.func58 (by kernel_rfl) rfl #[.agg #[.int .i64 a0_0, .int .i64 a0_1]] rfl lM ?_; (with_reducible refine (spec_hiAll.calls k a0_0 a0_1 t289 _ A5.out).mono ?_); rintro e w11 ⟨v290, rfl, ho0, hb⟩; refine ⟨_, rfl, ?_⟩; have HO291 := Aside0.mk (Kd.R_lower ho0 (below_size bG)); replace BK287 := bW BK287 hb; replace HB := Aside0.mk (below_step bG hb); (try clear hb); (try clear ho0); obtain ⟨Ao12, co12, eo12⟩ := Kd.R_slice HO291.out; subst eo12) | ((with_reducible refine gate_callee (f := 64) rfl ?_); refine goesL_ (some 13) rfl rfl Try.func64 (by kernel_rfl) rfl #[.slice Ao12 t289.length co12, .slice A1 l1.length c1] rfl lM ?_; (with_reducible refine (spec_hiFitting.calls k _ _ t289 _ _ l1 t292 _ ?side1 ?side2 ?side3 ?side4 A6.out).mono ?_); (case side1 => exact cS ((Kd.R_reads' HO291.out).2.2)); (case side2 => exact (Kd.R_reads' HO291.out).2.1); (case side3 => exact cS (Kd.C_below HR1.out HB.out)); (case side4 => exact HC1.out); rintro e w13 ⟨v293, rfl, ho0, hb⟩; refine ⟨_, rfl, ?_⟩; have HO294 := Aside0.mk (Kd.R_lower (Kd.R_new' ho0 (Kd.R_lt (kR HO291))) (below_size bG)); replace HO291 := Aside0.mk (Kd.R_elder' (kR HO291) (Kd.R_base ho0) hb); replace BK287 := bW BK287 hb; replace HB := Aside0.mk (below_step bG hb); (try clear hb); (try clear ho0)))
  go_ret2
  exact ⟨_, rE, by (with_reducible repeat (first | apply Kd.R_alloc | apply Kd.R_drewN | apply Kd.R_drew)); exact Kd.R_mono HO294.out (fun _ hk => trivial), bG⟩
 ·replace c4 := Bool.eq_false_iff.mpr c4
  subst c4
  replace H := zf H
  simp only [Option.some.injEq, Prod.mk.injEq] at H
  obtain ⟨rfl, rfl⟩ := H
  go_enter Try.func31, Try.ntmps31
  go_wp2_with (first | ((with_reducible refine gate_dst (N := 2) rfl ?_); refine box_event ?hg (N := 2) ?hd (cs := #[.int .i64 a0_0, .int .i64 a0_1]) (t := 23) ?hr ?_; (case hd => rfl); (case hg => rfl); (case hr => first | (go_simp; done) | (go_simp; rfl)); intro gb287 hg w14 hbox hb; have BK287 := Aside0.mk (hbox); have GW287 : Aside0 (w.heap.size ≤ gb287) := gW hg; have GE287 := GW287; replace HB := Aside0.mk (below_step bB hb); clear hb hbox hg; have hcz15_0 := cZ BK287 0 (.int .i64 a0_0); have hcz15_1 := cZ BK287 1 (.int .i64 a0_1); have hfz15_0 := blk_frozen BK287.out 0; have hfz15_1 := blk_frozen BK287.out 1) | ((with_reducible refine gate_callee (f := 70) rfl ?_); refine goesL_ (some 8) rfl rfl Try.func70 (by kernel_rfl) rfl #[.agg #[.int .i64 a0_0, .int .i64 a0_1], .slice A1 l1.length c1] rfl lM ?_; (with_reducible refine (spec_hiAsked.calls k a0_0 a0_1 _ _ l1 false _ ?side1 ?side2 A3.out).mono ?_); (case side1 => exact cS (Kd.C_below HR1.out HB.out)); (case side2 => exact HC1.out); rintro e w16 ⟨rfl, hb⟩; refine ⟨_, rfl, ?_⟩; replace BK287 := bW BK287 hb; replace HB := Aside0.mk (below_step bG hb); (try clear hb)))
  go_ret2
  exact ⟨_, rE, by first | exact Kd.R_nil _ _ _ _ _ | exact Kd.N_nil _ _ _ _ _ | exact Kd.V_nil _ _ _ _ _ | exact Kd.Q_nil _ _ _ _ _ | exact Kd.S_nil _ _ _ _ _, bG⟩

/-! ### spec_CountFitting: function 32 -/
def spec_CountFitting.f (k : Nat) (a0_0 : Int) (a0_1 : Int) (l1 : List (S31)) : Option (Int × Bool) := (spec_hiAsked.f k a0_0 a0_1 l1).bind fun t296 => (if t296 = true then ((spec_hiAll.f k a0_0 a0_1).bind fun t297 => ((spec_hiFitting.f k t297 l1).bind fun t300 => (some ((t300.length : Int), true)))) else (some (0, false)))
theorem spec_CountFitting.mono : ∀ a0 a1 a2 k, LeO (spec_CountFitting.f k a0 a1 a2) (spec_CountFitting.f (k + 1) a0 a1 a2) := by
 intro a0 a1 a2 k
 unfold spec_CountFitting.f
 repeat' first
   | (with_reducible first | exact spec_hiAll.mono _ _ _ | exact spec_hiAsked.mono _ _ _ _ | exact spec_hiFitting.mono _ _ _ | exact LeO.refl _ | exact LeO.none _ | refine LeO.ite ?_ ?_ | refine LeO.bind ?_ (fun _ => ?_))
   | exact spec_hiAll.mono _ _ _
   | exact spec_hiAsked.mono _ _ _ _
   | exact spec_hiFitting.mono _ _ _
   | exact LeO.none _
   | refine LeO.ite ?_ ?_
   | refine LeO.bind ?_ (fun _ => ?_)
theorem spec_CountFitting.calls (k : Nat) (a0_0 : Int) (a0_1 : Int) (A1 : Option Addr) (c1 : Nat) (l1 : List (S31)) (r1 : Int) (r2 : Bool) (w : World) (hr1 : Kd.C k31 w A1 l1.length l1) (hc1 : l1.length ≤ c1) (h : spec_CountFitting.f k a0_0 a0_1 l1 = some (r1, r2)) :
  Calls Try.prog 32 #[.agg #[.int .i64 a0_0, .int .i64 a0_1], .slice A1 l1.length c1] w fun e w' => e = .returned (.tuple #[.int .i64 r1, .bool r2]) ∧ Below w.heap.size w w' := by
 have hu23 := Try.underlying23
 have HR1 := Aside0.mk hr1
 have HC1 := Aside0.mk hc1
 clear hr1 hc1
 have HB := Aside0.mk (Below.refl w.heap.size w)
 have H := h
 unfold spec_CountFitting.f at H
 clear h
 replace H := Option.bind_eq_some_iff.mp H
 obtain ⟨t296, A30, H⟩ := H
 (try dsimp only at H)
 have A3 := Aside0.mk A30
 clear A30
 by_cases c4 : t296 = true
 ·subst c4
  replace H := zt H
  replace H := Option.bind_eq_some_iff.mp H
  obtain ⟨t297, A50, H⟩ := H
  (try dsimp only at H)
  have A5 := Aside0.mk A50
  clear A50
  replace H := Option.bind_eq_some_iff.mp H
  obtain ⟨t300, A60, H⟩ := H
  (try dsimp only at H)
  have A6 := Aside0.mk A60
  clear A60
  simp only [Option.some.injEq, Prod.mk.injEq] at H
  obtain ⟨rfl, rfl⟩ := H
  go_enter Try.func32, Try.ntmps32
  go_wp2_with (first | ((with_reducible refine gate_dst (N := 2) rfl ?_); refine box_event ?hg (N := 2) ?hd (cs := #[.int .i64 a0_0, .int .i64 a0_1]) (t := 23) ?hr ?_; (case hd => rfl); (case hg => rfl); (case hr => first | (go_simp; done) | (go_simp; rfl)); intro gb295 hg w7 hbox hb; have BK295 := Aside0.mk (hbox); have GW295 : Aside0 (w.heap.size ≤ gb295) := gW hg; have GE295 := GW295; replace HB := Aside0.mk (below_step bB hb); clear hb hbox hg; have hcz8_0 := cZ BK295 0 (.int .i64 a0_0); have hcz8_1 := cZ BK295 1 (.int .i64 a0_1); have hfz8_0 := blk_frozen BK295.out 0; have hfz8_1 := blk_frozen BK295.out 1) | ((with_reducible refine gate_callee (f := 70) rfl ?_); refine goesL_ (some 8) rfl rfl Try.func70 (by kernel_rfl) rfl #[.agg #[.int .i64 a0_0, .int .i64 a0_1], .slice A1 l1.length c1] rfl lM ?_; (with_reducible refine (spec_hiAsked.calls k a0_0 a0_1 _ _ l1 true _ ?side1 ?side2 A3.out).mono ?_); (case side1 => exact cS (Kd.C_below HR1.out HB.out)); (case side2 => exact HC1.out); rintro e w9 ⟨rfl, hb⟩; refine ⟨_, rfl, ?_⟩; replace BK295 := bW BK295 hb; replace HB := Aside0.mk (below_step bG hb); (try clear hb); have hcz10_0 := cZ BK295 0 (.int .i64 a0_0); have hcz10_1 := cZ BK295 1 (.int .i64 a0_1); have hfz10_0 := blk_frozen BK295.out 0; have hfz10_1 := blk_frozen BK295.out 1) | ((with_reducible refine gate_callee (f := 58) rfl ?_); refine goesL_ (some 11) rfl rfl Try.func58 (by kernel_rfl) rfl #[.agg #[.int .i64 a0_0, .int .i64 a0_1]] rfl lM ?_; (with_reducible refine (spec_hiAll.calls k a0_0 a0_1 t297 _ A5.out).mono ?_); rintro e w11 ⟨v298, rfl, ho0, hb⟩; refine ⟨_, rfl, ?_⟩; have HO299 := Aside0.mk (Kd.R_lower ho0 (below_size bG)); replace BK295 := bW BK295 hb; replace HB := Aside0.mk (below_step bG hb); (try clear hb); (try clear ho0); obtain ⟨Ao12, co12, eo12⟩ := Kd.R_slice HO299.out; subst eo12) | ((with_reducible refine gate_callee (f := 64) rfl ?_); refine goesL_ (some 13) rfl rfl Try.func64 (by kernel_rfl) rfl #[.slice Ao12 t297.length co12, .slice A1 l1.length c1] rfl lM ?_; (with_reducible refine (spec_hiFitting.calls k _ _ t297 _ _ l1 t300 _ ?side1 ?side2 ?side3 ?side4 A6.out).mono ?_); (case side1 => exact cS ((Kd.R_reads' HO299.out).2.2)); (case side2 => exact (Kd.R_reads' HO299.out).2.1); (case side3 => exact cS (Kd.C_below HR1.out HB.out)); (case side4 => exact HC1.out); rintro e w13 ⟨v301, rfl, ho0, hb⟩; refine ⟨_, rfl, ?_⟩; have HO302 := Aside0.mk (Kd.R_lower (Kd.R_new' ho0 (Kd.R_lt (kR HO299))) (below_size bG)); replace HO299 := Aside0.mk (Kd.R_elder' (kR HO299) (Kd.R_base ho0) hb); replace BK295 := bW BK295 hb; replace HB := Aside0.mk (below_step bG hb); (try clear hb); (try clear ho0); obtain ⟨Ao14, co14, eo14⟩ := Kd.R_slice HO302.out; subst eo14))
  go_ret2
  exact ⟨rE, bG⟩
 ·replace c4 := Bool.eq_false_iff.mpr c4
  subst c4
  replace H := zf H
  simp only [Option.some.injEq, Prod.mk.injEq] at H
  obtain ⟨rfl, rfl⟩ := H
  go_enter Try.func32, Try.ntmps32
  go_wp2_with (first | ((with_reducible refine gate_dst (N := 2) rfl ?_); refine box_event ?hg (N := 2) ?hd (cs := #[.int .i64 a0_0, .int .i64 a0_1]) (t := 23) ?hr ?_; (case hd => rfl); (case hg => rfl); (case hr => first | (go_simp; done) | (go_simp; rfl)); intro gb295 hg w15 hbox hb; have BK295 := Aside0.mk (hbox); have GW295 : Aside0 (w.heap.size ≤ gb295) := gW hg; have GE295 := GW295; replace HB := Aside0.mk (below_step bB hb); clear hb hbox hg; have hcz16_0 := cZ BK295 0 (.int .i64 a0_0); have hcz16_1 := cZ BK295 1 (.int .i64 a0_1); have hfz16_0 := blk_frozen BK295.out 0; have hfz16_1 := blk_frozen BK295.out 1) | ((with_reducible refine gate_callee (f := 70) rfl ?_); refine goesL_ (some 8) rfl rfl Try.func70 (by kernel_rfl) rfl #[.agg #[.int .i64 a0_0, .int .i64 a0_1], .slice A1 l1.length c1] rfl lM ?_; (with_reducible refine (spec_hiAsked.calls k a0_0 a0_1 _ _ l1 false _ ?side1 ?side2 A3.out).mono ?_); (case side1 => exact cS (Kd.C_below HR1.out HB.out)); (case side2 => exact HC1.out); rintro e w17 ⟨rfl, hb⟩; refine ⟨_, rfl, ?_⟩; replace BK295 := bW BK295 hb; replace HB := Aside0.mk (below_step bG hb); (try clear hb)))
  go_ret2
  exact ⟨rE, bG⟩

end Go.Proofs.Ytcpnmiempaofdaa.F
