-- Printed by hp.py, a program of this session: a machine's side of laws, out of the translation; Lean checks it.
import Derived.Test.YtcpnmiempaofdaaGreatGx0
import Derived.Test.YtcpnmiempaofdaaGreatGx1
import Derived.Test.YtcpnmiempaofdaaGreatGx2
import Derived.Test.YtcpnmiempaofdaaGreatGx3
import Derived.Test.YtcpnmiempaofdaaGreatGx5
import Derived.Test.YtcpnmiempaofdaaGreatGx6
import Derived.Test.YtcpnmiempaofdaaGreatGx7
import Derived.Test.YtcpnmiempaofdaaGreatGx11
import Derived.Test.YtcpnmiempaofdaaGreatGx12
namespace Go.Proofs.YtcpnmiempaofdaaGreat.G
open Go.RowKit Go.Proofs.YtcpnmiempaofdaaGreatW.PrintWords Go.Proofs.YtcpnmiempaofdaaGreatW.PrintLast Go.Proofs.YtcpnmiempaofdaaGreatW.PrintMore
attribute [local go_sem] max2_int min2_int max_two min_two max_three min_three max_four min_four   -- for this text's walks alone
set_option maxHeartbeats 8000000
set_option maxRecDepth 100000
set_option linter.unusedVariables false
set_option linter.unusedSimpArgs false

/-! ### impl_WorstOfGuess: function 35 -/
def impl_WorstOfGuess.j0 : Nat → List (S35) → ByteArray → Bool → Int → Int → Option (Int × Bool)
 | 0, _, _, _, _, _ => none
 | k + 1, x1, x2, x18, x362000, x362001 => if x18 = true then (some (0, false)) else ((impl_Lock_fitting.f k x362000 x362001 x1).bind fun t367 => ((impl_worst.f k t367 x2).bind fun t370 => (some (t370, true))))
def impl_WorstOfGuess.f (k : Nat) (a0_0 : Int) (a0_1 : Int) (l1 : List (S35)) (a2 : ByteArray) : Option (Int × Bool) := (impl_areHints.f k a0_0 a0_1 l1).bind fun t362 => (if t362 = true then ((impl_has.f k a0_0 a0_1 (([a2] : List ByteArray))).bind fun t366 => (impl_WorstOfGuess.j0 k l1 a2 (!t366) a0_0 a0_1)) else (impl_WorstOfGuess.j0 k l1 a2 true a0_0 a0_1))
theorem impl_WorstOfGuess.mono_l : ∀ k, (∀ y0 y1 y2 y3 y4, LeO (impl_WorstOfGuess.j0 k y0 y1 y2 y3 y4) (impl_WorstOfGuess.j0 (k + 1) y0 y1 y2 y3 y4))
 | 0 => fun _ _ _ _ _ r h => by simp [impl_WorstOfGuess.j0] at h
 | k + 1 => by
  have ih0 := impl_WorstOfGuess.mono_l k
  ·intro y0 y1 y2 y3 y4
   unfold impl_WorstOfGuess.j0
   repeat' first
   | (with_reducible first | exact ih0 _ _ _ _ _ | exact impl_Lock_fitting.mono _ _ _ _ | exact impl_areHints.mono _ _ _ _ | exact impl_has.mono _ _ _ _ | exact impl_worst.mono _ _ _ | exact LeO.refl _ | exact LeO.none _ | refine LeO.ite ?_ ?_ | refine LeO.bind ?_ (fun _ => ?_))
   | exact ih0 _ _ _ _ _
   | exact impl_Lock_fitting.mono _ _ _ _
   | exact impl_areHints.mono _ _ _ _
   | exact impl_has.mono _ _ _ _
   | exact impl_worst.mono _ _ _
   | exact LeO.none _
   | refine LeO.ite ?_ ?_
   | refine LeO.bind ?_ (fun _ => ?_)
theorem impl_WorstOfGuess.mono : ∀ a0 a1 a2 a3 k, LeO (impl_WorstOfGuess.f k a0 a1 a2 a3) (impl_WorstOfGuess.f (k + 1) a0 a1 a2 a3) := by
 intro a0 a1 a2 a3 k
 have ih0 := impl_WorstOfGuess.mono_l k
 unfold impl_WorstOfGuess.f
 repeat' first
   | (with_reducible first | exact ih0 _ _ _ _ _ | exact impl_Lock_fitting.mono _ _ _ _ | exact impl_areHints.mono _ _ _ _ | exact impl_has.mono _ _ _ _ | exact impl_worst.mono _ _ _ | exact LeO.refl _ | exact LeO.none _ | refine LeO.ite ?_ ?_ | refine LeO.bind ?_ (fun _ => ?_))
   | exact ih0 _ _ _ _ _
   | exact impl_Lock_fitting.mono _ _ _ _
   | exact impl_areHints.mono _ _ _ _
   | exact impl_has.mono _ _ _ _
   | exact impl_worst.mono _ _ _
   | exact LeO.none _
   | refine LeO.ite ?_ ?_
   | refine LeO.bind ?_ (fun _ => ?_)
theorem impl_WorstOfGuess.calls (k : Nat) (a0_0 : Int) (a0_1 : Int) (A1 : Option Addr) (c1 : Nat) (l1 : List (S35)) (a2 : ByteArray) (r1 : Int) (r2 : Bool) (w : World) (hr1 : Kd.C k35 w A1 l1.length l1) (hc1 : l1.length ≤ c1) (h : impl_WorstOfGuess.f k a0_0 a0_1 l1 a2 = some (r1, r2)) :
  Calls Tryz.prog 35 #[.agg #[.int .i64 a0_0, .int .i64 a0_1], .slice A1 l1.length c1, .string a2] w fun e w' => e = .returned (.tuple #[.int .i64 r1, .bool r2]) ∧ Below w.heap.size w w' := by
 have hu25 := Tryz.underlying25
 have HR1 := Aside0.mk hr1
 have HC1 := Aside0.mk hc1
 clear hr1 hc1
 have HB := Aside0.mk (Below.refl w.heap.size w)
 have H := h
 unfold impl_WorstOfGuess.f at H
 clear h
 have HC4 := Aside0.mk H
 clear H
 go_enter Tryz.func35, Tryz.ntmps35
 go_upto_region 1 with (first | ((with_reducible refine gate_dst (N := 3) rfl ?_); (try (refine gate_guard (by rfl) ?_; dsimp only)); refine box_event ?hg (N := 3) ?hd (cs := #[.int .i64 a0_0, .int .i64 a0_1]) (t := 25) ?hr ?_; (case hd => rfl); (case hg => rfl); (case hr => first | (go_simp; done) | (go_simp; rfl)); intro gb361 hg w5 hbox hb; have BK361 := Aside0.mk (hbox); have GW361 : Aside0 (w.heap.size ≤ gb361) := gW hg; have GE361 := GW361; replace HB := Aside0.mk (below_step bB hb); clear hb hbox hg))
 (try simp only [Act.put, List.setIfInBounds_toArray, List.set_cons_zero, List.set_cons_succ])
 go_cut [18] (fun v18 wc => ∃ (kq : Nat) (x18_3 : Bool), v18 = .bool x18_3 ∧ Aside0 (impl_WorstOfGuess.j0 kq l1 a2 x18_3 a0_0 a0_1 = some (r1, r2)) ∧ Aside0 (kq ≤ k) ∧ Aside0 (wc.heap[gb361]? = some (.cells #[.int .i64 a0_0, .int .i64 a0_1] 25 (0, 0))) ∧ Aside0 (Below w.heap.size w wc))
 case first =>
  have H := HC4.out
  clear HC4
  replace H := Option.bind_eq_some_iff.mp H
  obtain ⟨t362, A60, H⟩ := H
  (try dsimp only at H)
  have A6 := Aside0.mk A60
  clear A60
  by_cases c7 : t362 = true
  ·subst c7
   replace H := zt H
   obtain ⟨y363, hy363⟩ : ∃ y_ : List ByteArray, y_ = (([a2] : List ByteArray)) := ⟨_, rfl⟩
   replace H : ((impl_has.f k a0_0 a0_1 y363).bind fun t366 => (impl_WorstOfGuess.j0 k l1 a2 (!t366) a0_0 a0_1)) = some (r1, r2) := hZ hy363 H
   have Ny363 := Aside0.mk hy363
   clear hy363
   replace H := Option.bind_eq_some_iff.mp H
   obtain ⟨t366, A80, H⟩ := H
   (try dsimp only at H)
   have A8 := Aside0.mk A80
   clear A80
   have H' := Aside0.mk H
   clear H
   have hcz9_0 := cZ BK361 0 (.int .i64 a0_0)
   have hcz9_1 := cZ BK361 1 (.int .i64 a0_1)
   have hfz9_0 := blk_frozen BK361.out 0
   have hfz9_1 := blk_frozen BK361.out 1
   go_wp2_with (first | ((with_reducible refine gate_callee (f := 57) rfl ?_); refine goesL_ (some 10) rfl rfl Tryz.func57 (by kernel_rfl) rfl #[.agg #[.int .i64 a0_0, .int .i64 a0_1], .slice A1 l1.length c1] rfl lM ?_; (with_reducible refine (impl_areHints.calls k a0_0 a0_1 _ _ l1 true _ ?side1 ?side2 A6.out).mono ?_); (case side1 => exact cS (Kd.C_below HR1.out HB.out)); (case side2 => exact HC1.out); rintro e w10 ⟨rfl, hb⟩; refine ⟨_, rfl, ?_⟩; replace BK361 := bW BK361 hb; replace HB := Aside0.mk (below_step bG hb); (try clear hb); have hcz11_0 := cZ BK361 0 (.int .i64 a0_0); have hcz11_1 := cZ BK361 1 (.int .i64 a0_1); have hfz11_0 := blk_frozen BK361.out 0; have hfz11_1 := blk_frozen BK361.out 1) | ((with_reducible refine gate_dst (N := 15) rfl ?_); (try (refine gate_guard (by rfl) ?_; dsimp only)); refine Kd.R_lit Kd.string _ 9 ?hg (N := 15) ?hd (xs := ([a2] : List ByteArray)) (inner := [.string a2]) (ok := fun _ => True) (okp := fun _ => True) ?hr ?hp (fun _ hk => hk) trivial (Below.refl _ _) (Nat.le_refl _) (by simp) ?_; (case hd => rfl); (case hg => rfl); (case hr => first | (go_simp; done) | (go_simp; rfl)); (case hp => exact (Reps.one (show Kd.M Kd.string _ _ _ a2 [.string a2] from rfl) (Reps.none _ _))); intro v364 w12 ho13 hb hg_ hnew_; clear hg_ hnew_; (first | rw [← Ny363.out] at ho13 | (simp only [Int.reduceToNat] at ho13; rw [← Ny363.out] at ho13)); have HO365 := Aside0.mk (Kd.R_lower ho13 (below_size bG)); replace BK361 := bW BK361 hb; replace HB := Aside0.mk (below_step bG hb); clear hb ho13; obtain ⟨Ao14, co14, eo14⟩ := Kd.R_slice HO365.out; subst eo14) | (go_at_call 76; (with_reducible refine (impl_has.calls k a0_0 a0_1 _ _ y363 t366 _ ?side1 ?side2 A8.out).mono ?_); (case side1 => exact cS ((Kd.R_reads' HO365.out).2.2)); (case side2 => exact (Kd.R_reads' HO365.out).2.1); rintro e w15 ⟨rfl, hb⟩; replace HO365 := Aside0.mk (Kd.R_below (kR HO365) hb); replace BK361 := bW BK361 hb; replace HB := Aside0.mk (below_step bG hb); (try clear hb)))
   go_meet
   case rel => exact ⟨_, (!t366), fR, H', ⟨by first | omega | exact Nat.le_refl _⟩, ⟨bK⟩, ⟨bG⟩⟩
  ·replace c7 := Bool.eq_false_iff.mpr c7
   subst c7
   replace H := zf H
   have H' := Aside0.mk H
   clear H
   have hcz16_0 := cZ BK361 0 (.int .i64 a0_0)
   have hcz16_1 := cZ BK361 1 (.int .i64 a0_1)
   have hfz16_0 := blk_frozen BK361.out 0
   have hfz16_1 := blk_frozen BK361.out 1
   go_wp2_with (first | ((with_reducible refine gate_callee (f := 57) rfl ?_); refine goesL_ (some 10) rfl rfl Tryz.func57 (by kernel_rfl) rfl #[.agg #[.int .i64 a0_0, .int .i64 a0_1], .slice A1 l1.length c1] rfl lM ?_; (with_reducible refine (impl_areHints.calls k a0_0 a0_1 _ _ l1 false _ ?side1 ?side2 A6.out).mono ?_); (case side1 => exact cS (Kd.C_below HR1.out HB.out)); (case side2 => exact HC1.out); rintro e w17 ⟨rfl, hb⟩; refine ⟨_, rfl, ?_⟩; replace BK361 := bW BK361 hb; replace HB := Aside0.mk (below_step bG hb); (try clear hb)))
   go_meet
   case rel => exact ⟨_, (true), fR, H', ⟨by first | omega | exact Nat.le_refl _⟩, ⟨bK⟩, ⟨bG⟩⟩
 case rest =>
  clear HC4
  try clear c1
  try clear p2
  try clear c3
  try clear c5
  try clear c7
  try clear hcz11_0
  try clear hcz11_1
  try clear hcz16_0
  try clear hcz16_1
  try clear hcz9_0
  try clear hcz9_1
  try clear hfz11_0
  try clear hfz11_1
  try clear hfz16_0
  try clear hfz16_1
  try clear hfz9_0
  try clear hfz9_1
  obtain ⟨kq, x18_3, rfl, HA, HJ3, BK361, HB⟩ := hcut
  cases kq with
  | zero => exact absurd HA.out (by simp [impl_WorstOfGuess.j0])
  | succ kj3 =>
   have H := HA.out
   clear HA
   simp only [impl_WorstOfGuess.j0] at H
   by_cases c18 : x18_3 = true
   ·subst c18
    replace H := zt H
    simp only [Option.some.injEq, Prod.mk.injEq] at H
    obtain ⟨rfl, rfl⟩ := H
    go_wp2
    go_ret2
    exact ⟨rE, bG⟩
   ·replace c18 := Bool.eq_false_iff.mpr c18
    subst c18
    replace H := zf H
    replace H := Option.bind_eq_some_iff.mp H
    obtain ⟨t367, A190, H⟩ := H
    (try dsimp only at H)
    have A19 := Aside0.mk A190
    clear A190
    replace H := Option.bind_eq_some_iff.mp H
    obtain ⟨t370, A200, H⟩ := H
    (try dsimp only at H)
    have A20 := Aside0.mk A200
    clear A200
    simp only [Option.some.injEq, Prod.mk.injEq] at H
    obtain ⟨rfl, rfl⟩ := H
    have hcz21_0 := cZ BK361 0 (.int .i64 a0_0)
    have hcz21_1 := cZ BK361 1 (.int .i64 a0_1)
    have hfz21_0 := blk_frozen BK361.out 0
    have hfz21_1 := blk_frozen BK361.out 1
    go_wp2_with (first | ((with_reducible refine gate_callee (f := 58) rfl ?_); refine goesL_ (some 21) rfl rfl Tryz.func58 (by kernel_rfl) rfl #[.agg #[.int .i64 a0_0, .int .i64 a0_1], .slice A1 l1.length c1] rfl lM ?_; (with_reducible refine (impl_Lock_fitting.calls kj3 a0_0 a0_1 _ _ l1 t367 _ ?side1 ?side2 A19.out).mono ?_); (case side1 => exact cS (Kd.C_below HR1.out HB.out)); (case side2 => exact HC1.out); rintro e w22 ⟨v368, rfl, ho0, hb⟩; refine ⟨_, rfl, ?_⟩; have HO369 := Aside0.mk (Kd.R_lower ho0 (below_size bG)); replace BK361 := bW BK361 hb; replace HB := Aside0.mk (below_step bG hb); (try clear hb); (try clear ho0); obtain ⟨Ao23, co23, eo23⟩ := Kd.R_slice HO369.out; subst eo23) | ((with_reducible refine gate_callee (f := 81) rfl ?_); refine goesL_ (some 23) rfl rfl Tryz.func81 (by kernel_rfl) rfl #[.slice Ao23 t367.length co23, .string a2] rfl lM ?_; (with_reducible refine (impl_worst.calls kj3 _ _ t367 a2 t370 _ ?side1 ?side2 A20.out).mono ?_); (case side1 => exact cS ((Kd.R_reads' HO369.out).2.2)); (case side2 => exact (Kd.R_reads' HO369.out).2.1); rintro e w24 ⟨rfl, hb⟩; refine ⟨_, rfl, ?_⟩; replace HO369 := Aside0.mk (Kd.R_below (kR HO369) hb); replace BK361 := bW BK361 hb; replace HB := Aside0.mk (below_step bG hb); (try clear hb)))
    go_ret2
    exact ⟨rE, bG⟩

/-! ### spec_hiWorst: function 82 -/
def spec_hiWorst.l0 : Nat → Int → List Int → Int → Int → Option (Int)
 | 0, _, _, _, _ => none
 | k + 1, x7, x13, x14, x15 => if x15 < x14 then (if 0 ≤ x15 then (if x15 < (x13.length : Int) then ((spec_l1Most.f x7 (rd x13 x15)).bind fun t375 => (spec_hiWorst.l0 k t375 x13 x14 (wrap64 (x15 + 1)))) else (none)) else (none)) else (some x7)
def spec_hiWorst.f (k : Nat) (a0 : Int) (a1 : ByteArray) (l2 : List ByteArray) : Option (Int) := (spec_hiParts.f k a0 a1 l2).bind fun t371 => (spec_hiWorst.l0 k 0 t371 (t371.length : Int) 0)
theorem spec_hiWorst.mono_l : ∀ k, (∀ y0 y1 y2 y3, LeO (spec_hiWorst.l0 k y0 y1 y2 y3) (spec_hiWorst.l0 (k + 1) y0 y1 y2 y3))
 | 0 => fun _ _ _ _ r h => by simp [spec_hiWorst.l0] at h
 | k + 1 => by
  have ih0 := spec_hiWorst.mono_l k
  ·intro y0 y1 y2 y3
   unfold spec_hiWorst.l0
   repeat' first
   | (with_reducible first | exact ih0 _ _ _ _ | exact spec_hiParts.mono _ _ _ _ | exact LeO.refl _ | exact LeO.none _ | refine LeO.ite ?_ ?_ | refine LeO.bind ?_ (fun _ => ?_))
   | exact ih0 _ _ _ _
   | exact spec_hiParts.mono _ _ _ _
   | exact LeO.none _
   | refine LeO.ite ?_ ?_
   | refine LeO.bind ?_ (fun _ => ?_)
theorem spec_hiWorst.mono : ∀ a0 a1 a2 k, LeO (spec_hiWorst.f k a0 a1 a2) (spec_hiWorst.f (k + 1) a0 a1 a2) := by
 intro a0 a1 a2 k
 have ih0 := spec_hiWorst.mono_l k
 unfold spec_hiWorst.f
 repeat' first
   | (with_reducible first | exact ih0 _ _ _ _ | exact spec_hiParts.mono _ _ _ _ | exact LeO.refl _ | exact LeO.none _ | refine LeO.ite ?_ ?_ | refine LeO.bind ?_ (fun _ => ?_))
   | exact ih0 _ _ _ _
   | exact spec_hiParts.mono _ _ _ _
   | exact LeO.none _
   | refine LeO.ite ?_ ?_
   | refine LeO.bind ?_ (fun _ => ?_)
theorem spec_hiWorst.calls (k : Nat) (a0 : Int) (a1 : ByteArray) (A2 : Option Addr) (c2 : Nat) (l2 : List ByteArray) (r : Int) (w : World) (hr2 : Kd.C Kd.string w A2 l2.length l2) (hc2 : l2.length ≤ c2) (h : spec_hiWorst.f k a0 a1 l2 = some r) :
  Calls Tryz.prog 82 #[.int .i64 a0, .string a1, .slice A2 l2.length c2] w fun e w' => e = .returned (.int .i64 r) ∧ Below w.heap.size w w' := by
 have HR2 := Aside0.mk hr2
 have HC2 := Aside0.mk hc2
 clear hr2 hc2
 have HB := Aside0.mk (Below.refl w.heap.size w)
 have H := h
 unfold spec_hiWorst.f at H
 clear h
 replace H := Option.bind_eq_some_iff.mp H
 obtain ⟨t371, A40, H⟩ := H
 (try dsimp only at H)
 have A4 := Aside0.mk A40
 clear A40
 have H' := Aside0.mk H
 clear H
 go_enter Tryz.func82, Tryz.ntmps82
 go_wp2_with (first | ((with_reducible refine gate_callee (f := 67) rfl ?_); refine goesL_ (some 13) rfl rfl Tryz.func67 (by kernel_rfl) rfl #[.int .i64 a0, .string a1, .slice A2 l2.length c2] rfl lM ?_; (with_reducible refine (spec_hiParts.calls k a0 a1 _ _ l2 t371 _ ?side1 ?side2 A4.out).mono ?_); (case side1 => exact cS HR2.out); (case side2 => exact HC2.out); rintro e w5 ⟨v372, rfl, ho0, hb⟩; refine ⟨_, rfl, ?_⟩; have HO373 := Aside0.mk (Kd.R_lower ho0 (below_size bB)); replace HB := Aside0.mk (below_step bB hb); (try clear hb); (try clear ho0); obtain ⟨Ao6, co6, eo6⟩ := Kd.R_slice HO373.out; subst eo6))
 go_loopg [7, 15] k (fun kq v7 v15 w' => ∃ (x7_1 : Int) (x15_1 : Int), v7 = .int .i64 x7_1 ∧ v15 = .int .i64 x15_1 ∧ Aside0 (spec_hiWorst.l0 kq x7_1 t371 (t371.length : Int) x15_1 = some r) ∧ Aside0 (kq ≤ k) ∧ Aside0 (Kd.R (Kd.int .i64) 3 w' w.heap.size (fun _ => True) (.slice Ao6 t371.length co6) t371) ∧ Aside0 (Below w.heap.size w w'))
 case atStart => exact ⟨(0), (0), fR, fR, H', ⟨Nat.le_refl _⟩, ⟨kR HO373⟩, ⟨bB⟩⟩
 case round =>
  clear H'
  try clear c2
  try clear p2
  try clear c6
  obtain ⟨x7_1, x15_1, rfl, rfl, HA, HK1, HO_13, HB⟩ := hrel
  cases gk with
  | zero => exact absurd HA.out (by simp [spec_hiWorst.l0])
  | succ k1 =>
   have H := HA.out
   clear HA
   simp only [spec_hiWorst.l0] at H
   by_cases c7 : x15_1 < (t371.length : Int)
   ·rw [if_pos c7] at H
    have c7b0 : decide (x15_1 < (t371.length : Int)) = true := decide_eq_true c7
    clear c7
    replace H := nz H; obtain ⟨c8, H⟩ := H
    have c8b0 : decide (0 ≤ x15_1) = true := decide_eq_true c8
    clear c8
    replace H := nz H; obtain ⟨c9, H⟩ := H
    have c9b0 : decide (x15_1 < (t371.length : Int)) = true := decide_eq_true c9
    clear c9
    replace H := Option.bind_eq_some_iff.mp H
    obtain ⟨t375, A100, H⟩ := H
    (try dsimp only at H)
    have A10 := Aside0.mk A100
    clear A100
    have H' := Aside0.mk H
    clear H
    have p374 : 0 ≤ (x15_1 : Int) := oD
    have q374 : x15_1 < (t371.length : Int) := oD
    obtain ⟨ad374, e374, hx374_0⟩ := Kd.at_int (Kd.R_reads' HO_13.out).2.2 x15_1 p374 q374
    cases e374
    replace p374 := eq_true p374
    replace q374 := eq_true q374
    go_wp2_with (first | ((with_reducible refine gate_callee (f := 94) rfl ?_); refine goesL_ (some 21) rfl rfl Tryz.func94 (by kernel_rfl) rfl #[.int .i64 x7_1, .int .i64 (rd t371 x15_1)] rfl lM ?_; (with_reducible refine (spec_l1Most.calls x7_1 (rd t371 x15_1) t375 _ A10.out).mono ?_); rintro e w' ⟨rfl, ⟨nd, rfl⟩⟩; refine ⟨_, rfl, ?_⟩))
    go_roundg k1
    case measure => have := HK1.out; omega
    case rel => exact ⟨(t375), (wrap64 (x15_1 + 1)), fR, fR, H', ⟨by have := HK1.out; omega⟩, ⟨kR HO_13⟩, ⟨bB⟩⟩
   ·rw [if_neg c7] at H
    have c7b0 : decide (x15_1 < (t371.length : Int)) = false := decide_eq_false c7
    clear c7
    obtain rfl := Option.some.inj H
    go_wp2
    go_ret
    exact ⟨rE, bB⟩

/-! ### spec_WorstOfGuess: function 36 -/
def spec_WorstOfGuess.j0 : Nat → List (S35) → ByteArray → Bool → Int → Int → Option (Int × Bool)
 | 0, _, _, _, _, _ => none
 | k + 1, x1, x2, x17, x377000, x377001 => if x17 = true then (some (0, false)) else ((spec_hiAll.f k x377000 x377001).bind fun t379 => ((spec_hiFitting.f k t379 x1).bind fun t382 => ((spec_hiWorst.f k x377000 x2 t382).bind fun t385 => (some (t385, true)))))
def spec_WorstOfGuess.f (k : Nat) (a0_0 : Int) (a0_1 : Int) (l1 : List (S35)) (a2 : ByteArray) : Option (Int × Bool) := (spec_hiAsked.f k a0_0 a0_1 l1).bind fun t377 => (if t377 = true then ((spec_whCode.f k a0_0 a0_1 a2).bind fun t378 => (spec_WorstOfGuess.j0 k l1 a2 (!t378) a0_0 a0_1)) else (spec_WorstOfGuess.j0 k l1 a2 true a0_0 a0_1))
theorem spec_WorstOfGuess.mono_l : ∀ k, (∀ y0 y1 y2 y3 y4, LeO (spec_WorstOfGuess.j0 k y0 y1 y2 y3 y4) (spec_WorstOfGuess.j0 (k + 1) y0 y1 y2 y3 y4))
 | 0 => fun _ _ _ _ _ r h => by simp [spec_WorstOfGuess.j0] at h
 | k + 1 => by
  have ih0 := spec_WorstOfGuess.mono_l k
  ·intro y0 y1 y2 y3 y4
   unfold spec_WorstOfGuess.j0
   repeat' first
   | (with_reducible first | exact ih0 _ _ _ _ _ | exact spec_hiAll.mono _ _ _ | exact spec_hiAsked.mono _ _ _ _ | exact spec_hiFitting.mono _ _ _ | exact spec_hiWorst.mono _ _ _ _ | exact spec_whCode.mono _ _ _ _ | exact LeO.refl _ | exact LeO.none _ | refine LeO.ite ?_ ?_ | refine LeO.bind ?_ (fun _ => ?_))
   | exact ih0 _ _ _ _ _
   | exact spec_hiAll.mono _ _ _
   | exact spec_hiAsked.mono _ _ _ _
   | exact spec_hiFitting.mono _ _ _
   | exact spec_hiWorst.mono _ _ _ _
   | exact spec_whCode.mono _ _ _ _
   | exact LeO.none _
   | refine LeO.ite ?_ ?_
   | refine LeO.bind ?_ (fun _ => ?_)
theorem spec_WorstOfGuess.mono : ∀ a0 a1 a2 a3 k, LeO (spec_WorstOfGuess.f k a0 a1 a2 a3) (spec_WorstOfGuess.f (k + 1) a0 a1 a2 a3) := by
 intro a0 a1 a2 a3 k
 have ih0 := spec_WorstOfGuess.mono_l k
 unfold spec_WorstOfGuess.f
 repeat' first
   | (with_reducible first | exact ih0 _ _ _ _ _ | exact spec_hiAll.mono _ _ _ | exact spec_hiAsked.mono _ _ _ _ | exact spec_hiFitting.mono _ _ _ | exact spec_hiWorst.mono _ _ _ _ | exact spec_whCode.mono _ _ _ _ | exact LeO.refl _ | exact LeO.none _ | refine LeO.ite ?_ ?_ | refine LeO.bind ?_ (fun _ => ?_))
   | exact ih0 _ _ _ _ _
   | exact spec_hiAll.mono _ _ _
   | exact spec_hiAsked.mono _ _ _ _
   | exact spec_hiFitting.mono _ _ _
   | exact spec_hiWorst.mono _ _ _ _
   | exact spec_whCode.mono _ _ _ _
   | exact LeO.none _
   | refine LeO.ite ?_ ?_
   | refine LeO.bind ?_ (fun _ => ?_)
def spec_WorstOfGuess.T3 : Bool × List (List Nat × List Nat) := (true, [([], []), ([0], [0]), ([], []), ([], []), ([3], [3]), ([], []), ([4, 5, 4], [4, 5]), ([1, 2, 6, 6], [1, 2, 6]), ([7, 7, 0, 1, 2, 3, 4, 5, 6, 7], [7]), ([8, 0, 1, 2, 3, 4, 5, 6, 7, 8], [])])
def spec_WorstOfGuess.B3 : List Nat := [0, 1, 0, 0, 8, 0, 56, 127, 255, 511]
theorem spec_WorstOfGuess.tab3 : rtab .any (opsOf Tryz.f36 3) = spec_WorstOfGuess.T3 := by kernel_rfl
theorem spec_WorstOfGuess.bits3 : waitsOk spec_WorstOfGuess.T3.2 spec_WorstOfGuess.B3 = true := by kernel_rfl
theorem spec_WorstOfGuess.calls (k : Nat) (a0_0 : Int) (a0_1 : Int) (A1 : Option Addr) (c1 : Nat) (l1 : List (S35)) (a2 : ByteArray) (r1 : Int) (r2 : Bool) (w : World) (hr1 : Kd.C k35 w A1 l1.length l1) (hc1 : l1.length ≤ c1) (h : spec_WorstOfGuess.f k a0_0 a0_1 l1 a2 = some (r1, r2)) :
  Calls Tryz.prog 36 #[.agg #[.int .i64 a0_0, .int .i64 a0_1], .slice A1 l1.length c1, .string a2] w fun e w' => e = .returned (.tuple #[.int .i64 r1, .bool r2]) ∧ Below w.heap.size w w' := by
 have hu25 := Tryz.underlying25
 have HR1 := Aside0.mk hr1
 have HC1 := Aside0.mk hc1
 clear hr1 hc1
 have HB := Aside0.mk (Below.refl w.heap.size w)
 have H := h
 unfold spec_WorstOfGuess.f at H
 clear h
 have HC4 := Aside0.mk H
 clear H
 go_enter Tryz.func36, Tryz.ntmps36
 go_upto_region 1 with (first | ((with_reducible refine gate_dst (N := 3) rfl ?_); refine box_event ?hg (N := 3) ?hd (cs := #[.int .i64 a0_0, .int .i64 a0_1]) (t := 25) ?hr ?_; (case hd => rfl); (case hg => rfl); (case hr => first | (go_simp; done) | (go_simp; rfl)); intro gb376 hg w5 hbox hb; have BK376 := Aside0.mk (hbox); have GW376 : Aside0 (w.heap.size ≤ gb376) := gW hg; have GE376 := GW376; replace HB := Aside0.mk (below_step bB hb); clear hb hbox hg))
 (try simp only [Act.put, List.setIfInBounds_toArray, List.set_cons_zero, List.set_cons_succ])
 go_cut [17] (fun v17 wc => ∃ (kq : Nat) (x17_3 : Bool), v17 = .bool x17_3 ∧ Aside0 (spec_WorstOfGuess.j0 kq l1 a2 x17_3 a0_0 a0_1 = some (r1, r2)) ∧ Aside0 (kq ≤ k) ∧ Aside0 (wc.heap[gb376]? = some (.cells #[.int .i64 a0_0, .int .i64 a0_1] 25 (0, 0))) ∧ Aside0 (Below w.heap.size w wc))
 case first =>
  have H := HC4.out
  clear HC4
  replace H := Option.bind_eq_some_iff.mp H
  obtain ⟨t377, A60, H⟩ := H
  (try dsimp only at H)
  have A6 := Aside0.mk A60
  clear A60
  by_cases c7 : t377 = true
  ·subst c7
   replace H := zt H
   replace H := Option.bind_eq_some_iff.mp H
   obtain ⟨t378, A80, H⟩ := H
   (try dsimp only at H)
   have A8 := Aside0.mk A80
   clear A80
   have H' := Aside0.mk H
   clear H
   have hcz9_0 := cZ BK376 0 (.int .i64 a0_0)
   have hcz9_1 := cZ BK376 1 (.int .i64 a0_1)
   have hfz9_0 := blk_frozen BK376.out 0
   have hfz9_1 := blk_frozen BK376.out 1
   go_wp2_with (first | ((with_reducible refine gate_callee (f := 80) rfl ?_); refine goesL_ (some 10) rfl rfl Tryz.func80 (by kernel_rfl) rfl #[.agg #[.int .i64 a0_0, .int .i64 a0_1], .slice A1 l1.length c1] rfl lM ?_; (with_reducible refine (spec_hiAsked.calls k a0_0 a0_1 _ _ l1 true _ ?side1 ?side2 A6.out).mono ?_); (case side1 => exact cS (Kd.C_below HR1.out HB.out)); (case side2 => exact HC1.out); rintro e w10 ⟨rfl, hb⟩; refine ⟨_, rfl, ?_⟩; replace BK376 := bW BK376 hb; replace HB := Aside0.mk (below_step bG hb); (try clear hb); have hcz11_0 := cZ BK376 0 (.int .i64 a0_0); have hcz11_1 := cZ BK376 1 (.int .i64 a0_1); have hfz11_0 := blk_frozen BK376.out 0; have hfz11_1 := blk_frozen BK376.out 1) | (go_at_call 54; (with_reducible refine (spec_whCode.calls k a0_0 a0_1 a2 t378 _ A8.out).mono ?_); rintro e w12 ⟨rfl, hb⟩; replace BK376 := bW BK376 hb; replace HB := Aside0.mk (below_step bG hb); (try clear hb)))
   go_meet
   case rel => exact ⟨_, (!t378), fR, H', ⟨by first | omega | exact Nat.le_refl _⟩, ⟨bK⟩, ⟨bG⟩⟩
  ·replace c7 := Bool.eq_false_iff.mpr c7
   subst c7
   replace H := zf H
   have H' := Aside0.mk H
   clear H
   have hcz13_0 := cZ BK376 0 (.int .i64 a0_0)
   have hcz13_1 := cZ BK376 1 (.int .i64 a0_1)
   have hfz13_0 := blk_frozen BK376.out 0
   have hfz13_1 := blk_frozen BK376.out 1
   go_wp2_with (first | ((with_reducible refine gate_callee (f := 80) rfl ?_); refine goesL_ (some 10) rfl rfl Tryz.func80 (by kernel_rfl) rfl #[.agg #[.int .i64 a0_0, .int .i64 a0_1], .slice A1 l1.length c1] rfl lM ?_; (with_reducible refine (spec_hiAsked.calls k a0_0 a0_1 _ _ l1 false _ ?side1 ?side2 A6.out).mono ?_); (case side1 => exact cS (Kd.C_below HR1.out HB.out)); (case side2 => exact HC1.out); rintro e w14 ⟨rfl, hb⟩; refine ⟨_, rfl, ?_⟩; replace BK376 := bW BK376 hb; replace HB := Aside0.mk (below_step bG hb); (try clear hb)))
   go_meet
   case rel => exact ⟨_, (true), fR, H', ⟨by first | omega | exact Nat.le_refl _⟩, ⟨bK⟩, ⟨bG⟩⟩
 case rest =>
  clear HC4
  try clear c1
  try clear p2
  try clear c3
  try clear c7
  try clear c8
  try clear hcz11_0
  try clear hcz11_1
  try clear hcz13_0
  try clear hcz13_1
  try clear hcz9_0
  try clear hcz9_1
  try clear hfz11_0
  try clear hfz11_1
  try clear hfz13_0
  try clear hfz13_1
  try clear hfz9_0
  try clear hfz9_1
  obtain ⟨kq, x17_3, rfl, HA, HJ3, BK376, HB⟩ := hcut
  cases kq with
  | zero => exact absurd HA.out (by simp [spec_WorstOfGuess.j0])
  | succ kj3 =>
   have H := HA.out
   clear HA
   simp only [spec_WorstOfGuess.j0] at H
   by_cases c15 : x17_3 = true
   ·subst c15
    replace H := zt H
    simp only [Option.some.injEq, Prod.mk.injEq] at H
    obtain ⟨rfl, rfl⟩ := H
    go_wp2
    go_ret2
    exact ⟨rE, bG⟩
   ·replace c15 := Bool.eq_false_iff.mpr c15
    subst c15
    replace H := zf H
    replace H := Option.bind_eq_some_iff.mp H
    obtain ⟨t379, A160, H⟩ := H
    (try dsimp only at H)
    have A16 := Aside0.mk A160
    clear A160
    replace H := Option.bind_eq_some_iff.mp H
    obtain ⟨t382, A170, H⟩ := H
    (try dsimp only at H)
    have A17 := Aside0.mk A170
    clear A170
    replace H := Option.bind_eq_some_iff.mp H
    obtain ⟨t385, A180, H⟩ := H
    (try dsimp only at H)
    have A18 := Aside0.mk A180
    clear A180
    simp only [Option.some.injEq, Prod.mk.injEq] at H
    obtain ⟨rfl, rfl⟩ := H
    try go_wp2
    have n0_ := Aside0.mk (blk_drew BK376.out)
    have n1_ := Aside0.mk (below_drew1 HB.out)
    clear BK376
    clear HB
    have BK376 := n0_
    have HB := n1_
    clear n0_ n1_
    refine start_ (n := 10) (S := fun w' => w'.cell? ⟨gb376, 0, none⟩ = some (.int .i64 a0_0) ∧ w'.cell? ⟨gb376, 1, none⟩ = some (.int .i64 a0_1)) (ds := []) #[false, false, false, false, false, false, false, false, false, false] (by kernel_rfl) rfl rfl ⟨(blk_cell BK376.out 0).trans rfl, (blk_cell BK376.out 1).trans rfl⟩ (fun hHeld => ?_); refine with_tabW spec_WorstOfGuess.tab3 spec_WorstOfGuess.bits3 (fun HT_ HW_ => ?_)
    generalize wc.drew = w19 at BK376 HB hHeld ⊢
    refine pure_ (i := 0) (N := some 18) (v := ?_) (a' := ?_) #[true, false, false, false, false, false, false, false, false, false] rfl rfl (any_of HT_.out (by kernel_rfl)) (fun _ _ _ h => h) (Or.inl ⟨by rfl, ?_⟩) ?_ ?_
    rotate_left
    ·intro w'
     go_simp
     with_reducible rfl
    rotate_left
    ·simp only [Act.put, List.setIfInBounds_toArray, List.set_cons_zero, List.set_cons_succ, i64_w, i32_w]
     rfl
    refine pure_ (i := 2) (N := some 20) (v := ?_) (a' := ?_) #[true, false, true, false, false, false, false, false, false, false] rfl rfl (any_of HT_.out (by kernel_rfl)) (fun _ _ _ h => h) (Or.inl ⟨by rfl, ?_⟩) ?_ ?_
    rotate_left
    ·intro w'
     go_simp
     with_reducible rfl
    rotate_left
    ·simp only [Act.put, List.setIfInBounds_toArray, List.set_cons_zero, List.set_cons_succ, i64_w, i32_w]
     rfl
    refine pure_ (i := 5) (N := some 23) (v := ?_) (a' := ?_) #[true, false, true, false, false, true, false, false, false, false] rfl rfl (any_of HT_.out (by kernel_rfl)) (fun _ _ _ h => h) (Or.inl ⟨by rfl, ?_⟩) ?_ ?_
    rotate_left
    ·intro w'
     go_simp
     with_reducible rfl
    rotate_left
    ·simp only [Act.put, List.setIfInBounds_toArray, List.set_cons_zero, List.set_cons_succ, i64_w, i32_w]
     rfl
    refine take_ (i := 1) (N := some 19) (v := ?_) (a' := ?_) #[true, true, true, false, false, true, false, false, false, false] rfl rfl (take_ofW HT_.out HW_.out (by kernel_rfl)) (fun _ _ _ h => h) (Or.inl ⟨by rfl, ?_⟩) hHeld ?_ ?_
    rotate_left
    ·rintro w' ⟨s0, s1⟩
     go_simp
     with_reducible rfl
    rotate_left
    ·simp only [Act.put, List.setIfInBounds_toArray, List.set_cons_zero, List.set_cons_succ, i64_w, i32_w]
     rfl
    refine take_ (i := 3) (N := some 21) (v := ?_) (a' := ?_) #[true, true, true, true, false, true, false, false, false, false] rfl rfl (take_ofW HT_.out HW_.out (by kernel_rfl)) (fun _ _ _ h => h) (Or.inl ⟨by rfl, ?_⟩) hHeld ?_ ?_
    rotate_left
    ·rintro w' ⟨s0, s1⟩
     go_simp
     with_reducible rfl
    rotate_left
    ·simp only [Act.put, List.setIfInBounds_toArray, List.set_cons_zero, List.set_cons_succ, i64_w, i32_w]
     rfl
    refine one_ (i := 4) (N := some 22) #[true, true, true, true, true, true, false, false, false, false] rfl rfl (one_of HT_.out (by kernel_rfl)) (by decide) (fun K hK => ?_)
    refine goes_ Tryz.func66 (by kernel_rfl) rfl #[.agg #[.int .i64 a0_0, .int .i64 a0_1]] (by rfl) rfl rfl lM ?_
    with_reducible refine (spec_hiAll.calls kj3 a0_0 a0_1 t379 _ A16.out).mono ?_
    rintro e w20 ⟨v380, rfl, ho0, hb⟩
    refine ⟨_, rfl, ?_⟩
    have n0_ := Aside0.mk (Kd.R_lower ho0 (below_size bG))
    have n1_ := Aside0.mk (blk_below (g := gb376) (o := .cells #[.int .i64 a0_0, .int .i64 a0_1] 25 (0, 0)) bK hb)
    have n2_ := Aside0.mk (below_step bG hb)
    clear BK376
    clear HB
    have HO381 := n0_
    have BK376 := n1_
    have HB := n2_
    clear n0_ n1_ n2_
    (try clear hb)
    (try clear ho0)
    obtain ⟨Ao21, co21, eo21⟩ := Kd.R_slice HO381.out
    (first | subst eo21 | (injection eo21 with f1_ f2_ f3_; have f4_ := f1_.symm; have f5_ := f3_.symm; clear f1_ f2_ f3_; subst f4_; subst f5_))
    refine hK.out _ _ ⟨(blk_cell BK376.out 0).trans rfl, (blk_cell BK376.out 1).trans rfl⟩ (fun hHeld => ?_)
    clear hK K
    refine norm_ (a' := ?_) ?_ ?_
    rotate_left
    ·show Act.put _ (some 22) _ = _
     simp only [Act.put, List.setIfInBounds_toArray, List.set_cons_zero, List.set_cons_succ, i64_w, i32_w]
     rfl
    refine one_ (i := 6) (N := some 24) #[true, true, true, true, true, true, true, false, false, false] rfl rfl (one_of HT_.out (by kernel_rfl)) (by decide) (fun K hK => ?_)
    refine goes_ Tryz.func73 (by kernel_rfl) rfl #[.slice Ao21 t379.length co21, .slice A1 l1.length c1] (by rfl) rfl rfl lM ?_
    with_reducible refine (spec_hiFitting.calls kj3 _ _ t379 _ _ l1 t382 _ ?side1 ?side2 ?side3 ?side4 A17.out).mono ?_
    (case side1 => exact cS ((Kd.R_reads' HO381.out).2.2))
    (case side2 => exact (Kd.R_reads' HO381.out).2.1)
    (case side3 => exact cS (Kd.C_below HR1.out HB.out))
    (case side4 => exact HC1.out)
    rintro e w22 ⟨v383, rfl, ho0, hb⟩
    refine ⟨_, rfl, ?_⟩
    have n0_ := Aside0.mk (Kd.R_elder' (kR HO381) (Kd.R_base ho0) hb)
    have n1_ := Aside0.mk (Kd.R_lower (Kd.R_new' ho0 (Kd.R_lt (kR HO381))) (below_size bG))
    have n2_ := Aside0.mk (blk_below (g := gb376) (o := .cells #[.int .i64 a0_0, .int .i64 a0_1] 25 (0, 0)) bK hb)
    have n3_ := Aside0.mk (below_step bG hb)
    clear HO381
    clear BK376
    clear HB
    have HO381 := n0_
    have HO384 := n1_
    have BK376 := n2_
    have HB := n3_
    clear n0_ n1_ n2_ n3_
    (try clear hb)
    (try clear ho0)
    obtain ⟨Ao23, co23, eo23⟩ := Kd.R_slice HO384.out
    (first | subst eo23 | (injection eo23 with f1_ f2_ f3_; have f4_ := f1_.symm; have f5_ := f3_.symm; clear f1_ f2_ f3_; subst f4_; subst f5_))
    refine hK.out _ _ ⟨(blk_cell BK376.out 0).trans rfl, (blk_cell BK376.out 1).trans rfl⟩ (fun hHeld => ?_)
    clear hK K
    refine norm_ (a' := ?_) ?_ ?_
    rotate_left
    ·show Act.put _ (some 24) _ = _
     simp only [Act.put, List.setIfInBounds_toArray, List.set_cons_zero, List.set_cons_succ, i64_w, i32_w]
     rfl
    refine one_ (i := 7) (N := some 25) #[true, true, true, true, true, true, true, true, false, false] rfl rfl (one_of HT_.out (by kernel_rfl)) (by decide) (fun K hK => ?_)
    refine goes_ Tryz.func82 (by kernel_rfl) rfl #[.int .i64 a0_0, .string a2, .slice Ao23 t382.length co23] (by rfl) rfl rfl lM ?_
    with_reducible refine (spec_hiWorst.calls kj3 a0_0 a2 _ _ t382 t385 _ ?side1 ?side2 A18.out).mono ?_
    (case side1 => exact cS ((Kd.R_reads' HO384.out).2.2))
    (case side2 => exact (Kd.R_reads' HO384.out).2.1)
    rintro e w24 ⟨rfl, hb⟩
    refine ⟨_, rfl, ?_⟩
    have n0_ := Aside0.mk (Kd.R_below (kR HO381) hb)
    have n1_ := Aside0.mk (Kd.R_below (kR HO384) hb)
    have n2_ := Aside0.mk (blk_below (g := gb376) (o := .cells #[.int .i64 a0_0, .int .i64 a0_1] 25 (0, 0)) bK hb)
    have n3_ := Aside0.mk (below_step bG hb)
    clear HO381
    clear HO384
    clear BK376
    clear HB
    have HO381 := n0_
    have HO384 := n1_
    have BK376 := n2_
    have HB := n3_
    clear n0_ n1_ n2_ n3_
    (try clear hb)
    refine hK.out _ _ ⟨(blk_cell BK376.out 0).trans rfl, (blk_cell BK376.out 1).trans rfl⟩ (fun hHeld => ?_)
    clear hK K
    refine norm_ (a' := ?_) ?_ ?_
    rotate_left
    ·show Act.put _ (some 25) _ = _
     simp only [Act.put, List.setIfInBounds_toArray, List.set_cons_zero, List.set_cons_succ, i64_w, i32_w]
     rfl
    refine pure_ (i := 8) (N := some 6) (v := ?_) (a' := ?_) #[true, true, true, true, true, true, true, true, true, false] rfl rfl (any_of HT_.out (by kernel_rfl)) (fun _ _ _ h => h) (Or.inl ⟨by rfl, ?_⟩) ?_ ?_
    rotate_left
    ·intro w'
     go_simp
     with_reducible rfl
    rotate_left
    ·simp only [Act.put, List.setIfInBounds_toArray, List.set_cons_zero, List.set_cons_succ, i64_w, i32_w]
     rfl
    refine pure_ (i := 9) (N := some 7) (v := ?_) (a' := ?_) #[true, true, true, true, true, true, true, true, true, true] rfl rfl (any_of HT_.out (by kernel_rfl)) (fun _ _ _ h => h) (Or.inl ⟨by rfl, ?_⟩) ?_ ?_
    rotate_left
    ·intro w'
     go_simp
     with_reducible rfl
    rotate_left
    ·simp only [Act.put, List.setIfInBounds_toArray, List.set_cons_zero, List.set_cons_succ, i64_w, i32_w]
     rfl
    refine done_ (done_of HT_.out (by kernel_rfl)) ?_
    try go_wp2
    go_ret2
    exact ⟨rE, bG⟩

/-! ### spec_FittingCodes: function 37 -/
def spec_FittingCodes.f (k : Nat) (a0_0 : Int) (a0_1 : Int) (l1 : List (S35)) : Option (List ByteArray × Bool) := (spec_hiAsked.f k a0_0 a0_1 l1).bind fun t387 => (if t387 = true then ((spec_hiAll.f k a0_0 a0_1).bind fun t388 => ((spec_hiFitting.f k t388 l1).bind fun t391 => (some (t391, true)))) else (some (([] : List ByteArray), false)))
theorem spec_FittingCodes.mono : ∀ a0 a1 a2 k, LeO (spec_FittingCodes.f k a0 a1 a2) (spec_FittingCodes.f (k + 1) a0 a1 a2) := by
 intro a0 a1 a2 k
 unfold spec_FittingCodes.f
 repeat' first
   | (with_reducible first | exact spec_hiAll.mono _ _ _ | exact spec_hiAsked.mono _ _ _ _ | exact spec_hiFitting.mono _ _ _ | exact LeO.refl _ | exact LeO.none _ | refine LeO.ite ?_ ?_ | refine LeO.bind ?_ (fun _ => ?_))
   | exact spec_hiAll.mono _ _ _
   | exact spec_hiAsked.mono _ _ _ _
   | exact spec_hiFitting.mono _ _ _
   | exact LeO.none _
   | refine LeO.ite ?_ ?_
   | refine LeO.bind ?_ (fun _ => ?_)
theorem spec_FittingCodes.calls (k : Nat) (a0_0 : Int) (a0_1 : Int) (A1 : Option Addr) (c1 : Nat) (l1 : List (S35)) (r1 : List ByteArray) (r2 : Bool) (w : World) (hr1 : Kd.C k35 w A1 l1.length l1) (hc1 : l1.length ≤ c1) (h : spec_FittingCodes.f k a0_0 a0_1 l1 = some (r1, r2)) :
  Calls Tryz.prog 37 #[.agg #[.int .i64 a0_0, .int .i64 a0_1], .slice A1 l1.length c1] w fun e w' => ∃ v0_ : Value, e = .returned (.tuple #[v0_, .bool r2]) ∧ Kd.R Kd.string 9 w' w.heap.size (fun _ => True) v0_ r1 ∧ Below w.heap.size w w' := by
 have hu25 := Tryz.underlying25
 have HR1 := Aside0.mk hr1
 have HC1 := Aside0.mk hc1
 clear hr1 hc1
 have HB := Aside0.mk (Below.refl w.heap.size w)
 have H := h
 unfold spec_FittingCodes.f at H
 clear h
 replace H := Option.bind_eq_some_iff.mp H
 obtain ⟨t387, A30, H⟩ := H
 (try dsimp only at H)
 have A3 := Aside0.mk A30
 clear A30
 by_cases c4 : t387 = true
 ·subst c4
  replace H := zt H
  replace H := Option.bind_eq_some_iff.mp H
  obtain ⟨t388, A50, H⟩ := H
  (try dsimp only at H)
  have A5 := Aside0.mk A50
  clear A50
  replace H := Option.bind_eq_some_iff.mp H
  obtain ⟨t391, A60, H⟩ := H
  (try dsimp only at H)
  have A6 := Aside0.mk A60
  clear A60
  simp only [Option.some.injEq, Prod.mk.injEq] at H
  obtain ⟨rfl, rfl⟩ := H
  go_enter Tryz.func37, Tryz.ntmps37
  go_wp2_with (first | ((with_reducible refine gate_dst (N := 2) rfl ?_); refine box_event ?hg (N := 2) ?hd (cs := #[.int .i64 a0_0, .int .i64 a0_1]) (t := 25) ?hr ?_; (case hd => rfl); (case hg => rfl); (case hr => first | (go_simp; done) | (go_simp; rfl)); intro gb386 hg w7 hbox hb; have BK386 := Aside0.mk (hbox); have GW386 : Aside0 (w.heap.size ≤ gb386) := gW hg; have GE386 := GW386; replace HB := Aside0.mk (below_step bB hb); clear hb hbox hg; have hcz8_0 := cZ BK386 0 (.int .i64 a0_0); have hcz8_1 := cZ BK386 1 (.int .i64 a0_1); have hfz8_0 := blk_frozen BK386.out 0; have hfz8_1 := blk_frozen BK386.out 1) | ((with_reducible refine gate_callee (f := 80) rfl ?_); refine goesL_ (some 8) rfl rfl Tryz.func80 (by kernel_rfl) rfl #[.agg #[.int .i64 a0_0, .int .i64 a0_1], .slice A1 l1.length c1] rfl lM ?_; (with_reducible refine (spec_hiAsked.calls k a0_0 a0_1 _ _ l1 true _ ?side1 ?side2 A3.out).mono ?_); (case side1 => exact cS (Kd.C_below HR1.out HB.out)); (case side2 => exact HC1.out); rintro e w9 ⟨rfl, hb⟩; refine ⟨_, rfl, ?_⟩; replace BK386 := bW BK386 hb; replace HB := Aside0.mk (below_step bG hb); (try clear hb); have hcz10_0 := cZ BK386 0 (.int .i64 a0_0); have hcz10_1 := cZ BK386 1 (.int .i64 a0_1); have hfz10_0 := blk_frozen BK386.out 0; have hfz10_1 := blk_frozen BK386.out 1) | ((with_reducible refine gate_callee (f := 66) rfl ?_); refine goesL_ (some 11) rfl rfl Tryz.func66 (by kernel_rfl) rfl #[.agg #[.int .i64 a0_0, .int .i64 a0_1]] rfl lM ?_; (with_reducible refine (spec_hiAll.calls k a0_0 a0_1 t388 _ A5.out).mono ?_); rintro e w11 ⟨v389, rfl, ho0, hb⟩; refine ⟨_, rfl, ?_⟩; have HO390 := Aside0.mk (Kd.R_lower ho0 (below_size bG)); replace BK386 := bW BK386 hb; replace HB := Aside0.mk (below_step bG hb); (try clear hb); (try clear ho0); obtain ⟨Ao12, co12, eo12⟩ := Kd.R_slice HO390.out; subst eo12) | ((with_reducible refine gate_callee (f := 73) rfl ?_); refine goesL_ (some 13) rfl rfl Tryz.func73 (by kernel_rfl) rfl #[.slice Ao12 t388.length co12, .slice A1 l1.length c1] rfl lM ?_; (with_reducible refine (spec_hiFitting.calls k _ _ t388 _ _ l1 t391 _ ?side1 ?side2 ?side3 ?side4 A6.out).mono ?_); (case side1 => exact cS ((Kd.R_reads' HO390.out).2.2)); (case side2 => exact (Kd.R_reads' HO390.out).2.1); (case side3 => exact cS (Kd.C_below HR1.out HB.out)); (case side4 => exact HC1.out); rintro e w13 ⟨v392, rfl, ho0, hb⟩; refine ⟨_, rfl, ?_⟩; have HO393 := Aside0.mk (Kd.R_lower (Kd.R_new' ho0 (Kd.R_lt (kR HO390))) (below_size bG)); replace HO390 := Aside0.mk (Kd.R_elder' (kR HO390) (Kd.R_base ho0) hb); replace BK386 := bW BK386 hb; replace HB := Aside0.mk (below_step bG hb); (try clear hb); (try clear ho0)))
  go_ret2
  exact ⟨_, rE, by (with_reducible repeat (first | apply Kd.R_alloc | apply Kd.R_drewN | apply Kd.R_drew)); exact Kd.R_mono HO393.out (fun _ hk => trivial), bG⟩
 ·replace c4 := Bool.eq_false_iff.mpr c4
  subst c4
  replace H := zf H
  simp only [Option.some.injEq, Prod.mk.injEq] at H
  obtain ⟨rfl, rfl⟩ := H
  go_enter Tryz.func37, Tryz.ntmps37
  go_wp2_with (first | ((with_reducible refine gate_dst (N := 2) rfl ?_); refine box_event ?hg (N := 2) ?hd (cs := #[.int .i64 a0_0, .int .i64 a0_1]) (t := 25) ?hr ?_; (case hd => rfl); (case hg => rfl); (case hr => first | (go_simp; done) | (go_simp; rfl)); intro gb386 hg w14 hbox hb; have BK386 := Aside0.mk (hbox); have GW386 : Aside0 (w.heap.size ≤ gb386) := gW hg; have GE386 := GW386; replace HB := Aside0.mk (below_step bB hb); clear hb hbox hg; have hcz15_0 := cZ BK386 0 (.int .i64 a0_0); have hcz15_1 := cZ BK386 1 (.int .i64 a0_1); have hfz15_0 := blk_frozen BK386.out 0; have hfz15_1 := blk_frozen BK386.out 1) | ((with_reducible refine gate_callee (f := 80) rfl ?_); refine goesL_ (some 8) rfl rfl Tryz.func80 (by kernel_rfl) rfl #[.agg #[.int .i64 a0_0, .int .i64 a0_1], .slice A1 l1.length c1] rfl lM ?_; (with_reducible refine (spec_hiAsked.calls k a0_0 a0_1 _ _ l1 false _ ?side1 ?side2 A3.out).mono ?_); (case side1 => exact cS (Kd.C_below HR1.out HB.out)); (case side2 => exact HC1.out); rintro e w16 ⟨rfl, hb⟩; refine ⟨_, rfl, ?_⟩; replace BK386 := bW BK386 hb; replace HB := Aside0.mk (below_step bG hb); (try clear hb)))
  go_ret2
  exact ⟨_, rE, by first | exact Kd.R_nil _ _ _ _ _ | exact Kd.N_nil _ _ _ _ _ | exact Kd.V_nil _ _ _ _ _ | exact Kd.Q_nil _ _ _ _ _ | exact Kd.S_nil _ _ _ _ _, bG⟩

/-! ### spec_CountFitting: function 38 -/
def spec_CountFitting.f (k : Nat) (a0_0 : Int) (a0_1 : Int) (l1 : List (S35)) : Option (Int × Bool) := (spec_hiAsked.f k a0_0 a0_1 l1).bind fun t395 => (if t395 = true then ((spec_hiAll.f k a0_0 a0_1).bind fun t396 => ((spec_hiFitting.f k t396 l1).bind fun t399 => (some ((t399.length : Int), true)))) else (some (0, false)))
theorem spec_CountFitting.mono : ∀ a0 a1 a2 k, LeO (spec_CountFitting.f k a0 a1 a2) (spec_CountFitting.f (k + 1) a0 a1 a2) := by
 intro a0 a1 a2 k
 unfold spec_CountFitting.f
 repeat' first
   | (with_reducible first | exact spec_hiAll.mono _ _ _ | exact spec_hiAsked.mono _ _ _ _ | exact spec_hiFitting.mono _ _ _ | exact LeO.refl _ | exact LeO.none _ | refine LeO.ite ?_ ?_ | refine LeO.bind ?_ (fun _ => ?_))
   | exact spec_hiAll.mono _ _ _
   | exact spec_hiAsked.mono _ _ _ _
   | exact spec_hiFitting.mono _ _ _
   | exact LeO.none _
   | refine LeO.ite ?_ ?_
   | refine LeO.bind ?_ (fun _ => ?_)
theorem spec_CountFitting.calls (k : Nat) (a0_0 : Int) (a0_1 : Int) (A1 : Option Addr) (c1 : Nat) (l1 : List (S35)) (r1 : Int) (r2 : Bool) (w : World) (hr1 : Kd.C k35 w A1 l1.length l1) (hc1 : l1.length ≤ c1) (h : spec_CountFitting.f k a0_0 a0_1 l1 = some (r1, r2)) :
  Calls Tryz.prog 38 #[.agg #[.int .i64 a0_0, .int .i64 a0_1], .slice A1 l1.length c1] w fun e w' => e = .returned (.tuple #[.int .i64 r1, .bool r2]) ∧ Below w.heap.size w w' := by
 have hu25 := Tryz.underlying25
 have HR1 := Aside0.mk hr1
 have HC1 := Aside0.mk hc1
 clear hr1 hc1
 have HB := Aside0.mk (Below.refl w.heap.size w)
 have H := h
 unfold spec_CountFitting.f at H
 clear h
 replace H := Option.bind_eq_some_iff.mp H
 obtain ⟨t395, A30, H⟩ := H
 (try dsimp only at H)
 have A3 := Aside0.mk A30
 clear A30
 by_cases c4 : t395 = true
 ·subst c4
  replace H := zt H
  replace H := Option.bind_eq_some_iff.mp H
  obtain ⟨t396, A50, H⟩ := H
  (try dsimp only at H)
  have A5 := Aside0.mk A50
  clear A50
  replace H := Option.bind_eq_some_iff.mp H
  obtain ⟨t399, A60, H⟩ := H
  (try dsimp only at H)
  have A6 := Aside0.mk A60
  clear A60
  simp only [Option.some.injEq, Prod.mk.injEq] at H
  obtain ⟨rfl, rfl⟩ := H
  go_enter Tryz.func38, Tryz.ntmps38
  go_wp2_with (first | ((with_reducible refine gate_dst (N := 2) rfl ?_); refine box_event ?hg (N := 2) ?hd (cs := #[.int .i64 a0_0, .int .i64 a0_1]) (t := 25) ?hr ?_; (case hd => rfl); (case hg => rfl); (case hr => first | (go_simp; done) | (go_simp; rfl)); intro gb394 hg w7 hbox hb; have BK394 := Aside0.mk (hbox); have GW394 : Aside0 (w.heap.size ≤ gb394) := gW hg; have GE394 := GW394; replace HB := Aside0.mk (below_step bB hb); clear hb hbox hg; have hcz8_0 := cZ BK394 0 (.int .i64 a0_0); have hcz8_1 := cZ BK394 1 (.int .i64 a0_1); have hfz8_0 := blk_frozen BK394.out 0; have hfz8_1 := blk_frozen BK394.out 1) | ((with_reducible refine gate_callee (f := 80) rfl ?_); refine goesL_ (some 8) rfl rfl Tryz.func80 (by kernel_rfl) rfl #[.agg #[.int .i64 a0_0, .int .i64 a0_1], .slice A1 l1.length c1] rfl lM ?_; (with_reducible refine (spec_hiAsked.calls k a0_0 a0_1 _ _ l1 true _ ?side1 ?side2 A3.out).mono ?_); (case side1 => exact cS (Kd.C_below HR1.out HB.out)); (case side2 => exact HC1.out); rintro e w9 ⟨rfl, hb⟩; refine ⟨_, rfl, ?_⟩; replace BK394 := bW BK394 hb; replace HB := Aside0.mk (below_step bG hb); (try clear hb); have hcz10_0 := cZ BK394 0 (.int .i64 a0_0); have hcz10_1 := cZ BK394 1 (.int .i64 a0_1); have hfz10_0 := blk_frozen BK394.out 0; have hfz10_1 := blk_frozen BK394.out 1) | ((with_reducible refine gate_callee (f := 66) rfl ?_); refine goesL_ (some 11) rfl rfl Tryz.func66 (by kernel_rfl) rfl #[.agg #[.int .i64 a0_0, .int .i64 a0_1]] rfl lM ?_; (with_reducible refine (spec_hiAll.calls k a0_0 a0_1 t396 _ A5.out).mono ?_); rintro e w11 ⟨v397, rfl, ho0, hb⟩; refine ⟨_, rfl, ?_⟩; have HO398 := Aside0.mk (Kd.R_lower ho0 (below_size bG)); replace BK394 := bW BK394 hb; replace HB := Aside0.mk (below_step bG hb); (try clear hb); (try clear ho0); obtain ⟨Ao12, co12, eo12⟩ := Kd.R_slice HO398.out; subst eo12) | ((with_reducible refine gate_callee (f := 73) rfl ?_); refine goesL_ (some 13) rfl rfl Tryz.func73 (by kernel_rfl) rfl #[.slice Ao12 t396.length co12, .slice A1 l1.length c1] rfl lM ?_; (with_reducible refine (spec_hiFitting.calls k _ _ t396 _ _ l1 t399 _ ?side1 ?side2 ?side3 ?side4 A6.out).mono ?_); (case side1 => exact cS ((Kd.R_reads' HO398.out).2.2)); (case side2 => exact (Kd.R_reads' HO398.out).2.1); (case side3 => exact cS (Kd.C_below HR1.out HB.out)); (case side4 => exact HC1.out); rintro e w13 ⟨v400, rfl, ho0, hb⟩; refine ⟨_, rfl, ?_⟩; have HO401 := Aside0.mk (Kd.R_lower (Kd.R_new' ho0 (Kd.R_lt (kR HO398))) (below_size bG)); replace HO398 := Aside0.mk (Kd.R_elder' (kR HO398) (Kd.R_base ho0) hb); replace BK394 := bW BK394 hb; replace HB := Aside0.mk (below_step bG hb); (try clear hb); (try clear ho0); obtain ⟨Ao14, co14, eo14⟩ := Kd.R_slice HO401.out; subst eo14))
  go_ret2
  exact ⟨rE, bG⟩
 ·replace c4 := Bool.eq_false_iff.mpr c4
  subst c4
  replace H := zf H
  simp only [Option.some.injEq, Prod.mk.injEq] at H
  obtain ⟨rfl, rfl⟩ := H
  go_enter Tryz.func38, Tryz.ntmps38
  go_wp2_with (first | ((with_reducible refine gate_dst (N := 2) rfl ?_); refine box_event ?hg (N := 2) ?hd (cs := #[.int .i64 a0_0, .int .i64 a0_1]) (t := 25) ?hr ?_; (case hd => rfl); (case hg => rfl); (case hr => first | (go_simp; done) | (go_simp; rfl)); intro gb394 hg w15 hbox hb; have BK394 := Aside0.mk (hbox); have GW394 : Aside0 (w.heap.size ≤ gb394) := gW hg; have GE394 := GW394; replace HB := Aside0.mk (below_step bB hb); clear hb hbox hg; have hcz16_0 := cZ BK394 0 (.int .i64 a0_0); have hcz16_1 := cZ BK394 1 (.int .i64 a0_1); have hfz16_0 := blk_frozen BK394.out 0; have hfz16_1 := blk_frozen BK394.out 1) | ((with_reducible refine gate_callee (f := 80) rfl ?_); refine goesL_ (some 8) rfl rfl Tryz.func80 (by kernel_rfl) rfl #[.agg #[.int .i64 a0_0, .int .i64 a0_1], .slice A1 l1.length c1] rfl lM ?_; (with_reducible refine (spec_hiAsked.calls k a0_0 a0_1 _ _ l1 false _ ?side1 ?side2 A3.out).mono ?_); (case side1 => exact cS (Kd.C_below HR1.out HB.out)); (case side2 => exact HC1.out); rintro e w17 ⟨rfl, hb⟩; refine ⟨_, rfl, ?_⟩; replace BK394 := bW BK394 hb; replace HB := Aside0.mk (below_step bG hb); (try clear hb)))
  go_ret2
  exact ⟨rE, bG⟩

end Go.Proofs.YtcpnmiempaofdaaGreat.G
