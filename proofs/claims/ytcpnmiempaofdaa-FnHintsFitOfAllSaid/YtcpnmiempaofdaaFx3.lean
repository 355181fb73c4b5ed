-- Printed by hp.py, a program of this session: a machine's side of laws, out of the translation; Lean checks it.
import Derived.Test.YtcpnmiempaofdaaFx0
import Derived.Test.YtcpnmiempaofdaaFx1
import Derived.Test.YtcpnmiempaofdaaFx2
namespace Go.Proofs.Ytcpnmiempaofdaa.F
open Go.RowKit Go.Proofs.YtcpnmiempaofdaaW.PrintWords Go.Proofs.YtcpnmiempaofdaaW.PrintLast Go.Proofs.YtcpnmiempaofdaaW.PrintMore
attribute [local go_sem] max2_int min2_int max_two min_two max_three min_three max_four min_four   -- for this text's walks alone
set_option maxHeartbeats 8000000
set_option maxRecDepth 100000
set_option linter.unusedVariables false
set_option linter.unusedSimpArgs false

/-! ### impl_Lock_fitting: function 50 -/
def impl_Lock_fitting.l0 : Nat → List (S31) → List ByteArray → Int → Int → Int → Int → Option (List ByteArray)
 | 0, _, _, _, _, _, _ => none
 | k + 1, x1, x5, x10, x11, x144000, x144001 => if x11 < x10 then ((impl_Lock_code.f k x144000 x144001 x11).bind fun t148 => ((impl_fits.f k x1 t148).bind fun t149 => (if t149 = true then (if x5.length < 8796093022208 then (impl_Lock_fitting.l0 k x1 (x5 ++ [t148]) x10 (wrap64 (x11 + 1)) x144000 x144001) else (none)) else (impl_Lock_fitting.l0 k x1 x5 x10 (wrap64 (x11 + 1)) x144000 x144001)))) else (some x5)
def impl_Lock_fitting.f (k : Nat) (a0_0 : Int) (a0_1 : Int) (l1 : List (S31)) : Option (List ByteArray) := (impl_Lock_count.f k a0_0 a0_1).bind fun t147 => (impl_Lock_fitting.l0 k l1 (([] : List ByteArray)) t147 0 a0_0 a0_1)
theorem impl_Lock_fitting.mono_l : ∀ k, (∀ y0 y1 y2 y3 y4 y5, LeO (impl_Lock_fitting.l0 k y0 y1 y2 y3 y4 y5) (impl_Lock_fitting.l0 (k + 1) y0 y1 y2 y3 y4 y5))
 | 0 => fun _ _ _ _ _ _ r h => by simp [impl_Lock_fitting.l0] at h
 | k + 1 => by
  have ih0 := impl_Lock_fitting.mono_l k
  ·intro y0 y1 y2 y3 y4 y5
   unfold impl_Lock_fitting.l0
   repeat' first
   | (with_reducible first | exact ih0 _ _ _ _ _ _ | exact impl_Lock_code.mono _ _ _ _ | exact impl_Lock_count.mono _ _ _ | exact impl_fits.mono _ _ _ | exact LeO.refl _ | exact LeO.none _ | refine LeO.ite ?_ ?_ | refine LeO.bind ?_ (fun _ => ?_))
   | exact ih0 _ _ _ _ _ _
   | exact impl_Lock_code.mono _ _ _ _
   | exact impl_Lock_count.mono _ _ _
   | exact impl_fits.mono _ _ _
   | exact LeO.none _
   | refine LeO.ite ?_ ?_
   | refine LeO.bind ?_ (fun _ => ?_)
theorem impl_Lock_fitting.mono : ∀ a0 a1 a2 k, LeO (impl_Lock_fitting.f k a0 a1 a2) (impl_Lock_fitting.f (k + 1) a0 a1 a2) := by
 intro a0 a1 a2 k
 have ih0 := impl_Lock_fitting.mono_l k
 unfold impl_Lock_fitting.f
 repeat' first
   | (with_reducible first | exact ih0 _ _ _ _ _ _ | exact impl_Lock_code.mono _ _ _ _ | exact impl_Lock_count.mono _ _ _ | exact impl_fits.mono _ _ _ | exact LeO.refl _ | exact LeO.none _ | refine LeO.ite ?_ ?_ | refine LeO.bind ?_ (fun _ => ?_))
   | exact ih0 _ _ _ _ _ _
   | exact impl_Lock_code.mono _ _ _ _
   | exact impl_Lock_count.mono _ _ _
   | exact impl_fits.mono _ _ _
   | exact LeO.none _
   | refine LeO.ite ?_ ?_
   | refine LeO.bind ?_ (fun _ => ?_)
theorem impl_Lock_fitting.calls (k : Nat) (a0_0 : Int) (a0_1 : Int) (A1 : Option Addr) (c1 : Nat) (l1 : List (S31)) (r : List ByteArray) (w : World) (hr1 : Kd.C k31 w A1 l1.length l1) (hc1 : l1.length ≤ c1) (h : impl_Lock_fitting.f k a0_0 a0_1 l1 = some r) :
  Calls Try.prog 50 #[.agg #[.int .i64 a0_0, .int .i64 a0_1], .slice A1 l1.length c1] w fun e w' => ∃ v0_ : Value, e = .returned (v0_) ∧ Kd.R Kd.string 9 w' w.heap.size (fun _ => True) v0_ r ∧ Below w.heap.size w w' := by
 have hu23 := Try.underlying23
 have HR1 := Aside0.mk hr1
 have HC1 := Aside0.mk hc1
 clear hr1 hc1
 have HB := Aside0.mk (Below.refl w.heap.size w)
 have H := h
 unfold impl_Lock_fitting.f at H
 clear h
 obtain ⟨y144, hy144⟩ : ∃ y_ : List ByteArray, y_ = (([] : List ByteArray)) := ⟨_, rfl⟩
 replace H : ((impl_Lock_count.f k a0_0 a0_1).bind fun t147 => (impl_Lock_fitting.l0 k l1 y144 t147 0 a0_0 a0_1)) = some r := hZ hy144 H
 have Ny144 := Aside0.mk hy144
 clear hy144
 replace H := Option.bind_eq_some_iff.mp H
 obtain ⟨t147, A30, H⟩ := H
 (try dsimp only at H)
 have A3 := Aside0.mk A30
 clear A30
 have H' := Aside0.mk H
 clear H
 go_enter Try.func50, Try.ntmps50
 go_wp2_with (first | ((with_reducible refine gate_dst (N := 2) rfl ?_); refine box_event ?hg (N := 2) ?hd (cs := #[.int .i64 a0_0, .int .i64 a0_1]) (t := 23) ?hr ?_; (case hd => rfl); (case hg => rfl); (case hr => first | (go_simp; done) | (go_simp; rfl)); intro gb143 hg w4 hbox hb; have BK143 := Aside0.mk (hbox); have GW143 : Aside0 (w.heap.size ≤ gb143) := gW hg; have GE143 := GW143; replace HB := Aside0.mk (below_step bB hb); clear hb hbox hg) | ((with_reducible refine gate_dst (N := 8) rfl ?_); refine Kd.R_lit Kd.string _ 9 ?hg (N := 8) ?hd (xs := ([] : List ByteArray)) (inner := []) (ok := fun _ => True) (okp := fun _ => True) ?hr ?hp (fun _ hk => hk) trivial (Below.refl _ _) (Nat.le_refl _) (by simp) ?_; (case hd => rfl); (case hg => rfl); (case hr => first | (go_simp; done) | (go_simp; rfl)); (case hp => exact (Reps.none _ _)); intro v145 w5 ho6 hb hg_ hnew_; clear hg_ hnew_; (first | rw [← Ny144.out] at ho6 | (simp only [Int.reduceToNat] at ho6; rw [← Ny144.out] at ho6)); have HO146 := Aside0.mk (Kd.R_lower ho6 (below_size bG)); replace BK143 := bW BK143 hb; replace HB := Aside0.mk (below_step bG hb); clear hb ho6; have hcz7_0 := cZ BK143 0 (.int .i64 a0_0); have hcz7_1 := cZ BK143 1 (.int .i64 a0_1); have hfz7_0 := blk_frozen BK143.out 0; have hfz7_1 := blk_frozen BK143.out 1) | ((with_reducible refine gate_callee (f := 73) rfl ?_); refine goesL_ (some 10) rfl rfl Try.func73 (by kernel_rfl) rfl #[.agg #[.int .i64 a0_0, .int .i64 a0_1]] rfl lM ?_; (with_reducible refine (impl_Lock_count.calls k a0_0 a0_1 t147 _ A3.out).mono ?_); rintro e w8 ⟨rfl, hb⟩; refine ⟨_, rfl, ?_⟩; replace HO146 := Aside0.mk (Kd.R_below (kR HO146) hb); replace BK143 := bW BK143 hb; replace HB := Aside0.mk (below_step bG hb); (try clear hb)))
 go_loopg [5, 11] k (fun kq v5 v11 w' => ∃ (x5_1 : List ByteArray) (x11_1 : Int), v11 = .int .i64 x11_1 ∧ Aside0 (impl_Lock_fitting.l0 kq l1 x5_1 t147 x11_1 a0_0 a0_1 = some r) ∧ Aside0 (kq ≤ k) ∧ Aside0 (Kd.R Kd.string 9 w' w.heap.size (fun _ => True) v5 x5_1) ∧ Aside0 (w'.heap[gb143]? = some (.cells #[.int .i64 a0_0, .int .i64 a0_1] 23 (0, 0))) ∧ Aside0 (Below w.heap.size w w'))
 case atStart => exact ⟨(y144), (0), fR, H', ⟨Nat.le_refl _⟩, ⟨kR HO146⟩, ⟨bK⟩, ⟨bG⟩⟩
 case round =>
  clear H'
  try clear c1
  try clear p2
  try clear c5
  try clear c7
  try clear hcz7_0
  try clear hcz7_1
  try clear hfz7_0
  try clear hfz7_1
  obtain ⟨x5_1, x11_1, rfl, HA, HK1, HO_5, BK143, HB⟩ := hrel
  cases gk with
  | zero => exact absurd HA.out (by simp [impl_Lock_fitting.l0])
  | succ k1 =>
   have H := HA.out
   clear HA
   simp only [impl_Lock_fitting.l0] at H
   by_cases c9 : x11_1 < t147
   ·rw [if_pos c9] at H
    have c9b0 : decide (x11_1 < t147) = true := decide_eq_true c9
    clear c9
    replace H := Option.bind_eq_some_iff.mp H
    obtain ⟨t148, A100, H⟩ := H
    (try dsimp only at H)
    have A10 := Aside0.mk A100
    clear A100
    replace H := Option.bind_eq_some_iff.mp H
    obtain ⟨t149, A110, H⟩ := H
    (try dsimp only at H)
    have A11 := Aside0.mk A110
    clear A110
    by_cases c12 : t149 = true
    ·subst c12
     replace H := zt H
     replace H := nz H; obtain ⟨c13, H⟩ := H
     have LMc13 := Aside0.mk c13
     clear c13
     obtain ⟨y150, hy150⟩ : ∃ y_ : List ByteArray, y_ = (x5_1 ++ [t148]) := ⟨_, rfl⟩
     replace H : (impl_Lock_fitting.l0 k1 l1 y150 t147 (wrap64 (x11_1 + 1)) a0_0 a0_1) = some r := hZ hy150 H
     have Ny150 := Aside0.mk hy150
     clear hy150
     have H' := Aside0.mk H
     clear H
     have hcz14_0 := cZ BK143 0 (.int .i64 a0_0)
     have hcz14_1 := cZ BK143 1 (.int .i64 a0_1)
     have hfz14_0 := blk_frozen BK143.out 0
     have hfz14_1 := blk_frozen BK143.out 1
     go_wp2_with (first | ((with_reducible refine gate_callee (f := 61) rfl ?_); refine goesL_ (some 16) rfl rfl Try.func61 (by kernel_rfl) rfl #[.agg #[.int .i64 a0_0, .int .i64 a0_1], .int .i64 x11_1] rfl lM ?_; (with_reducible refine (impl_Lock_code.calls k1 a0_0 a0_1 x11_1 t148 _ A10.out).mono ?_); rintro e w15 ⟨rfl, hb⟩; refine ⟨_, rfl, ?_⟩; replace HO_5 := Aside0.mk (Kd.R_below (kR HO_5) hb); replace BK143 := bW BK143 hb; replace HB := Aside0.mk (below_step bG hb); (try clear hb)) | ((with_reducible refine gate_callee (f := 68) rfl ?_); refine goesL_ (some 19) rfl rfl Try.func68 (by kernel_rfl) rfl #[.slice A1 l1.length c1, .string t148] rfl lM ?_; (with_reducible refine (impl_fits.calls k1 _ _ l1 t148 true _ ?side1 ?side2 A11.out).mono ?_); (case side1 => exact cS (Kd.C_below HR1.out HB.out)); (case side2 => exact HC1.out); rintro e w16 ⟨rfl, hb⟩; refine ⟨_, rfl, ?_⟩; replace HO_5 := Aside0.mk (Kd.R_below (kR HO_5) hb); replace BK143 := bW BK143 hb; replace HB := Aside0.mk (below_step bG hb); (try clear hb)) | ((with_reducible refine gate_builtin (b := .append) (xs := #[.tmp 20, .tmp 22]) rfl ?_); at_builtin; refine Kd.R_append Kd.string (w0 := w) w.heap.size rfl (.tmp 20) (.tmp 22) 34 9 (.string ⟨#[]⟩) 16 rfl Try.underlying34 info9 rfl (by decide) (by omega) u5 x5_1 t148 [.string t148] (fun _ => True) (fun _ => False) rfl rfl ?aP (fun _ hk => hk.elim) ?aF ?aO ?aB ?aS ?aL ?_; (case aP => exact rfl); (case aB => exact bG); (case aF => exact (fun _ _ => trivial)); (case aO => exact (kR HO_5)); (case aS => exact (below_size bG)); (case aL => have := LMc13.out; omega); intro v151 w17 ho hb hg hat; rw [← Ny150.out] at ho; have n0_ := Aside0.mk (blk_grown (g := gb143) (o := .cells #[.int .i64 a0_0, .int .i64 a0_1] 23 (0, 0)) bK hg (Kd.R_ne HO_5.out BK143.out (by decide))); have n1_ := Aside0.mk (hb); have n2_ := Aside0.mk (ho); clear BK143; clear HB; clear HO_5; have BK143 := n0_; have HB := n1_; have HO152 := n2_; clear n0_ n1_ n2_; clear ho hb hg hat))
     go_roundg k1
     case measure => have := HK1.out; omega
     case rel => exact ⟨(y150), (wrap64 (x11_1 + 1)), fR, H', ⟨by have := HK1.out; omega⟩, ⟨kR HO152⟩, ⟨bK⟩, ⟨bG⟩⟩
    ·replace c12 := Bool.eq_false_iff.mpr c12
     subst c12
     replace H := zf H
     have H' := Aside0.mk H
     clear H
     have hcz18_0 := cZ BK143 0 (.int .i64 a0_0)
     have hcz18_1 := cZ BK143 1 (.int .i64 a0_1)
     have hfz18_0 := blk_frozen BK143.out 0
     have hfz18_1 := blk_frozen BK143.out 1
     go_wp2_with (first | ((with_reducible refine gate_callee (f := 61) rfl ?_); refine goesL_ (some 16) rfl rfl Try.func61 (by kernel_rfl) rfl #[.agg #[.int .i64 a0_0, .int .i64 a0_1], .int .i64 x11_1] rfl lM ?_; (with_reducible refine (impl_Lock_code.calls k1 a0_0 a0_1 x11_1 t148 _ A10.out).mono ?_); rintro e w19 ⟨rfl, hb⟩; refine ⟨_, rfl, ?_⟩; replace HO_5 := Aside0.mk (Kd.R_below (kR HO_5) hb); replace BK143 := bW BK143 hb; replace HB := Aside0.mk (below_step bG hb); (try clear hb)) | ((with_reducible refine gate_callee (f := 68) rfl ?_); refine goesL_ (some 19) rfl rfl Try.func68 (by kernel_rfl) rfl #[.slice A1 l1.length c1, .string t148] rfl lM ?_; (with_reducible refine (impl_fits.calls k1 _ _ l1 t148 false _ ?side1 ?side2 A11.out).mono ?_); (case side1 => exact cS (Kd.C_below HR1.out HB.out)); (case side2 => exact HC1.out); rintro e w20 ⟨rfl, hb⟩; refine ⟨_, rfl, ?_⟩; replace HO_5 := Aside0.mk (Kd.R_below (kR HO_5) hb); replace BK143 := bW BK143 hb; replace HB := Aside0.mk (below_step bG hb); (try clear hb)))
     go_roundg k1
     case measure => have := HK1.out; omega
     case rel => exact ⟨(x5_1), (wrap64 (x11_1 + 1)), fR, H', ⟨by have := HK1.out; omega⟩, ⟨kR HO_5⟩, ⟨bK⟩, ⟨bG⟩⟩
   ·rw [if_neg c9] at H
    have c9b0 : decide (x11_1 < t147) = false := decide_eq_false c9
    clear c9
    obtain rfl := Option.some.inj H
    go_wp2
    go_ret
    exact ⟨_, rE, kR HO_5, bG⟩

/-! ### impl_FittingCodes: function 11 -/
def impl_FittingCodes.f (k : Nat) (a0_0 : Int) (a0_1 : Int) (l1 : List (S31)) : Option (List ByteArray × Bool) := (impl_areHints.f k a0_0 a0_1 l1).bind fun t154 => (if t154 = true then ((impl_Lock_fitting.f k a0_0 a0_1 l1).bind fun t155 => (some (t155, true))) else (some (([] : List ByteArray), false)))
theorem impl_FittingCodes.mono : ∀ a0 a1 a2 k, LeO (impl_FittingCodes.f k a0 a1 a2) (impl_FittingCodes.f (k + 1) a0 a1 a2) := by
 intro a0 a1 a2 k
 unfold impl_FittingCodes.f
 repeat' first
   | (with_reducible first | exact impl_Lock_fitting.mono _ _ _ _ | exact impl_areHints.mono _ _ _ _ | exact LeO.refl _ | exact LeO.none _ | refine LeO.ite ?_ ?_ | refine LeO.bind ?_ (fun _ => ?_))
   | exact impl_Lock_fitting.mono _ _ _ _
   | exact impl_areHints.mono _ _ _ _
   | exact LeO.none _
   | refine LeO.ite ?_ ?_
   | refine LeO.bind ?_ (fun _ => ?_)
theorem impl_FittingCodes.calls (k : Nat) (a0_0 : Int) (a0_1 : Int) (A1 : Option Addr) (c1 : Nat) (l1 : List (S31)) (r1 : List ByteArray) (r2 : Bool) (w : World) (hr1 : Kd.C k31 w A1 l1.length l1) (hc1 : l1.length ≤ c1) (h : impl_FittingCodes.f k a0_0 a0_1 l1 = some (r1, r2)) :
  Calls Try.prog 11 #[.agg #[.int .i64 a0_0, .int .i64 a0_1], .slice A1 l1.length c1] w fun e w' => ∃ v0_ : Value, e = .returned (.tuple #[v0_, .bool r2]) ∧ Kd.R Kd.string 9 w' w.heap.size (fun _ => True) v0_ r1 ∧ Below w.heap.size w w' := by
 have hu23 := Try.underlying23
 have HR1 := Aside0.mk hr1
 have HC1 := Aside0.mk hc1
 clear hr1 hc1
 have HB := Aside0.mk (Below.refl w.heap.size w)
 have H := h
 unfold impl_FittingCodes.f at H
 clear h
 replace H := Option.bind_eq_some_iff.mp H
 obtain ⟨t154, A30, H⟩ := H
 (try dsimp only at H)
 have A3 := Aside0.mk A30
 clear A30
 by_cases c4 : t154 = true
 ·subst c4
  replace H := zt H
  replace H := Option.bind_eq_some_iff.mp H
  obtain ⟨t155, A50, H⟩ := H
  (try dsimp only at H)
  have A5 := Aside0.mk A50
  clear A50
  simp only [Option.some.injEq, Prod.mk.injEq] at H
  obtain ⟨rfl, rfl⟩ := H
  go_enter Try.func11, Try.ntmps11
  go_wp2_with (first | ((with_reducible refine gate_dst (N := 2) rfl ?_); refine box_event ?hg (N := 2) ?hd (cs := #[.int .i64 a0_0, .int .i64 a0_1]) (t := 23) ?hr ?_; (case hd => rfl); (case hg => rfl); (case hr => first | (go_simp; done) | (go_simp; rfl)); intro gb153 hg w6 hbox hb; have BK153 := Aside0.mk (hbox); have GW153 : Aside0 (w.heap.size ≤ gb153) := gW hg; have GE153 := GW153; replace HB := Aside0.mk (below_step bB hb); clear hb hbox hg; have hcz7_0 := cZ BK153 0 (.int .i64 a0_0); have hcz7_1 := cZ BK153 1 (.int .i64 a0_1); have hfz7_0 := blk_frozen BK153.out 0; have hfz7_1 := blk_frozen BK153.out 1) | ((with_reducible refine gate_callee (f := 49) rfl ?_); refine goesL_ (some 8) rfl rfl Try.func49 (by kernel_rfl) rfl #[.agg #[.int .i64 a0_0, .int .i64 a0_1], .slice A1 l1.length c1] rfl lM ?_; (with_reducible refine (impl_areHints.calls k a0_0 a0_1 _ _ l1 true _ ?side1 ?side2 A3.out).mono ?_); (case side1 => exact cS (Kd.C_below HR1.out HB.out)); (case side2 => exact HC1.out); rintro e w8 ⟨rfl, hb⟩; refine ⟨_, rfl, ?_⟩; replace BK153 := bW BK153 hb; replace HB := Aside0.mk (below_step bG hb); (try clear hb); have hcz9_0 := cZ BK153 0 (.int .i64 a0_0); have hcz9_1 := cZ BK153 1 (.int .i64 a0_1); have hfz9_0 := blk_frozen BK153.out 0; have hfz9_1 := blk_frozen BK153.out 1) | ((with_reducible refine gate_callee (f := 50) rfl ?_); refine goesL_ (some 12) rfl rfl Try.func50 (by kernel_rfl) rfl #[.agg #[.int .i64 a0_0, .int .i64 a0_1], .slice A1 l1.length c1] rfl lM ?_; (with_reducible refine (impl_Lock_fitting.calls k a0_0 a0_1 _ _ l1 t155 _ ?side1 ?side2 A5.out).mono ?_); (case side1 => exact cS (Kd.C_below HR1.out HB.out)); (case side2 => exact HC1.out); rintro e w10 ⟨v156, rfl, ho0, hb⟩; refine ⟨_, rfl, ?_⟩; have HO157 := Aside0.mk (Kd.R_lower ho0 (below_size bG)); replace BK153 := bW BK153 hb; replace HB := Aside0.mk (below_step bG hb); (try clear hb); (try clear ho0)))
  go_ret2
  exact ⟨_, rE, kR HO157, bG⟩
 ·replace c4 := Bool.eq_false_iff.mpr c4
  subst c4
  replace H := zf H
  simp only [Option.some.injEq, Prod.mk.injEq] at H
  obtain ⟨rfl, rfl⟩ := H
  go_enter Try.func11, Try.ntmps11
  go_wp2_with (first | ((with_reducible refine gate_dst (N := 2) rfl ?_); refine box_event ?hg (N := 2) ?hd (cs := #[.int .i64 a0_0, .int .i64 a0_1]) (t := 23) ?hr ?_; (case hd => rfl); (case hg => rfl); (case hr => first | (go_simp; done) | (go_simp; rfl)); intro gb153 hg w11 hbox hb; have BK153 := Aside0.mk (hbox); have GW153 : Aside0 (w.heap.size ≤ gb153) := gW hg; have GE153 := GW153; replace HB := Aside0.mk (below_step bB hb); clear hb hbox hg; have hcz12_0 := cZ BK153 0 (.int .i64 a0_0); have hcz12_1 := cZ BK153 1 (.int .i64 a0_1); have hfz12_0 := blk_frozen BK153.out 0; have hfz12_1 := blk_frozen BK153.out 1) | ((with_reducible refine gate_callee (f := 49) rfl ?_); refine goesL_ (some 8) rfl rfl Try.func49 (by kernel_rfl) rfl #[.agg #[.int .i64 a0_0, .int .i64 a0_1], .slice A1 l1.length c1] rfl lM ?_; (with_reducible refine (impl_areHints.calls k a0_0 a0_1 _ _ l1 false _ ?side1 ?side2 A3.out).mono ?_); (case side1 => exact cS (Kd.C_below HR1.out HB.out)); (case side2 => exact HC1.out); rintro e w13 ⟨rfl, hb⟩; refine ⟨_, rfl, ?_⟩; replace BK153 := bW BK153 hb; replace HB := Aside0.mk (below_step bG hb); (try clear hb)))
  go_ret2
  exact ⟨_, rE, by first | exact Kd.R_nil _ _ _ _ _ | exact Kd.N_nil _ _ _ _ _ | exact Kd.V_nil _ _ _ _ _ | exact Kd.Q_nil _ _ _ _ _ | exact Kd.S_nil _ _ _ _ _, bG⟩

/-! ### laws_eTexts: function 20 -/
def laws_eTexts.l0 : Nat → List ByteArray → List ByteArray → Int → Int → Option (Bool)
 | 0, _, _, _, _ => none
 | k + 1, x0, x1, x12, x13 => if x13 < x12 then (if 0 ≤ x13 then (if x13 < (x0.length : Int) then (if x13 < (x1.length : Int) then (if (rdOf ByteArray.empty x0 x13).toList = (rdOf ByteArray.empty x1 x13).toList then (laws_eTexts.l0 k x0 x1 x12 (wrap64 (x13 + 1))) else (some false)) else (none)) else (none)) else (none)) else (some true)
def laws_eTexts.f (k : Nat) (l0 : List ByteArray) (l1 : List ByteArray) : Option (Bool) := if (l0.length : Int) = (l1.length : Int) then (laws_eTexts.l0 k l0 l1 (l0.length : Int) 0) else (some false)
theorem laws_eTexts.mono_l : ∀ k, (∀ y0 y1 y2 y3, LeO (laws_eTexts.l0 k y0 y1 y2 y3) (laws_eTexts.l0 (k + 1) y0 y1 y2 y3))
 | 0 => fun _ _ _ _ r h => by simp [laws_eTexts.l0] at h
 | k + 1 => by
  have ih0 := laws_eTexts.mono_l k
  ·intro y0 y1 y2 y3
   unfold laws_eTexts.l0
   repeat' first
   | (with_reducible first | exact ih0 _ _ _ _ | exact LeO.refl _ | exact LeO.none _ | refine LeO.ite ?_ ?_ | refine LeO.bind ?_ (fun _ => ?_))
   | exact ih0 _ _ _ _
   | exact LeO.none _
   | refine LeO.ite ?_ ?_
   | refine LeO.bind ?_ (fun _ => ?_)
theorem laws_eTexts.mono : ∀ a0 a1 k, LeO (laws_eTexts.f k a0 a1) (laws_eTexts.f (k + 1) a0 a1) := by
 intro a0 a1 k
 have ih0 := laws_eTexts.mono_l k
 unfold laws_eTexts.f
 repeat' first
   | (with_reducible first | exact ih0 _ _ _ _ | exact LeO.refl _ | exact LeO.none _ | refine LeO.ite ?_ ?_ | refine LeO.bind ?_ (fun _ => ?_))
   | exact ih0 _ _ _ _
   | exact LeO.none _
   | refine LeO.ite ?_ ?_
   | refine LeO.bind ?_ (fun _ => ?_)
theorem laws_eTexts.calls (k : Nat) (A0 : Option Addr) (c0 : Nat) (l0 : List ByteArray) (A1 : Option Addr) (c1 : Nat) (l1 : List ByteArray) (r : Bool) (w : World) (hr0 : Kd.C Kd.string w A0 l0.length l0) (hc0 : l0.length ≤ c0) (hr1 : Kd.C Kd.string w A1 l1.length l1) (hc1 : l1.length ≤ c1) (h : laws_eTexts.f k l0 l1 = some r) :
  Calls Try.prog 20 #[.slice A0 l0.length c0, .slice A1 l1.length c1] w fun e w' => e = .returned (.bool r) ∧ Drawn0 w w' := by
 have HR0 := Aside0.mk hr0
 have HC0 := Aside0.mk hc0
 clear hr0 hc0
 have HR1 := Aside0.mk hr1
 have HC1 := Aside0.mk hc1
 clear hr1 hc1
 have H := h
 unfold laws_eTexts.f at H
 clear h
 by_cases c3 : (l0.length : Int) = (l1.length : Int)
 ·rw [if_pos c3] at H
  have c3b0 : ((l0.length : Int) == (l1.length : Int)) = true := beq_iff_eq.mpr c3
  have c3b1 : ((l0.length : Int) != (l1.length : Int)) = false := bne_eq_false_iff_eq.mpr c3
  have c3b2 : (l0.length == l1.length) = true := by first | simpa using c3 | (simp at c3 ⊢; omega)
  clear c3
  have H' := Aside0.mk H
  clear H
  go_enter Try.func20, Try.ntmps20
  go_wp2
  repeat (go_quiet (fail); try go_wp2)
  go_loopg [13] k (fun kq v13 w' => ∃ (x13_1 : Int), v13 = .int .i64 x13_1 ∧ Aside0 (laws_eTexts.l0 kq l0 l1 (l0.length : Int) x13_1 = some r) ∧ Aside0 (kq ≤ k) ∧ Drawn0 w w')
  case atStart => exact ⟨(0), fR, H', ⟨Nat.le_refl _⟩, by repeat (first | exact Drawn0.refl _ | apply Drawn0.step)⟩
  case round =>
   clear H'
   try clear c1
   try clear c2
   try clear p2
   try clear c3
   try clear c3b0
   try clear c3b1
   try clear c3b2
   obtain ⟨x13_1, rfl, HA, HK1, ⟨m1, rfl⟩⟩ := hrel
   cases gk with
   | zero => exact absurd HA.out (by simp [laws_eTexts.l0])
   | succ k1 =>
    have H := HA.out
    clear HA
    simp only [laws_eTexts.l0] at H
    by_cases c4 : x13_1 < (l0.length : Int)
    ·rw [if_pos c4] at H
     have c4b0 : decide (x13_1 < (l0.length : Int)) = true := decide_eq_true c4
     clear c4
     replace H := nz H; obtain ⟨c5, H⟩ := H
     have c5b0 : decide (0 ≤ x13_1) = true := decide_eq_true c5
     clear c5
     replace H := nz H; obtain ⟨c6, H⟩ := H
     have c6b0 : decide (x13_1 < (l0.length : Int)) = true := decide_eq_true c6
     clear c6
     replace H := nz H; obtain ⟨c7, H⟩ := H
     have c7b0 : decide (x13_1 < (l1.length : Int)) = true := decide_eq_true c7
     clear c7
     by_cases c8 : (rdOf ByteArray.empty l0 x13_1).toList = (rdOf ByteArray.empty l1 x13_1).toList
     ·rw [if_pos c8] at H
      have c8b0 : ((rdOf ByteArray.empty l0 x13_1).toList == (rdOf ByteArray.empty l1 x13_1).toList) = true := beq_iff_eq.mpr c8
      have c8b1 : ((rdOf ByteArray.empty l0 x13_1).toList != (rdOf ByteArray.empty l1 x13_1).toList) = false := bne_eq_false_iff_eq.mpr c8
      clear c8
      have H' := Aside0.mk H
      clear H
      have p158 : 0 ≤ (x13_1 : Int) := oD
      have q158 : x13_1 < (l0.length : Int) := oD
      obtain ⟨ad158, e158, hx158_0⟩ := Kd.at_string HR0.out x13_1 p158 q158
      cases e158
      replace p158 := eq_true p158
      replace q158 := eq_true q158
      have p159 : 0 ≤ (x13_1 : Int) := oD
      have q159 : x13_1 < (l1.length : Int) := oD
      obtain ⟨ad159, e159, hx159_0⟩ := Kd.at_string HR1.out x13_1 p159 q159
      cases e159
      replace p159 := eq_true p159
      replace q159 := eq_true q159
      go_wp2
      repeat (go_quiet (fail); try go_wp2)
      go_roundg k1
      case measure => have := HK1.out; omega
      case rel => exact ⟨(wrap64 (x13_1 + 1)), fR, H', ⟨by have := HK1.out; omega⟩, by repeat (first | exact Drawn0.refl _ | apply Drawn0.step)⟩
     ·rw [if_neg c8] at H
      have c8b0 : ((rdOf ByteArray.empty l0 x13_1).toList == (rdOf ByteArray.empty l1 x13_1).toList) = false := beq_eq_false_iff_ne.mpr c8
      have c8b1 : ((rdOf ByteArray.empty l0 x13_1).toList != (rdOf ByteArray.empty l1 x13_1).toList) = true := bne_iff_ne.mpr c8
      obtain rfl := Option.some.inj H
      have p158 : 0 ≤ (x13_1 : Int) := oD
      have q158 : x13_1 < (l0.length : Int) := oD
      obtain ⟨ad158, e158, hx158_0⟩ := Kd.at_string HR0.out x13_1 p158 q158
      cases e158
      replace p158 := eq_true p158
      replace q158 := eq_true q158
      have p159 : 0 ≤ (x13_1 : Int) := oD
      have q159 : x13_1 < (l1.length : Int) := oD
      obtain ⟨ad159, e159, hx159_0⟩ := Kd.at_string HR1.out x13_1 p159 q159
      cases e159
      replace p159 := eq_true p159
      replace q159 := eq_true q159
      go_wp2
      repeat (go_quiet (fail); try go_wp2)
      go_ret
      exact ⟨fR, by repeat (first | exact Drawn0.refl _ | apply Drawn0.step)⟩
    ·rw [if_neg c4] at H
     have c4b0 : decide (x13_1 < (l0.length : Int)) = false := decide_eq_false c4
     clear c4
     obtain rfl := Option.some.inj H
     go_wp2
     repeat (go_quiet (fail); try go_wp2)
     go_ret
     exact ⟨fR, by repeat (first | exact Drawn0.refl _ | apply Drawn0.step)⟩
 ·rw [if_neg c3] at H
  have c3b0 : ((l0.length : Int) == (l1.length : Int)) = false := beq_eq_false_iff_ne.mpr c3
  have c3b1 : ((l0.length : Int) != (l1.length : Int)) = true := bne_iff_ne.mpr c3
  have c3b2 : (l0.length == l1.length) = false := by first | simpa using c3 | (simp at c3 ⊢; omega)
  obtain rfl := Option.some.inj H
  go_enter Try.func20, Try.ntmps20
  go_wp2
  repeat (go_quiet (fail); try go_wp2)
  go_ret
  exact ⟨fR, by repeat (first | exact Drawn0.refl _ | apply Drawn0.step)⟩

/-! ### laws_eSame: function 40 -/
def laws_eSame.l0 : Nat → List Int → List Int → Int → Int → Option (Bool)
 | 0, _, _, _, _ => none
 | k + 1, x0, x1, x12, x13 => if x13 < x12 then (if 0 ≤ x13 then (if x13 < (x0.length : Int) then (if x13 < (x1.length : Int) then (if (rd x0 x13) = (rd x1 x13) then (laws_eSame.l0 k x0 x1 x12 (wrap64 (x13 + 1))) else (some false)) else (none)) else (none)) else (none)) else (some true)
def laws_eSame.f (k : Nat) (l0 : List Int) (l1 : List Int) : Option (Bool) := if (l0.length : Int) = (l1.length : Int) then (laws_eSame.l0 k l0 l1 (l0.length : Int) 0) else (some false)
theorem laws_eSame.mono_l : ∀ k, (∀ y0 y1 y2 y3, LeO (laws_eSame.l0 k y0 y1 y2 y3) (laws_eSame.l0 (k + 1) y0 y1 y2 y3))
 | 0 => fun _ _ _ _ r h => by simp [laws_eSame.l0] at h
 | k + 1 => by
  have ih0 := laws_eSame.mono_l k
  ·intro y0 y1 y2 y3
   unfold laws_eSame.l0
   repeat' first
   | (with_reducible first | exact ih0 _ _ _ _ | exact LeO.refl _ | exact LeO.none _ | refine LeO.ite ?_ ?_ | refine LeO.bind ?_ (fun _ => ?_))
   | exact ih0 _ _ _ _
   | exact LeO.none _
   | refine LeO.ite ?_ ?_
   | refine LeO.bind ?_ (fun _ => ?_)
theorem laws_eSame.mono : ∀ a0 a1 k, LeO (laws_eSame.f k a0 a1) (laws_eSame.f (k + 1) a0 a1) := by
 intro a0 a1 k
 have ih0 := laws_eSame.mono_l k
 unfold laws_eSame.f
 repeat' first
   | (with_reducible first | exact ih0 _ _ _ _ | exact LeO.refl _ | exact LeO.none _ | refine LeO.ite ?_ ?_ | refine LeO.bind ?_ (fun _ => ?_))
   | exact ih0 _ _ _ _
   | exact LeO.none _
   | refine LeO.ite ?_ ?_
   | refine LeO.bind ?_ (fun _ => ?_)
theorem laws_eSame.calls (k : Nat) (A0 : Option Addr) (c0 : Nat) (l0 : List Int) (A1 : Option Addr) (c1 : Nat) (l1 : List Int) (r : Bool) (w : World) (hr0 : Kd.C (Kd.int .i64) w A0 l0.length l0) (hc0 : l0.length ≤ c0) (hr1 : Kd.C (Kd.int .i64) w A1 l1.length l1) (hc1 : l1.length ≤ c1) (h : laws_eSame.f k l0 l1 = some r) :
  Calls Try.prog 40 #[.slice A0 l0.length c0, .slice A1 l1.length c1] w fun e w' => e = .returned (.bool r) ∧ Drawn0 w w' := by
 have HR0 := Aside0.mk hr0
 have HC0 := Aside0.mk hc0
 clear hr0 hc0
 have HR1 := Aside0.mk hr1
 have HC1 := Aside0.mk hc1
 clear hr1 hc1
 have H := h
 unfold laws_eSame.f at H
 clear h
 by_cases c3 : (l0.length : Int) = (l1.length : Int)
 ·rw [if_pos c3] at H
  have c3b0 : ((l0.length : Int) == (l1.length : Int)) = true := beq_iff_eq.mpr c3
  have c3b1 : ((l0.length : Int) != (l1.length : Int)) = false := bne_eq_false_iff_eq.mpr c3
  have c3b2 : (l0.length == l1.length) = true := by first | simpa using c3 | (simp at c3 ⊢; omega)
  clear c3
  have H' := Aside0.mk H
  clear H
  go_enter Try.func40, Try.ntmps40
  go_wp2
  repeat (go_quiet (fail); try go_wp2)
  go_loopg [13] k (fun kq v13 w' => ∃ (x13_1 : Int), v13 = .int .i64 x13_1 ∧ Aside0 (laws_eSame.l0 kq l0 l1 (l0.length : Int) x13_1 = some r) ∧ Aside0 (kq ≤ k) ∧ Drawn0 w w')
  case atStart => exact ⟨(0), fR, H', ⟨Nat.le_refl _⟩, by repeat (first | exact Drawn0.refl _ | apply Drawn0.step)⟩
  case round =>
   clear H'
   try clear c1
   try clear p2
   try clear c3
   try clear c3b0
   try clear c3b1
   try clear c3b2
   obtain ⟨x13_1, rfl, HA, HK1, ⟨m1, rfl⟩⟩ := hrel
   cases gk with
   | zero => exact absurd HA.out (by simp [laws_eSame.l0])
   | succ k1 =>
    have H := HA.out
    clear HA
    simp only [laws_eSame.l0] at H
    by_cases c4 : x13_1 < (l0.length : Int)
    ·rw [if_pos c4] at H
     have c4b0 : decide (x13_1 < (l0.length : Int)) = true := decide_eq_true c4
     clear c4
     replace H := nz H; obtain ⟨c5, H⟩ := H
     have c5b0 : decide (0 ≤ x13_1) = true := decide_eq_true c5
     clear c5
     replace H := nz H; obtain ⟨c6, H⟩ := H
     have c6b0 : decide (x13_1 < (l0.length : Int)) = true := decide_eq_true c6
     clear c6
     replace H := nz H; obtain ⟨c7, H⟩ := H
     have c7b0 : decide (x13_1 < (l1.length : Int)) = true := decide_eq_true c7
     clear c7
     by_cases c8 : (rd l0 x13_1) = (rd l1 x13_1)
     ·rw [if_pos c8] at H
      have c8b0 : ((rd l0 x13_1) == (rd l1 x13_1)) = true := beq_iff_eq.mpr c8
      have c8b1 : ((rd l0 x13_1) != (rd l1 x13_1)) = false := bne_eq_false_iff_eq.mpr c8
      clear c8
      have H' := Aside0.mk H
      clear H
      have p160 : 0 ≤ (x13_1 : Int) := oD
      have q160 : x13_1 < (l0.length : Int) := oD
      obtain ⟨ad160, e160, hx160_0⟩ := Kd.at_int HR0.out x13_1 p160 q160
      cases e160
      replace p160 := eq_true p160
      replace q160 := eq_true q160
      have p161 : 0 ≤ (x13_1 : Int) := oD
      have q161 : x13_1 < (l1.length : Int) := oD
      obtain ⟨ad161, e161, hx161_0⟩ := Kd.at_int HR1.out x13_1 p161 q161
      cases e161
      replace p161 := eq_true p161
      replace q161 := eq_true q161
      go_wp2
      repeat (go_quiet (fail); try go_wp2)
      go_roundg k1
      case measure => have := HK1.out; omega
      case rel => exact ⟨(wrap64 (x13_1 + 1)), fR, H', ⟨by have := HK1.out; omega⟩, by repeat (first | exact Drawn0.refl _ | apply Drawn0.step)⟩
     ·rw [if_neg c8] at H
      have c8b0 : ((rd l0 x13_1) == (rd l1 x13_1)) = false := beq_eq_false_iff_ne.mpr c8
      have c8b1 : ((rd l0 x13_1) != (rd l1 x13_1)) = true := bne_iff_ne.mpr c8
      obtain rfl := Option.some.inj H
      have p160 : 0 ≤ (x13_1 : Int) := oD
      have q160 : x13_1 < (l0.length : Int) := oD
      obtain ⟨ad160, e160, hx160_0⟩ := Kd.at_int HR0.out x13_1 p160 q160
      cases e160
      replace p160 := eq_true p160
      replace q160 := eq_true q160
      have p161 : 0 ≤ (x13_1 : Int) := oD
      have q161 : x13_1 < (l1.length : Int) := oD
      obtain ⟨ad161, e161, hx161_0⟩ := Kd.at_int HR1.out x13_1 p161 q161
      cases e161
      replace p161 := eq_true p161
      replace q161 := eq_true q161
      go_wp2
      repeat (go_quiet (fail); try go_wp2)
      go_ret
      exact ⟨fR, by repeat (first | exact Drawn0.refl _ | apply Drawn0.step)⟩
    ·rw [if_neg c4] at H
     have c4b0 : decide (x13_1 < (l0.length : Int)) = false := decide_eq_false c4
     clear c4
     obtain rfl := Option.some.inj H
     go_wp2
     repeat (go_quiet (fail); try go_wp2)
     go_ret
     exact ⟨fR, by repeat (first | exact Drawn0.refl _ | apply Drawn0.step)⟩
 ·rw [if_neg c3] at H
  have c3b0 : ((l0.length : Int) == (l1.length : Int)) = false := beq_eq_false_iff_ne.mpr c3
  have c3b1 : ((l0.length : Int) != (l1.length : Int)) = true := bne_iff_ne.mpr c3
  have c3b2 : (l0.length == l1.length) = false := by first | simpa using c3 | (simp at c3 ⊢; omega)
  obtain rfl := Option.some.inj H
  go_enter Try.func40, Try.ntmps40
  go_wp2
  repeat (go_quiet (fail); try go_wp2)
  go_ret
  exact ⟨fR, by repeat (first | exact Drawn0.refl _ | apply Drawn0.step)⟩

/-! ### laws_eRows: function 21 -/
def laws_eRows.l0 : Nat → List (List Int) → List (List Int) → Int → Int → Option (Bool)
 | 0, _, _, _, _ => none
 | k + 1, x0, x1, x12, x13 => if x13 < x12 then (if 0 ≤ x13 then (if x13 < (x0.length : Int) then (if x13 < (x1.length : Int) then ((laws_eSame.f k (rd_L7 x0 x13) (rd_L7 x1 x13)).bind fun t164 => (if t164 = true then (laws_eRows.l0 k x0 x1 x12 (wrap64 (x13 + 1))) else (some false))) else (none)) else (none)) else (none)) else (some true)
def laws_eRows.f (k : Nat) (l0 : List (List Int)) (l1 : List (List Int)) : Option (Bool) := if (l0.length : Int) = (l1.length : Int) then (laws_eRows.l0 k l0 l1 (l0.length : Int) 0) else (some false)
theorem laws_eRows.mono_l : ∀ k, (∀ y0 y1 y2 y3, LeO (laws_eRows.l0 k y0 y1 y2 y3) (laws_eRows.l0 (k + 1) y0 y1 y2 y3))
 | 0 => fun _ _ _ _ r h => by simp [laws_eRows.l0] at h
 | k + 1 => by
  have ih0 := laws_eRows.mono_l k
  ·intro y0 y1 y2 y3
   unfold laws_eRows.l0
   repeat' first
   | (with_reducible first | exact ih0 _ _ _ _ | exact laws_eSame.mono _ _ _ | exact LeO.refl _ | exact LeO.none _ | refine LeO.ite ?_ ?_ | refine LeO.bind ?_ (fun _ => ?_))
   | exact ih0 _ _ _ _
   | exact laws_eSame.mono _ _ _
   | exact LeO.none _
   | refine LeO.ite ?_ ?_
   | refine LeO.bind ?_ (fun _ => ?_)
theorem laws_eRows.mono : ∀ a0 a1 k, LeO (laws_eRows.f k a0 a1) (laws_eRows.f (k + 1) a0 a1) := by
 intro a0 a1 k
 have ih0 := laws_eRows.mono_l k
 unfold laws_eRows.f
 repeat' first
   | (with_reducible first | exact ih0 _ _ _ _ | exact laws_eSame.mono _ _ _ | exact LeO.refl _ | exact LeO.none _ | refine LeO.ite ?_ ?_ | refine LeO.bind ?_ (fun _ => ?_))
   | exact ih0 _ _ _ _
   | exact laws_eSame.mono _ _ _
   | exact LeO.none _
   | refine LeO.ite ?_ ?_
   | refine LeO.bind ?_ (fun _ => ?_)
theorem laws_eRows.calls (k : Nat) (A0 : Option Addr) (c0 : Nat) (l0 : List (List Int)) (A1 : Option Addr) (c1 : Nat) (l1 : List (List Int)) (r : Bool) (w : World) (hr0 : Kd.C (Kd.slice 3 (Kd.int .i64)) w A0 l0.length l0) (hc0 : l0.length ≤ c0) (hr1 : Kd.C (Kd.slice 3 (Kd.int .i64)) w A1 l1.length l1) (hc1 : l1.length ≤ c1) (h : laws_eRows.f k l0 l1 = some r) :
  Calls Try.prog 21 #[.slice A0 l0.length c0, .slice A1 l1.length c1] w fun e w' => e = .returned (.bool r) ∧ Drawn0 w w' := by
 have HR0 := Aside0.mk hr0
 have HC0 := Aside0.mk hc0
 clear hr0 hc0
 have HR1 := Aside0.mk hr1
 have HC1 := Aside0.mk hc1
 clear hr1 hc1
 have H := h
 unfold laws_eRows.f at H
 clear h
 by_cases c3 : (l0.length : Int) = (l1.length : Int)
 ·rw [if_pos c3] at H
  have c3b0 : ((l0.length : Int) == (l1.length : Int)) = true := beq_iff_eq.mpr c3
  have c3b1 : ((l0.length : Int) != (l1.length : Int)) = false := bne_eq_false_iff_eq.mpr c3
  have c3b2 : (l0.length == l1.length) = true := by first | simpa using c3 | (simp at c3 ⊢; omega)
  clear c3
  have H' := Aside0.mk H
  clear H
  go_enter Try.func21, Try.ntmps21
  go_wp2
  repeat (go_quiet (fail); try go_wp2)
  go_loopg [13] k (fun kq v13 w' => ∃ (x13_1 : Int), v13 = .int .i64 x13_1 ∧ Aside0 (laws_eRows.l0 kq l0 l1 (l0.length : Int) x13_1 = some r) ∧ Aside0 (kq ≤ k) ∧ Drawn0 w w')
  case atStart => exact ⟨(0), fR, H', ⟨Nat.le_refl _⟩, by repeat (first | exact Drawn0.refl _ | apply Drawn0.step)⟩
  case round =>
   clear H'
   try clear c1
   try clear c2
   try clear p2
   try clear c3
   try clear c3b0
   try clear c3b1
   try clear c3b2
   obtain ⟨x13_1, rfl, HA, HK1, ⟨m1, rfl⟩⟩ := hrel
   cases gk with
   | zero => exact absurd HA.out (by simp [laws_eRows.l0])
   | succ k1 =>
    have H := HA.out
    clear HA
    simp only [laws_eRows.l0] at H
    by_cases c4 : x13_1 < (l0.length : Int)
    ·rw [if_pos c4] at H
     have c4b0 : decide (x13_1 < (l0.length : Int)) = true := decide_eq_true c4
     clear c4
     replace H := nz H; obtain ⟨c5, H⟩ := H
     have c5b0 : decide (0 ≤ x13_1) = true := decide_eq_true c5
     clear c5
     replace H := nz H; obtain ⟨c6, H⟩ := H
     have c6b0 : decide (x13_1 < (l0.length : Int)) = true := decide_eq_true c6
     clear c6
     replace H := nz H; obtain ⟨c7, H⟩ := H
     have c7b0 : decide (x13_1 < (l1.length : Int)) = true := decide_eq_true c7
     clear c7
     replace H := Option.bind_eq_some_iff.mp H
     obtain ⟨t164, A80, H⟩ := H
     (try dsimp only at H)
     have A8 := Aside0.mk A80
     clear A80
     by_cases c9 : t164 = true
     ·subst c9
      replace H := zt H
      have H' := Aside0.mk H
      clear H
      have p162 : 0 ≤ (x13_1 : Int) := oD
      have q162 : x13_1 < (l0.length : Int) := oD
      obtain ⟨ad162, A162_0, c162_0, e162, hx162_0, hl162_0, hi162_0⟩ := at_L7 HR0.out x13_1 p162 q162
      cases e162
      have HR162_0 := Aside0.mk hi162_0
      have HC162_0 := Aside0.mk hl162_0
      clear hi162_0 hl162_0
      replace p162 := eq_true p162
      replace q162 := eq_true q162
      have p163 : 0 ≤ (x13_1 : Int) := oD
      have q163 : x13_1 < (l1.length : Int) := oD
      obtain ⟨ad163, A163_0, c163_0, e163, hx163_0, hl163_0, hi163_0⟩ := at_L7 HR1.out x13_1 p163 q163
      cases e163
      have HR163_0 := Aside0.mk hi163_0
      have HC163_0 := Aside0.mk hl163_0
      clear hi163_0 hl163_0
      replace p163 := eq_true p163
      replace q163 := eq_true q163
      go_wp2_with (first | (go_at_call 40; (with_reducible refine (laws_eSame.calls k1 _ _ (rd_L7 l0 x13_1) _ _ (rd_L7 l1 x13_1) true _ ?side1 ?side2 ?side3 ?side4 A8.out).mono ?_); (case side1 => exact cS HR162_0.out); (case side2 => exact HC162_0.out); (case side3 => exact cS HR163_0.out); (case side4 => exact HC163_0.out); rintro e w' ⟨rfl, ⟨nd, rfl⟩⟩; (try first | exact ⟨rfl, _, World.drewN_drewN _ _ _⟩ | exact ⟨rfl, _, Eq.trans (World.drewN_drewN _ _ _) (congrArg (World.drewN _) (Nat.add_assoc _ _ _))⟩)))
      repeat (go_quiet (first | (go_at_call 40; (with_reducible refine (laws_eSame.calls k1 _ _ (rd_L7 l0 x13_1) _ _ (rd_L7 l1 x13_1) true _ ?side1 ?side2 ?side3 ?side4 A8.out).mono ?_); (case side1 => exact cS HR162_0.out); (case side2 => exact HC162_0.out); (case side3 => exact cS HR163_0.out); (case side4 => exact HC163_0.out); rintro e w' ⟨rfl, ⟨nd, rfl⟩⟩; (try first | exact ⟨rfl, _, World.drewN_drewN _ _ _⟩ | exact ⟨rfl, _, Eq.trans (World.drewN_drewN _ _ _) (congrArg (World.drewN _) (Nat.add_assoc _ _ _))⟩))); try go_wp2_with (first | (go_at_call 40; (with_reducible refine (laws_eSame.calls k1 _ _ (rd_L7 l0 x13_1) _ _ (rd_L7 l1 x13_1) true _ ?side1 ?side2 ?side3 ?side4 A8.out).mono ?_); (case side1 => exact cS HR162_0.out); (case side2 => exact HC162_0.out); (case side3 => exact cS HR163_0.out); (case side4 => exact HC163_0.out); rintro e w' ⟨rfl, ⟨nd, rfl⟩⟩; (try first | exact ⟨rfl, _, World.drewN_drewN _ _ _⟩ | exact ⟨rfl, _, Eq.trans (World.drewN_drewN _ _ _) (congrArg (World.drewN _) (Nat.add_assoc _ _ _))⟩))))
      go_roundg k1
      case measure => have := HK1.out; omega
      case rel => exact ⟨(wrap64 (x13_1 + 1)), fR, H', ⟨by have := HK1.out; omega⟩, by repeat (first | exact Drawn0.refl _ | apply Drawn0.step)⟩
     ·replace c9 := Bool.eq_false_iff.mpr c9
      subst c9
      replace H := zf H
      obtain rfl := Option.some.inj H
      have p162 : 0 ≤ (x13_1 : Int) := oD
      have q162 : x13_1 < (l0.length : Int) := oD
      obtain ⟨ad162, A162_0, c162_0, e162, hx162_0, hl162_0, hi162_0⟩ := at_L7 HR0.out x13_1 p162 q162
      cases e162
      have HR162_0 := Aside0.mk hi162_0
      have HC162_0 := Aside0.mk hl162_0
      clear hi162_0 hl162_0
      replace p162 := eq_true p162
      replace q162 := eq_true q162
      have p163 : 0 ≤ (x13_1 : Int) := oD
      have q163 : x13_1 < (l1.length : Int) := oD
      obtain ⟨ad163, A163_0, c163_0, e163, hx163_0, hl163_0, hi163_0⟩ := at_L7 HR1.out x13_1 p163 q163
      cases e163
      have HR163_0 := Aside0.mk hi163_0
      have HC163_0 := Aside0.mk hl163_0
      clear hi163_0 hl163_0
      replace p163 := eq_true p163
      replace q163 := eq_true q163
      go_wp2_with (first | (go_at_call 40; (with_reducible refine (laws_eSame.calls k1 _ _ (rd_L7 l0 x13_1) _ _ (rd_L7 l1 x13_1) false _ ?side1 ?side2 ?side3 ?side4 A8.out).mono ?_); (case side1 => exact cS HR162_0.out); (case side2 => exact HC162_0.out); (case side3 => exact cS HR163_0.out); (case side4 => exact HC163_0.out); rintro e w' ⟨rfl, ⟨nd, rfl⟩⟩; (try first | exact ⟨rfl, _, World.drewN_drewN _ _ _⟩ | exact ⟨rfl, _, Eq.trans (World.drewN_drewN _ _ _) (congrArg (World.drewN _) (Nat.add_assoc _ _ _))⟩)))
      repeat (go_quiet (first | (go_at_call 40; (with_reducible refine (laws_eSame.calls k1 _ _ (rd_L7 l0 x13_1) _ _ (rd_L7 l1 x13_1) false _ ?side1 ?side2 ?side3 ?side4 A8.out).mono ?_); (case side1 => exact cS HR162_0.out); (case side2 => exact HC162_0.out); (case side3 => exact cS HR163_0.out); (case side4 => exact HC163_0.out); rintro e w' ⟨rfl, ⟨nd, rfl⟩⟩; (try first | exact ⟨rfl, _, World.drewN_drewN _ _ _⟩ | exact ⟨rfl, _, Eq.trans (World.drewN_drewN _ _ _) (congrArg (World.drewN _) (Nat.add_assoc _ _ _))⟩))); try go_wp2_with (first | (go_at_call 40; (with_reducible refine (laws_eSame.calls k1 _ _ (rd_L7 l0 x13_1) _ _ (rd_L7 l1 x13_1) false _ ?side1 ?side2 ?side3 ?side4 A8.out).mono ?_); (case side1 => exact cS HR162_0.out); (case side2 => exact HC162_0.out); (case side3 => exact cS HR163_0.out); (case side4 => exact HC163_0.out); rintro e w' ⟨rfl, ⟨nd, rfl⟩⟩; (try first | exact ⟨rfl, _, World.drewN_drewN _ _ _⟩ | exact ⟨rfl, _, Eq.trans (World.drewN_drewN _ _ _) (congrArg (World.drewN _) (Nat.add_assoc _ _ _))⟩))))
      go_ret
      exact ⟨fR, by repeat (first | exact Drawn0.refl _ | apply Drawn0.step)⟩
    ·rw [if_neg c4] at H
     have c4b0 : decide (x13_1 < (l0.length : Int)) = false := decide_eq_false c4
     clear c4
     obtain rfl := Option.some.inj H
     go_wp2
     repeat (go_quiet (fail); try go_wp2)
     go_ret
     exact ⟨fR, by repeat (first | exact Drawn0.refl _ | apply Drawn0.step)⟩
 ·rw [if_neg c3] at H
  have c3b0 : ((l0.length : Int) == (l1.length : Int)) = false := beq_eq_false_iff_ne.mpr c3
  have c3b1 : ((l0.length : Int) != (l1.length : Int)) = true := bne_iff_ne.mpr c3
  have c3b2 : (l0.length == l1.length) = false := by first | simpa using c3 | (simp at c3 ⊢; omega)
  obtain rfl := Option.some.inj H
  go_enter Try.func21, Try.ntmps21
  go_wp2
  repeat (go_quiet (fail); try go_wp2)
  go_ret
  exact ⟨fR, by repeat (first | exact Drawn0.refl _ | apply Drawn0.step)⟩

/-! ### laws_eSorted: function 22 -/
def laws_eSorted.l0 : Nat → List ByteArray → Int → Option (Bool)
 | 0, _, _ => none
 | k + 1, x0, x3 => if x3 < (x0.length : Int) then (if 0 ≤ (wrap64 (x3 - 1)) then (if (wrap64 (x3 - 1)) < (x0.length : Int) then (if 0 ≤ x3 then (if ((Op.bytesLess ((rdOf ByteArray.empty x0 (wrap64 (x3 - 1))).toList) ((rdOf ByteArray.empty x0 x3).toList)) = true) then (laws_eSorted.l0 k x0 (wrap64 (x3 + 1))) else (some false)) else (none)) else (none)) else (none)) else (some true)
def laws_eSorted.f (k : Nat) (l0 : List ByteArray) : Option (Bool) := laws_eSorted.l0 k l0 1
theorem laws_eSorted.mono_l : ∀ k, (∀ y0 y1, LeO (laws_eSorted.l0 k y0 y1) (laws_eSorted.l0 (k + 1) y0 y1))
 | 0 => fun _ _ r h => by simp [laws_eSorted.l0] at h
 | k + 1 => by
  have ih0 := laws_eSorted.mono_l k
  ·intro y0 y1
   unfold laws_eSorted.l0
   repeat' first
   | (with_reducible first | exact ih0 _ _ | exact LeO.refl _ | exact LeO.none _ | refine LeO.ite ?_ ?_ | refine LeO.bind ?_ (fun _ => ?_))
   | exact ih0 _ _
   | exact LeO.none _
   | refine LeO.ite ?_ ?_
   | refine LeO.bind ?_ (fun _ => ?_)
theorem laws_eSorted.mono : ∀ a0 k, LeO (laws_eSorted.f k a0) (laws_eSorted.f (k + 1) a0) := by
 intro a0 k
 have ih0 := laws_eSorted.mono_l k
 unfold laws_eSorted.f
 repeat' first
   | (with_reducible first | exact ih0 _ _ | exact LeO.refl _ | exact LeO.none _ | refine LeO.ite ?_ ?_ | refine LeO.bind ?_ (fun _ => ?_))
   | exact ih0 _ _
   | exact LeO.none _
   | refine LeO.ite ?_ ?_
   | refine LeO.bind ?_ (fun _ => ?_)
theorem laws_eSorted.calls (k : Nat) (A0 : Option Addr) (c0 : Nat) (l0 : List ByteArray) (r : Bool) (w : World) (hr0 : Kd.C Kd.string w A0 l0.length l0) (hc0 : l0.length ≤ c0) (h : laws_eSorted.f k l0 = some r) :
  Calls Try.prog 22 #[.slice A0 l0.length c0] w fun e w' => e = .returned (.bool r) ∧ Drawn0 w w' := by
 have HR0 := Aside0.mk hr0
 have HC0 := Aside0.mk hc0
 clear hr0 hc0
 have H : (laws_eSorted.l0 k l0 1) = some r := h
 clear h
 have H' := Aside0.mk H
 clear H
 go_enter Try.func22, Try.ntmps22
 go_wp2
 repeat (go_quiet (fail); try go_wp2)
 go_loopg [3] k (fun kq v3 w' => ∃ (x3_1 : Int), v3 = .int .i64 x3_1 ∧ Aside0 (laws_eSorted.l0 kq l0 x3_1 = some r) ∧ Aside0 (kq ≤ k) ∧ Drawn0 w w')
 case atStart => exact ⟨(1), fR, H', ⟨Nat.le_refl _⟩, by repeat (first | exact Drawn0.refl _ | apply Drawn0.step)⟩
 case round =>
  clear H'
  obtain ⟨x3_1, rfl, HA, HK1, ⟨m1, rfl⟩⟩ := hrel
  cases gk with
  | zero => exact absurd HA.out (by simp [laws_eSorted.l0])
  | succ k1 =>
   have H := HA.out
   clear HA
   simp only [laws_eSorted.l0] at H
   by_cases c2 : x3_1 < (l0.length : Int)
   ·rw [if_pos c2] at H
    have c2b0 : decide (x3_1 < (l0.length : Int)) = true := decide_eq_true c2
    clear c2
    obtain ⟨ji3, hji3⟩ : ∃ j_ : Int, (wrap64 (x3_1 - 1)) = j_ := ⟨_, rfl⟩
    replace H : (if 0 ≤ (ji3) then (if (ji3) < (l0.length : Int) then (if 0 ≤ x3_1 then (if ((Op.bytesLess ((rdOf ByteArray.empty l0 (ji3)).toList) ((rdOf ByteArray.empty l0 x3_1).toList)) = true) then (laws_eSorted.l0 k1 l0 (wrap64 (x3_1 + 1))) else (some false)) else (none)) else (none)) else (none)) = some r := by first | (rw [hji3] at H; exact H) | (simp only [hji3] at H ⊢; exact H)
    have hji3w : (IntKind.i64.wrap (x3_1 - 1)) = ji3 := (i64_w _).trans hji3
    replace H := nz H; obtain ⟨c4, H⟩ := H
    have c4b0 : decide (0 ≤ (ji3)) = true := decide_eq_true c4
    clear c4
    replace H := nz H; obtain ⟨c5, H⟩ := H
    have c5b0 : decide ((ji3) < (l0.length : Int)) = true := decide_eq_true c5
    clear c5
    replace H := nz H; obtain ⟨c6, H⟩ := H
    have c6b0 : decide (0 ≤ x3_1) = true := decide_eq_true c6
    clear c6
    by_cases c7 : ((Op.bytesLess ((rdOf ByteArray.empty l0 (ji3)).toList) ((rdOf ByteArray.empty l0 x3_1).toList)) = true)
    ·rw [if_pos c7] at H
     have c7b0 : (Op.bytesLess ((rdOf ByteArray.empty l0 (ji3)).toList) ((rdOf ByteArray.empty l0 x3_1).toList)) = true := c7
     clear c7
     have H' := Aside0.mk H
     clear H
     have p165 : 0 ≤ ((ji3) : Int) := oD
     have q165 : (ji3) < (l0.length : Int) := oD
     obtain ⟨ad165, e165, hx165_0⟩ := Kd.at_string HR0.out (ji3) p165 q165
     cases e165
     replace p165 := eq_true p165
     replace q165 := eq_true q165
     have p166 : 0 ≤ (x3_1 : Int) := oD
     have q166 : x3_1 < (l0.length : Int) := oD
     obtain ⟨ad166, e166, hx166_0⟩ := Kd.at_string HR0.out x3_1 p166 q166
     obtain rfl : ad165 = ad166 := (by injection e166)
     replace p166 := eq_true p166
     replace q166 := eq_true q166
     go_wp2
     repeat (go_quiet (fail); try go_wp2)
     go_roundg k1
     case measure => have := HK1.out; omega
     case rel => exact ⟨(wrap64 (x3_1 + 1)), fR, H', ⟨by have := HK1.out; omega⟩, by repeat (first | exact Drawn0.refl _ | apply Drawn0.step)⟩
    ·rw [if_neg c7] at H
     have c7b0 : (Op.bytesLess ((rdOf ByteArray.empty l0 (ji3)).toList) ((rdOf ByteArray.empty l0 x3_1).toList)) = false := by simpa using c7
     clear c7
     obtain rfl := Option.some.inj H
     have p165 : 0 ≤ ((ji3) : Int) := oD
     have q165 : (ji3) < (l0.length : Int) := oD
     obtain ⟨ad165, e165, hx165_0⟩ := Kd.at_string HR0.out (ji3) p165 q165
     cases e165
     replace p165 := eq_true p165
     replace q165 := eq_true q165
     have p166 : 0 ≤ (x3_1 : Int) := oD
     have q166 : x3_1 < (l0.length : Int) := oD
     obtain ⟨ad166, e166, hx166_0⟩ := Kd.at_string HR0.out x3_1 p166 q166
     obtain rfl : ad165 = ad166 := (by injection e166)
     replace p166 := eq_true p166
     replace q166 := eq_true q166
     go_wp2
     repeat (go_quiet (fail); try go_wp2)
     go_ret
     exact ⟨by first | rfl | (simp; done) | (simp only [← hji3] <;> (first | rfl | simp)) | (simp [*]; done), by repeat (first | exact Drawn0.refl _ | apply Drawn0.step)⟩
   ·rw [if_neg c2] at H
    have c2b0 : decide (x3_1 < (l0.length : Int)) = false := decide_eq_false c2
    clear c2
    obtain rfl := Option.some.inj H
    go_wp2
    repeat (go_quiet (fail); try go_wp2)
    go_ret
    exact ⟨fR, by repeat (first | exact Drawn0.refl _ | apply Drawn0.step)⟩

end Go.Proofs.Ytcpnmiempaofdaa.F
