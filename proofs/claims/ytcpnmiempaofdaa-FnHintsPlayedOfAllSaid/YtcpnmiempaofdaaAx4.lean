-- Printed by hp.py, a program of this session: a machine's side of laws, out of the translation; Lean checks it.
import Derived.Test.YtcpnmiempaofdaaAx0
import Derived.Test.YtcpnmiempaofdaaAx2
import Derived.Test.YtcpnmiempaofdaaAx3
namespace Go.Proofs.Ytcpnmiempaofdaa.A
open Go.RowKit Go.Proofs.YtcpnmiempaofdaaW.PrintWords Go.Proofs.YtcpnmiempaofdaaW.PrintLast Go.Proofs.YtcpnmiempaofdaaW.PrintMore
attribute [local go_sem] max2_int min2_int max_two min_two max_three min_three max_four min_four   -- for this text's walks alone
set_option linter.unusedVariables false
set_option linter.unusedSimpArgs false

/-! ### impl_Lock_fitting: function 50 -/
def impl_Lock_fitting.l0 : Nat → List (S31) → List ByteArray → Int → Int → Int → Int → Option (List ByteArray)
  | 0, _, _, _, _, _, _ => none
  | k + 1, x1, x5, x10, x11, x137000, x137001 => if x11 < x10 then ((impl_Lock_code.f k x137000 x137001 x11).bind fun t141 => ((impl_fits.f k x1 t141).bind fun t142 => (if t142 = true then (if x5.length < 8796093022208 then (impl_Lock_fitting.l0 k x1 (x5 ++ [t141]) x10 (wrap64 (x11 + 1)) x137000 x137001) else (none)) else (impl_Lock_fitting.l0 k x1 x5 x10 (wrap64 (x11 + 1)) x137000 x137001)))) else (some x5)
def impl_Lock_fitting.f (k : Nat) (a0_0 : Int) (a0_1 : Int) (l1 : List (S31)) : Option (List ByteArray) := (impl_Lock_count.f k a0_0 a0_1).bind fun t140 => (impl_Lock_fitting.l0 k l1 (([] : List ByteArray)) t140 0 a0_0 a0_1)
theorem impl_Lock_fitting.mono_l : ∀ k, (∀ y0 y1 y2 y3 y4 y5, LeO (impl_Lock_fitting.l0 k y0 y1 y2 y3 y4 y5) (impl_Lock_fitting.l0 (k + 1) y0 y1 y2 y3 y4 y5))
  | 0 => fun _ _ _ _ _ _ r h => by simp [impl_Lock_fitting.l0] at h
  | k + 1 => by
    have ih0 := impl_Lock_fitting.mono_l k
    · intro y0 y1 y2 y3 y4 y5
      unfold impl_Lock_fitting.l0
      repeat' first
      | (with_reducible exact ih0 _ _ _ _ _ _)
      | (with_reducible exact impl_Lock_code.mono _ _ _ _)
      | (with_reducible exact impl_Lock_count.mono _ _ _)
      | (with_reducible exact impl_fits.mono _ _ _)
      | (with_reducible exact LeO.refl _)
      | (with_reducible exact LeO.none _)
      | (with_reducible refine LeO.ite ?_ ?_)
      | (with_reducible refine LeO.bind ?_ (fun _ => ?_))
      | exact ih0 _ _ _ _ _ _
      | exact impl_Lock_code.mono _ _ _ _
      | exact impl_Lock_count.mono _ _ _
      | exact impl_fits.mono _ _ _
      | exact LeO.none _
      | refine LeO.ite ?_ ?_
      | refine LeO.bind ?_ (fun _ => ?_)
theorem impl_Lock_fitting.mono : ∀ a0 a1 a2 k, LeO (impl_Lock_fitting.f k a0 a1 a2) (impl_Lock_fitting.f (k + 1) a0 a1 a2) := by
  intro a0 a1 a2 k
  have ih0 := impl_Lock_fitting.mono_l k
  unfold impl_Lock_fitting.f
  repeat' first
      | (with_reducible exact ih0 _ _ _ _ _ _)
      | (with_reducible exact impl_Lock_code.mono _ _ _ _)
      | (with_reducible exact impl_Lock_count.mono _ _ _)
      | (with_reducible exact impl_fits.mono _ _ _)
      | (with_reducible exact LeO.refl _)
      | (with_reducible exact LeO.none _)
      | (with_reducible refine LeO.ite ?_ ?_)
      | (with_reducible refine LeO.bind ?_ (fun _ => ?_))
      | exact ih0 _ _ _ _ _ _
      | exact impl_Lock_code.mono _ _ _ _
      | exact impl_Lock_count.mono _ _ _
      | exact impl_fits.mono _ _ _
      | exact LeO.none _
      | refine LeO.ite ?_ ?_
      | refine LeO.bind ?_ (fun _ => ?_)
set_option maxHeartbeats 8000000 in
set_option maxRecDepth 100000 in
theorem impl_Lock_fitting.calls (k : Nat) (a0_0 : Int) (a0_1 : Int) (A1 : Option Addr) (c1 : Nat) (l1 : List (S31)) (r : List ByteArray) (w : World) (hr1 : Kd.C k31 w A1 l1.length l1) (hc1 : l1.length ≤ c1) (h : impl_Lock_fitting.f k a0_0 a0_1 l1 = some r) :
    Calls Try.prog 50 #[.agg #[.int .i64 a0_0, .int .i64 a0_1], .slice A1 l1.length c1] w fun e w' => ∃ v0_ : Value, e = .returned (v0_) ∧ Kd.R Kd.string 9 w' w.heap.size (fun _ => True) v0_ r ∧ Below w.heap.size w w' := by
  have hu23 := Try.underlying23
  have HR1 := Aside0.mk hr1
  have HC1 := Aside0.mk hc1
  clear hr1 hc1
  have HB := Aside0.mk (Below.refl w.heap.size w)
  have H : ((impl_Lock_count.f k a0_0 a0_1).bind fun t140 => (impl_Lock_fitting.l0 k l1 (([] : List ByteArray)) t140 0 a0_0 a0_1)) = some r := h
  clear h
  obtain ⟨y137, hy137⟩ : ∃ y_ : List ByteArray, y_ = (([] : List ByteArray)) := ⟨_, rfl⟩
  replace H : ((impl_Lock_count.f k a0_0 a0_1).bind fun t140 => (impl_Lock_fitting.l0 k l1 y137 t140 0 a0_0 a0_1)) = some r := by first | (rw [hy137]; with_reducible exact H) | (have H2_ := (Option.bind_some _ _).symm.trans H; rw [hy137]; with_reducible exact H2_) | (have H2_ := (Option.bind_some _ _).symm.trans H; with_reducible exact H2_) | with_reducible exact H | (rw [hy137]; exact H) | exact H
  have Ny137 := Aside0.mk hy137
  clear hy137
  replace H := Option.bind_eq_some_iff.mp H
  obtain ⟨t140, A30, H⟩ := H
  replace H : (impl_Lock_fitting.l0 k l1 y137 t140 0 a0_0 a0_1) = some r := H
  have A3 := Aside0.mk A30
  clear A30
  have H' := Aside0.mk H
  clear H
  go_enter Try.func50, Try.ntmps50
  go_wp2_with (first | ((with_reducible refine gate_dst (N := 2) rfl ?_); refine box_event ?hg (N := 2) ?hd (cs := #[.int .i64 a0_0, .int .i64 a0_1]) (t := 23) ?hr ?_; (case hd => rfl); (case hg => rfl); (case hr => first | (go_simp; done) | (go_simp; rfl)); intro gb136 hg w4 hbox hb; have n0_ := Aside0.mk (below_step (by repeat (first | (with_reducible first | exact HB.out | apply below_alloc | apply pw_below_drewN | apply below_drew1) | exact HB.out)) hb); have n1_ := Aside0.mk (hbox); have n2_ := Aside0.mk ((by rw [hg]; exact (below_size (by repeat (first | (with_reducible first | exact HB.out | apply below_alloc | apply pw_below_drewN | apply below_drew1) | exact HB.out))) : w.heap.size ≤ gb136)); have n3_ := Aside0.mk ((by rw [hg]; exact (below_size (by repeat (first | (with_reducible first | exact HB.out | apply below_alloc | apply pw_below_drewN | apply below_drew1) | exact HB.out))) : w.heap.size ≤ gb136)); clear HB; have HB := n0_; have BK136 := n1_; have GW136 := n2_; have GE136 := n3_; clear n0_ n1_ n2_ n3_; clear hb hbox hg) | ((with_reducible refine gate_dst (N := 8) rfl ?_); refine Kd.R_lit Kd.string _ 9 ?hg (N := 8) ?hd (xs := ([] : List ByteArray)) (inner := []) (ok := fun _ => True) (okp := fun _ => True) ?hr ?hp (fun _ hk => hk) trivial (Below.refl _ _) (Nat.le_refl _) (by simp) ?_; (case hd => rfl); (case hg => rfl); (case hr => first | (go_simp; done) | (go_simp; rfl)); (case hp => exact (Reps.none _ _)); intro v138 w5 ho6 hb hg_ hnew_; clear hg_ hnew_; (first | rw [← Ny137.out] at ho6 | (simp only [Int.reduceToNat] at ho6; rw [← Ny137.out] at ho6)); have n0_ := Aside0.mk (Kd.R_lower ho6 (below_size (by repeat (first | (with_reducible first | exact HB.out | apply below_alloc | apply pw_below_drewN | apply below_drew1 | refine below_set ?_ GE136.out) | exact HB.out)))); have n1_ := Aside0.mk (blk_below (g := gb136) (o := .cells #[.int .i64 a0_0, .int .i64 a0_1] 23 (0, 0)) (by (with_reducible repeat (first | refine blk_drewN ?_ _ | refine blk_drew ?_ | refine blk_alloc ?_ _)); exact BK136.out) hb); have n2_ := Aside0.mk (below_step (by repeat (first | (with_reducible first | exact HB.out | apply below_alloc | apply pw_below_drewN | apply below_drew1 | refine below_set ?_ GE136.out) | exact HB.out)) hb); clear BK136; clear HB; have HO139 := n0_; have BK136 := n1_; have HB := n2_; clear n0_ n1_ n2_; clear hb ho6; have hcz7_0 : w5.cell? ⟨gb136, 0, none⟩ = some (.int .i64 a0_0) := (blk_cell BK136.out 0).trans rfl; have hcz7_1 : w5.cell? ⟨gb136, 1, none⟩ = some (.int .i64 a0_1) := (blk_cell BK136.out 1).trans rfl; have hfz7_0 := blk_frozen BK136.out 0; have hfz7_1 := blk_frozen BK136.out 1) | ((with_reducible refine gate_callee (f := 73) rfl ?_); refine goesL_ (some 10) rfl rfl Try.func73 (by kernel_rfl) rfl #[.agg #[.int .i64 a0_0, .int .i64 a0_1]] rfl (by (try simp only [List.map_toArray, List.map_cons, List.map_nil]); first | done | rfl | (simp only [List.length_drop, List.length_take]; rfl)) ?_; (with_reducible refine (impl_Lock_count.calls k a0_0 a0_1 t140 _ A3.out).mono ?_); rintro e w8 ⟨rfl, hb⟩; refine ⟨_, rfl, ?_⟩; have n0_ := Aside0.mk (Kd.R_below (by (with_reducible repeat (first | apply Kd.R_alloc | apply Kd.R_drewN | apply Kd.R_drew)); exact HO139.out) hb); have n1_ := Aside0.mk (blk_below (g := gb136) (o := .cells #[.int .i64 a0_0, .int .i64 a0_1] 23 (0, 0)) (by (with_reducible repeat (first | refine blk_drewN ?_ _ | refine blk_drew ?_ | refine blk_alloc ?_ _)); exact BK136.out) hb); have n2_ := Aside0.mk (below_step (by repeat (first | (with_reducible first | exact HB.out | apply below_alloc | apply pw_below_drewN | apply below_drew1 | refine below_set ?_ GE136.out) | exact HB.out)) hb); clear HO139; clear BK136; clear HB; have HO139 := n0_; have BK136 := n1_; have HB := n2_; clear n0_ n1_ n2_; (try clear hb); (try clear hb2); (try clear hk); (try clear hi)))
  go_loopg [5, 11] k (fun kq v5 v11 w' => ∃ (x5_1 : List ByteArray) (x11_1 : Int), v11 = .int .i64 x11_1 ∧ Aside0 (impl_Lock_fitting.l0 kq l1 x5_1 t140 x11_1 a0_0 a0_1 = some r) ∧ Aside0 (kq ≤ k) ∧ Aside0 (Kd.R Kd.string 9 w' w.heap.size (fun _ => True) v5 x5_1) ∧ Aside0 (w'.heap[gb136]? = some (.cells #[.int .i64 a0_0, .int .i64 a0_1] 23 (0, 0))) ∧ Aside0 (Below w.heap.size w w'))
  case atStart => exact ⟨(y137), (0), (by first | rfl | (simp; done) | (simp [*]; done)), H', ⟨Nat.le_refl _⟩, ⟨by (with_reducible repeat (first | apply Kd.R_alloc | apply Kd.R_drewN | apply Kd.R_drew)); exact HO139.out⟩, ⟨by (with_reducible repeat (first | refine blk_drewN ?_ _ | refine blk_drew ?_ | refine blk_alloc ?_ _)); exact BK136.out⟩, ⟨by repeat (first | (with_reducible first | exact HB.out | apply below_alloc | apply pw_below_drewN | apply below_drew1 | refine below_set ?_ GE136.out) | exact HB.out)⟩⟩
  case round =>
    clear H'
    try clear c1
    try clear p2
    try clear c5
    try clear c7
    try clear hcz7_0
    try clear hcz7_1
    try clear hfz7_0
    try clear hfz7_1
    obtain ⟨x5_1, x11_1, rfl, HA, HK1, HO_5, BK136, HB⟩ := hrel
    cases gk with
    | zero => exact absurd HA.out (by simp [impl_Lock_fitting.l0])
    | succ k1 =>
      have H := HA.out
      clear HA
      simp only [impl_Lock_fitting.l0] at H
      by_cases c9 : x11_1 < t140
      · rw [if_pos c9] at H
        have c9b0 : decide (x11_1 < t140) = true := decide_eq_true c9
        clear c9
        replace H := Option.bind_eq_some_iff.mp H
        obtain ⟨t141, A100, H⟩ := H
        replace H : ((impl_fits.f k1 l1 t141).bind fun t142 => (if t142 = true then (if x5_1.length < 8796093022208 then (impl_Lock_fitting.l0 k1 l1 (x5_1 ++ [t141]) t140 (wrap64 (x11_1 + 1)) a0_0 a0_1) else (none)) else (impl_Lock_fitting.l0 k1 l1 x5_1 t140 (wrap64 (x11_1 + 1)) a0_0 a0_1))) = some r := H
        have A10 := Aside0.mk A100
        clear A100
        replace H := Option.bind_eq_some_iff.mp H
        obtain ⟨t142, A110, H⟩ := H
        replace H : (if t142 = true then (if x5_1.length < 8796093022208 then (impl_Lock_fitting.l0 k1 l1 (x5_1 ++ [t141]) t140 (wrap64 (x11_1 + 1)) a0_0 a0_1) else (none)) else (impl_Lock_fitting.l0 k1 l1 x5_1 t140 (wrap64 (x11_1 + 1)) a0_0 a0_1)) = some r := H
        have A11 := Aside0.mk A110
        clear A110
        by_cases c12 : t142 = true
        · subst c12
          have H1 : (if x5_1.length < 8796093022208 then (impl_Lock_fitting.l0 k1 l1 (x5_1 ++ [t141]) t140 (wrap64 (x11_1 + 1)) a0_0 a0_1) else (none)) = some r := by rw [if_pos rfl] at H; exact H
          clear H
          have H := H1
          clear H1
          by_cases c13 : x5_1.length < 8796093022208
          · rw [if_pos c13] at H
            have LMc13 := Aside0.mk c13
            clear c13
            obtain ⟨y143, hy143⟩ : ∃ y_ : List ByteArray, y_ = (x5_1 ++ [t141]) := ⟨_, rfl⟩
            replace H : (impl_Lock_fitting.l0 k1 l1 y143 t140 (wrap64 (x11_1 + 1)) a0_0 a0_1) = some r := by first | (rw [hy143]; with_reducible exact H) | (have H2_ := (Option.bind_some _ _).symm.trans H; rw [hy143]; with_reducible exact H2_) | (have H2_ := (Option.bind_some _ _).symm.trans H; with_reducible exact H2_) | with_reducible exact H | (rw [hy143]; exact H) | exact H
            have Ny143 := Aside0.mk hy143
            clear hy143
            have H' := Aside0.mk H
            clear H
            have hcz14_0 : wr.cell? ⟨gb136, 0, none⟩ = some (.int .i64 a0_0) := (blk_cell BK136.out 0).trans rfl
            have hcz14_1 : wr.cell? ⟨gb136, 1, none⟩ = some (.int .i64 a0_1) := (blk_cell BK136.out 1).trans rfl
            have hfz14_0 := blk_frozen BK136.out 0
            have hfz14_1 := blk_frozen BK136.out 1
            go_wp2_with (first | ((with_reducible refine gate_callee (f := 61) rfl ?_); refine goesL_ (some 16) rfl rfl Try.func61 (by kernel_rfl) rfl #[.agg #[.int .i64 a0_0, .int .i64 a0_1], .int .i64 x11_1] rfl (by (try simp only [List.map_toArray, List.map_cons, List.map_nil]); first | done | rfl | (simp only [List.length_drop, List.length_take]; rfl)) ?_; (with_reducible refine (impl_Lock_code.calls k1 a0_0 a0_1 x11_1 t141 _ A10.out).mono ?_); rintro e w15 ⟨rfl, hb⟩; refine ⟨_, rfl, ?_⟩; have n0_ := Aside0.mk (Kd.R_below (by (with_reducible repeat (first | apply Kd.R_alloc | apply Kd.R_drewN | apply Kd.R_drew)); exact HO_5.out) hb); have n1_ := Aside0.mk (blk_below (g := gb136) (o := .cells #[.int .i64 a0_0, .int .i64 a0_1] 23 (0, 0)) (by (with_reducible repeat (first | refine blk_drewN ?_ _ | refine blk_drew ?_ | refine blk_alloc ?_ _)); exact BK136.out) hb); have n2_ := Aside0.mk (below_step (by repeat (first | (with_reducible first | exact HB.out | apply below_alloc | apply pw_below_drewN | apply below_drew1 | refine below_set ?_ GE136.out) | exact HB.out)) hb); clear HO_5; clear BK136; clear HB; have HO_5 := n0_; have BK136 := n1_; have HB := n2_; clear n0_ n1_ n2_; (try clear hb); (try clear hb2); (try clear hk); (try clear hi)) | ((with_reducible refine gate_callee (f := 68) rfl ?_); refine goesL_ (some 19) rfl rfl Try.func68 (by kernel_rfl) rfl #[.slice A1 l1.length c1, .string t141] rfl (by (try simp only [List.map_toArray, List.map_cons, List.map_nil]); first | done | rfl | (simp only [List.length_drop, List.length_take]; rfl)) ?_; (with_reducible refine (impl_fits.calls k1 _ _ l1 t141 true _ ?side1 ?side2 A11.out).mono ?_); (case side1 => repeat (first | exact (Kd.C_below HR1.out HB.out) | (with_reducible refine Kd.C_alloc ?_ _) | (with_reducible refine Kd.C_drewN ?_ _) | (with_reducible refine Kd.C_drew ?_))); (case side2 => exact HC1.out); rintro e w16 ⟨rfl, hb⟩; refine ⟨_, rfl, ?_⟩; have n0_ := Aside0.mk (Kd.R_below (by (with_reducible repeat (first | apply Kd.R_alloc | apply Kd.R_drewN | apply Kd.R_drew)); exact HO_5.out) hb); have n1_ := Aside0.mk (blk_below (g := gb136) (o := .cells #[.int .i64 a0_0, .int .i64 a0_1] 23 (0, 0)) (by (with_reducible repeat (first | refine blk_drewN ?_ _ | refine blk_drew ?_ | refine blk_alloc ?_ _)); exact BK136.out) hb); have n2_ := Aside0.mk (below_step (by repeat (first | (with_reducible first | exact HB.out | apply below_alloc | apply pw_below_drewN | apply below_drew1 | refine below_set ?_ GE136.out) | exact HB.out)) hb); clear HO_5; clear BK136; clear HB; have HO_5 := n0_; have BK136 := n1_; have HB := n2_; clear n0_ n1_ n2_; (try clear hb); (try clear hb2); (try clear hk); (try clear hi)) | ((with_reducible refine gate_builtin (b := .append) (xs := #[.tmp 20, .tmp 22]) rfl ?_); at_builtin; refine Kd.R_append Kd.string (w0 := w) w.heap.size rfl (.tmp 20) (.tmp 22) 34 9 (.string ⟨#[]⟩) 16 rfl Try.underlying34 info9 rfl (by decide) (by omega) u5 x5_1 t141 [.string t141] (fun _ => True) (fun _ => False) rfl rfl ?aP (fun _ hk => hk.elim) ?aF ?aO ?aB ?aS ?aL ?_; (case aP => exact rfl); (case aB => exact (by repeat (first | (with_reducible first | exact HB.out | apply below_alloc | apply pw_below_drewN | apply below_drew1 | refine below_set ?_ GE136.out) | exact HB.out))); (case aF => exact (fun _ _ => trivial)); (case aO => exact (by (with_reducible repeat (first | apply Kd.R_alloc | apply Kd.R_drewN | apply Kd.R_drew)); exact HO_5.out)); (case aS => exact (below_size (by repeat (first | (with_reducible first | exact HB.out | apply below_alloc | apply pw_below_drewN | apply below_drew1 | refine below_set ?_ GE136.out) | exact HB.out)))); (case aL => have := LMc13.out; omega); intro v144 w17 ho hb hg hat; rw [← Ny143.out] at ho; have n0_ := Aside0.mk (blk_grown (g := gb136) (o := .cells #[.int .i64 a0_0, .int .i64 a0_1] 23 (0, 0)) (by (with_reducible repeat (first | refine blk_drewN ?_ _ | refine blk_drew ?_ | refine blk_alloc ?_ _)); exact BK136.out) hg (Kd.R_ne HO_5.out BK136.out (by decide))); have n1_ := Aside0.mk (hb); have n2_ := Aside0.mk (ho); clear BK136; clear HB; clear HO_5; have BK136 := n0_; have HB := n1_; have HO145 := n2_; clear n0_ n1_ n2_; clear ho hb hg hat))
            go_roundg k1
            case measure => have := HK1.out; omega
            case rel => exact ⟨(y143), (wrap64 (x11_1 + 1)), (by first | rfl | (simp; done) | (simp [*]; done)), H', ⟨by have := HK1.out; omega⟩, ⟨by (with_reducible repeat (first | apply Kd.R_alloc | apply Kd.R_drewN | apply Kd.R_drew)); exact HO145.out⟩, ⟨by (with_reducible repeat (first | refine blk_drewN ?_ _ | refine blk_drew ?_ | refine blk_alloc ?_ _)); exact BK136.out⟩, ⟨by repeat (first | (with_reducible first | exact HB.out | apply below_alloc | apply pw_below_drewN | apply below_drew1 | refine below_set ?_ GE136.out) | exact HB.out)⟩⟩
          · rw [if_neg c13] at H
            exact absurd H (by simp)
        · replace c12 := Bool.eq_false_iff.mpr c12
          subst c12
          have H1 : (impl_Lock_fitting.l0 k1 l1 x5_1 t140 (wrap64 (x11_1 + 1)) a0_0 a0_1) = some r := by rw [if_neg (show ¬ (false = true) by decide)] at H; exact H
          clear H
          have H := H1
          clear H1
          have H' := Aside0.mk H
          clear H
          have hcz18_0 : wr.cell? ⟨gb136, 0, none⟩ = some (.int .i64 a0_0) := (blk_cell BK136.out 0).trans rfl
          have hcz18_1 : wr.cell? ⟨gb136, 1, none⟩ = some (.int .i64 a0_1) := (blk_cell BK136.out 1).trans rfl
          have hfz18_0 := blk_frozen BK136.out 0
          have hfz18_1 := blk_frozen BK136.out 1
          go_wp2_with (first | ((with_reducible refine gate_callee (f := 61) rfl ?_); refine goesL_ (some 16) rfl rfl Try.func61 (by kernel_rfl) rfl #[.agg #[.int .i64 a0_0, .int .i64 a0_1], .int .i64 x11_1] rfl (by (try simp only [List.map_toArray, List.map_cons, List.map_nil]); first | done | rfl | (simp only [List.length_drop, List.length_take]; rfl)) ?_; (with_reducible refine (impl_Lock_code.calls k1 a0_0 a0_1 x11_1 t141 _ A10.out).mono ?_); rintro e w19 ⟨rfl, hb⟩; refine ⟨_, rfl, ?_⟩; have n0_ := Aside0.mk (Kd.R_below (by (with_reducible repeat (first | apply Kd.R_alloc | apply Kd.R_drewN | apply Kd.R_drew)); exact HO_5.out) hb); have n1_ := Aside0.mk (blk_below (g := gb136) (o := .cells #[.int .i64 a0_0, .int .i64 a0_1] 23 (0, 0)) (by (with_reducible repeat (first | refine blk_drewN ?_ _ | refine blk_drew ?_ | refine blk_alloc ?_ _)); exact BK136.out) hb); have n2_ := Aside0.mk (below_step (by repeat (first | (with_reducible first | exact HB.out | apply below_alloc | apply pw_below_drewN | apply below_drew1 | refine below_set ?_ GE136.out) | exact HB.out)) hb); clear HO_5; clear BK136; clear HB; have HO_5 := n0_; have BK136 := n1_; have HB := n2_; clear n0_ n1_ n2_; (try clear hb); (try clear hb2); (try clear hk); (try clear hi)) | ((with_reducible refine gate_callee (f := 68) rfl ?_); refine goesL_ (some 19) rfl rfl Try.func68 (by kernel_rfl) rfl #[.slice A1 l1.length c1, .string t141] rfl (by (try simp only [List.map_toArray, List.map_cons, List.map_nil]); first | done | rfl | (simp only [List.length_drop, List.length_take]; rfl)) ?_; (with_reducible refine (impl_fits.calls k1 _ _ l1 t141 false _ ?side1 ?side2 A11.out).mono ?_); (case side1 => repeat (first | exact (Kd.C_below HR1.out HB.out) | (with_reducible refine Kd.C_alloc ?_ _) | (with_reducible refine Kd.C_drewN ?_ _) | (with_reducible refine Kd.C_drew ?_))); (case side2 => exact HC1.out); rintro e w20 ⟨rfl, hb⟩; refine ⟨_, rfl, ?_⟩; have n0_ := Aside0.mk (Kd.R_below (by (with_reducible repeat (first | apply Kd.R_alloc | apply Kd.R_drewN | apply Kd.R_drew)); exact HO_5.out) hb); have n1_ := Aside0.mk (blk_below (g := gb136) (o := .cells #[.int .i64 a0_0, .int .i64 a0_1] 23 (0, 0)) (by (with_reducible repeat (first | refine blk_drewN ?_ _ | refine blk_drew ?_ | refine blk_alloc ?_ _)); exact BK136.out) hb); have n2_ := Aside0.mk (below_step (by repeat (first | (with_reducible first | exact HB.out | apply below_alloc | apply pw_below_drewN | apply below_drew1 | refine below_set ?_ GE136.out) | exact HB.out)) hb); clear HO_5; clear BK136; clear HB; have HO_5 := n0_; have BK136 := n1_; have HB := n2_; clear n0_ n1_ n2_; (try clear hb); (try clear hb2); (try clear hk); (try clear hi)))
          go_roundg k1
          case measure => have := HK1.out; omega
          case rel => exact ⟨(x5_1), (wrap64 (x11_1 + 1)), (by first | rfl | (simp; done) | (simp [*]; done)), H', ⟨by have := HK1.out; omega⟩, ⟨by (with_reducible repeat (first | apply Kd.R_alloc | apply Kd.R_drewN | apply Kd.R_drew)); exact HO_5.out⟩, ⟨by (with_reducible repeat (first | refine blk_drewN ?_ _ | refine blk_drew ?_ | refine blk_alloc ?_ _)); exact BK136.out⟩, ⟨by repeat (first | (with_reducible first | exact HB.out | apply below_alloc | apply pw_below_drewN | apply below_drew1 | refine below_set ?_ GE136.out) | exact HB.out)⟩⟩
      · rw [if_neg c9] at H
        have c9b0 : decide (x11_1 < t140) = false := decide_eq_false c9
        clear c9
        obtain rfl := Option.some.inj H
        go_wp2
        go_ret
        exact ⟨_, by first | rfl | (simp [errW_none, errW_some] <;> rfl) | (simp [*, errW_none, errW_some] <;> rfl), by (with_reducible repeat (first | apply Kd.R_alloc | apply Kd.R_drewN | apply Kd.R_drew)); exact HO_5.out, by repeat (first | (with_reducible first | exact HB.out | apply below_alloc | apply pw_below_drewN | apply below_drew1 | refine below_set ?_ GE136.out) | exact HB.out)⟩

/-! ### slices_IndexFunc_string_string: function 99 -/
/-- The elements that a test keeps (true: strike). -/
def filO {α : Type} (p : α → Option Bool) : List α → Option (List α)
  | [] => some []
  | x :: xs => (p x).bind fun b => if b = true then filO p xs else (filO p xs).map (fun r => x :: r)
def idxN {α : Type} (p : α → Option Bool) : Nat → List α → Option Int
  | _, [] => some (-1)
  | k, x :: xs => (p x).bind fun b => if b = true then some (k : Int) else idxN p (k + 1) xs
theorem filO_mono {α : Type} {p p' : α → Option Bool} (h : ∀ x, LeO (p x) (p' x)) : ∀ l, LeO (filO p l) (filO p' l)
  | [] => LeO.refl _
  | x :: xs => LeO.bind (h x) (fun _ => LeO.ite (filO_mono h xs) (LeO.map _ (filO_mono h xs)))
theorem filO_idx {α : Type} (p : α → Option Bool) : ∀ (l r : List α) (k : Nat), filO p l = some r → (idxN p k l = some (-1) ∧ r = l) ∨ ∃ k0 rest, k0 < l.length ∧ idxN p k l = some ((k + k0 : Nat) : Int) ∧ filO p (l.drop (k0 + 1)) = some rest ∧ r = l.take k0 ++ rest
  | [], r, k, h => .inl ⟨rfl, by simpa [filO] using h.symm⟩
  | x :: xs, r, k, h => by
    rw [filO] at h
    obtain ⟨b, hb, h⟩ := Option.bind_eq_some_iff.mp h
    cases b with
    | true =>
      rw [if_pos rfl] at h
      exact .inr ⟨0, r, by simp, by simp [idxN, hb], by simpa using h, by simp⟩
    | false =>
      rw [if_neg (by decide)] at h
      obtain ⟨r', hr', rfl⟩ := Option.map_eq_some_iff.mp h
      rcases filO_idx p xs r' (k + 1) hr' with ⟨h1, h2⟩ | ⟨k0, rest, h1, h2, h3, h4⟩
      · exact .inl ⟨by simp [idxN, hb, h1], by rw [h2]⟩
      · refine .inr ⟨k0 + 1, rest, by simpa using h1, ?_, by simpa using h3, by rw [h4]; simp⟩
        simp only [idxN, hb, Option.bind_some]
        rw [if_neg (by decide), h2]
        congr 1
        omega
set_option maxHeartbeats 4000000 in
set_option maxRecDepth 100000 in
theorem idxS_calls (g : Nat) (caps : Array Value) (p : ByteArray → Option Bool) (I : World → Prop) (A0 : Option Addr) (c0 : Nat) (l0 : List ByteArray) (v : Int) (w : World) (eg : ∀ args w, (callFunc g args).run Try.prog w = .ok (.enter g args) w)
    (hr0 : Kd.C Kd.string w A0 l0.length l0) (hlen : l0.length ≤ 1000000000000000000) (h : idxN p 0 l0 = some v) (hI : I w) (hmono : ∀ W W', I W → Below W.heap.size W W' → I W')
    (hp : ∀ (x : ByteArray) (b : Bool) (W : World), p x = some b → I W → Calls Try.prog g (#[.string x] ++ caps) W fun e w' => e = .returned (.bool b) ∧ Below W.heap.size W w') :
    Calls Try.prog 99 #[.slice A0 l0.length c0, .func (.func g) #[] caps] w fun e w' => e = .returned (.int .i64 v) ∧ Below w.heap.size w w' ∧ I w' := by
  have hu9 := Try.underlying9
  have HR0 := Aside0.mk hr0
  have HH := Aside0.mk h
  have HI0 := Aside0.mk hI
  have HM := Aside0.mk hmono
  clear hr0 h hI hmono
  go_enter Try.func99, Try.ntmps99
  go_wp2
  go_loopg [5, 8] l0.length (fun gg _ s8 wr => ∃ kk : Nat, kk ≤ l0.length ∧ l0.length - kk ≤ gg ∧ s8 = .int .i64 kk ∧ Aside0 (Below w.heap.size w wr) ∧ Aside0 (I wr) ∧ Aside0 (idxN p kk (l0.drop kk) = some v))
  case atStart => exact ⟨0, Nat.zero_le _, by omega, rfl, ⟨Below.refl _ _⟩, HI0, HH⟩
  case round =>
    obtain ⟨kk, hkk, hg, rfl, HB, HI, HA⟩ := hrel
    clear HH HI0
    by_cases hlt : kk < l0.length
    · have hltz : (kk : Int) < (l0.length : Int) := by omega
      obtain ⟨ad, e1, hx0⟩ := Kd.at_string (Kd.C_below HR0.out HB.out) (kk : Int) (by omega) hltz
      rw [Int.toNat_natCast] at hx0
      have hget : rdOf ByteArray.empty l0 (kk : Int) = l0[kk] := by simp [rdOf, List.getD, hlt]
      rw [hget] at hx0
      cases e1
      have H := HA.out
      clear HA
      rw [List.drop_eq_getElem_cons hlt, idxN] at H
      replace H := Option.bind_eq_some_iff.mp H
      obtain ⟨b, hb, H⟩ := H
      have hcall := hp l0[kk] b wr hb HI.out
      clear hp hb hget
      generalize l0[kk] = x at hx0 hcall
      have HX := Aside0.mk H
      clear H
      cases b with
      | true =>
        go_wp2_with (go_at_fn g; refine hcall.mono ?_; rintro e w' ⟨rfl, hb⟩; have HB2 := Aside0.mk (below_then HB.out HB.out.size hb); have HI2 := Aside0.mk (HM.out _ _ HI.out hb); clear hb)
        go_ret
        refine ⟨?_, HB2.out, HI2.out⟩
        have := HX.out
        simp only [if_true, Option.some.injEq] at this
        subst this
        rfl
      | false =>
        go_wp2_with (go_at_fn g; refine hcall.mono ?_; rintro e w' ⟨rfl, hb⟩; have HB2 := Aside0.mk (below_then HB.out HB.out.size hb); have HI2 := Aside0.mk (HM.out _ _ HI.out hb); clear hb)
        go_roundg (l0.length - (kk + 1))
        case measure => omega
        case rel =>
          refine ⟨kk + 1, by omega, by omega, by go_num, HB2, HI2, ⟨?_⟩⟩
          have := HX.out
          rwa [if_neg (by decide)] at this
    · have hltz : ¬ (kk : Int) < (l0.length : Int) := by omega
      have : kk = l0.length := by omega
      subst this
      clear hp
      go_wp2
      go_ret
      refine ⟨?_, HB.out, HI.out⟩
      have := HA.out
      rw [List.drop_length, idxN] at this
      simp only [Option.some.injEq] at this
      subst this
      rfl


/-! ### slices_DeleteFunc_string_string: function 78 -/
/-- A row's tail, written anew. -/
theorem R_tail {e base b n c : Nat} {ok : Nat → Prop} : ∀ (m i : Nat) (W : World) (l : List ByteArray) (x : ByteArray), Kd.R Kd.string e W base ok (.slice (some ⟨b, 0, none⟩) n c) l → i + m ≤ n →
    ∃ l', Kd.R Kd.string e (W.setCells b i (List.replicate m (.string x))) base ok (.slice (some ⟨b, 0, none⟩) n c) l' ∧ l'.take i = l.take i
  | 0, _, _, l, _, h, _ => ⟨l, h, rfl⟩
  | m + 1, i, W, l, x, h, hi => by
    have h1 := Kd.R_putn (enc := Value.string) h (i : Int) x
    rw [Int.toNat_natCast] at h1
    obtain ⟨l', h2, h3⟩ := R_tail m (i + 1) _ _ x h1 (by omega)
    refine ⟨l', h2, ?_⟩
    have h4 := congrArg (List.take i) h3
    rw [List.take_take, List.take_take, Nat.min_eq_left (by omega)] at h4
    rw [h4, List.take_set_of_le (Nat.le_refl _)]
set_option maxHeartbeats 4000000 in
set_option maxRecDepth 100000 in
theorem delS_calls (g : Nat) (caps : Array Value) (p : ByteArray → Option Bool) (I : World → Prop) (base b n c : Nat) (l res : List ByteArray) (w : World) (eg : ∀ args w, (callFunc g args).run Try.prog w = .ok (.enter g args) w)
    (hr : Kd.R Kd.string 9 w base (fun k => k = b) (.slice (some ⟨b, 0, none⟩) n c) l) (hlen : n ≤ 1000000000000000000) (h : filO p l = some res) (hI : I w) (hmono : ∀ W W', I W → Below W.heap.size W W' → I W')
    (hset : ∀ W j v, I W → I (W.setCell ⟨b, j, none⟩ v))
    (hp : ∀ (x : ByteArray) (b : Bool) (W : World), p x = some b → I W → Calls Try.prog g (#[.string x] ++ caps) W fun e w' => e = .returned (.bool b) ∧ Below W.heap.size W w') :
    Calls Try.prog 78 #[.slice (some ⟨b, 0, none⟩) n c, .func (.func g) #[] caps] w fun e w' => e = .returned (.slice (some ⟨b, 0, none⟩) res.length c) ∧ Kd.R Kd.string 9 w' base (fun k => k = b) (.slice (some ⟨b, 0, none⟩) res.length c) res ∧ I w' := by
  have hu9 := Try.underlying9
  have hu46 := Try.underlying34
  obtain ⟨hn, hnc, hC⟩ := Kd.R_reads' hr
  subst hn
  have HR := Aside0.mk hr
  have HM := Aside0.mk hmono
  have HS := Aside0.mk hset
  clear hr hset hmono
  rcases filO_idx p l res 0 h with ⟨h1, h2⟩ | ⟨k0, rest, h1, h2, h3, h4⟩
  · subst h2
    have hidx := idxS_calls g caps p I (some ⟨b, 0, none⟩) c res (-1) w eg hC hlen h1 hI HM.out hp
    clear h1 hC hI hp h hlen eg
    go_enter Try.func78, Try.ntmps78
    go_wp2_with (go_at_call 99; refine hidx.mono ?_; rintro e w' ⟨rfl, hb, hi⟩; have HB := Aside0.mk hb; have HI := Aside0.mk hi; clear hb hi)
    go_ret
    exact ⟨rfl, Kd.R_below HR.out HB.out, HI.out⟩
  · rw [Nat.zero_add] at h2
    have hidx := idxS_calls g caps p I (some ⟨b, 0, none⟩) c l (k0 : Int) w eg hC hlen h2 hI HM.out hp
    have H3 := Aside0.mk h3
    have H4 := Aside0.mk h4
    have hne1 : ((k0 : Int) == -1) = false := beq_eq_false_iff_ne.2 (by omega)
    clear h2 hC hI h h3 h4
    obtain ⟨n, hn⟩ : ∃ n, n = l.length := ⟨_, rfl⟩
    rw [← hn] at hidx HR hnc hlen h1 ⊢
    have HN := Aside0.mk hn
    clear hn
    go_enter Try.func78, Try.ntmps78
    go_wp2_with (go_at_call 99; refine hidx.mono ?_; rintro e w' ⟨rfl, hb, hi⟩; have HB := Aside0.mk hb; have HI := Aside0.mk hi; clear hb hi)
    have HR1 := Aside0.mk (Kd.R_below HR.out HB.out)
    clear HR HB hidx
    go_loopg [5, 6, 7] n (fun gg s5 s6 _ wr => ∃ (i j : Nat) (dk rest : List ByteArray), s5 = .int .i64 i ∧ s6 = .int .i64 j ∧ j ≤ n ∧ i < j ∧ n - j ≤ gg ∧ Aside0 (I wr) ∧ Aside0 (Kd.R Kd.string 9 wr base (fun k => k = b) (.slice (some ⟨b, 0, none⟩) n c) dk) ∧ Aside0 (dk.drop j = l.drop j) ∧ Aside0 (filO p (l.drop j) = some rest) ∧ Aside0 (res = dk.take i ++ rest))
    case atStart => exact ⟨k0, k0 + 1, l, rest, rfl, by go_num, by omega, by omega, by omega, HI, HR1, ⟨rfl⟩, H3, H4⟩
    case round =>
      clear HR1 HI H3 H4 rest
      obtain ⟨i, j, dk, rest, rfl, rfl, hjn, hij, hgg, HI, HRk, HD, HF, HE⟩ := hrel
      have hdl : n = dk.length := (Kd.R_reads' HRk.out).1
      have HDL := Aside0.mk hdl
      clear hdl
      by_cases hlt : j < n
      · have hltz : (j : Int) < (n : Int) := by omega
        have hjl : j < l.length := by rw [← HN.out]; exact hlt
        have hjd : j < dk.length := by rw [← HDL.out]; exact hlt
        obtain ⟨cj, _⟩ := Kd.R_celln ByteArray.empty HRk.out (j : Int) (by omega) hltz
        obtain ⟨ci, fi⟩ := Kd.R_celln ByteArray.empty HRk.out (i : Int) (by omega) (by omega)
        rw [Int.toNat_natCast] at cj ci fi
        have hgj : rdOf ByteArray.empty dk (j : Int) = l[j] := by
          have h0 := congrArg List.head? HD.out
          rw [List.drop_eq_getElem_cons hjl, List.drop_eq_getElem_cons hjd] at h0
          have h1 : dk[j] = l[j] := Option.some.inj h0
          rw [← h1]
          simp [rdOf, List.getD, hjd]
        rw [hgj] at cj
        obtain ⟨x, hx⟩ : ∃ x, x = l[j] := ⟨_, rfl⟩
        rw [← hx] at cj
        generalize rdOf ByteArray.empty dk (i : Int) = old at ci
        have H := HF.out
        clear HF
        rw [List.drop_eq_getElem_cons hjl, filO, ← hx] at H
        obtain ⟨bb, hb, H⟩ := Option.bind_eq_some_iff.mp H
        have hcall := hp x bb wr hb HI.out
        have HD2 : dk.drop (j + 1) = l.drop (j + 1) := by
          have h0 := congrArg List.tail HD.out
          rwa [List.tail_drop, List.tail_drop] at h0
        have HD' := Aside0.mk HD2
        clear hb hgj HD2 HD hx
        have HX := Aside0.mk H
        clear H hjl hjd
        cases bb with
        | false =>
          have HX2 := HX.out
          rw [if_neg (by decide)] at HX2
          obtain ⟨rest', hr', hre⟩ := Option.map_eq_some_iff.mp HX2
          have HF' := Aside0.mk hr'
          have HRE := Aside0.mk hre
          clear HX HX2 hr' hre
          have ci' := fun W' (hb : Below wr.heap.size wr W') => pw_cell_below hb ci
          have fi' := fun W' (hb : Below wr.heap.size wr W') => (hb.frozen (p := ⟨b, i, none⟩) (World.block_lt_of_cell? wr ⟨b, i, none⟩ ci)).trans fi
          have CI := Aside0.mk ci'
          have FI := Aside0.mk fi'
          clear ci' fi' ci fi
          go_wp2_with (go_at_fn g; refine hcall.mono ?_; rintro e w' ⟨rfl, hb⟩; have HRb := Aside0.mk (Kd.R_below HRk.out hb); have HI2 := Aside0.mk (HM.out _ _ HI.out hb); have ci := CI.out _ hb; have fi := FI.out _ hb; clear hb)
          go_roundg (n - (j + 1))
          case measure => omega
          case rel =>
            refine ⟨i + 1, j + 1, dk.set i x, rest', by go_num, by go_num, by omega, by omega, by omega, ⟨HS.out _ _ _ HI2.out⟩, ⟨?_⟩, ⟨?_⟩, HF', ⟨?_⟩⟩
            · have := Kd.R_putn (enc := Value.string) HRb.out (i : Int) x
              rwa [Int.toNat_natCast] at this
            · rw [List.drop_set_of_lt (by omega)]
              exact HD'.out
            · rw [HE.out, ← HRE.out, List.take_add_one, List.take_set_of_le (Nat.le_refl _), List.getElem?_set_self (by rw [← HDL.out]; omega)]
              simp
        | true =>
          have HX2 := HX.out
          rw [if_pos rfl] at HX2
          have HF' := Aside0.mk HX2
          clear HX HX2 ci fi
          go_wp2_with (go_at_fn g; refine hcall.mono ?_; rintro e w' ⟨rfl, hb⟩; have HRb := Aside0.mk (Kd.R_below HRk.out hb); have HI2 := Aside0.mk (HM.out _ _ HI.out hb); clear hb)
          go_roundg (n - (j + 1))
          case measure => omega
          case rel => exact ⟨i, j + 1, dk, rest, rfl, by go_num, by omega, by omega, by omega, HI2, HRb, HD', HF', HE⟩
      · obtain rfl : j = n := by omega
        have hltz : ¬ (j : Int) < (j : Int) := by omega
        have hrest : rest = [] := by
          have := HF.out
          rw [List.drop_eq_nil_of_le (by rw [← HN.out]; exact Nat.le_refl _), filO] at this
          exact (Option.some.inj this).symm
        have hcl : ∀ ty, (Builtin.clear_ #[34] ty #[.slice (some ⟨b, i, none⟩) (j - i) (c - i)]).run Try.prog wr = .ok (.tuple #[]) (wr.setCells b i (List.replicate (j - i) (.string ByteArray.empty))) :=
          fun ty => Lib.run_clear_slice wr _ _ ty _ hu46 (fun w => by kernel_rfl) rfl rfl b i _ _ (by omega) (fun t ht => by have := (Kd.R_celln ByteArray.empty HRk.out ((i + t : Nat) : Int) (by omega) (by omega)).1; rw [Int.toNat_natCast] at this; rw [this]; rfl) (fun t ht => by have := (Kd.R_celln ByteArray.empty HRk.out ((i + t : Nat) : Int) (by omega) (by omega)).2; rwa [Int.toNat_natCast] at this)
        obtain ⟨l', ht1, ht2⟩ := R_tail (j - i) i wr dk ByteArray.empty HRk.out (by omega)
        have hset2 : ∀ (m q : Nat) (W : World), I W → I (W.setCells b q (List.replicate m (.string ByteArray.empty))) := by
          intro m
          induction m with
          | zero => exact fun q W h => h
          | succ m ih => exact fun q W h => ih (q + 1) _ (HS.out W q _ h)
        have HI9 := Aside0.mk (hset2 (j - i) i wr HI.out)
        have hres : res = l'.take i := by rw [ht2, HE.out, hrest, List.append_nil]
        have hrl : res.length = i := by rw [HE.out, hrest, List.append_nil, List.length_take, ← HDL.out]; omega
        have HR9 := Aside0.mk (Kd.R_take ht1 (m := i) (by have := (Kd.R_reads' ht1).1; omega))
        have HRES := Aside0.mk hres
        have HRL := Aside0.mk hrl
        clear hset2 ht1 ht2 hres hrl hrest hp
        go_wp2
        go_ret
        rw [HRL.out]
        refine ⟨rfl, ?_, HI9.out⟩
        rw [HRES.out]
        exact HR9.out


/-! ### impl_Lock_play_1: function 79 -/
def play1 (k : Nat) (h : S31) (x : ByteArray) : Option Bool := (impl_fits.f k [h] x).map (fun b => !b)
theorem play1_mono (k : Nat) (h : S31) (x : ByteArray) : LeO (play1 k h x) (play1 (k + 1) h x) := LeO.map _ (impl_fits.mono _ _ _)
theorem play1_lit (W : World) (h : S31) (n : Nat) (hn : n = W.heap.size) : Kd.C k31 (W.alloc (.cells #[.string h.f0, .int .i64 h.f1, .int .i64 h.f2] 31)) (some ⟨n, 0, none⟩) 1 [h] :=
  (Kd.R_reads' (hw_R_lit k31 W 31 0 n (xs := [h]) (inner := [.string h.f0, .int .i64 h.f1, .int .i64 h.f2]) (ok := fun _ => True) (okp := fun _ => False) hn
    (Reps.c3 (k31_mkM W 0 _ h) (Reps.none _ _)) (fun _ hk => hk.elim) trivial (Nat.zero_le _) (by simp))).2.2
set_option maxHeartbeats 4000000 in
set_option maxRecDepth 100000 in
theorem play1_calls (k B : Nat) (h : S31) (x : ByteArray) (r : Bool) (w : World) (hb : w.heap[B]? = some (.cells #[.string h.f0, .int .i64 h.f1, .int .i64 h.f2] 31 (0, 0))) (hr : play1 k h x = some r) :
    Calls Try.prog 79 #[.string x, .pointer (some ⟨B, 0, none⟩)] w fun e w' => e = .returned (.bool r) ∧ Below w.heap.size w w' := by
  have hu75 := Try.underlying31
  have hu9 := Try.underlying9
  unfold play1 at hr
  obtain ⟨t, ht, e1⟩ := Option.map_eq_some_iff.mp hr
  subst e1
  have hc0 : w.cell? ⟨B, 0, none⟩ = some (.string h.f0) := (blk_cell hb 0).trans rfl
  have hc1 : w.cell? ⟨B, 1, none⟩ = some (.int .i64 h.f1) := (blk_cell hb 1).trans rfl
  have hc2 : w.cell? ⟨B, 2, none⟩ = some (.int .i64 h.f2) := (blk_cell hb 2).trans rfl
  have hf : ∀ W A0, Kd.C k31 W A0 1 [h] → Calls Try.prog 68 #[.slice A0 1 1, .string x] W fun e w' => e = .returned (.bool t) ∧ Below W.heap.size W w' := fun W A0 hc => impl_fits.calls k A0 1 [h] x t W hc (by simp) ht
  have hl := play1_lit w h w.heap.size rfl
  clear hb hr ht
  go_enter Try.func79, Try.ntmps79
  go_wp2_with (go_at_call 68; refine (hf _ _ hl).mono ?_; rintro e w1 ⟨rfl, hb⟩; have HB := Aside0.mk hb; clear hb)
  go_ret
  exact ⟨rfl, below_then (below_alloc (Below.refl _ _) _) (by simp) HB.out⟩


/-! ### impl_Lock_play: function 44 -/
def playL (k : Nat) (code : ByteArray) : Nat → List S31 → List ByteArray → Option (List S31 × Bool)
  | 0, _, _ => none
  | m + 1, out, left => if out.length < 200 then
      (if 0 < left.length ∧ left.length ≤ 1000000000000000000 then
        (impl_hint.f k (rdOf ByteArray.empty left 0) code).bind fun t =>
          if (rdOf ByteArray.empty left 0).toList = code.toList then some (out ++ [⟨rdOf ByteArray.empty left 0, t.1, t.2⟩], true)
          else (filO (play1 k ⟨rdOf ByteArray.empty left 0, t.1, t.2⟩) left).bind fun l2 => playL k code m (out ++ [⟨rdOf ByteArray.empty left 0, t.1, t.2⟩]) l2
      else none) else some ([], false)
def impl_Lock_play.f (k : Nat) (a b : Int) (c : ByteArray) : Option (List S31 × Bool) := (impl_Lock_fitting.f k a b []).bind fun l => playL k c 202 [] l
theorem playL_mono (k : Nat) (c : ByteArray) : ∀ m out l, LeO (playL k c m out l) (playL (k + 1) c m out l)
  | 0, _, _ => LeO.refl _
  | m + 1, out, l => LeO.ite (LeO.ite (LeO.bind (impl_hint.mono _ _ _) (fun t => LeO.ite (LeO.refl _) (LeO.bind (filO_mono (fun x => play1_mono k _ x) _) (fun l2 => playL_mono k c m _ l2)))) (LeO.refl _)) (LeO.refl _)
theorem impl_Lock_play.mono : ∀ a b c k, LeO (impl_Lock_play.f k a b c) (impl_Lock_play.f (k + 1) a b c) := fun a b c k => LeO.bind (impl_Lock_fitting.mono _ _ _ _) (fun l => playL_mono k c _ _ l)
theorem play_put {w3 : World} {B : Nat} (h : w3.heap[B]? = some (.cells #[.string (⟨#[]⟩ : ByteArray), .int .i64 0, .int .i64 0] 31 (0, 0))) (g : ByteArray) (p o : Int) :
    (((w3.setCell ⟨B, 0, none⟩ (.string g)).setCell ⟨B, 1, none⟩ (.int .i64 p)).setCell ⟨B, 2, none⟩ (.int .i64 o)).heap[B]? = some (.cells #[.string g, .int .i64 p, .int .i64 o] 31 (0, 0)) :=
  blk_put (cs := #[.string g, .int .i64 p, .int .i64 0]) (blk_put (cs := #[.string g, .int .i64 0, .int .i64 0]) (blk_put (cs := #[.string (⟨#[]⟩ : ByteArray), .int .i64 0, .int .i64 0]) h 0 _ rfl) 1 _ rfl) 2 _ rfl
theorem play_far {α : Type} {d : Kd α} {e base : Nat} {ok : Nat → Prop} {w3 : World} {v : Value} {xs : List α} (h : d.R e w3 base ok v xs) (B : Nat) (hne : ∀ k, ok k → k ≠ B) (g : ByteArray) (p o : Int) :
    d.R e (((w3.setCell ⟨B, 0, none⟩ (.string g)).setCell ⟨B, 1, none⟩ (.int .i64 p)).setCell ⟨B, 2, none⟩ (.int .i64 o)) base ok v xs :=
  Kd.R_far (p := ⟨B, 2, none⟩) (Kd.R_far (p := ⟨B, 1, none⟩) (Kd.R_far (p := ⟨B, 0, none⟩) h hne (.string g)) hne (.int .i64 p)) hne (.int .i64 o)
theorem play_bel {w w3 : World} {B : Nat} (h : Below w.heap.size w w3) (hB : w.heap.size ≤ B) (g : ByteArray) (p o : Int) :
    Below w.heap.size w (((w3.setCell ⟨B, 0, none⟩ (.string g)).setCell ⟨B, 1, none⟩ (.int .i64 p)).setCell ⟨B, 2, none⟩ (.int .i64 o)) := below_set (below_set (below_set h hB) hB) hB
theorem play_fresh {w3 : World} {B b : Nat} (hb : b < w3.heap.size) (h : w3.heap[B]? = some (.cells #[.string (⟨#[]⟩ : ByteArray), .int .i64 0, .int .i64 0] 31 (0, 0))) (g : ByteArray) (p o : Int) (k : Nat)
    (hk : (((w3.setCell ⟨B, 0, none⟩ (.string g)).setCell ⟨B, 1, none⟩ (.int .i64 p)).setCell ⟨B, 2, none⟩ (.int .i64 o)).heap.size ≤ k) : k ≠ b ∧ k ≠ B := by
  have h1 := blk_lt h
  simp only [World.size_setCell] at hk
  omega
structure playInv (w0 : World) (B : Nat) (h : S31) (b : Nat) (v : Value) (out : List S31) (W : World) : Prop where
  blk : W.heap[B]? = some (.cells #[.string h.f0, .int .i64 h.f1, .int .i64 h.f2] 31 (0, 0))
  bel : Below w0.heap.size w0 W
  row : Kd.R k31 31 W w0.heap.size (fun k => k ≠ b) v out
theorem playInv.grow {w0 : World} {B : Nat} {h : S31} {b : Nat} {v : Value} {out : List S31} {W W' : World} (hi : playInv w0 B h b v out W) (hb : Below W.heap.size W W') : playInv w0 B h b v out W' :=
  ⟨blk_below hi.blk hb, below_then hi.bel hi.bel.size hb, Kd.R_below hi.row hb⟩
theorem playInv.set {w0 : World} {B : Nat} {h : S31} {b : Nat} {v : Value} {out : List S31} {W : World} (hi : playInv w0 B h b v out W) (hB : B ≠ b) (hb : w0.heap.size ≤ b) (j : Nat) (u : Value) : playInv w0 B h b v out (W.setCell ⟨b, j, none⟩ u) :=
  ⟨blk_far hi.blk hB u, below_set hi.bel hb, Kd.R_far hi.row (p := ⟨b, j, none⟩) (fun _ hk => hk) u⟩
set_option maxHeartbeats 8000000 in
set_option maxRecDepth 100000 in
theorem impl_Lock_play.calls (k : Nat) (a b : Int) (c : ByteArray) (r : List S31) (r2 : Bool) (w : World) (h : impl_Lock_play.f k a b c = some (r, r2)) :
    Calls Try.prog 44 #[.agg #[.int .i64 a, .int .i64 b], .string c] w fun e w' => ∃ v0_ : Value, e = .returned (.tuple #[v0_, .bool r2]) ∧ Kd.R k31 31 w' w.heap.size (fun _ => True) v0_ r ∧ Below w.heap.size w w' := by
  have hu26 := Try.underlying23
  have hu75 := Try.underlying31
  have hu9 := Try.underlying9
  have hin75 : (Try.prog.info? 31).map (fun i => (i.zero, i.size, i.bytes)) = some (some (.agg #[(.string ⟨#[]⟩), (.int .i64 0), (.int .i64 0)]), 3, 32) := by kernel_rfl
  unfold impl_Lock_play.f at h
  obtain ⟨l, hl, h⟩ := Option.bind_eq_some_iff.mp h
  have hfit : ∀ W, Calls Try.prog 50 #[.agg #[.int .i64 a, .int .i64 b], .slice none 0 0] W _ := fun W => impl_Lock_fitting.calls k a b none 0 [] l W (Kd.C_nil _ _) (by simp) hl
  by_cases hl0 : 0 < l.length
  case neg => exact absurd h (by rw [playL, if_pos (by simp), if_neg (by omega)]; simp)
  have HL0 := Aside0.mk hl0
  have H := Aside0.mk h
  clear h hl hl0
  have HIN := Aside0.mk hin75
  clear hin75
  go_enter Try.func44, Try.ntmps44
  go_wp2_with (go_at_call 50; refine (hfit _).mono ?_; rintro e w1 ⟨vl, rfl, hr, hb⟩; have HL := Aside0.mk hr; have HB := Aside0.mk hb; clear hr hb)
  have HB1 : Aside0 (Below w.heap.size w w1) := ⟨below_then (below_alloc (below_alloc (Below.refl _ _) _) _) (by simp only [World.size_alloc]; omega) HB.out⟩
  obtain ⟨b', cp, rfl, hb1, hb2, _⟩ := Kd.R_form HL.out HL0.out
  simp only [World.size_alloc] at hb1
  have HLb : Aside0 (Kd.R Kd.string 9 w1 w.heap.size (fun k => k = b') (.slice (some ⟨b', 0, none⟩) l.length cp) l) := ⟨Kd.R_reok rfl (Kd.R_lower HL.out (by simp only [World.size_alloc]; omega)) (fun k hk => by simpa [Value.ownBlock] using hk.symm)⟩
  have HO : Aside0 (Kd.R k31 31 w1 w.heap.size (fun k => k ≠ b') (.slice (some ⟨w.heap.size + 1, 0, none⟩) 0 0) []) := ⟨Kd.R_below (hw_R_lit k31 (w.alloc (.cells #[.int .i64 a, .int .i64 b] 23)) 31 w.heap.size (w.heap.size + 1) (xs := []) (inner := []) (okp := fun _ => False) (by simp) (Reps.none _ _) (fun _ hk => hk.elim) (by simp only [World.size_alloc]; omega) (by simp only [World.size_alloc]; omega) (by simp)) HB.out⟩
  have HBW : Aside0 (w.heap.size ≤ b') := ⟨by omega⟩
  clear HB hfit HL hb1 hb2
  go_loopg [6, 7] 202 (fun gg v6 v7 wr => ∃ (out : List S31) (left : List ByteArray) (n : Nat), v7 = .slice (some ⟨b', 0, none⟩) n cp ∧ Aside0 (playL k c gg out left = some (r, r2)) ∧ Aside0 (Below w.heap.size w wr) ∧ Aside0 (Kd.R k31 31 wr w.heap.size (fun k => k ≠ b') v6 out) ∧ Aside0 (Kd.R Kd.string 9 wr w.heap.size (fun k => k = b') (.slice (some ⟨b', 0, none⟩) n cp) left))
  case atStart => exact ⟨[], l, l.length, rfl, H, HB1, HO, HLb⟩
  case round =>
    clear H HB1 HO HLb HL0
    obtain ⟨out, left, n, rfl, HP, HB, HO, HL⟩ := hrel
    cases gk with
    | zero => exact absurd HP.out (by simp [playL])
    | succ m =>
      have H := HP.out
      clear HP
      rw [playL] at H
      obtain ⟨A6, c6, e6⟩ := Kd.R_slice HO.out
      subst e6
      by_cases h200 : out.length < 200
      · rw [if_pos h200] at H
        have h200z : decide ((out.length : Int) < 200) = true := decide_eq_true (by omega)
        have h200' : out.length < 200 := h200
        have HLEN := Aside0.mk h200
        clear h200 h200'
        by_cases hlen : 0 < left.length ∧ left.length ≤ 1000000000000000000
        case neg => rw [if_neg hlen] at H; exact absurd H (by simp)
        rw [if_pos hlen] at H
        obtain ⟨⟨p, o⟩, hh, H⟩ := Option.bind_eq_some_iff.mp H
        dsimp only at H
        obtain ⟨hn, hnc, _⟩ := Kd.R_reads' HL.out
        have hn0 : 0 < n := by omega
        have hbs : b' < wr.heap.size := Kd.R_lt HL.out b' rfl
        have HBS := Aside0.mk hbs
        have HLn : Aside0 (n ≤ 1000000000000000000) := ⟨by omega⟩
        clear hn hnc hbs
        obtain ⟨cx, _⟩ := Kd.R_celln ByteArray.empty HL.out (0 : Int) (by omega) (by omega)
        rw [show ((0 : Int)).toNat = 0 from rfl] at cx
        obtain ⟨g, hg⟩ : ∃ g, g = rdOf ByteArray.empty left 0 := ⟨_, rfl⟩
        rw [← hg] at cx H hh
        have hhint : ∀ W, Calls Try.prog 48 #[.string g, .string c] W fun e w' => e = .returned (.tuple #[.int .i64 p, .int .i64 o]) ∧ Below W.heap.size W w' := fun W => impl_hint.calls k g c p o W hh
        clear hg hh hlen
        by_cases he : g.toList = c.toList
        · rw [if_pos he] at H
          have hb0 : (g.toList == c.toList) = true := beq_iff_eq.mpr he
          have hb1 : (g.toList != c.toList) = false := bne_eq_false_iff_eq.mpr he
          clear he
          obtain ⟨h1, h2⟩ : out ++ [⟨g, p, o⟩] = r ∧ true = r2 := by simpa using H
          subst h2
          have HE := Aside0.mk h1
          clear h1 H
          go_wp2_with (first | (go_at_call 48; refine (hhint _).mono ?_; rintro e w2 ⟨rfl, hb⟩; have n0 := Aside0.mk (Kd.R_below HO.out hb); have n1 := Aside0.mk (Kd.R_below HL.out hb); have n2 := Aside0.mk (below_then HB.out HB.out.size hb); have n3 := Aside0.mk (Nat.lt_of_lt_of_le HBS.out hb.size); clear HO HL HB HBS hb; have HO := n0; have HL := n1; have HB := n2; have HBS := n3; clear n0 n1 n2 n3) | ((with_reducible refine gate_dst (N := 11) rfl ?_); refine box_event ?hg (N := 11) ?hd (cs := #[.string (⟨#[]⟩ : ByteArray), .int .i64 0, .int .i64 0]) (t := 31) ?hr ?_; (case hd => rfl); (case hg => rfl); (case hr => first | (go_simp; done) | (go_simp; rfl)); intro B hg w3 hbox hb; have n0 := Aside0.mk (Kd.R_below (Kd.R_elderB HO.out B (Nat.le_of_eq hg.symm)) hb); have n1 := Aside0.mk (Kd.R_below HL.out hb); have n2 := Aside0.mk (below_then HB.out HB.out.size hb); have BK := Aside0.mk hbox; have GE : Aside0 (w.heap.size ≤ B) := ⟨by rw [hg]; exact HB.out.size⟩; have NB : Aside0 (B ≠ b') := ⟨by rw [hg]; exact Nat.ne_of_gt HBS.out⟩; have n3 := Aside0.mk (Nat.lt_of_lt_of_le HBS.out hb.size); clear HO HL HB HBS hb hbox hg; have HO := n0; have HL := n1; have HB := n2; have HBS := n3; clear n0 n1 n2 n3; have hcz0 : w3.cell? ⟨B, 0, none⟩ = some (.string (⟨#[]⟩ : ByteArray)) := (blk_cell BK.out 0).trans rfl; have hcz1 : w3.cell? ⟨B, 1, none⟩ = some (.int .i64 0) := (blk_cell BK.out 1).trans rfl; have hcz2 : w3.cell? ⟨B, 2, none⟩ = some (.int .i64 0) := (blk_cell BK.out 2).trans rfl; have hfz0 := blk_frozen BK.out 0; have hfz1 := blk_frozen BK.out 1; have hfz2 := blk_frozen BK.out 2) | ((with_reducible refine gate_builtin (b := .append) (xs := #[.tmp 31, .tmp 33]) rfl ?_); at_builtin; refine Kd.R_append k31 (w0 := w) w.heap.size rfl (.tmp 31) (.tmp 33) 24 31 (.agg #[(.string ⟨#[]⟩), (.int .i64 0), (.int .i64 0)]) 32 rfl Try.underlying24 HIN.out rfl (by decide) (by omega) (.slice A6 out.length c6) out (⟨g, p, o⟩ : S31) [.string g, .int .i64 p, .int .i64 o] (fun k_ => k_ ≠ b' ∧ k_ ≠ B) (fun _ => False) rfl (by first | (go_simp; done) | (go_simp; rfl)) ?aP (fun _ hk => hk.elim) ?aF ?aO ?aB ?aS ?aL ?_; (case aP => exact k31_mkM _ _ _ (⟨g, p, o⟩ : S31)); (case aF => exact (fun k_ hk => play_fresh HBS.out BK.out g p o k_ hk)); (case aO => exact play_far HO.out B (fun _ hk => hk.2) g p o); (case aB => exact play_bel HB.out GE.out g p o); (case aS => exact (play_bel HB.out GE.out g p o).size); (case aL => have := HLEN.out; omega); intro v1 w4 ho hb hg hat; have n0 := Aside0.mk (Kd.R_mono ho (fun _ hk => hk.1)); have n1 := Aside0.mk (Kd.R_grown (play_far HL.out B (fun k_ hk => by rw [hk]; exact (Ne.symm NB.out)) g p o) hg (fun k_ hk he => (HO.out.1 k_ he.symm).1 hk)); have n2 := Aside0.mk hb; have n3 := Aside0.mk (blk_grown (play_put BK.out g p o) hg (fun he => (HO.out.1 B he.symm).2 rfl)); clear HO HL HB BK HBS ho hb hg hat; have HO := n0; have HL := n1; have HB := n2; have BK := n3; clear n0 n1 n2 n3))
          go_ret2
          exact ⟨_, rfl, by rw [← HE.out]; exact Kd.R_mono HO.out (fun _ _ => trivial), HB.out⟩
        · rw [if_neg he] at H
          have hb0 : (g.toList == c.toList) = false := beq_eq_false_iff_ne.mpr he
          have hb1 : (g.toList != c.toList) = true := bne_iff_ne.mpr he
          obtain ⟨l2, hf, H⟩ := Option.bind_eq_some_iff.mp H
          have HF := Aside0.mk hf
          have HP := Aside0.mk H
          clear H hf he
          have hdel : ∀ (B : Nat) (v : Value) (W : World), B ≠ b' → playInv w B ⟨g, p, o⟩ b' v (out ++ [⟨g, p, o⟩]) W → Kd.R Kd.string 9 W w.heap.size (fun k => k = b') (.slice (some ⟨b', 0, none⟩) n cp) left → Calls Try.prog 78 #[.slice (some ⟨b', 0, none⟩) n cp, .func (.func 79) #[] #[.pointer (some ⟨B, 0, none⟩)]] W fun e w' => e = .returned (.slice (some ⟨b', 0, none⟩) l2.length cp) ∧ Kd.R Kd.string 9 w' w.heap.size (fun k => k = b') (.slice (some ⟨b', 0, none⟩) l2.length cp) l2 ∧ playInv w B ⟨g, p, o⟩ b' v (out ++ [⟨g, p, o⟩]) w' :=
            fun B v W hne hi hr => delS_calls 79 #[.pointer (some ⟨B, 0, none⟩)] (play1 k ⟨g, p, o⟩) (playInv w B ⟨g, p, o⟩ b' v (out ++ [⟨g, p, o⟩])) w.heap.size b' n cp left l2 W (fun _ _ => rfl) hr HLn.out HF.out hi (fun _ _ hi hb => hi.grow hb) (fun _ j u hi => hi.set hne HBW.out j u) (fun x bb W hx hi => play1_calls k B ⟨g, p, o⟩ x bb W hi.blk hx)
          have HDEL := Aside0.mk hdel
          clear hdel
          go_wp2_with (first | (go_at_call 48; refine (hhint _).mono ?_; rintro e w2 ⟨rfl, hb⟩; have n0 := Aside0.mk (Kd.R_below HO.out hb); have n1 := Aside0.mk (Kd.R_below HL.out hb); have n2 := Aside0.mk (below_then HB.out HB.out.size hb); have n3 := Aside0.mk (Nat.lt_of_lt_of_le HBS.out hb.size); clear HO HL HB HBS hb; have HO := n0; have HL := n1; have HB := n2; have HBS := n3; clear n0 n1 n2 n3) | ((with_reducible refine gate_dst (N := 11) rfl ?_); refine box_event ?hg (N := 11) ?hd (cs := #[.string (⟨#[]⟩ : ByteArray), .int .i64 0, .int .i64 0]) (t := 31) ?hr ?_; (case hd => rfl); (case hg => rfl); (case hr => first | (go_simp; done) | (go_simp; rfl)); intro B hg w3 hbox hb; have n0 := Aside0.mk (Kd.R_below (Kd.R_elderB HO.out B (Nat.le_of_eq hg.symm)) hb); have n1 := Aside0.mk (Kd.R_below HL.out hb); have n2 := Aside0.mk (below_then HB.out HB.out.size hb); have BK := Aside0.mk hbox; have GE : Aside0 (w.heap.size ≤ B) := ⟨by rw [hg]; exact HB.out.size⟩; have NB : Aside0 (B ≠ b') := ⟨by rw [hg]; exact Nat.ne_of_gt HBS.out⟩; have n3 := Aside0.mk (Nat.lt_of_lt_of_le HBS.out hb.size); clear HO HL HB HBS hb hbox hg; have HO := n0; have HL := n1; have HB := n2; have HBS := n3; clear n0 n1 n2 n3; have hcz0 : w3.cell? ⟨B, 0, none⟩ = some (.string (⟨#[]⟩ : ByteArray)) := (blk_cell BK.out 0).trans rfl; have hcz1 : w3.cell? ⟨B, 1, none⟩ = some (.int .i64 0) := (blk_cell BK.out 1).trans rfl; have hcz2 : w3.cell? ⟨B, 2, none⟩ = some (.int .i64 0) := (blk_cell BK.out 2).trans rfl; have hfz0 := blk_frozen BK.out 0; have hfz1 := blk_frozen BK.out 1; have hfz2 := blk_frozen BK.out 2) | ((with_reducible refine gate_builtin (b := .append) (xs := #[.tmp 31, .tmp 33]) rfl ?_); at_builtin; refine Kd.R_append k31 (w0 := w) w.heap.size rfl (.tmp 31) (.tmp 33) 24 31 (.agg #[(.string ⟨#[]⟩), (.int .i64 0), (.int .i64 0)]) 32 rfl Try.underlying24 HIN.out rfl (by decide) (by omega) (.slice A6 out.length c6) out (⟨g, p, o⟩ : S31) [.string g, .int .i64 p, .int .i64 o] (fun k_ => k_ ≠ b' ∧ k_ ≠ B) (fun _ => False) rfl (by first | (go_simp; done) | (go_simp; rfl)) ?aP (fun _ hk => hk.elim) ?aF ?aO ?aB ?aS ?aL ?_; (case aP => exact k31_mkM _ _ _ (⟨g, p, o⟩ : S31)); (case aF => exact (fun k_ hk => play_fresh HBS.out BK.out g p o k_ hk)); (case aO => exact play_far HO.out B (fun _ hk => hk.2) g p o); (case aB => exact play_bel HB.out GE.out g p o); (case aS => exact (play_bel HB.out GE.out g p o).size); (case aL => have := HLEN.out; omega); intro v1 w4 ho hb hg hat; have n0 := Aside0.mk (Kd.R_mono ho (fun _ hk => hk.1)); have n1 := Aside0.mk (Kd.R_grown (play_far HL.out B (fun k_ hk => by rw [hk]; exact (Ne.symm NB.out)) g p o) hg (fun k_ hk he => (HO.out.1 k_ he.symm).1 hk)); have n2 := Aside0.mk hb; have n3 := Aside0.mk (blk_grown (play_put BK.out g p o) hg (fun he => (HO.out.1 B he.symm).2 rfl)); clear HO HL HB BK HBS ho hb hg hat; have HO := n0; have HL := n1; have HB := n2; have BK := n3; clear n0 n1 n2 n3) | (go_at_call 78; refine (HDEL.out _ _ _ NB.out ⟨BK.out, HB.out, HO.out⟩ HL.out).mono ?_; rintro e w5 ⟨rfl, hr, hi⟩; have HL9 := Aside0.mk hr; have HI9 := Aside0.mk hi; clear hr hi))
          go_roundg m
          case measure => omega
          case rel => exact ⟨out ++ [⟨g, p, o⟩], l2, l2.length, rfl, HP, ⟨HI9.out.bel⟩, ⟨HI9.out.row⟩, HL9⟩
      · rw [if_neg h200] at H
        have h200z : decide ((out.length : Int) < 200) = false := decide_eq_false (by omega)
        obtain ⟨h1, h2⟩ : [] = r ∧ false = r2 := by simpa using H
        subst h1 h2
        clear H h200
        go_wp2
        go_ret2
        exact ⟨_, rfl, Kd.R_nil _ _ _ _ _, HB.out⟩

/-! ### impl_PlayFirst: function 5 -/
def impl_PlayFirst.f (k : Nat) (a0_0 : Int) (a0_1 : Int) (a1 : ByteArray) : Option ((List (S31)) × Bool) := (impl_isHinted.f k a0_0 a0_1 (([a1] : List ByteArray))).bind fun t150 => (if t150 = true then ((impl_Lock_play.f k a0_0 a0_1 a1).bind fun bt151 => (some (bt151.1, bt151.2))) else (some (([] : List (S31)), false)))
theorem impl_PlayFirst.mono : ∀ a0 a1 a2 k, LeO (impl_PlayFirst.f k a0 a1 a2) (impl_PlayFirst.f (k + 1) a0 a1 a2) := by
  intro a0 a1 a2 k
  unfold impl_PlayFirst.f
  repeat' first
      | (with_reducible exact impl_Lock_play.mono _ _ _ _)
      | (with_reducible exact impl_isHinted.mono _ _ _ _)
      | (with_reducible exact LeO.refl _)
      | (with_reducible exact LeO.none _)
      | (with_reducible refine LeO.ite ?_ ?_)
      | (with_reducible refine LeO.bind ?_ (fun _ => ?_))
      | exact impl_Lock_play.mono _ _ _ _
      | exact impl_isHinted.mono _ _ _ _
      | exact LeO.none _
      | refine LeO.ite ?_ ?_
      | refine LeO.bind ?_ (fun _ => ?_)
set_option maxHeartbeats 8000000 in
set_option maxRecDepth 100000 in
theorem impl_PlayFirst.calls (k : Nat) (a0_0 : Int) (a0_1 : Int) (a1 : ByteArray) (r1 : List (S31)) (r2 : Bool) (w : World) (h : impl_PlayFirst.f k a0_0 a0_1 a1 = some (r1, r2)) :
    Calls Try.prog 5 #[.agg #[.int .i64 a0_0, .int .i64 a0_1], .string a1] w fun e w' => ∃ v0_ : Value, e = .returned (.tuple #[v0_, .bool r2]) ∧ Kd.R k31 31 w' w.heap.size (fun _ => True) v0_ r1 ∧ Below w.heap.size w w' := by
  have hu23 := Try.underlying23
  have HB := Aside0.mk (Below.refl w.heap.size w)
  have H : ((impl_isHinted.f k a0_0 a0_1 (([a1] : List ByteArray))).bind fun t150 => (if t150 = true then ((impl_Lock_play.f k a0_0 a0_1 a1).bind fun bt151 => (some (bt151.1, bt151.2))) else (some (([] : List (S31)), false)))) = some (r1, r2) := h
  clear h
  obtain ⟨y147, hy147⟩ : ∃ y_ : List ByteArray, y_ = (([a1] : List ByteArray)) := ⟨_, rfl⟩
  replace H : ((impl_isHinted.f k a0_0 a0_1 y147).bind fun t150 => (if t150 = true then ((impl_Lock_play.f k a0_0 a0_1 a1).bind fun bt151 => (some (bt151.1, bt151.2))) else (some (([] : List (S31)), false)))) = some (r1, r2) := by first | (rw [hy147]; with_reducible exact H) | (have H2_ := (Option.bind_some _ _).symm.trans H; rw [hy147]; with_reducible exact H2_) | (have H2_ := (Option.bind_some _ _).symm.trans H; with_reducible exact H2_) | with_reducible exact H | (rw [hy147]; exact H) | exact H
  have Ny147 := Aside0.mk hy147
  clear hy147
  replace H := Option.bind_eq_some_iff.mp H
  obtain ⟨t150, A30, H⟩ := H
  replace H : (if t150 = true then ((impl_Lock_play.f k a0_0 a0_1 a1).bind fun bt151 => (some (bt151.1, bt151.2))) else (some (([] : List (S31)), false))) = some (r1, r2) := H
  have A3 := Aside0.mk A30
  clear A30
  by_cases c4 : t150 = true
  · subst c4
    have H1 : ((impl_Lock_play.f k a0_0 a0_1 a1).bind fun bt151 => (some (bt151.1, bt151.2))) = some (r1, r2) := by rw [if_pos rfl] at H; exact H
    clear H
    have H := H1
    clear H1
    replace H := Option.bind_eq_some_iff.mp H
    obtain ⟨⟨t151, t154⟩, A50, H⟩ := H
    replace H : (some (t151, t154)) = some (r1, r2) := H
    have A5 := Aside0.mk A50
    clear A50
    simp only [Option.some.injEq, Prod.mk.injEq] at H
    obtain ⟨rfl, rfl⟩ := H
    go_enter Try.func5, Try.ntmps5
    go_wp2_with (first | ((with_reducible refine gate_dst (N := 2) rfl ?_); refine box_event ?hg (N := 2) ?hd (cs := #[.int .i64 a0_0, .int .i64 a0_1]) (t := 23) ?hr ?_; (case hd => rfl); (case hg => rfl); (case hr => first | (go_simp; done) | (go_simp; rfl)); intro gb146 hg w6 hbox hb; have n0_ := Aside0.mk (below_step (by repeat (first | (with_reducible first | exact HB.out | apply below_alloc | apply pw_below_drewN | apply below_drew1) | exact HB.out)) hb); have n1_ := Aside0.mk (hbox); have n2_ := Aside0.mk ((by rw [hg]; exact (below_size (by repeat (first | (with_reducible first | exact HB.out | apply below_alloc | apply pw_below_drewN | apply below_drew1) | exact HB.out))) : w.heap.size ≤ gb146)); have n3_ := Aside0.mk ((by rw [hg]; exact (below_size (by repeat (first | (with_reducible first | exact HB.out | apply below_alloc | apply pw_below_drewN | apply below_drew1) | exact HB.out))) : w.heap.size ≤ gb146)); clear HB; have HB := n0_; have BK146 := n1_; have GW146 := n2_; have GE146 := n3_; clear n0_ n1_ n2_ n3_; clear hb hbox hg; have hcz7_0 : w6.cell? ⟨gb146, 0, none⟩ = some (.int .i64 a0_0) := (blk_cell BK146.out 0).trans rfl; have hcz7_1 : w6.cell? ⟨gb146, 1, none⟩ = some (.int .i64 a0_1) := (blk_cell BK146.out 1).trans rfl; have hfz7_0 := blk_frozen BK146.out 0; have hfz7_1 := blk_frozen BK146.out 1) | ((with_reducible refine gate_dst (N := 8) rfl ?_); refine Kd.R_lit Kd.string _ 9 ?hg (N := 8) ?hd (xs := ([a1] : List ByteArray)) (inner := [.string a1]) (ok := fun _ => True) (okp := fun _ => True) ?hr ?hp (fun _ hk => hk) trivial (Below.refl _ _) (Nat.le_refl _) (by simp) ?_; (case hd => rfl); (case hg => rfl); (case hr => first | (go_simp; done) | (go_simp; rfl)); (case hp => exact (Reps.one (show Kd.M Kd.string _ _ _ a1 [.string a1] from rfl) (Reps.none _ _))); intro v148 w8 ho9 hb hg_ hnew_; clear hg_ hnew_; (first | rw [← Ny147.out] at ho9 | (simp only [Int.reduceToNat] at ho9; rw [← Ny147.out] at ho9)); have n0_ := Aside0.mk (Kd.R_lower ho9 (below_size (by repeat (first | (with_reducible first | exact HB.out | apply below_alloc | apply pw_below_drewN | apply below_drew1 | refine below_set ?_ GE146.out) | exact HB.out)))); have n1_ := Aside0.mk (blk_below (g := gb146) (o := .cells #[.int .i64 a0_0, .int .i64 a0_1] 23 (0, 0)) (by (with_reducible repeat (first | refine blk_drewN ?_ _ | refine blk_drew ?_ | refine blk_alloc ?_ _)); exact BK146.out) hb); have n2_ := Aside0.mk (below_step (by repeat (first | (with_reducible first | exact HB.out | apply below_alloc | apply pw_below_drewN | apply below_drew1 | refine below_set ?_ GE146.out) | exact HB.out)) hb); clear BK146; clear HB; have HO149 := n0_; have BK146 := n1_; have HB := n2_; clear n0_ n1_ n2_; clear hb ho9; obtain ⟨Ao10, co10, eo10⟩ := Kd.R_slice HO149.out; subst eo10) | ((with_reducible refine gate_callee (f := 43) rfl ?_); refine goesL_ (some 9) rfl rfl Try.func43 (by kernel_rfl) rfl #[.agg #[.int .i64 a0_0, .int .i64 a0_1], .slice Ao10 y147.length co10] rfl (by (try simp only [List.map_toArray, List.map_cons, List.map_nil]); first | done | rfl | (simp only [List.length_drop, List.length_take]; rfl)) ?_; (with_reducible refine (impl_isHinted.calls k a0_0 a0_1 _ _ y147 true _ ?side1 ?side2 A3.out).mono ?_); (case side1 => repeat (first | exact (Kd.R_reads' HO149.out).2.2 | (with_reducible refine Kd.C_alloc ?_ _) | (with_reducible refine Kd.C_drewN ?_ _) | (with_reducible refine Kd.C_drew ?_))); (case side2 => exact (Kd.R_reads' HO149.out).2.1); rintro e w11 ⟨rfl, hb⟩; refine ⟨_, rfl, ?_⟩; have n0_ := Aside0.mk (Kd.R_below (by (with_reducible repeat (first | apply Kd.R_alloc | apply Kd.R_drewN | apply Kd.R_drew)); exact HO149.out) hb); have n1_ := Aside0.mk (blk_below (g := gb146) (o := .cells #[.int .i64 a0_0, .int .i64 a0_1] 23 (0, 0)) (by (with_reducible repeat (first | refine blk_drewN ?_ _ | refine blk_drew ?_ | refine blk_alloc ?_ _)); exact BK146.out) hb); have n2_ := Aside0.mk (below_step (by repeat (first | (with_reducible first | exact HB.out | apply below_alloc | apply pw_below_drewN | apply below_drew1 | refine below_set ?_ GE146.out) | exact HB.out)) hb); clear HO149; clear BK146; clear HB; have HO149 := n0_; have BK146 := n1_; have HB := n2_; clear n0_ n1_ n2_; (try clear hb); (try clear hb2); (try clear hk); (try clear hi); have hcz12_0 : w11.cell? ⟨gb146, 0, none⟩ = some (.int .i64 a0_0) := (blk_cell BK146.out 0).trans rfl; have hcz12_1 : w11.cell? ⟨gb146, 1, none⟩ = some (.int .i64 a0_1) := (blk_cell BK146.out 1).trans rfl; have hfz12_0 := blk_frozen BK146.out 0; have hfz12_1 := blk_frozen BK146.out 1) | ((with_reducible refine gate_callee (f := 44) rfl ?_); refine goesL_ (some 13) rfl rfl Try.func44 (by kernel_rfl) rfl #[.agg #[.int .i64 a0_0, .int .i64 a0_1], .string a1] rfl (by (try simp only [List.map_toArray, List.map_cons, List.map_nil]); first | done | rfl | (simp only [List.length_drop, List.length_take]; rfl)) ?_; (with_reducible refine (impl_Lock_play.calls k a0_0 a0_1 a1 t151 t154 _ A5.out).mono ?_); rintro e w13 ⟨v152, rfl, ho0, hb⟩; refine ⟨_, rfl, ?_⟩; have n0_ := Aside0.mk (Kd.R_below (by (with_reducible repeat (first | apply Kd.R_alloc | apply Kd.R_drewN | apply Kd.R_drew)); exact HO149.out) hb); have n1_ := Aside0.mk (Kd.R_lower ho0 (below_size (by repeat (first | (with_reducible first | exact HB.out | apply below_alloc | apply pw_below_drewN | apply below_drew1 | refine below_set ?_ GE146.out) | exact HB.out)))); have n2_ := Aside0.mk (blk_below (g := gb146) (o := .cells #[.int .i64 a0_0, .int .i64 a0_1] 23 (0, 0)) (by (with_reducible repeat (first | refine blk_drewN ?_ _ | refine blk_drew ?_ | refine blk_alloc ?_ _)); exact BK146.out) hb); have n3_ := Aside0.mk (below_step (by repeat (first | (with_reducible first | exact HB.out | apply below_alloc | apply pw_below_drewN | apply below_drew1 | refine below_set ?_ GE146.out) | exact HB.out)) hb); clear HO149; clear BK146; clear HB; have HO149 := n0_; have HO153 := n1_; have BK146 := n2_; have HB := n3_; clear n0_ n1_ n2_ n3_; (try clear hb); (try clear hb2); (try clear hk); (try clear hi); (try clear ho0)))
    go_ret2
    exact ⟨_, by first | rfl | (simp [errW_none, errW_some] <;> rfl) | (simp [*, errW_none, errW_some] <;> rfl), by (with_reducible repeat (first | apply Kd.R_alloc | apply Kd.R_drewN | apply Kd.R_drew)); exact HO153.out, by repeat (first | (with_reducible first | exact HB.out | apply below_alloc | apply pw_below_drewN | apply below_drew1 | refine below_set ?_ GE146.out) | exact HB.out)⟩
  · replace c4 := Bool.eq_false_iff.mpr c4
    subst c4
    have H1 : (some (([] : List (S31)), false)) = some (r1, r2) := by rw [if_neg (show ¬ (false = true) by decide)] at H; exact H
    clear H
    have H := H1
    clear H1
    simp only [Option.some.injEq, Prod.mk.injEq] at H
    obtain ⟨rfl, rfl⟩ := H
    go_enter Try.func5, Try.ntmps5
    go_wp2_with (first | ((with_reducible refine gate_dst (N := 2) rfl ?_); refine box_event ?hg (N := 2) ?hd (cs := #[.int .i64 a0_0, .int .i64 a0_1]) (t := 23) ?hr ?_; (case hd => rfl); (case hg => rfl); (case hr => first | (go_simp; done) | (go_simp; rfl)); intro gb146 hg w14 hbox hb; have n0_ := Aside0.mk (below_step (by repeat (first | (with_reducible first | exact HB.out | apply below_alloc | apply pw_below_drewN | apply below_drew1) | exact HB.out)) hb); have n1_ := Aside0.mk (hbox); have n2_ := Aside0.mk ((by rw [hg]; exact (below_size (by repeat (first | (with_reducible first | exact HB.out | apply below_alloc | apply pw_below_drewN | apply below_drew1) | exact HB.out))) : w.heap.size ≤ gb146)); have n3_ := Aside0.mk ((by rw [hg]; exact (below_size (by repeat (first | (with_reducible first | exact HB.out | apply below_alloc | apply pw_below_drewN | apply below_drew1) | exact HB.out))) : w.heap.size ≤ gb146)); clear HB; have HB := n0_; have BK146 := n1_; have GW146 := n2_; have GE146 := n3_; clear n0_ n1_ n2_ n3_; clear hb hbox hg; have hcz15_0 : w14.cell? ⟨gb146, 0, none⟩ = some (.int .i64 a0_0) := (blk_cell BK146.out 0).trans rfl; have hcz15_1 : w14.cell? ⟨gb146, 1, none⟩ = some (.int .i64 a0_1) := (blk_cell BK146.out 1).trans rfl; have hfz15_0 := blk_frozen BK146.out 0; have hfz15_1 := blk_frozen BK146.out 1) | ((with_reducible refine gate_dst (N := 8) rfl ?_); refine Kd.R_lit Kd.string _ 9 ?hg (N := 8) ?hd (xs := ([a1] : List ByteArray)) (inner := [.string a1]) (ok := fun _ => True) (okp := fun _ => True) ?hr ?hp (fun _ hk => hk) trivial (Below.refl _ _) (Nat.le_refl _) (by simp) ?_; (case hd => rfl); (case hg => rfl); (case hr => first | (go_simp; done) | (go_simp; rfl)); (case hp => exact (Reps.one (show Kd.M Kd.string _ _ _ a1 [.string a1] from rfl) (Reps.none _ _))); intro v148 w16 ho17 hb hg_ hnew_; clear hg_ hnew_; (first | rw [← Ny147.out] at ho17 | (simp only [Int.reduceToNat] at ho17; rw [← Ny147.out] at ho17)); have n0_ := Aside0.mk (Kd.R_lower ho17 (below_size (by repeat (first | (with_reducible first | exact HB.out | apply below_alloc | apply pw_below_drewN | apply below_drew1 | refine below_set ?_ GE146.out) | exact HB.out)))); have n1_ := Aside0.mk (blk_below (g := gb146) (o := .cells #[.int .i64 a0_0, .int .i64 a0_1] 23 (0, 0)) (by (with_reducible repeat (first | refine blk_drewN ?_ _ | refine blk_drew ?_ | refine blk_alloc ?_ _)); exact BK146.out) hb); have n2_ := Aside0.mk (below_step (by repeat (first | (with_reducible first | exact HB.out | apply below_alloc | apply pw_below_drewN | apply below_drew1 | refine below_set ?_ GE146.out) | exact HB.out)) hb); clear BK146; clear HB; have HO149 := n0_; have BK146 := n1_; have HB := n2_; clear n0_ n1_ n2_; clear hb ho17; obtain ⟨Ao18, co18, eo18⟩ := Kd.R_slice HO149.out; subst eo18) | ((with_reducible refine gate_callee (f := 43) rfl ?_); refine goesL_ (some 9) rfl rfl Try.func43 (by kernel_rfl) rfl #[.agg #[.int .i64 a0_0, .int .i64 a0_1], .slice Ao18 y147.length co18] rfl (by (try simp only [List.map_toArray, List.map_cons, List.map_nil]); first | done | rfl | (simp only [List.length_drop, List.length_take]; rfl)) ?_; (with_reducible refine (impl_isHinted.calls k a0_0 a0_1 _ _ y147 false _ ?side1 ?side2 A3.out).mono ?_); (case side1 => repeat (first | exact (Kd.R_reads' HO149.out).2.2 | (with_reducible refine Kd.C_alloc ?_ _) | (with_reducible refine Kd.C_drewN ?_ _) | (with_reducible refine Kd.C_drew ?_))); (case side2 => exact (Kd.R_reads' HO149.out).2.1); rintro e w19 ⟨rfl, hb⟩; refine ⟨_, rfl, ?_⟩; have n0_ := Aside0.mk (Kd.R_below (by (with_reducible repeat (first | apply Kd.R_alloc | apply Kd.R_drewN | apply Kd.R_drew)); exact HO149.out) hb); have n1_ := Aside0.mk (blk_below (g := gb146) (o := .cells #[.int .i64 a0_0, .int .i64 a0_1] 23 (0, 0)) (by (with_reducible repeat (first | refine blk_drewN ?_ _ | refine blk_drew ?_ | refine blk_alloc ?_ _)); exact BK146.out) hb); have n2_ := Aside0.mk (below_step (by repeat (first | (with_reducible first | exact HB.out | apply below_alloc | apply pw_below_drewN | apply below_drew1 | refine below_set ?_ GE146.out) | exact HB.out)) hb); clear HO149; clear BK146; clear HB; have HO149 := n0_; have BK146 := n1_; have HB := n2_; clear n0_ n1_ n2_; (try clear hb); (try clear hb2); (try clear hk); (try clear hi)))
    go_ret2
    exact ⟨_, by first | rfl | (simp [errW_none, errW_some] <;> rfl) | (simp [*, errW_none, errW_some] <;> rfl), by first | exact Kd.R_nil _ _ _ _ _ | exact Kd.N_nil _ _ _ _ _ | exact Kd.V_nil _ _ _ _ _ | exact Kd.Q_nil _ _ _ _ _ | exact Kd.S_nil _ _ _ _ _, by repeat (first | (with_reducible first | exact HB.out | apply below_alloc | apply pw_below_drewN | apply below_drew1 | refine below_set ?_ GE146.out) | exact HB.out)⟩

/-! ### spec_l1In: function 82 -/
def spec_l1In.f (a0 : Int) (a1 : Int) (a2 : Int) : Option (Bool) := if a0 ≥ a1 then (some (decide (a0 ≤ a2))) else (some false)
set_option maxHeartbeats 8000000 in
set_option maxRecDepth 100000 in
theorem spec_l1In.calls (a0 : Int) (a1 : Int) (a2 : Int) (r : Bool) (w : World) (h : spec_l1In.f a0 a1 a2 = some r) :
    Calls Try.prog 82 #[.int .i64 a0, .int .i64 a1, .int .i64 a2] w fun e w' => e = .returned (.bool r) ∧ Drawn0 w w' := by
  have H : (if a0 ≥ a1 then (some (decide (a0 ≤ a2))) else (some false)) = some r := h
  clear h
  by_cases c4 : a0 ≥ a1
  · rw [if_pos c4] at H
    have c4b0 : decide (a1 ≤ a0) = true := decide_eq_true c4
    clear c4
    obtain rfl := Option.some.inj H
    go_enter Try.func82, Try.ntmps82
    go_wp2
    go_ret
    exact ⟨by first | rfl | (simp; done) | (simp [*]; done), by repeat (first | exact Drawn0.refl _ | apply Drawn0.step)⟩
  · rw [if_neg c4] at H
    have c4b0 : decide (a1 ≤ a0) = false := decide_eq_false c4
    clear c4
    obtain rfl := Option.some.inj H
    go_enter Try.func82, Try.ntmps82
    go_wp2
    go_ret
    exact ⟨by first | rfl | (simp; done) | (simp [*]; done), by repeat (first | exact Drawn0.refl _ | apply Drawn0.step)⟩

/-! ### spec_whGood: function 80 -/
def spec_whGood.f (a0_0 : Int) (a0_1 : Int) : Option (Bool) := (spec_l1In.f a0_0 1 6).bind fun t156 => (if t156 = true then ((spec_l1In.f a0_1 2 10).bind fun t157 => (some t157)) else (some false))
set_option maxHeartbeats 8000000 in
set_option maxRecDepth 100000 in
theorem spec_whGood.calls (a0_0 : Int) (a0_1 : Int) (r : Bool) (w : World) (h : spec_whGood.f a0_0 a0_1 = some r) :
    Calls Try.prog 80 #[.agg #[.int .i64 a0_0, .int .i64 a0_1]] w fun e w' => e = .returned (.bool r) ∧ Below w.heap.size w w' := by
  have hu23 := Try.underlying23
  have HB := Aside0.mk (Below.refl w.heap.size w)
  have H : ((spec_l1In.f a0_0 1 6).bind fun t156 => (if t156 = true then ((spec_l1In.f a0_1 2 10).bind fun t157 => (some t157)) else (some false))) = some r := h
  clear h
  replace H := Option.bind_eq_some_iff.mp H
  obtain ⟨t156, A20, H⟩ := H
  replace H : (if t156 = true then ((spec_l1In.f a0_1 2 10).bind fun t157 => (some t157)) else (some false)) = some r := H
  have A2 := Aside0.mk A20
  clear A20
  by_cases c3 : t156 = true
  · subst c3
    have H1 : ((spec_l1In.f a0_1 2 10).bind fun t157 => (some t157)) = some r := by rw [if_pos rfl] at H; exact H
    clear H
    have H := H1
    clear H1
    replace H := Option.bind_eq_some_iff.mp H
    obtain ⟨t157, A40, H⟩ := H
    replace H : (some t157) = some r := H
    have A4 := Aside0.mk A40
    clear A40
    obtain rfl := Option.some.inj H
    go_enter Try.func80, Try.ntmps80
    go_wp2_with (first | ((with_reducible refine gate_dst (N := 1) rfl ?_); refine box_event ?hg (N := 1) ?hd (cs := #[.int .i64 a0_0, .int .i64 a0_1]) (t := 23) ?hr ?_; (case hd => rfl); (case hg => rfl); (case hr => first | (go_simp; done) | (go_simp; rfl)); intro gb155 hg w5 hbox hb; have n0_ := Aside0.mk (below_step (by repeat (first | (with_reducible first | exact HB.out | apply below_alloc | apply pw_below_drewN | apply below_drew1) | exact HB.out)) hb); have n1_ := Aside0.mk (hbox); have n2_ := Aside0.mk ((by rw [hg]; exact (below_size (by repeat (first | (with_reducible first | exact HB.out | apply below_alloc | apply pw_below_drewN | apply below_drew1) | exact HB.out))) : w.heap.size ≤ gb155)); have n3_ := Aside0.mk ((by rw [hg]; exact (below_size (by repeat (first | (with_reducible first | exact HB.out | apply below_alloc | apply pw_below_drewN | apply below_drew1) | exact HB.out))) : w.heap.size ≤ gb155)); clear HB; have HB := n0_; have BK155 := n1_; have GW155 := n2_; have GE155 := n3_; clear n0_ n1_ n2_ n3_; clear hb hbox hg; have hcz6_0 : w5.cell? ⟨gb155, 0, none⟩ = some (.int .i64 a0_0) := (blk_cell BK155.out 0).trans rfl; have hcz6_1 : w5.cell? ⟨gb155, 1, none⟩ = some (.int .i64 a0_1) := (blk_cell BK155.out 1).trans rfl; have hfz6_0 := blk_frozen BK155.out 0; have hfz6_1 := blk_frozen BK155.out 1) | ((with_reducible refine gate_callee (f := 82) rfl ?_); refine goesL_ (some 5) rfl rfl Try.func82 (by kernel_rfl) rfl #[.int .i64 a0_0, .int .i64 1, .int .i64 6] rfl (by (try simp only [List.map_toArray, List.map_cons, List.map_nil]); first | done | rfl | (simp only [List.length_drop, List.length_take]; rfl)) ?_; (with_reducible refine (spec_l1In.calls a0_0 1 6 true _ A2.out).mono ?_); rintro e w' ⟨rfl, ⟨nd, rfl⟩⟩; refine ⟨_, rfl, ?_⟩) | (go_at_call 82; (with_reducible refine (spec_l1In.calls a0_1 2 10 t157 _ A4.out).mono ?_); rintro e w' ⟨rfl, ⟨nd, rfl⟩⟩))
    go_ret
    exact ⟨by first | rfl | (simp [errW_none, errW_some] <;> rfl) | (simp [*, errW_none, errW_some] <;> rfl), by repeat (first | (with_reducible first | exact HB.out | apply below_alloc | apply pw_below_drewN | apply below_drew1 | refine below_set ?_ GE155.out) | exact HB.out)⟩
  · replace c3 := Bool.eq_false_iff.mpr c3
    subst c3
    have H1 : (some false) = some r := by rw [if_neg (show ¬ (false = true) by decide)] at H; exact H
    clear H
    have H := H1
    clear H1
    obtain rfl := Option.some.inj H
    go_enter Try.func80, Try.ntmps80
    go_wp2_with (first | ((with_reducible refine gate_dst (N := 1) rfl ?_); refine box_event ?hg (N := 1) ?hd (cs := #[.int .i64 a0_0, .int .i64 a0_1]) (t := 23) ?hr ?_; (case hd => rfl); (case hg => rfl); (case hr => first | (go_simp; done) | (go_simp; rfl)); intro gb155 hg w7 hbox hb; have n0_ := Aside0.mk (below_step (by repeat (first | (with_reducible first | exact HB.out | apply below_alloc | apply pw_below_drewN | apply below_drew1) | exact HB.out)) hb); have n1_ := Aside0.mk (hbox); have n2_ := Aside0.mk ((by rw [hg]; exact (below_size (by repeat (first | (with_reducible first | exact HB.out | apply below_alloc | apply pw_below_drewN | apply below_drew1) | exact HB.out))) : w.heap.size ≤ gb155)); have n3_ := Aside0.mk ((by rw [hg]; exact (below_size (by repeat (first | (with_reducible first | exact HB.out | apply below_alloc | apply pw_below_drewN | apply below_drew1) | exact HB.out))) : w.heap.size ≤ gb155)); clear HB; have HB := n0_; have BK155 := n1_; have GW155 := n2_; have GE155 := n3_; clear n0_ n1_ n2_ n3_; clear hb hbox hg; have hcz8_0 : w7.cell? ⟨gb155, 0, none⟩ = some (.int .i64 a0_0) := (blk_cell BK155.out 0).trans rfl; have hcz8_1 : w7.cell? ⟨gb155, 1, none⟩ = some (.int .i64 a0_1) := (blk_cell BK155.out 1).trans rfl; have hfz8_0 := blk_frozen BK155.out 0; have hfz8_1 := blk_frozen BK155.out 1) | ((with_reducible refine gate_callee (f := 82) rfl ?_); refine goesL_ (some 5) rfl rfl Try.func82 (by kernel_rfl) rfl #[.int .i64 a0_0, .int .i64 1, .int .i64 6] rfl (by (try simp only [List.map_toArray, List.map_cons, List.map_nil]); first | done | rfl | (simp only [List.length_drop, List.length_take]; rfl)) ?_; (with_reducible refine (spec_l1In.calls a0_0 1 6 false _ A2.out).mono ?_); rintro e w' ⟨rfl, ⟨nd, rfl⟩⟩; refine ⟨_, rfl, ?_⟩))
    go_ret
    exact ⟨by first | rfl | (simp [errW_none, errW_some] <;> rfl) | (simp [*, errW_none, errW_some] <;> rfl), by repeat (first | (with_reducible first | exact HB.out | apply below_alloc | apply pw_below_drewN | apply below_drew1 | refine below_set ?_ GE155.out) | exact HB.out)⟩

/-! ### spec_whCount: function 81 -/
def spec_whCount.l0 : Nat → Int → Int → Int → Int → Option (Int)
  | 0, _, _, _, _ => none
  | k + 1, x3, x4, x159000, x159001 => if x4 > 0 then (spec_whCount.l0 k (wrap64 (x3 * x159001)) (wrap64 (x4 - 1)) x159000 x159001) else (some x3)
def spec_whCount.f (k : Nat) (a0_0 : Int) (a0_1 : Int) : Option (Int) := spec_whCount.l0 k 1 a0_0 a0_0 a0_1
theorem spec_whCount.mono_l : ∀ k, (∀ y0 y1 y2 y3, LeO (spec_whCount.l0 k y0 y1 y2 y3) (spec_whCount.l0 (k + 1) y0 y1 y2 y3))
  | 0 => fun _ _ _ _ r h => by simp [spec_whCount.l0] at h
  | k + 1 => by
    have ih0 := spec_whCount.mono_l k
    · intro y0 y1 y2 y3
      unfold spec_whCount.l0
      repeat' first
      | (with_reducible exact ih0 _ _ _ _)
      | (with_reducible exact LeO.refl _)
      | (with_reducible exact LeO.none _)
      | (with_reducible refine LeO.ite ?_ ?_)
      | (with_reducible refine LeO.bind ?_ (fun _ => ?_))
      | exact ih0 _ _ _ _
      | exact LeO.none _
      | refine LeO.ite ?_ ?_
      | refine LeO.bind ?_ (fun _ => ?_)
theorem spec_whCount.mono : ∀ a0 a1 k, LeO (spec_whCount.f k a0 a1) (spec_whCount.f (k + 1) a0 a1) := by
  intro a0 a1 k
  have ih0 := spec_whCount.mono_l k
  unfold spec_whCount.f
  repeat' first
      | (with_reducible exact ih0 _ _ _ _)
      | (with_reducible exact LeO.refl _)
      | (with_reducible exact LeO.none _)
      | (with_reducible refine LeO.ite ?_ ?_)
      | (with_reducible refine LeO.bind ?_ (fun _ => ?_))
      | exact ih0 _ _ _ _
      | exact LeO.none _
      | refine LeO.ite ?_ ?_
      | refine LeO.bind ?_ (fun _ => ?_)
set_option maxHeartbeats 8000000 in
set_option maxRecDepth 100000 in
theorem spec_whCount.calls (k : Nat) (a0_0 : Int) (a0_1 : Int) (r : Int) (w : World) (h : spec_whCount.f k a0_0 a0_1 = some r) :
    Calls Try.prog 81 #[.agg #[.int .i64 a0_0, .int .i64 a0_1]] w fun e w' => e = .returned (.int .i64 r) ∧ Below w.heap.size w w' := by
  have hu23 := Try.underlying23
  have HB := Aside0.mk (Below.refl w.heap.size w)
  have H : (spec_whCount.l0 k 1 a0_0 a0_0 a0_1) = some r := h
  clear h
  have H' := Aside0.mk H
  clear H
  go_enter Try.func81, Try.ntmps81
  go_wp2_with (first | ((with_reducible refine gate_dst (N := 1) rfl ?_); refine box_event ?hg (N := 1) ?hd (cs := #[.int .i64 a0_0, .int .i64 a0_1]) (t := 23) ?hr ?_; (case hd => rfl); (case hg => rfl); (case hr => first | (go_simp; done) | (go_simp; rfl)); intro gb158 hg w2 hbox hb; have n0_ := Aside0.mk (below_step (by repeat (first | (with_reducible first | exact HB.out | apply below_alloc | apply pw_below_drewN | apply below_drew1) | exact HB.out)) hb); have n1_ := Aside0.mk (hbox); have n2_ := Aside0.mk ((by rw [hg]; exact (below_size (by repeat (first | (with_reducible first | exact HB.out | apply below_alloc | apply pw_below_drewN | apply below_drew1) | exact HB.out))) : w.heap.size ≤ gb158)); have n3_ := Aside0.mk ((by rw [hg]; exact (below_size (by repeat (first | (with_reducible first | exact HB.out | apply below_alloc | apply pw_below_drewN | apply below_drew1) | exact HB.out))) : w.heap.size ≤ gb158)); clear HB; have HB := n0_; have BK158 := n1_; have GW158 := n2_; have GE158 := n3_; clear n0_ n1_ n2_ n3_; clear hb hbox hg; have hcz3_0 : w2.cell? ⟨gb158, 0, none⟩ = some (.int .i64 a0_0) := (blk_cell BK158.out 0).trans rfl; have hcz3_1 : w2.cell? ⟨gb158, 1, none⟩ = some (.int .i64 a0_1) := (blk_cell BK158.out 1).trans rfl; have hfz3_0 := blk_frozen BK158.out 0; have hfz3_1 := blk_frozen BK158.out 1))
  go_loopg [3, 4] k (fun kq v3 v4 w' => ∃ (x3_1 : Int) (x4_1 : Int), v3 = .int .i64 x3_1 ∧ v4 = .int .i64 x4_1 ∧ Aside0 (spec_whCount.l0 kq x3_1 x4_1 a0_0 a0_1 = some r) ∧ Aside0 (kq ≤ k) ∧ Aside0 (w'.heap[gb158]? = some (.cells #[.int .i64 a0_0, .int .i64 a0_1] 23 (0, 0))) ∧ Aside0 (Below w.heap.size w w'))
  case atStart => exact ⟨(1), (a0_0), (by first | rfl | (simp; done) | (simp [*]; done)), (by first | rfl | (simp; done) | (simp [*]; done)), H', ⟨Nat.le_refl _⟩, ⟨by (with_reducible repeat (first | refine blk_drewN ?_ _ | refine blk_drew ?_ | refine blk_alloc ?_ _)); exact BK158.out⟩, ⟨by repeat (first | (with_reducible first | exact HB.out | apply below_alloc | apply pw_below_drewN | apply below_drew1 | refine below_set ?_ GE158.out) | exact HB.out)⟩⟩
  case round =>
    clear H'
    try clear p2
    try clear hcz3_0
    try clear hcz3_1
    try clear hfz3_0
    try clear hfz3_1
    obtain ⟨x3_1, x4_1, rfl, rfl, HA, HK1, BK158, HB⟩ := hrel
    cases gk with
    | zero => exact absurd HA.out (by simp [spec_whCount.l0])
    | succ k1 =>
      have H := HA.out
      clear HA
      simp only [spec_whCount.l0] at H
      by_cases c4 : x4_1 > 0
      · rw [if_pos c4] at H
        have c4b0 : decide (0 < x4_1) = true := decide_eq_true c4
        clear c4
        have H' := Aside0.mk H
        clear H
        have hcz5_0 : wr.cell? ⟨gb158, 0, none⟩ = some (.int .i64 a0_0) := (blk_cell BK158.out 0).trans rfl
        have hcz5_1 : wr.cell? ⟨gb158, 1, none⟩ = some (.int .i64 a0_1) := (blk_cell BK158.out 1).trans rfl
        have hfz5_0 := blk_frozen BK158.out 0
        have hfz5_1 := blk_frozen BK158.out 1
        go_wp2
        go_roundg k1
        case measure => have := HK1.out; omega
        case rel => exact ⟨(wrap64 (x3_1 * a0_1)), (wrap64 (x4_1 - 1)), (by first | rfl | (simp; done) | (simp [*]; done)), (by first | rfl | (simp; done) | (simp [*]; done)), H', ⟨by have := HK1.out; omega⟩, ⟨by (with_reducible repeat (first | refine blk_drewN ?_ _ | refine blk_drew ?_ | refine blk_alloc ?_ _)); exact BK158.out⟩, ⟨by repeat (first | (with_reducible first | exact HB.out | apply below_alloc | apply pw_below_drewN | apply below_drew1 | refine below_set ?_ GE158.out) | exact HB.out)⟩⟩
      · rw [if_neg c4] at H
        have c4b0 : decide (0 < x4_1) = false := decide_eq_false c4
        clear c4
        obtain rfl := Option.some.inj H
        go_wp2
        go_ret
        exact ⟨by first | rfl | (simp [errW_none, errW_some] <;> rfl) | (simp [*, errW_none, errW_some] <;> rfl), by repeat (first | (with_reducible first | exact HB.out | apply below_alloc | apply pw_below_drewN | apply below_drew1 | refine below_set ?_ GE158.out) | exact HB.out)⟩

/-! ### spec_hiLock: function 45 -/
def spec_hiLock.f (k : Nat) (a0_0 : Int) (a0_1 : Int) (a1 : Int) : Option (Bool) := (spec_whGood.f a0_0 a0_1).bind fun t160 => (if t160 = true then ((spec_whCount.f k a0_0 a0_1).bind fun t161 => (some (decide (t161 ≤ a1)))) else (some false))
theorem spec_hiLock.mono : ∀ a0 a1 a2 k, LeO (spec_hiLock.f k a0 a1 a2) (spec_hiLock.f (k + 1) a0 a1 a2) := by
  intro a0 a1 a2 k
  unfold spec_hiLock.f
  repeat' first
      | (with_reducible exact spec_whCount.mono _ _ _)
      | (with_reducible exact LeO.refl _)
      | (with_reducible exact LeO.none _)
      | (with_reducible refine LeO.ite ?_ ?_)
      | (with_reducible refine LeO.bind ?_ (fun _ => ?_))
      | exact spec_whCount.mono _ _ _
      | exact LeO.none _
      | refine LeO.ite ?_ ?_
      | refine LeO.bind ?_ (fun _ => ?_)
set_option maxHeartbeats 8000000 in
set_option maxRecDepth 100000 in
theorem spec_hiLock.calls (k : Nat) (a0_0 : Int) (a0_1 : Int) (a1 : Int) (r : Bool) (w : World) (h : spec_hiLock.f k a0_0 a0_1 a1 = some r) :
    Calls Try.prog 45 #[.agg #[.int .i64 a0_0, .int .i64 a0_1], .int .i64 a1] w fun e w' => e = .returned (.bool r) ∧ Below w.heap.size w w' := by
  have hu23 := Try.underlying23
  have HB := Aside0.mk (Below.refl w.heap.size w)
  have H : ((spec_whGood.f a0_0 a0_1).bind fun t160 => (if t160 = true then ((spec_whCount.f k a0_0 a0_1).bind fun t161 => (some (decide (t161 ≤ a1)))) else (some false))) = some r := h
  clear h
  replace H := Option.bind_eq_some_iff.mp H
  obtain ⟨t160, A30, H⟩ := H
  replace H : (if t160 = true then ((spec_whCount.f k a0_0 a0_1).bind fun t161 => (some (decide (t161 ≤ a1)))) else (some false)) = some r := H
  have A3 := Aside0.mk A30
  clear A30
  by_cases c4 : t160 = true
  · subst c4
    have H1 : ((spec_whCount.f k a0_0 a0_1).bind fun t161 => (some (decide (t161 ≤ a1)))) = some r := by rw [if_pos rfl] at H; exact H
    clear H
    have H := H1
    clear H1
    replace H := Option.bind_eq_some_iff.mp H
    obtain ⟨t161, A50, H⟩ := H
    replace H : (some (decide (t161 ≤ a1))) = some r := H
    have A5 := Aside0.mk A50
    clear A50
    obtain rfl := Option.some.inj H
    go_enter Try.func45, Try.ntmps45
    go_wp2_with (first | ((with_reducible refine gate_dst (N := 2) rfl ?_); refine box_event ?hg (N := 2) ?hd (cs := #[.int .i64 a0_0, .int .i64 a0_1]) (t := 23) ?hr ?_; (case hd => rfl); (case hg => rfl); (case hr => first | (go_simp; done) | (go_simp; rfl)); intro gb159 hg w6 hbox hb; have n0_ := Aside0.mk (below_step (by repeat (first | (with_reducible first | exact HB.out | apply below_alloc | apply pw_below_drewN | apply below_drew1) | exact HB.out)) hb); have n1_ := Aside0.mk (hbox); have n2_ := Aside0.mk ((by rw [hg]; exact (below_size (by repeat (first | (with_reducible first | exact HB.out | apply below_alloc | apply pw_below_drewN | apply below_drew1) | exact HB.out))) : w.heap.size ≤ gb159)); have n3_ := Aside0.mk ((by rw [hg]; exact (below_size (by repeat (first | (with_reducible first | exact HB.out | apply below_alloc | apply pw_below_drewN | apply below_drew1) | exact HB.out))) : w.heap.size ≤ gb159)); clear HB; have HB := n0_; have BK159 := n1_; have GW159 := n2_; have GE159 := n3_; clear n0_ n1_ n2_ n3_; clear hb hbox hg; have hcz7_0 : w6.cell? ⟨gb159, 0, none⟩ = some (.int .i64 a0_0) := (blk_cell BK159.out 0).trans rfl; have hcz7_1 : w6.cell? ⟨gb159, 1, none⟩ = some (.int .i64 a0_1) := (blk_cell BK159.out 1).trans rfl; have hfz7_0 := blk_frozen BK159.out 0; have hfz7_1 := blk_frozen BK159.out 1) | ((with_reducible refine gate_callee (f := 80) rfl ?_); refine goesL_ (some 6) rfl rfl Try.func80 (by kernel_rfl) rfl #[.agg #[.int .i64 a0_0, .int .i64 a0_1]] rfl (by (try simp only [List.map_toArray, List.map_cons, List.map_nil]); first | done | rfl | (simp only [List.length_drop, List.length_take]; rfl)) ?_; (with_reducible refine (spec_whGood.calls a0_0 a0_1 true _ A3.out).mono ?_); rintro e w8 ⟨rfl, hb⟩; refine ⟨_, rfl, ?_⟩; have n0_ := Aside0.mk (blk_below (g := gb159) (o := .cells #[.int .i64 a0_0, .int .i64 a0_1] 23 (0, 0)) (by (with_reducible repeat (first | refine blk_drewN ?_ _ | refine blk_drew ?_ | refine blk_alloc ?_ _)); exact BK159.out) hb); have n1_ := Aside0.mk (below_step (by repeat (first | (with_reducible first | exact HB.out | apply below_alloc | apply pw_below_drewN | apply below_drew1 | refine below_set ?_ GE159.out) | exact HB.out)) hb); clear BK159; clear HB; have BK159 := n0_; have HB := n1_; clear n0_ n1_; (try clear hb); (try clear hb2); (try clear hk); (try clear hi); have hcz9_0 : w8.cell? ⟨gb159, 0, none⟩ = some (.int .i64 a0_0) := (blk_cell BK159.out 0).trans rfl; have hcz9_1 : w8.cell? ⟨gb159, 1, none⟩ = some (.int .i64 a0_1) := (blk_cell BK159.out 1).trans rfl; have hfz9_0 := blk_frozen BK159.out 0; have hfz9_1 := blk_frozen BK159.out 1) | (go_at_call 81; (with_reducible refine (spec_whCount.calls k a0_0 a0_1 t161 _ A5.out).mono ?_); rintro e w10 ⟨rfl, hb⟩; have n0_ := Aside0.mk (blk_below (g := gb159) (o := .cells #[.int .i64 a0_0, .int .i64 a0_1] 23 (0, 0)) (by (with_reducible repeat (first | refine blk_drewN ?_ _ | refine blk_drew ?_ | refine blk_alloc ?_ _)); exact BK159.out) hb); have n1_ := Aside0.mk (below_step (by repeat (first | (with_reducible first | exact HB.out | apply below_alloc | apply pw_below_drewN | apply below_drew1 | refine below_set ?_ GE159.out) | exact HB.out)) hb); clear BK159; clear HB; have BK159 := n0_; have HB := n1_; clear n0_ n1_; (try clear hb); (try clear hb2); (try clear hk); (try clear hi)))
    go_ret
    exact ⟨by first | rfl | (simp [errW_none, errW_some] <;> rfl) | (simp [*, errW_none, errW_some] <;> rfl), by repeat (first | (with_reducible first | exact HB.out | apply below_alloc | apply pw_below_drewN | apply below_drew1 | refine below_set ?_ GE159.out) | exact HB.out)⟩
  · replace c4 := Bool.eq_false_iff.mpr c4
    subst c4
    have H1 : (some false) = some r := by rw [if_neg (show ¬ (false = true) by decide)] at H; exact H
    clear H
    have H := H1
    clear H1
    obtain rfl := Option.some.inj H
    go_enter Try.func45, Try.ntmps45
    go_wp2_with (first | ((with_reducible refine gate_dst (N := 2) rfl ?_); refine box_event ?hg (N := 2) ?hd (cs := #[.int .i64 a0_0, .int .i64 a0_1]) (t := 23) ?hr ?_; (case hd => rfl); (case hg => rfl); (case hr => first | (go_simp; done) | (go_simp; rfl)); intro gb159 hg w11 hbox hb; have n0_ := Aside0.mk (below_step (by repeat (first | (with_reducible first | exact HB.out | apply below_alloc | apply pw_below_drewN | apply below_drew1) | exact HB.out)) hb); have n1_ := Aside0.mk (hbox); have n2_ := Aside0.mk ((by rw [hg]; exact (below_size (by repeat (first | (with_reducible first | exact HB.out | apply below_alloc | apply pw_below_drewN | apply below_drew1) | exact HB.out))) : w.heap.size ≤ gb159)); have n3_ := Aside0.mk ((by rw [hg]; exact (below_size (by repeat (first | (with_reducible first | exact HB.out | apply below_alloc | apply pw_below_drewN | apply below_drew1) | exact HB.out))) : w.heap.size ≤ gb159)); clear HB; have HB := n0_; have BK159 := n1_; have GW159 := n2_; have GE159 := n3_; clear n0_ n1_ n2_ n3_; clear hb hbox hg; have hcz12_0 : w11.cell? ⟨gb159, 0, none⟩ = some (.int .i64 a0_0) := (blk_cell BK159.out 0).trans rfl; have hcz12_1 : w11.cell? ⟨gb159, 1, none⟩ = some (.int .i64 a0_1) := (blk_cell BK159.out 1).trans rfl; have hfz12_0 := blk_frozen BK159.out 0; have hfz12_1 := blk_frozen BK159.out 1) | ((with_reducible refine gate_callee (f := 80) rfl ?_); refine goesL_ (some 6) rfl rfl Try.func80 (by kernel_rfl) rfl #[.agg #[.int .i64 a0_0, .int .i64 a0_1]] rfl (by (try simp only [List.map_toArray, List.map_cons, List.map_nil]); first | done | rfl | (simp only [List.length_drop, List.length_take]; rfl)) ?_; (with_reducible refine (spec_whGood.calls a0_0 a0_1 false _ A3.out).mono ?_); rintro e w13 ⟨rfl, hb⟩; refine ⟨_, rfl, ?_⟩; have n0_ := Aside0.mk (blk_below (g := gb159) (o := .cells #[.int .i64 a0_0, .int .i64 a0_1] 23 (0, 0)) (by (with_reducible repeat (first | refine blk_drewN ?_ _ | refine blk_drew ?_ | refine blk_alloc ?_ _)); exact BK159.out) hb); have n1_ := Aside0.mk (below_step (by repeat (first | (with_reducible first | exact HB.out | apply below_alloc | apply pw_below_drewN | apply below_drew1 | refine below_set ?_ GE159.out) | exact HB.out)) hb); clear BK159; clear HB; have BK159 := n0_; have HB := n1_; clear n0_ n1_; (try clear hb); (try clear hb2); (try clear hk); (try clear hi)))
    go_ret
    exact ⟨by first | rfl | (simp [errW_none, errW_some] <;> rfl) | (simp [*, errW_none, errW_some] <;> rfl), by repeat (first | (with_reducible first | exact HB.out | apply below_alloc | apply pw_below_drewN | apply below_drew1 | refine below_set ?_ GE159.out) | exact HB.out)⟩

end Go.Proofs.Ytcpnmiempaofdaa.A
