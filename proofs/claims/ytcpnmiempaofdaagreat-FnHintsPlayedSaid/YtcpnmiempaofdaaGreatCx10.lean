-- Printed by hp.py, a program of this session: a machine's side of laws, out of the translation; Lean checks it.
import Derived.Test.YtcpnmiempaofdaaGreatCx0
import Derived.Test.YtcpnmiempaofdaaGreatCx2
import Derived.Test.YtcpnmiempaofdaaGreatCx3
import Derived.Test.YtcpnmiempaofdaaGreatCx6
import Derived.Test.YtcpnmiempaofdaaGreatCx9
namespace Go.Proofs.YtcpnmiempaofdaaGreat.C
open Go.RowKit Go.Proofs.YtcpnmiempaofdaaGreatW.PrintWords Go.Proofs.YtcpnmiempaofdaaGreatW.PrintLast Go.Proofs.YtcpnmiempaofdaaGreatW.PrintMore
attribute [local go_sem] max2_int min2_int max_two min_two max_three min_three max_four min_four   -- for this text's walks alone
set_option linter.unusedVariables false
set_option linter.unusedSimpArgs false

/-! ### spec_PossibleHints: function 20 -/
mutual
def spec_PossibleHints.l0 : Nat → List Int → List ByteArray → List ByteArray → Int → Int → Int → Int → Option ((List (List Int)) × Bool)
 | 0, _, _, _, _, _, _, _ => none
 | k + 1, x4, x5, x26, x27, x28, x358000, x358001 => if x28 < x27 then (if 0 ≤ x28 then (if x28 < (x26.length : Int) then ((spec_hiParts.f k x358000 (rdOf ByteArray.empty x26 x28) x5).bind fun t366 => (spec_PossibleHints.l1 k x4 x5 x26 x27 x28 t366 (t366.length : Int) 0 x358000 x358001)) else (none)) else (none)) else (spec_PossibleHints.l2 k ([] : List (List Int)) x4 (x4.length : Int) 0 x358000 x358001)
def spec_PossibleHints.l1 : Nat → List Int → List ByteArray → List ByteArray → Int → Int → List Int → Int → Int → Int → Int → Option ((List (List Int)) × Bool)
 | 0, _, _, _, _, _, _, _, _, _, _ => none
 | k + 1, x4, x5, x26, x27, x28, x36, x37, x38, x358000, x358001 => if x38 < x37 then (if 0 ≤ x38 then (if x38 < (x36.length : Int) then (if x38 < (x4.length : Int) then (spec_PossibleHints.l1 k (x4.set (x38 : Int).toNat (wrap64 ((rd x4 x38) + (rd x36 x38)))) x5 x26 x27 x28 x36 x37 (wrap64 (x38 + 1)) x358000 x358001) else (none)) else (none)) else (none)) else (spec_PossibleHints.l0 k x4 x5 x26 x27 (wrap64 (x28 + 1)) x358000 x358001)
def spec_PossibleHints.l2 : Nat → List (List Int) → List Int → Int → Int → Int → Int → Option ((List (List Int)) × Bool)
 | 0, _, _, _, _, _, _ => none
 | k + 1, x10, x52, x53, x54, x358000, x358001 => if x54 < x53 then (if 0 ≤ x54 then (if x54 < (x52.length : Int) then (if (rd x52 x54) > 0 then (if (wrap64 (x358000 + 1)) = 0 then (none) else (if x10.length < 5864062014805 then (spec_PossibleHints.l2 k (x10 ++ [(([wrap64 (Int.tdiv x54 (wrap64 (x358000 + 1))), Int.tmod x54 (wrap64 (x358000 + 1))] : List Int))]) x52 x53 (wrap64 (x54 + 1)) x358000 x358001) else (none))) else (spec_PossibleHints.l2 k x10 x52 x53 (wrap64 (x54 + 1)) x358000 x358001)) else (none)) else (none)) else (some (x10, true))
end
def spec_PossibleHints.f (k : Nat) (a0_0 : Int) (a0_1 : Int) : Option ((List (List Int)) × Bool) := (spec_hiLock.f k a0_0 a0_1 256).bind fun t358 => (if t358 = true then (if 0 ≤ (wrap64 ((wrap64 (a0_0 + 1)) * (wrap64 (a0_0 + 1)))) then (if (wrap64 ((wrap64 (a0_0 + 1)) * (wrap64 (a0_0 + 1))) : Int).toNat ≤ 35184372088832 then ((spec_hiAll.f k a0_0 a0_1).bind fun t362 => (spec_PossibleHints.l0 k (List.replicate (wrap64 ((wrap64 (a0_0 + 1)) * (wrap64 (a0_0 + 1))) : Int).toNat 0) t362 t362 (t362.length : Int) 0 a0_0 a0_1)) else (none)) else (none)) else (some (([] : List (List Int)), false)))
theorem spec_PossibleHints.mono_l : ∀ k, (∀ y0 y1 y2 y3 y4 y5 y6, LeO (spec_PossibleHints.l0 k y0 y1 y2 y3 y4 y5 y6) (spec_PossibleHints.l0 (k + 1) y0 y1 y2 y3 y4 y5 y6)) ∧ (∀ y0 y1 y2 y3 y4 y5 y6 y7 y8 y9, LeO (spec_PossibleHints.l1 k y0 y1 y2 y3 y4 y5 y6 y7 y8 y9) (spec_PossibleHints.l1 (k + 1) y0 y1 y2 y3 y4 y5 y6 y7 y8 y9)) ∧ (∀ y0 y1 y2 y3 y4 y5, LeO (spec_PossibleHints.l2 k y0 y1 y2 y3 y4 y5) (spec_PossibleHints.l2 (k + 1) y0 y1 y2 y3 y4 y5))
 | 0 => ⟨fun _ _ _ _ _ _ _ r h => by simp [spec_PossibleHints.l0] at h, fun _ _ _ _ _ _ _ _ _ _ r h => by simp [spec_PossibleHints.l1] at h, fun _ _ _ _ _ _ r h => by simp [spec_PossibleHints.l2] at h⟩
 | k + 1 => by
  obtain ⟨ih0, ih1, ih2⟩ := spec_PossibleHints.mono_l k
  refine ⟨?_, ?_, ?_⟩
  ·intro y0 y1 y2 y3 y4 y5 y6
   unfold spec_PossibleHints.l0
   repeat' first
   | (with_reducible exact ih0 _ _ _ _ _ _ _)
   | (with_reducible exact ih1 _ _ _ _ _ _ _ _ _ _)
   | (with_reducible exact ih2 _ _ _ _ _ _)
   | (with_reducible exact spec_hiAll.mono _ _ _)
   | (with_reducible exact spec_hiLock.mono _ _ _ _)
   | (with_reducible exact spec_hiParts.mono _ _ _ _)
   | (with_reducible exact LeO.refl _)
   | (with_reducible exact LeO.none _)
   | (with_reducible refine LeO.ite ?_ ?_)
   | (with_reducible refine LeO.bind ?_ (fun _ => ?_))
   | exact ih0 _ _ _ _ _ _ _
   | exact ih1 _ _ _ _ _ _ _ _ _ _
   | exact ih2 _ _ _ _ _ _
   | exact spec_hiAll.mono _ _ _
   | exact spec_hiLock.mono _ _ _ _
   | exact spec_hiParts.mono _ _ _ _
   | exact LeO.none _
   | refine LeO.ite ?_ ?_
   | refine LeO.bind ?_ (fun _ => ?_)
  ·intro y0 y1 y2 y3 y4 y5 y6 y7 y8 y9
   unfold spec_PossibleHints.l1
   repeat' first
   | (with_reducible exact ih0 _ _ _ _ _ _ _)
   | (with_reducible exact ih1 _ _ _ _ _ _ _ _ _ _)
   | (with_reducible exact ih2 _ _ _ _ _ _)
   | (with_reducible exact spec_hiAll.mono _ _ _)
   | (with_reducible exact spec_hiLock.mono _ _ _ _)
   | (with_reducible exact spec_hiParts.mono _ _ _ _)
   | (with_reducible exact LeO.refl _)
   | (with_reducible exact LeO.none _)
   | (with_reducible refine LeO.ite ?_ ?_)
   | (with_reducible refine LeO.bind ?_ (fun _ => ?_))
   | exact ih0 _ _ _ _ _ _ _
   | exact ih1 _ _ _ _ _ _ _ _ _ _
   | exact ih2 _ _ _ _ _ _
   | exact spec_hiAll.mono _ _ _
   | exact spec_hiLock.mono _ _ _ _
   | exact spec_hiParts.mono _ _ _ _
   | exact LeO.none _
   | refine LeO.ite ?_ ?_
   | refine LeO.bind ?_ (fun _ => ?_)
  ·intro y0 y1 y2 y3 y4 y5
   unfold spec_PossibleHints.l2
   repeat' first
   | (with_reducible exact ih0 _ _ _ _ _ _ _)
   | (with_reducible exact ih1 _ _ _ _ _ _ _ _ _ _)
   | (with_reducible exact ih2 _ _ _ _ _ _)
   | (with_reducible exact spec_hiAll.mono _ _ _)
   | (with_reducible exact spec_hiLock.mono _ _ _ _)
   | (with_reducible exact spec_hiParts.mono _ _ _ _)
   | (with_reducible exact LeO.refl _)
   | (with_reducible exact LeO.none _)
   | (with_reducible refine LeO.ite ?_ ?_)
   | (with_reducible refine LeO.bind ?_ (fun _ => ?_))
   | exact ih0 _ _ _ _ _ _ _
   | exact ih1 _ _ _ _ _ _ _ _ _ _
   | exact ih2 _ _ _ _ _ _
   | exact spec_hiAll.mono _ _ _
   | exact spec_hiLock.mono _ _ _ _
   | exact spec_hiParts.mono _ _ _ _
   | exact LeO.none _
   | refine LeO.ite ?_ ?_
   | refine LeO.bind ?_ (fun _ => ?_)
theorem spec_PossibleHints.mono : ∀ a0 a1 k, LeO (spec_PossibleHints.f k a0 a1) (spec_PossibleHints.f (k + 1) a0 a1) := by
 intro a0 a1 k
 obtain ⟨ih0, ih1, ih2⟩ := spec_PossibleHints.mono_l k
 unfold spec_PossibleHints.f
 repeat' first
   | (with_reducible exact ih0 _ _ _ _ _ _ _)
   | (with_reducible exact ih1 _ _ _ _ _ _ _ _ _ _)
   | (with_reducible exact ih2 _ _ _ _ _ _)
   | (with_reducible exact spec_hiAll.mono _ _ _)
   | (with_reducible exact spec_hiLock.mono _ _ _ _)
   | (with_reducible exact spec_hiParts.mono _ _ _ _)
   | (with_reducible exact LeO.refl _)
   | (with_reducible exact LeO.none _)
   | (with_reducible refine LeO.ite ?_ ?_)
   | (with_reducible refine LeO.bind ?_ (fun _ => ?_))
   | exact ih0 _ _ _ _ _ _ _
   | exact ih1 _ _ _ _ _ _ _ _ _ _
   | exact ih2 _ _ _ _ _ _
   | exact spec_hiAll.mono _ _ _
   | exact spec_hiLock.mono _ _ _ _
   | exact spec_hiParts.mono _ _ _ _
   | exact LeO.none _
   | refine LeO.ite ?_ ?_
   | refine LeO.bind ?_ (fun _ => ?_)
def spec_PossibleHints.T19 : Bool × List (List Nat × List Nat) := (true, [([], []), ([], []), ([], []), ([2], [2]), ([3], [3]), ([1, 4], [1, 4]), ([], []), ([], []), ([7], [7]), ([8], [8]), ([6, 9], [6, 9]), ([5, 10], [5, 10]), ([11], [11]), ([0, 12], [0, 12]), ([13, 13, 0, 1, 2, 3, 4, 5, 6, 7, 8, 9, 10, 11, 12, 13], [0, 13])])
def spec_PossibleHints.B19 : List Nat := [0, 0, 0, 4, 12, 30, 0, 0, 128, 384, 960, 2046, 4094, 8191, 16383]
theorem spec_PossibleHints.tab19 : rtab .any (opsOf Tryz.f20 19) = spec_PossibleHints.T19 := by kernel_rfl
theorem spec_PossibleHints.bits19 : waitsOk spec_PossibleHints.T19.2 spec_PossibleHints.B19 = true := by kernel_rfl
set_option maxHeartbeats 8000000 in
set_option maxRecDepth 100000 in
theorem spec_PossibleHints.calls (k : Nat) (a0_0 : Int) (a0_1 : Int) (r1 : List (List Int)) (r2 : Bool) (w : World) (h : spec_PossibleHints.f k a0_0 a0_1 = some (r1, r2)) :
  Calls Tryz.prog 20 #[.agg #[.int .i64 a0_0, .int .i64 a0_1]] w fun e w' => ∃ v0_ : Value, e = .returned (.tuple #[v0_, .bool r2]) ∧ Kd.S (Kd.slice 3 (Kd.int .i64)) 55 w' w.heap.size (fun _ => True) v0_ r1 ∧ Below w.heap.size w w' := by
 have hu25 := Tryz.underlying25
 have HB := Aside0.mk (Below.refl w.heap.size w)
 have H : ((spec_hiLock.f k a0_0 a0_1 256).bind fun t358 => (if t358 = true then (if 0 ≤ (wrap64 ((wrap64 (a0_0 + 1)) * (wrap64 (a0_0 + 1)))) then (if (wrap64 ((wrap64 (a0_0 + 1)) * (wrap64 (a0_0 + 1))) : Int).toNat ≤ 35184372088832 then ((spec_hiAll.f k a0_0 a0_1).bind fun t362 => (spec_PossibleHints.l0 k (List.replicate (wrap64 ((wrap64 (a0_0 + 1)) * (wrap64 (a0_0 + 1))) : Int).toNat 0) t362 t362 (t362.length : Int) 0 a0_0 a0_1)) else (none)) else (none)) else (some (([] : List (List Int)), false)))) = some (r1, r2) := h
 clear h
 replace H := Option.bind_eq_some_iff.mp H
 obtain ⟨t358, A20, H⟩ := H
 replace H : (if t358 = true then (if 0 ≤ (wrap64 ((wrap64 (a0_0 + 1)) * (wrap64 (a0_0 + 1)))) then (if (wrap64 ((wrap64 (a0_0 + 1)) * (wrap64 (a0_0 + 1))) : Int).toNat ≤ 35184372088832 then ((spec_hiAll.f k a0_0 a0_1).bind fun t362 => (spec_PossibleHints.l0 k (List.replicate (wrap64 ((wrap64 (a0_0 + 1)) * (wrap64 (a0_0 + 1))) : Int).toNat 0) t362 t362 (t362.length : Int) 0 a0_0 a0_1)) else (none)) else (none)) else (some (([] : List (List Int)), false))) = some (r1, r2) := H
 have A2 := Aside0.mk A20
 clear A20
 by_cases c3 : t358 = true
 ·subst c3
  have H1 : (if 0 ≤ (wrap64 ((wrap64 (a0_0 + 1)) * (wrap64 (a0_0 + 1)))) then (if (wrap64 ((wrap64 (a0_0 + 1)) * (wrap64 (a0_0 + 1))) : Int).toNat ≤ 35184372088832 then ((spec_hiAll.f k a0_0 a0_1).bind fun t362 => (spec_PossibleHints.l0 k (List.replicate (wrap64 ((wrap64 (a0_0 + 1)) * (wrap64 (a0_0 + 1))) : Int).toNat 0) t362 t362 (t362.length : Int) 0 a0_0 a0_1)) else (none)) else (none)) = some (r1, r2) := by rw [if_pos rfl] at H; exact H
  clear H
  have H := H1
  clear H1
  obtain ⟨ji4, hji4⟩ : ∃ j_ : Int, (wrap64 ((wrap64 (a0_0 + 1)) * (wrap64 (a0_0 + 1)))) = j_ := ⟨_, rfl⟩
  replace H : (if 0 ≤ (ji4) then (if (ji4 : Int).toNat ≤ 35184372088832 then ((spec_hiAll.f k a0_0 a0_1).bind fun t362 => (spec_PossibleHints.l0 k (List.replicate (ji4 : Int).toNat 0) t362 t362 (t362.length : Int) 0 a0_0 a0_1)) else (none)) else (none)) = some (r1, r2) := by first | (rw [hji4] at H; exact H) | (simp only [hji4] at H ⊢; exact H)
  (try rw [hji4] at A2)
  have hji4w : (IntKind.i64.wrap ((wrap64 (a0_0 + 1)) * (wrap64 (a0_0 + 1)))) = ji4 := (i64_w _).trans hji4
  by_cases c5 : 0 ≤ (ji4)
  ·rw [if_pos c5] at H
   have c5b0 := eq_true c5
   have c5b1 : decide (0 ≤ (ji4)) = true := decide_eq_true c5
   clear c5
   by_cases c6 : (ji4 : Int).toNat ≤ 35184372088832
   ·rw [if_pos c6] at H
    have c6b0 := eq_true c6
    have c6b1 : decide ((ji4 : Int).toNat ≤ 35184372088832) = true := decide_eq_true c6
    clear c6
    obtain ⟨y359, hy359⟩ : ∃ y_ : List Int, y_ = (List.replicate (ji4 : Int).toNat 0) := ⟨_, rfl⟩
    replace H : ((spec_hiAll.f k a0_0 a0_1).bind fun t362 => (spec_PossibleHints.l0 k y359 t362 t362 (t362.length : Int) 0 a0_0 a0_1)) = some (r1, r2) := by first | (rw [hy359]; with_reducible exact H) | (have H2_ := (Option.bind_some _ _).symm.trans H; rw [hy359]; with_reducible exact H2_) | (have H2_ := (Option.bind_some _ _).symm.trans H; with_reducible exact H2_) | with_reducible exact H | (rw [hy359]; exact H) | exact H
    have Ny359 := Aside0.mk hy359
    clear hy359
    replace H := Option.bind_eq_some_iff.mp H
    obtain ⟨t362, A70, H⟩ := H
    replace H : (spec_PossibleHints.l0 k y359 t362 t362 (t362.length : Int) 0 a0_0 a0_1) = some (r1, r2) := H
    have A7 := Aside0.mk A70
    clear A70
    have H' := Aside0.mk H
    clear H
    go_enter Tryz.func20, Tryz.ntmps20
    go_wp2_with (first | ((with_reducible refine gate_dst (N := 1) rfl ?_); refine box_event ?hg (N := 1) ?hd (cs := #[.int .i64 a0_0, .int .i64 a0_1]) (t := 25) ?hr ?_; (case hd => rfl); (case hg => rfl); (case hr => first | (go_simp; done) | (go_simp; rfl)); intro gb357 hg w8 hbox hb; have n0_ := Aside0.mk (below_step bB hb); have n1_ := Aside0.mk (hbox); have n2_ := Aside0.mk ((by rw [hg]; exact (below_size bB) : w.heap.size ≤ gb357)); have n3_ := Aside0.mk ((by rw [hg]; exact (below_size bB) : w.heap.size ≤ gb357)); clear HB; have HB := n0_; have BK357 := n1_; have GW357 := n2_; have GE357 := n3_; clear n0_ n1_ n2_ n3_; clear hb hbox hg; have hcz9_0 : w8.cell? ⟨gb357, 0, none⟩ = some (.int .i64 a0_0) := (blk_cell BK357.out 0).trans rfl; have hcz9_1 : w8.cell? ⟨gb357, 1, none⟩ = some (.int .i64 a0_1) := (blk_cell BK357.out 1).trans rfl; have hfz9_0 := blk_frozen BK357.out 0; have hfz9_1 := blk_frozen BK357.out 1) | ((with_reducible refine gate_callee (f := 53) rfl ?_); refine goesL_ (some 14) rfl rfl Tryz.func53 (by kernel_rfl) rfl #[.agg #[.int .i64 a0_0, .int .i64 a0_1], .int .i64 256] rfl lM ?_; (with_reducible refine (spec_hiLock.calls k a0_0 a0_1 256 true _ A2.out).mono ?_); rintro e w10 ⟨rfl, hb⟩; refine ⟨_, rfl, ?_⟩; have n0_ := Aside0.mk (blk_below (g := gb357) (o := .cells #[.int .i64 a0_0, .int .i64 a0_1] 25 (0, 0)) bK hb); have n1_ := Aside0.mk (below_step bG hb); clear BK357; clear HB; have BK357 := n0_; have HB := n1_; clear n0_ n1_; (try clear hb); (try clear hb2); (try clear hk); (try clear hi); have hcz11_0 : w10.cell? ⟨gb357, 0, none⟩ = some (.int .i64 a0_0) := (blk_cell BK357.out 0).trans rfl; have hcz11_1 : w10.cell? ⟨gb357, 1, none⟩ = some (.int .i64 a0_1) := (blk_cell BK357.out 1).trans rfl; have hfz11_0 := blk_frozen BK357.out 0; have hfz11_1 := blk_frozen BK357.out 1) | ((with_reducible refine gate_dst (N := 23) rfl ?_); refine Kd.R_make (Kd.int .i64) _ 3 rfl (N := 23) rfl 55 _ _ rfl ji4 rfl rfl Tryz.underlying55 (.int .i64 0) 8 info3 rfl (by decide) (by omega) 0 (ok := fun _ => True) (okp := fun _ => True) rfl (fun _ hk => hk) trivial (oD) (Nat.le_trans (Nat.mul_le_mul_right _ (oD : ji4.toNat ≤ 35184372088832)) (by omega)) (Below.refl _ _) (Nat.le_refl _) ?_; intro v360 w12 ho13 hb hg_ hnew_; clear hg_ hnew_; (first | rw [← Ny359.out] at ho13 | (simp only [Int.reduceToNat] at ho13; rw [← Ny359.out] at ho13)); have n0_ := Aside0.mk (Kd.R_lower ho13 (below_size bG)); have n1_ := Aside0.mk (blk_below (g := gb357) (o := .cells #[.int .i64 a0_0, .int .i64 a0_1] 25 (0, 0)) bK hb); have n2_ := Aside0.mk (below_step bG hb); clear BK357; clear HB; have HO361 := n0_; have BK357 := n1_; have HB := n2_; clear n0_ n1_ n2_; clear hb ho13; have hcz14_0 : w12.cell? ⟨gb357, 0, none⟩ = some (.int .i64 a0_0) := (blk_cell BK357.out 0).trans rfl; have hcz14_1 : w12.cell? ⟨gb357, 1, none⟩ = some (.int .i64 a0_1) := (blk_cell BK357.out 1).trans rfl; have hfz14_0 := blk_frozen BK357.out 0; have hfz14_1 := blk_frozen BK357.out 1) | ((with_reducible refine gate_callee (f := 66) rfl ?_); refine goesL_ (some 25) rfl rfl Tryz.func66 (by kernel_rfl) rfl #[.agg #[.int .i64 a0_0, .int .i64 a0_1]] rfl lM ?_; (with_reducible refine (spec_hiAll.calls k a0_0 a0_1 t362 _ A7.out).mono ?_); rintro e w15 ⟨v363, rfl, ho0, hb⟩; refine ⟨_, rfl, ?_⟩; have n0_ := Aside0.mk (Kd.R_below (by (with_reducible repeat (first | apply Kd.R_alloc | apply Kd.R_drewN | apply Kd.R_drew)); exact HO361.out) hb); have n1_ := Aside0.mk (Kd.R_lower ho0 (below_size bG)); have n2_ := Aside0.mk (blk_below (g := gb357) (o := .cells #[.int .i64 a0_0, .int .i64 a0_1] 25 (0, 0)) bK hb); have n3_ := Aside0.mk (below_step bG hb); clear HO361; clear BK357; clear HB; have HO361 := n0_; have HO364 := n1_; have BK357 := n2_; have HB := n3_; clear n0_ n1_ n2_ n3_; (try clear hb); (try clear hb2); (try clear hk); (try clear hi); (try clear ho0); obtain ⟨Ao16, co16, eo16⟩ := Kd.R_slice HO364.out; subst eo16))
    go_loopg [28] k (fun kq v28 w' => ∃ (x4_1 : List Int) (x28_1 : Int), v28 = .int .i64 x28_1 ∧ Aside0 (spec_PossibleHints.l0 kq x4_1 t362 t362 (t362.length : Int) x28_1 a0_0 a0_1 = some (r1, r2)) ∧ Aside0 (kq ≤ k) ∧ Aside0 (Kd.R (Kd.int .i64) 3 w' w.heap.size (fun _ => True) v360 x4_1) ∧ Aside0 (Kd.R Kd.string 9 w' w.heap.size (fun _ => True) (.slice Ao16 t362.length co16) t362) ∧ Aside0 (Kd.R Kd.string 9 w' w.heap.size (fun _ => True) (.slice Ao16 t362.length co16) t362) ∧ Aside0 (w'.heap[gb357]? = some (.cells #[.int .i64 a0_0, .int .i64 a0_1] 25 (0, 0))) ∧ Aside0 (Below w.heap.size w w'))
    case atStart => exact ⟨(y359), (0), fR, H', ⟨Nat.le_refl _⟩, ⟨by (with_reducible repeat (first | apply Kd.R_alloc | apply Kd.R_drewN | apply Kd.R_drew)); exact HO361.out⟩, ⟨by (with_reducible repeat (first | apply Kd.R_alloc | apply Kd.R_drewN | apply Kd.R_drew)); exact HO364.out⟩, ⟨by (with_reducible repeat (first | apply Kd.R_alloc | apply Kd.R_drewN | apply Kd.R_drew)); exact HO364.out⟩, ⟨bK⟩, ⟨bG⟩⟩
    case round =>
     clear H'
     try clear c2
     try clear p2
     try clear c3
     try clear c5
     try clear c5b0
     try clear c5b1
     try clear c6
     try clear c6b0
     try clear c6b1
     try clear p6
     try clear hcz11_0
     try clear hcz11_1
     try clear hcz14_0
     try clear hcz14_1
     try clear hcz9_0
     try clear hcz9_1
     try clear hfz11_0
     try clear hfz11_1
     try clear hfz14_0
     try clear hfz14_1
     try clear hfz9_0
     try clear hfz9_1
     obtain ⟨x4_1, x28_1, rfl, HA, HK1, HO_4, HO_5, HO_26, BK357, HB⟩ := hrel
     cases gk with
     | zero => exact absurd HA.out (by simp [spec_PossibleHints.l0])
     | succ k1 =>
      have H := HA.out
      clear HA
      simp only [spec_PossibleHints.l0] at H
      by_cases c17 : x28_1 < (t362.length : Int)
      ·rw [if_pos c17] at H
       have c17b0 : decide (x28_1 < (t362.length : Int)) = true := decide_eq_true c17
       clear c17
       by_cases c18 : 0 ≤ x28_1
       ·rw [if_pos c18] at H
        have c18b0 : decide (0 ≤ x28_1) = true := decide_eq_true c18
        clear c18
        by_cases c19 : x28_1 < (t362.length : Int)
        ·rw [if_pos c19] at H
         have c19b0 : decide (x28_1 < (t362.length : Int)) = true := decide_eq_true c19
         clear c19
         replace H := Option.bind_eq_some_iff.mp H
         obtain ⟨t366, A200, H⟩ := H
         replace H : (spec_PossibleHints.l1 k1 x4_1 t362 t362 (t362.length : Int) x28_1 t366 (t366.length : Int) 0 a0_0 a0_1) = some (r1, r2) := H
         have A20 := Aside0.mk A200
         clear A200
         have H' := Aside0.mk H
         clear H
         have p365 : 0 ≤ (x28_1 : Int) := oD
         have q365 : x28_1 < (t362.length : Int) := oD
         obtain ⟨ad365, e365, hx365_0⟩ := Kd.at_string (Kd.R_reads' HO_26.out).2.2 x28_1 p365 q365
         cases e365
         replace p365 := eq_true p365
         replace q365 := eq_true q365
         have hcz21_0 : wr.cell? ⟨gb357, 0, none⟩ = some (.int .i64 a0_0) := (blk_cell BK357.out 0).trans rfl
         have hcz21_1 : wr.cell? ⟨gb357, 1, none⟩ = some (.int .i64 a0_1) := (blk_cell BK357.out 1).trans rfl
         have hfz21_0 := blk_frozen BK357.out 0
         have hfz21_1 := blk_frozen BK357.out 1
         go_wp2_with (first | ((with_reducible refine gate_callee (f := 67) rfl ?_); refine goesL_ (some 36) rfl rfl Tryz.func67 (by kernel_rfl) rfl #[.int .i64 a0_0, .string (rdOf ByteArray.empty t362 x28_1), .slice (some ad365) t362.length co16] rfl lM ?_; (with_reducible refine (spec_hiParts.calls k1 a0_0 (rdOf ByteArray.empty t362 x28_1) _ _ t362 t366 _ ?side1 ?side2 A20.out).mono ?_); (case side1 => repeat (first | exact (Kd.R_reads' HO_5.out).2.2 | (with_reducible refine Kd.C_alloc ?_ _) | (with_reducible refine Kd.C_drewN ?_ _) | (with_reducible refine Kd.C_drew ?_))); (case side2 => exact (Kd.R_reads' HO_5.out).2.1); rintro e w22 ⟨v367, rfl, ho0, hb⟩; refine ⟨_, rfl, ?_⟩; have n0_ := Aside0.mk (Kd.R_elder' (by (with_reducible repeat (first | apply Kd.R_alloc | apply Kd.R_drewN | apply Kd.R_drew)); exact HO_4.out) (Kd.R_base ho0) hb); have n1_ := Aside0.mk (Kd.R_below (by (with_reducible repeat (first | apply Kd.R_alloc | apply Kd.R_drewN | apply Kd.R_drew)); exact HO_5.out) hb); have n2_ := Aside0.mk (Kd.R_below (by (with_reducible repeat (first | apply Kd.R_alloc | apply Kd.R_drewN | apply Kd.R_drew)); exact HO_26.out) hb); have n3_ := Aside0.mk (Kd.R_lower (Kd.R_new' ho0 (Kd.R_lt (by (with_reducible repeat (first | apply Kd.R_alloc | apply Kd.R_drewN | apply Kd.R_drew)); exact HO_4.out))) (below_size bG)); have n4_ := Aside0.mk (blk_below (g := gb357) (o := .cells #[.int .i64 a0_0, .int .i64 a0_1] 25 (0, 0)) bK hb); have n5_ := Aside0.mk (below_step bG hb); clear HO_4; clear HO_5; clear HO_26; clear BK357; clear HB; have HO_4 := n0_; have HO_5 := n1_; have HO_26 := n2_; have HO368 := n3_; have BK357 := n4_; have HB := n5_; clear n0_ n1_ n2_ n3_ n4_ n5_; (try clear hb); (try clear hb2); (try clear hk); (try clear hi); (try clear ho0); obtain ⟨Ao23, co23, eo23⟩ := Kd.R_slice HO368.out; subst eo23))
         go_loopg [38] k1 (fun kq v38 w' => ∃ (x4_2 : List Int) (x38_2 : Int), v38 = .int .i64 x38_2 ∧ Aside0 (spec_PossibleHints.l1 kq x4_2 t362 t362 (t362.length : Int) x28_1 t366 (t366.length : Int) x38_2 a0_0 a0_1 = some (r1, r2)) ∧ Aside0 (kq ≤ k1) ∧ Aside0 (Kd.R (Kd.int .i64) 3 w' w.heap.size (fun k_ => some k_ ≠ ((.slice Ao23 t366.length co23) : Value).ownBlock) v360 x4_2) ∧ Aside0 (Kd.R Kd.string 9 w' w.heap.size (fun _ => True) (.slice (some ad365) t362.length co16) t362) ∧ Aside0 (Kd.R Kd.string 9 w' w.heap.size (fun _ => True) (.slice (some ad365) t362.length co16) t362) ∧ Aside0 (Kd.R (Kd.int .i64) 3 w' w.heap.size (fun k_ => some k_ ≠ (v360 : Value).ownBlock) (.slice Ao23 t366.length co23) t366) ∧ Aside0 (w'.heap[gb357]? = some (.cells #[.int .i64 a0_0, .int .i64 a0_1] 25 (0, 0))) ∧ Aside0 (Below w.heap.size w w'))
         case atStart => exact ⟨(x4_1), (0), fR, H', ⟨Nat.le_refl _⟩, ⟨by (with_reducible repeat (first | apply Kd.R_alloc | apply Kd.R_drewN | apply Kd.R_drew)); exact Kd.R_mono HO_4.out (fun _ hk => hk.2)⟩, ⟨by (with_reducible repeat (first | apply Kd.R_alloc | apply Kd.R_drewN | apply Kd.R_drew)); exact HO_5.out⟩, ⟨by (with_reducible repeat (first | apply Kd.R_alloc | apply Kd.R_drewN | apply Kd.R_drew)); exact HO_26.out⟩, ⟨by (with_reducible repeat (first | apply Kd.R_alloc | apply Kd.R_drewN | apply Kd.R_drew)); exact Kd.R_mono HO368.out (fun _ hk => hk.2)⟩, ⟨bK⟩, ⟨bG⟩⟩
         case round =>
          clear H'
          try clear c1
          try clear c2
          try clear p2
          try clear c3
          try clear p3
          try clear q3
          try clear hx3
          try clear c5
          try clear c5b0
          try clear c5b1
          try clear c6
          try clear c6b0
          try clear c6b1
          try clear p6
          try clear c17
          try clear c17b0
          try clear c18
          try clear c18b0
          try clear c19
          try clear c19b0
          try clear c20
          try clear hcz11_0
          try clear hcz11_1
          try clear hcz14_0
          try clear hcz14_1
          try clear hcz21_0
          try clear hcz21_1
          try clear hcz9_0
          try clear hcz9_1
          try clear hfz11_0
          try clear hfz11_1
          try clear hfz14_0
          try clear hfz14_1
          try clear hfz21_0
          try clear hfz21_1
          try clear hfz9_0
          try clear hfz9_1
          try clear hx365_0
          try clear p2
          try clear p365
          try clear p6
          try clear q365
          obtain ⟨x4_2, x38_2, rfl, HA, HK2, HO_4, HO_5, HO_26, HO_36, BK357, HB⟩ := hrel
          cases gk with
          | zero => exact absurd HA.out (by simp [spec_PossibleHints.l1])
          | succ k2 =>
           have H := HA.out
           clear HA
           simp only [spec_PossibleHints.l1] at H
           by_cases c24 : x38_2 < (t366.length : Int)
           ·rw [if_pos c24] at H
            have c24b0 : decide (x38_2 < (t366.length : Int)) = true := decide_eq_true c24
            clear c24
            by_cases c25 : 0 ≤ x38_2
            ·rw [if_pos c25] at H
             have c25b0 : decide (0 ≤ x38_2) = true := decide_eq_true c25
             clear c25
             by_cases c26 : x38_2 < (t366.length : Int)
             ·rw [if_pos c26] at H
              have c26b0 : decide (x38_2 < (t366.length : Int)) = true := decide_eq_true c26
              clear c26
              by_cases c27 : x38_2 < (x4_2.length : Int)
              ·rw [if_pos c27] at H
               have c27b0 : decide (x38_2 < (x4_2.length : Int)) = true := decide_eq_true c27
               clear c27
               obtain ⟨y371, hy371⟩ : ∃ y_ : List Int, y_ = (x4_2.set (x38_2 : Int).toNat (wrap64 ((rd x4_2 x38_2) + (rd t366 x38_2)))) := ⟨_, rfl⟩
               replace H : (spec_PossibleHints.l1 k2 y371 t362 t362 (t362.length : Int) x28_1 t366 (t366.length : Int) (wrap64 (x38_2 + 1)) a0_0 a0_1) = some (r1, r2) := by first | (rw [hy371]; with_reducible exact H) | (have H2_ := (Option.bind_some _ _).symm.trans H; rw [hy371]; with_reducible exact H2_) | (have H2_ := (Option.bind_some _ _).symm.trans H; with_reducible exact H2_) | with_reducible exact H | (rw [hy371]; exact H) | exact H
               have Ny371 := Aside0.mk hy371
               clear hy371
               have H' := Aside0.mk H
               clear H
               have p369 : 0 ≤ (x38_2 : Int) := oD
               have q369 : x38_2 < (t366.length : Int) := oD
               obtain ⟨ad369, e369, hx369_0⟩ := Kd.at_int (Kd.R_reads' HO_36.out).2.2 x38_2 p369 q369
               cases e369
               replace p369 := eq_true p369
               replace q369 := eq_true q369
               obtain ⟨Ao29, co29, eo29⟩ := Kd.R_slice HO_4.out
               subst eo29
               have p370 : 0 ≤ (x38_2 : Int) := oD
               have q370 : x38_2 < (x4_2.length : Int) := oD
               obtain ⟨ad370, e370, hx370_0⟩ := Kd.at_int (Kd.R_reads' HO_4.out).2.2 x38_2 p370 q370
               cases e370
               replace p370 := eq_true p370
               replace q370 := eq_true q370
               have p28 : 0 ≤ (x38_2 : Int) := oD
               have q28 : (x38_2 : Int) < ((x4_2.length : Int) : Int) := oD
               obtain ⟨go28, co28, eo28, gb28, gl28, cl28, HG28⟩ := Kd.R_form HO_4.out (by omega)
               (first | cases eo28 | (injection eo28 with ea_ en_ ec_; (first | subst ea_ | (injection ea_ with ea_; subst ea_)); subst ec_; clear en_))
               have GB28 := Aside0.mk gb28
               have GG28 := Aside0.mk HG28
               clear gb28 gl28 HG28
               (first | simp only [add_plain] at hx370_0 | skip)
               obtain ⟨hx28_0, hf28_0⟩ := Kd.R_celln 0 HO_4.out (x38_2 : Int) p28 q28
               replace p28 := eq_true p28
               replace q28 := eq_true q28
               have HP30 := Kd.R_putg HO_4.out (x38_2 : Int) (wrap64 ((rd x4_2 x38_2) + (rd t366 x38_2)))
               go_wp2_with (first | ((with_reducible refine gate_store (t := 3) (p := 49) rfl ?_); refine store_event (t := 3) (p := 49) (v := ?vo_w31) (w1 := (wr.setCell ⟨go28, (x38_2 : Int).toNat, none⟩ (.int .i64 (wrap64 ((rd x4_2 x38_2) + (rd t366 x38_2)))))) ?hg ?ho ?hn ?hr ?_; (case ho => rfl); (case hg => rfl); (case hn => rfl); (case hr => first | (go_simp; done) | (go_simp; rfl)); intro w31 hw; have hg : wr.grownBy w31 (some go28) := (by rw [hw]; exact HP30.2); have hp_ : Kd.R (Kd.int .i64) 3 w31 w.heap.size (fun k_ => some k_ ≠ (.slice (some ad369) t366.length co23 : Value).ownBlock) (.slice (some ⟨go28, 0, none⟩) x4_2.length co29) y371 := (by rw [hw, Ny371.out]; exact HP30.1); clear HP30; have n0_ := Aside0.mk (hp_); have n1_ := Aside0.mk (Kd.R_over' (v := (.slice (some ⟨go28, 0, none⟩) x4_2.length co29)) (by (with_reducible repeat (first | apply Kd.R_alloc | apply Kd.R_drewN | apply Kd.R_drew)); exact HO_5.out) (Kd.R_typed HO_4.out) (by decide) hg); have n2_ := Aside0.mk (Kd.R_over' (v := (.slice (some ⟨go28, 0, none⟩) x4_2.length co29)) (by (with_reducible repeat (first | apply Kd.R_alloc | apply Kd.R_drewN | apply Kd.R_drew)); exact HO_26.out) (Kd.R_typed HO_4.out) (by decide) hg); have n3_ := Aside0.mk (Kd.R_after (v := (.slice (some ⟨go28, 0, none⟩) x4_2.length co29)) (v1 := (.slice (some ⟨go28, 0, none⟩) x4_2.length co29)) (ok := (fun _ => True)) (by (with_reducible repeat (first | apply Kd.R_alloc | apply Kd.R_drewN | apply Kd.R_drew)); exact Kd.R_mono HO_36.out (fun _ hk => ⟨trivial, hk⟩)) hg (.inl rfl)); have n4_ := Aside0.mk (blk_grown (g := gb357) (o := .cells #[.int .i64 a0_0, .int .i64 a0_1] 25 (0, 0)) bK hg (Kd.R_ne HO_4.out BK357.out (by decide))); have n5_ := Aside0.mk ((by rw [hw]; exact below_set (HB.out) GB28.out : Below w.heap.size w w31)); clear HO_4; clear HO_5; clear HO_26; clear HO_36; clear BK357; clear HB; have HO_4 := n0_; have HO_5 := n1_; have HO_26 := n2_; have HO_36 := n3_; have BK357 := n4_; have HB := n5_; clear n0_ n1_ n2_ n3_ n4_ n5_; clear hg hw hp_))
               go_roundg k2
               case measure => have := HK1.out; have := HK2.out; omega
               case rel => exact ⟨(y371), (wrap64 (x38_2 + 1)), fR, H', ⟨by have := HK1.out; have := HK2.out; omega⟩, ⟨by (with_reducible repeat (first | apply Kd.R_alloc | apply Kd.R_drewN | apply Kd.R_drew)); exact HO_4.out⟩, ⟨by (with_reducible repeat (first | apply Kd.R_alloc | apply Kd.R_drewN | apply Kd.R_drew)); exact HO_5.out⟩, ⟨by (with_reducible repeat (first | apply Kd.R_alloc | apply Kd.R_drewN | apply Kd.R_drew)); exact HO_26.out⟩, ⟨by (with_reducible repeat (first | apply Kd.R_alloc | apply Kd.R_drewN | apply Kd.R_drew)); exact Kd.R_mono HO_36.out (fun _ hk => hk.2)⟩, ⟨bK⟩, ⟨bG⟩⟩
              ·rw [if_neg c27] at H
               exact absurd H (by simp)
             ·rw [if_neg c26] at H
              exact absurd H (by simp)
            ·rw [if_neg c25] at H
             exact absurd H (by simp)
           ·rw [if_neg c24] at H
            have c24b0 : decide (x38_2 < (t366.length : Int)) = false := decide_eq_false c24
            clear c24
            have H' := Aside0.mk H
            clear H
            go_wp2
            go_roundg k2
            case measure => have := HK1.out; have := HK2.out; omega
            case rel => exact ⟨(x4_2), (wrap64 (x28_1 + 1)), fR, H', ⟨by have := HK1.out; have := HK2.out; omega⟩, ⟨by (with_reducible repeat (first | apply Kd.R_alloc | apply Kd.R_drewN | apply Kd.R_drew)); exact Kd.R_mono HO_4.out (fun _ hk => trivial)⟩, ⟨by (with_reducible repeat (first | apply Kd.R_alloc | apply Kd.R_drewN | apply Kd.R_drew)); exact HO_5.out⟩, ⟨by (with_reducible repeat (first | apply Kd.R_alloc | apply Kd.R_drewN | apply Kd.R_drew)); exact HO_26.out⟩, ⟨bK⟩, ⟨bG⟩⟩
        ·rw [if_neg c19] at H
         exact absurd H (by simp)
       ·rw [if_neg c18] at H
        exact absurd H (by simp)
      ·rw [if_neg c17] at H
       have c17b0 : decide (x28_1 < (t362.length : Int)) = false := decide_eq_false c17
       clear c17
       have H' := Aside0.mk H
       clear H
       obtain ⟨Ao32, co32, eo32⟩ := Kd.R_slice HO_4.out
       subst eo32
       go_wp2
       go_loopg [10, 54] k1 (fun kq v10 v54 w' => ∃ (x10_2 : List (List Int)) (x54_2 : Int), v54 = .int .i64 x54_2 ∧ Aside0 (spec_PossibleHints.l2 kq x10_2 x4_1 (x4_1.length : Int) x54_2 a0_0 a0_1 = some (r1, r2)) ∧ Aside0 (kq ≤ k1) ∧ Aside0 (Kd.S (Kd.slice 3 (Kd.int .i64)) 55 w' w.heap.size (fun k_ => some k_ ≠ ((.slice Ao32 x4_1.length co32) : Value).ownBlock) v10 x10_2) ∧ Aside0 (Kd.R (Kd.int .i64) 3 w' w.heap.size (fun _ => True) (.slice Ao32 x4_1.length co32) x4_1) ∧ Aside0 (w'.heap[gb357]? = some (.cells #[.int .i64 a0_0, .int .i64 a0_1] 25 (0, 0))) ∧ Aside0 (Below w.heap.size w w'))
       case atStart => exact ⟨(([] : List (List Int))), (0), fR, H', ⟨Nat.le_refl _⟩, ⟨by first | exact Kd.S_nil _ _ _ _ _ | exact Kd.N_nil _ _ _ _ _ | exact Kd.V_nil _ _ _ _ _ | exact Kd.Q_nil _ _ _ _ _ | exact Kd.R_nil _ _ _ _ _⟩, ⟨by (with_reducible repeat (first | apply Kd.R_alloc | apply Kd.R_drewN | apply Kd.R_drew)); exact HO_4.out⟩, ⟨bK⟩, ⟨bG⟩⟩
       case round =>
        clear H'
        try clear c1
        try clear c2
        try clear p2
        try clear q2
        try clear hx2
        try clear hf2
        try clear c3
        try clear p3
        try clear q3
        try clear hx3
        try clear c5
        try clear c5b0
        try clear c5b1
        try clear c6
        try clear c6b0
        try clear c6b1
        try clear p6
        try clear c17
        try clear c17b0
        try clear c18
        try clear c18b0
        try clear c19
        try clear c19b0
        try clear c20
        try clear c24
        try clear c24b0
        try clear c25
        try clear c25b0
        try clear c26
        try clear c26b0
        try clear c27
        try clear c27b0
        try clear p28
        try clear q28
        try clear hx28
        try clear hf28
        try clear hcz11_0
        try clear hcz11_1
        try clear hcz14_0
        try clear hcz14_1
        try clear hcz21_0
        try clear hcz21_1
        try clear hcz9_0
        try clear hcz9_1
        try clear hfz11_0
        try clear hfz11_1
        try clear hfz14_0
        try clear hfz14_1
        try clear hfz21_0
        try clear hfz21_1
        try clear hfz9_0
        try clear hfz9_1
        try clear hx28_0
        try clear hx365_0
        try clear hx369_0
        try clear hx370_0
        try clear p2
        try clear p28
        try clear p3
        try clear p365
        try clear p369
        try clear p370
        try clear p6
        try clear q28
        try clear q3
        try clear q365
        try clear q369
        try clear q370
        obtain ⟨x10_2, x54_2, rfl, HA, HK2, HO_10, HO_52, BK357, HB⟩ := hrel
        cases gk with
        | zero => exact absurd HA.out (by simp [spec_PossibleHints.l2])
        | succ k2 =>
         have H := HA.out
         clear HA
         simp only [spec_PossibleHints.l2] at H
         by_cases c33 : x54_2 < (x4_1.length : Int)
         ·rw [if_pos c33] at H
          have c33b0 : decide (x54_2 < (x4_1.length : Int)) = true := decide_eq_true c33
          clear c33
          by_cases c34 : 0 ≤ x54_2
          ·rw [if_pos c34] at H
           have c34b0 : decide (0 ≤ x54_2) = true := decide_eq_true c34
           clear c34
           by_cases c35 : x54_2 < (x4_1.length : Int)
           ·rw [if_pos c35] at H
            have c35b0 : decide (x54_2 < (x4_1.length : Int)) = true := decide_eq_true c35
            clear c35
            by_cases c36 : (rd x4_1 x54_2) > 0
            ·rw [if_pos c36] at H
             have c36b0 : decide (0 < (rd x4_1 x54_2)) = true := decide_eq_true c36
             clear c36
             by_cases c37 : (wrap64 (a0_0 + 1)) = 0
             ·rw [if_pos c37] at H
              exact absurd H (by simp)
             ·rw [if_neg c37] at H
              have c37b0 : ((wrap64 (a0_0 + 1)) == 0) = false := beq_eq_false_iff_ne.mpr c37
              have c37b1 : ((wrap64 (a0_0 + 1)) != 0) = true := bne_iff_ne.mpr c37
              obtain ⟨y373, hy373⟩ : ∃ y_ : List Int, y_ = (([wrap64 (Int.tdiv x54_2 (wrap64 (a0_0 + 1))), Int.tmod x54_2 (wrap64 (a0_0 + 1))] : List Int)) := ⟨_, rfl⟩
              replace H : (if x10_2.length < 5864062014805 then (spec_PossibleHints.l2 k2 (x10_2 ++ [y373]) x4_1 (x4_1.length : Int) (wrap64 (x54_2 + 1)) a0_0 a0_1) else (none)) = some (r1, r2) := by first | (rw [hy373]; with_reducible exact H) | (have H2_ := (Option.bind_some _ _).symm.trans H; rw [hy373]; with_reducible exact H2_) | (have H2_ := (Option.bind_some _ _).symm.trans H; with_reducible exact H2_) | with_reducible exact H | (rw [hy373]; exact H) | exact H
              have Ny373 := Aside0.mk hy373
              clear hy373
              by_cases c38 : x10_2.length < 5864062014805
              ·rw [if_pos c38] at H
               have LMc38 := Aside0.mk c38
               clear c38
               obtain ⟨y376, hy376⟩ : ∃ y_ : List (List Int), y_ = (x10_2 ++ [y373]) := ⟨_, rfl⟩
               replace H : (spec_PossibleHints.l2 k2 y376 x4_1 (x4_1.length : Int) (wrap64 (x54_2 + 1)) a0_0 a0_1) = some (r1, r2) := by first | (rw [hy376]; with_reducible exact H) | (have H2_ := (Option.bind_some _ _).symm.trans H; rw [hy376]; with_reducible exact H2_) | (have H2_ := (Option.bind_some _ _).symm.trans H; with_reducible exact H2_) | with_reducible exact H | (rw [hy376]; exact H) | exact H
               have Ny376 := Aside0.mk hy376
               clear hy376
               have H' := Aside0.mk H
               clear H
               have p372 : 0 ≤ (x54_2 : Int) := oD
               have q372 : x54_2 < (x4_1.length : Int) := oD
               obtain ⟨ad372, e372, hx372_0⟩ := Kd.at_int (Kd.R_reads' HO_52.out).2.2 x54_2 p372 q372
               cases e372
               replace p372 := eq_true p372
               replace q372 := eq_true q372
               try go_wp2
               have n0_ := Aside0.mk (Kd.S_drew HO_10.out)
               have n1_ := Aside0.mk (Kd.R_drew HO_52.out)
               have n2_ := Aside0.mk (blk_drew BK357.out)
               have n3_ := Aside0.mk (below_drew1 HB.out)
               clear HO_10
               clear HO_52
               clear BK357
               clear HB
               have HO_10 := n0_
               have HO_52 := n1_
               have BK357 := n2_
               have HB := n3_
               clear n0_ n1_ n2_ n3_
               refine start_ (n := 15) (S := fun w' => w'.cell? ⟨gb357, 0, none⟩ = some (.int .i64 a0_0) ∧ w'.cell? ⟨gb357, 1, none⟩ = some (.int .i64 a0_1)) (ds := []) #[false, false, false, false, false, false, false, false, false, false, false, false, false, false, false] (by kernel_rfl) rfl rfl ⟨(blk_cell BK357.out 0).trans rfl, (blk_cell BK357.out 1).trans rfl⟩ (fun hHeld => ?_); refine with_tabW spec_PossibleHints.tab19 spec_PossibleHints.bits19 (fun HT_ HW_ => ?_)
               generalize wr.drew = w39 at HO_10 HO_52 BK357 HB hHeld ⊢
               refine pure_ (i := 0) (N := some 61) (v := ?_) (a' := ?_) #[true, false, false, false, false, false, false, false, false, false, false, false, false, false, false] rfl rfl (any_of HT_.out (by kernel_rfl)) (fun _ _ _ h => h) (Or.inl ⟨by rfl, ?_⟩) ?_ ?_
               rotate_left
               ·intro w'
                go_simp
                with_reducible rfl
               rotate_left
               ·simp only [Act.put, List.setIfInBounds_toArray, List.set_cons_zero, List.set_cons_succ, i64_w, i32_w]
                rfl
               refine pure_ (i := 1) (N := some 62) (v := ?_) (a' := ?_) #[true, true, false, false, false, false, false, false, false, false, false, false, false, false, false] rfl rfl (any_of HT_.out (by kernel_rfl)) (fun _ _ _ h => h) (Or.inl ⟨by rfl, ?_⟩) ?_ ?_
               rotate_left
               ·intro w'
                go_simp
                with_reducible rfl
               rotate_left
               ·simp only [Act.put, List.setIfInBounds_toArray, List.set_cons_zero, List.set_cons_succ, i64_w, i32_w]
                rfl
               refine pure_ (i := 2) (N := some 63) (v := ?_) (a' := ?_) #[true, true, true, false, false, false, false, false, false, false, false, false, false, false, false] rfl rfl (any_of HT_.out (by kernel_rfl)) (fun _ _ _ h => h) (Or.inl ⟨by rfl, ?_⟩) ?_ ?_
               rotate_left
               ·intro w'
                go_simp
                with_reducible rfl
               rotate_left
               ·simp only [Act.put, List.setIfInBounds_toArray, List.set_cons_zero, List.set_cons_succ, i64_w, i32_w]
                rfl
               refine pure_ (i := 6) (N := some 67) (v := ?_) (a' := ?_) #[true, true, true, false, false, false, true, false, false, false, false, false, false, false, false] rfl rfl (any_of HT_.out (by kernel_rfl)) (fun _ _ _ h => h) (Or.inl ⟨by rfl, ?_⟩) ?_ ?_
               rotate_left
               ·intro w'
                go_simp
                with_reducible rfl
               rotate_left
               ·simp only [Act.put, List.setIfInBounds_toArray, List.set_cons_zero, List.set_cons_succ, i64_w, i32_w]
                rfl
               refine pure_ (i := 7) (N := some 68) (v := ?_) (a' := ?_) #[true, true, true, false, false, false, true, true, false, false, false, false, false, false, false] rfl rfl (any_of HT_.out (by kernel_rfl)) (fun _ _ _ h => h) (Or.inl ⟨by rfl, ?_⟩) ?_ ?_
               rotate_left
               ·intro w'
                go_simp
                with_reducible rfl
               rotate_left
               ·simp only [Act.put, List.setIfInBounds_toArray, List.set_cons_zero, List.set_cons_succ, i64_w, i32_w]
                rfl
               refine take_ (i := 3) (N := some 64) (v := ?_) (a' := ?_) #[true, true, true, true, false, false, true, true, false, false, false, false, false, false, false] rfl rfl (take_ofW HT_.out HW_.out (by kernel_rfl)) (fun _ _ _ h => h) (Or.inl ⟨by rfl, ?_⟩) hHeld ?_ ?_
               rotate_left
               ·rintro w' ⟨s0, s1⟩
                go_simp
                with_reducible rfl
               rotate_left
               ·simp only [Act.put, List.setIfInBounds_toArray, List.set_cons_zero, List.set_cons_succ, i64_w, i32_w]
                rfl
               refine pure_ (i := 4) (N := some 65) (v := ?_) (a' := ?_) #[true, true, true, true, true, false, true, true, false, false, false, false, false, false, false] rfl rfl (any_of HT_.out (by kernel_rfl)) (fun _ _ _ h => h) (Or.inl ⟨by rfl, ?_⟩) ?_ ?_
               rotate_left
               ·intro w'
                go_simp
                with_reducible rfl
               rotate_left
               ·simp only [Act.put, List.setIfInBounds_toArray, List.set_cons_zero, List.set_cons_succ, i64_w, i32_w]
                rfl
               refine pure_ (i := 5) (N := some 66) (v := ?_) (a' := ?_) #[true, true, true, true, true, true, true, true, false, false, false, false, false, false, false] rfl rfl (any_of HT_.out (by kernel_rfl)) (fun _ _ _ h => h) (Or.inl ⟨by rfl, ?_⟩) ?_ ?_
               rotate_left
               ·intro w'
                go_simp
                with_reducible rfl
               rotate_left
               ·simp only [Act.put, List.setIfInBounds_toArray, List.set_cons_zero, List.set_cons_succ, i64_w, i32_w]
                rfl
               refine take_ (i := 8) (N := some 69) (v := ?_) (a' := ?_) #[true, true, true, true, true, true, true, true, true, false, false, false, false, false, false] rfl rfl (take_ofW HT_.out HW_.out (by kernel_rfl)) (fun _ _ _ h => h) (Or.inl ⟨by rfl, ?_⟩) hHeld ?_ ?_
               rotate_left
               ·rintro w' ⟨s0, s1⟩
                go_simp
                with_reducible rfl
               rotate_left
               ·simp only [Act.put, List.setIfInBounds_toArray, List.set_cons_zero, List.set_cons_succ, i64_w, i32_w]
                rfl
               refine pure_ (i := 9) (N := some 70) (v := ?_) (a' := ?_) #[true, true, true, true, true, true, true, true, true, true, false, false, false, false, false] rfl rfl (any_of HT_.out (by kernel_rfl)) (fun _ _ _ h => h) (Or.inl ⟨by rfl, ?_⟩) ?_ ?_
               rotate_left
               ·intro w'
                go_simp
                with_reducible rfl
               rotate_left
               ·simp only [Act.put, List.setIfInBounds_toArray, List.set_cons_zero, List.set_cons_succ, i64_w, i32_w]
                rfl
               refine pure_ (i := 10) (N := some 71) (v := ?_) (a' := ?_) #[true, true, true, true, true, true, true, true, true, true, true, false, false, false, false] rfl rfl (any_of HT_.out (by kernel_rfl)) (fun _ _ _ h => h) (Or.inl ⟨by rfl, ?_⟩) ?_ ?_
               rotate_left
               ·intro w'
                go_simp
                with_reducible rfl
               rotate_left
               ·simp only [Act.put, List.setIfInBounds_toArray, List.set_cons_zero, List.set_cons_succ, i64_w, i32_w]
                rfl
               refine one_ (i := 11) (N := some 72) #[true, true, true, true, true, true, true, true, true, true, true, true, false, false, false] rfl rfl (one_of HT_.out (by kernel_rfl)) (by decide) (fun K hK => ?_)
               refine Kd.R_lit_step (Kd.int .i64) _ 3 ?hg (N := 72) ?hd (xs := ([wrap64 (Int.tdiv x54_2 (wrap64 (a0_0 + 1))), Int.tmod x54_2 (wrap64 (a0_0 + 1))] : List Int)) (inner := [.int .i64 (wrap64 (Int.tdiv x54_2 (wrap64 (a0_0 + 1)))), .int .i64 (Int.tmod x54_2 (wrap64 (a0_0 + 1)))]) (ok := fun _ => True) (okp := fun _ => True) ?hr ?hp (fun _ hk => hk) trivial (Below.refl _ _) (Nat.le_refl _) (by simp) ?_; (case hd => rfl); (case hg => rfl); (case hr => first | (go_simp; done) | (go_simp; rfl)); (case hp => exact (Reps.one (show Kd.M (Kd.int .i64) _ _ _ (wrap64 (Int.tdiv x54_2 (wrap64 (a0_0 + 1)))) [.int .i64 (wrap64 (Int.tdiv x54_2 (wrap64 (a0_0 + 1))))] from rfl) (Reps.one (show Kd.M (Kd.int .i64) _ _ _ (Int.tmod x54_2 (wrap64 (a0_0 + 1))) [.int .i64 (Int.tmod x54_2 (wrap64 (a0_0 + 1)))] from rfl) (Reps.none _ _))))
               intro v374 w40 ho41 hb hg_ hnew_
               clear hg_ hnew_
               (first | rw [← Ny373.out] at ho41 | (simp only [Int.reduceToNat] at ho41; rw [← Ny373.out] at ho41))
               have n0_ := Aside0.mk (Kd.S_elder' (by (with_reducible repeat (first | apply Kd.S_alloc | apply Kd.S_drewN | apply Kd.S_drew)); exact HO_10.out) (Kd.R_base ho41) hb)
               have n1_ := Aside0.mk (Kd.R_elder' (by (with_reducible repeat (first | apply Kd.R_alloc | apply Kd.R_drewN | apply Kd.R_drew)); exact HO_52.out) (Kd.R_base ho41) hb)
               have n2_ := Aside0.mk (Kd.R_lower (Kd.R_new' ho41 (Kd.R_lt (by (with_reducible repeat (first | apply Kd.R_alloc | apply Kd.R_drewN | apply Kd.R_drew)); exact HO_52.out))) (below_size bG))
               have n3_ := Aside0.mk (blk_below (g := gb357) (o := .cells #[.int .i64 a0_0, .int .i64 a0_1] 25 (0, 0)) bK hb)
               have n4_ := Aside0.mk (below_step bG hb)
               clear HO_10
               clear HO_52
               clear BK357
               clear HB
               have HO_10 := n0_
               have HO_52 := n1_
               have HO375 := n2_
               have BK357 := n3_
               have HB := n4_
               clear n0_ n1_ n2_ n3_ n4_
               clear hb ho41
               obtain ⟨Ao43, co43, eo43⟩ := Kd.R_slice HO375.out
               (first | subst eo43 | (injection eo43 with f1_ f2_ f3_; have f4_ := f1_.symm; have f5_ := f3_.symm; clear f1_ f2_ f3_; subst f4_; subst f5_))
               refine hK.out _ _ ⟨(blk_cell BK357.out 0).trans rfl, (blk_cell BK357.out 1).trans rfl⟩ (fun hHeld => ?_)
               clear hK K
               refine norm_ (a' := ?_) ?_ ?_
               rotate_left
               ·show Act.put _ (some 72) _ = _
                simp only [Act.put, List.setIfInBounds_toArray, List.set_cons_zero, List.set_cons_succ, i64_w, i32_w]
                rfl
               refine one_ (i := 12) (N := some 73) #[true, true, true, true, true, true, true, true, true, true, true, true, true, false, false] rfl rfl (one_of HT_.out (by kernel_rfl)) (by decide) (fun K hK => ?_)
               refine value_ (w1 := ?_) (v := ?_) (by rfl) rfl ?_ ?_
               rotate_left 2
               ·go_simp
                constructor
                ·rfl
                ·rfl
               refine hK.out _ _ ⟨(blk_cell (blk_alloc BK357.out _) 0).trans rfl, (blk_cell (blk_alloc BK357.out _) 1).trans rfl⟩ (fun hHeld => ?_)
               clear hK K
               refine norm_ (a' := ?_) ?_ ?_
               rotate_left
               ·show Act.put _ (some 73) _ = _
                simp only [Act.put, List.setIfInBounds_toArray, List.set_cons_zero, List.set_cons_succ, i64_w, i32_w]
                rfl
               refine one_ (i := 13) (N := some 74) #[true, true, true, true, true, true, true, true, true, true, true, true, true, true, false] rfl rfl (one_of HT_.out (by kernel_rfl)) (by decide) (fun K hK => ?_)
               refine Kd.S_append_step (Kd.slice 3 (Kd.int .i64)) (w0 := w) w.heap.size (by rfl) (.tmp 61) (.tmp 73) 44 55 (.slice none 0 0) 24 rfl Tryz.underlying44 info55 rfl (by decide) (by omega) u10 x10_2 y373 [.slice Ao43 y373.length co43] (fun k_ => some k_ ≠ (.slice (some ad372) x4_1.length co32 : Value).ownBlock) (fun k_ => some k_ = (.slice Ao43 y373.length co43 : Value).ownBlock) rfl rfl ?aP (fun k_ hk_ => ((Kd.R_mono (ok' := fun k_ => ((fun k_ => some k_ ≠ (.slice (some ad372) x4_1.length co32 : Value).ownBlock)) k_ ∧ some k_ ≠ (u10 : Value).ownBlock) (Kd.R_apart' (HO375.out) (Kd.S_typed HO_10.out) (by decide)) (fun k_ hk => ⟨hk.1.2, hk.2⟩))).1 k_ hk_.symm) ?aF ?aO ?aB ?aS ?aL ?_
               (case aP => exact Kd.M_row (Kd.R_mono (Kd.R_tight rfl (Kd.R_mono (ok' := fun k_ => ((fun k_ => some k_ ≠ (.slice (some ad372) x4_1.length co32 : Value).ownBlock)) k_ ∧ some k_ ≠ (u10 : Value).ownBlock) (Kd.R_apart' (HO375.out) (Kd.S_typed HO_10.out) (by decide)) (fun k_ hk => ⟨hk.1.2, hk.2⟩))) (fun _ h_ => h_)))
               (case aB => exact bG)
               (case aF => exact (fun k_ hk => Kd.fresh' (Kd.R_lt (by (with_reducible repeat (first | apply Kd.R_alloc | apply Kd.R_drewN | apply Kd.R_drew)); exact HO_52.out)) k_ hk))
               (case aO => exact (by (with_reducible repeat (first | apply Kd.S_alloc | apply Kd.S_drewN | apply Kd.S_drew)); exact Kd.S_mono HO_10.out (fun k_ hk => ⟨hk.1, fun e_ => hk.2 e_⟩)))
               (case aS => exact (below_size bG))
               (case aL => have := LMc38.out; omega)
               intro v377 w42 ho hb hg hat
               rw [← Ny376.out] at ho
               have n0_ := Aside0.mk (Kd.R_over' (by (with_reducible repeat (first | apply Kd.R_alloc | apply Kd.R_drewN | apply Kd.R_drew)); exact HO_52.out) (Kd.S_typed (by (with_reducible repeat (first | apply Kd.S_alloc | apply Kd.S_drewN | apply Kd.S_drew)); exact HO_10.out)) (by decide) hg)
               have n1_ := Aside0.mk (blk_grown (g := gb357) (o := .cells #[.int .i64 a0_0, .int .i64 a0_1] 25 (0, 0)) bK hg (Kd.S_ne HO_10.out BK357.out (by decide)))
               have n2_ := Aside0.mk (hb)
               have n3_ := Aside0.mk (ho)
               clear HO_52
               clear BK357
               clear HB
               clear HO_10
               clear HO375
               have HO_52 := n0_
               have BK357 := n1_
               have HB := n2_
               have HO378 := n3_
               clear n0_ n1_ n2_ n3_
               clear ho hb hg hat
               refine hK.out _ _ ⟨(blk_cell BK357.out 0).trans rfl, (blk_cell BK357.out 1).trans rfl⟩ (fun hHeld => ?_)
               clear hK K
               refine norm_ (a' := ?_) ?_ ?_
               rotate_left
               ·show Act.put _ (some 74) _ = _
                simp only [Act.put, List.setIfInBounds_toArray, List.set_cons_zero, List.set_cons_succ, i64_w, i32_w]
                rfl
               refine pure_ (i := 14) (N := some 10) (v := ?_) (a' := ?_) #[true, true, true, true, true, true, true, true, true, true, true, true, true, true, true] rfl rfl (any_of HT_.out (by kernel_rfl)) (fun _ _ _ h => h) (Or.inl ⟨by rfl, ?_⟩) ?_ ?_
               rotate_left
               ·intro w'
                go_simp
                with_reducible rfl
               rotate_left
               ·simp only [Act.put, List.setIfInBounds_toArray, List.set_cons_zero, List.set_cons_succ, i64_w, i32_w]
                rfl
               refine done_ (done_of HT_.out (by kernel_rfl)) ?_
               try go_wp2
               go_roundg k2
               case measure => have := HK1.out; have := HK2.out; omega
               case rel => exact ⟨(y376), (wrap64 (x54_2 + 1)), fR, H', ⟨by have := HK1.out; have := HK2.out; omega⟩, ⟨by (with_reducible repeat (first | apply Kd.S_alloc | apply Kd.S_drewN | apply Kd.S_drew)); exact HO378.out⟩, ⟨by (with_reducible repeat (first | apply Kd.R_alloc | apply Kd.R_drewN | apply Kd.R_drew)); exact Kd.R_mono HO_52.out (fun _ hk => trivial)⟩, ⟨bK⟩, ⟨bG⟩⟩
              ·rw [if_neg c38] at H
               exact absurd H (by simp)
            ·rw [if_neg c36] at H
             have c36b0 : decide (0 < (rd x4_1 x54_2)) = false := decide_eq_false c36
             clear c36
             have H' := Aside0.mk H
             clear H
             have p372 : 0 ≤ (x54_2 : Int) := oD
             have q372 : x54_2 < (x4_1.length : Int) := oD
             obtain ⟨ad372, e372, hx372_0⟩ := Kd.at_int (Kd.R_reads' HO_52.out).2.2 x54_2 p372 q372
             cases e372
             replace p372 := eq_true p372
             replace q372 := eq_true q372
             go_wp2
             go_roundg k2
             case measure => have := HK1.out; have := HK2.out; omega
             case rel => exact ⟨(x10_2), (wrap64 (x54_2 + 1)), fR, H', ⟨by have := HK1.out; have := HK2.out; omega⟩, ⟨by (with_reducible repeat (first | apply Kd.S_alloc | apply Kd.S_drewN | apply Kd.S_drew)); exact HO_10.out⟩, ⟨by (with_reducible repeat (first | apply Kd.R_alloc | apply Kd.R_drewN | apply Kd.R_drew)); exact HO_52.out⟩, ⟨bK⟩, ⟨bG⟩⟩
           ·rw [if_neg c35] at H
            exact absurd H (by simp)
          ·rw [if_neg c34] at H
           exact absurd H (by simp)
         ·rw [if_neg c33] at H
          have c33b0 : decide (x54_2 < (x4_1.length : Int)) = false := decide_eq_false c33
          clear c33
          simp only [Option.some.injEq, Prod.mk.injEq] at H
          obtain ⟨rfl, rfl⟩ := H
          go_wp2
          go_ret2
          exact ⟨_, by first | rfl | (simp [errW_none, errW_some] <;> rfl) | (simp only [← hji4]; first | rfl | (simp [errW_none, errW_some] <;> rfl)) | (simp [*, errW_none, errW_some] <;> rfl), by (with_reducible repeat (first | apply Kd.S_alloc | apply Kd.S_drewN | apply Kd.S_drew)); exact Kd.S_mono HO_10.out (fun _ hk => trivial), bG⟩
   ·rw [if_neg c6] at H
    exact absurd H (by simp)
  ·rw [if_neg c5] at H
   exact absurd H (by simp)
 ·replace c3 := Bool.eq_false_iff.mpr c3
  subst c3
  have H1 : (some (([] : List (List Int)), false)) = some (r1, r2) := by rw [if_neg (show ¬ (false = true) by decide)] at H; exact H
  clear H
  have H := H1
  clear H1
  simp only [Option.some.injEq, Prod.mk.injEq] at H
  obtain ⟨rfl, rfl⟩ := H
  go_enter Tryz.func20, Tryz.ntmps20
  go_wp2_with (first | ((with_reducible refine gate_dst (N := 1) rfl ?_); refine box_event ?hg (N := 1) ?hd (cs := #[.int .i64 a0_0, .int .i64 a0_1]) (t := 25) ?hr ?_; (case hd => rfl); (case hg => rfl); (case hr => first | (go_simp; done) | (go_simp; rfl)); intro gb357 hg w44 hbox hb; have n0_ := Aside0.mk (below_step bB hb); have n1_ := Aside0.mk (hbox); have n2_ := Aside0.mk ((by rw [hg]; exact (below_size bB) : w.heap.size ≤ gb357)); have n3_ := Aside0.mk ((by rw [hg]; exact (below_size bB) : w.heap.size ≤ gb357)); clear HB; have HB := n0_; have BK357 := n1_; have GW357 := n2_; have GE357 := n3_; clear n0_ n1_ n2_ n3_; clear hb hbox hg; have hcz45_0 : w44.cell? ⟨gb357, 0, none⟩ = some (.int .i64 a0_0) := (blk_cell BK357.out 0).trans rfl; have hcz45_1 : w44.cell? ⟨gb357, 1, none⟩ = some (.int .i64 a0_1) := (blk_cell BK357.out 1).trans rfl; have hfz45_0 := blk_frozen BK357.out 0; have hfz45_1 := blk_frozen BK357.out 1) | ((with_reducible refine gate_callee (f := 53) rfl ?_); refine goesL_ (some 14) rfl rfl Tryz.func53 (by kernel_rfl) rfl #[.agg #[.int .i64 a0_0, .int .i64 a0_1], .int .i64 256] rfl lM ?_; (with_reducible refine (spec_hiLock.calls k a0_0 a0_1 256 false _ A2.out).mono ?_); rintro e w46 ⟨rfl, hb⟩; refine ⟨_, rfl, ?_⟩; have n0_ := Aside0.mk (blk_below (g := gb357) (o := .cells #[.int .i64 a0_0, .int .i64 a0_1] 25 (0, 0)) bK hb); have n1_ := Aside0.mk (below_step bG hb); clear BK357; clear HB; have BK357 := n0_; have HB := n1_; clear n0_ n1_; (try clear hb); (try clear hb2); (try clear hk); (try clear hi)))
  go_ret2
  exact ⟨_, by first | rfl | (simp [errW_none, errW_some] <;> rfl) | (simp [*, errW_none, errW_some] <;> rfl), by first | exact Kd.S_nil _ _ _ _ _ | exact Kd.N_nil _ _ _ _ _ | exact Kd.V_nil _ _ _ _ _ | exact Kd.Q_nil _ _ _ _ _ | exact Kd.R_nil _ _ _ _ _, bG⟩

/-! ### spec_DrawCountWithHint: function 21 -/
def spec_DrawCountWithHint.f (l0 : List Int) : Option (Int × Int × Int × Int) := (spec_l1Cur_lock.f l0 0 0).bind fun a => (spec_l1Cur_pick.f l0 a.2.2.1 a.2.2.2 5).bind fun p => (spec_l1Cur_pick.f l0 p.2.1 p.2.2 9).bind fun q => (spec_l1Cur_pick.f l0 q.2.1 q.2.2 4).bind fun x => (spec_l1Cur_pick.f l0 x.2.1 x.2.2 9).bind fun y => some (a.1, a.2.1, wrap64 (p.1 - wrap64 (Int.tdiv q.1 8)), wrap64 (x.1 - wrap64 (Int.tdiv y.1 8)))
set_option maxHeartbeats 4000000 in
set_option maxRecDepth 100000 in
theorem spec_DrawCountWithHint.calls (A0 : Option Addr) (c0 : Nat) (l0 : List Int) (r1 r2 r3 r4 : Int) (w : World) (hr0 : Kd.C (Kd.int .u8) w A0 l0.length l0) (hc0 : l0.length ≤ c0) (h : spec_DrawCountWithHint.f l0 = some (r1, r2, r3, r4)) :
  Calls Tryz.prog 21 #[.slice A0 l0.length c0] w fun e w' => e = .returned (.tuple #[.agg #[.int .i64 r1, .int .i64 r2], .int .i64 r3, .int .i64 r4]) ∧ Below w.heap.size w w' := by
 have hu43 := Tryz.underlying76
 unfold spec_DrawCountWithHint.f at h
 obtain ⟨⟨m, s, at1, sd1⟩, h1, h⟩ := Option.bind_eq_some_iff.mp h
 obtain ⟨⟨p, at2, sd2⟩, h2, h⟩ := Option.bind_eq_some_iff.mp h
 obtain ⟨⟨q, at3, sd3⟩, h3, h⟩ := Option.bind_eq_some_iff.mp h
 obtain ⟨⟨x, at4, sd4⟩, h4, h⟩ := Option.bind_eq_some_iff.mp h
 obtain ⟨⟨y, at5, sd5⟩, h5, h⟩ := Option.bind_eq_some_iff.mp h
 simp only [Option.some.injEq, Prod.mk.injEq] at h
 obtain ⟨rfl, rfl, rfl, rfl⟩ := h
 have hn1 : w.heap.size ≠ w.heap.size + 1 := by omega
 have hul := Tryz.underlying25
 have HI := Aside0.mk (cur_new2 w (.cells #[.int .i64 0, .int .i64 0] 25) A0 c0 l0 hr0)
 have H1 := Aside0.mk h1
 have H2 := Aside0.mk h2
 have H3 := Aside0.mk h3
 have H4 := Aside0.mk h4
 have H5 := Aside0.mk h5
 have M1 := Aside0.mk trivial
 clear hr0 hc0 h1 h2 h3 h4 h5
 go_enter Tryz.func21, Tryz.ntmps21
 go_wp2_with (first | (go_at_call 49; refine (spec_l1Cur_lock.calls (w.heap.size + 1) l0 0 0 m s at1 sd1 w _ HI.out (below_alloc (below_alloc (Below.refl _ _) _) _) H1.out).mono ?_; rintro e w1 ⟨rfl, hI, hB, hk⟩; have hblk := (hk.2 w.heap.size (by simp; try omega) hn1 (by simp)).trans (blk_alloc (blk_new w _) _); have HBK := Aside0.mk hblk; have HI1 := Aside0.mk hI; have HB1 := Aside0.mk hB; clear hI hB hk hblk HI) | (go_at_call 68; have m1 := M1; clear M1; refine (spec_l1Cur_pick.calls (w.heap.size + 1) l0 at1 sd1 5 p at2 sd2 w _ HI1.out HB1.out H2.out).mono ?_; rintro e w2 ⟨rfl, hI, hB, hk⟩; have hblk := (hk.2 w.heap.size (blk_lt HBK.out) hn1 (by simp)).trans HBK.out; clear HI1 HB1 HBK; have HBK := Aside0.mk hblk; have HI1 := Aside0.mk hI; have HB1 := Aside0.mk hB; clear hI hB hk hblk; have M2 := m1; clear m1) | (go_at_call 68; have m1 := M2; clear M2; refine (spec_l1Cur_pick.calls (w.heap.size + 1) l0 at2 sd2 9 q at3 sd3 w _ HI1.out HB1.out H3.out).mono ?_; rintro e w3 ⟨rfl, hI, hB, hk⟩; have hblk := (hk.2 w.heap.size (blk_lt HBK.out) hn1 (by simp)).trans HBK.out; clear HI1 HB1 HBK; have HBK := Aside0.mk hblk; have HI1 := Aside0.mk hI; have HB1 := Aside0.mk hB; clear hI hB hk hblk; have M3 := m1; clear m1) | (go_at_call 68; have m1 := M3; clear M3; refine (spec_l1Cur_pick.calls (w.heap.size + 1) l0 at3 sd3 4 x at4 sd4 w _ HI1.out HB1.out H4.out).mono ?_; rintro e w4 ⟨rfl, hI, hB, hk⟩; have hblk := (hk.2 w.heap.size (blk_lt HBK.out) hn1 (by simp)).trans HBK.out; clear HI1 HB1 HBK; have HBK := Aside0.mk hblk; have HI1 := Aside0.mk hI; have HB1 := Aside0.mk hB; clear hI hB hk hblk; have M4 := m1; clear m1) | (go_at_call 68; have m1 := M4; clear M4; refine (spec_l1Cur_pick.calls (w.heap.size + 1) l0 at4 sd4 9 y at5 sd5 w _ HI1.out HB1.out H5.out).mono ?_; rintro e w5 ⟨rfl, hI, hB, hk⟩; have hblk := (hk.2 w.heap.size (blk_lt HBK.out) hn1 (by simp)).trans HBK.out; clear HI1 HB1 HBK; have hc0 := (blk_cell hblk 0).trans rfl; have hc1 := (blk_cell hblk 1).trans rfl; have hf0 := blk_frozen hblk 0; have hf1 := blk_frozen hblk 1; have HBK := Aside0.mk hblk; have HI1 := Aside0.mk hI; have HB1 := Aside0.mk hB; clear hI hB hk hblk; have M5 := m1; clear m1))
 (try simp only [Exit.inBlock, Exit.then])
 refine bodyPost_ret (results_row_tmp2 rfl _ _ w.heap.size 25 #[.int .i64 m, .int .i64 s] (0, 0) _ rfl (blk_put (blk_put HBK.out 0 _ rfl) 1 _ rfl) Tryz.underlying25 rfl (by kernel_rfl)) rfl ?_
 exact ⟨rfl, below_set' (below_set' HB1.out (Nat.le_refl _)) (Nat.le_refl _)⟩

end Go.Proofs.YtcpnmiempaofdaaGreat.C
