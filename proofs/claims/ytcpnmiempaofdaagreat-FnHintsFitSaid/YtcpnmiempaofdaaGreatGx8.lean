-- Printed by hp.py, a program of this session: a machine's side of laws, out of the translation; Lean checks it.
import Derived.Test.YtcpnmiempaofdaaGreatGx0
import Derived.Test.YtcpnmiempaofdaaGreatGx2
import Derived.Test.YtcpnmiempaofdaaGreatGx4
import Derived.Test.YtcpnmiempaofdaaGreatGx5
import Derived.Test.YtcpnmiempaofdaaGreatGx6
import Derived.Test.YtcpnmiempaofdaaGreatGx7
namespace Go.Proofs.YtcpnmiempaofdaaGreat.G
open Go.RowKit Go.Proofs.YtcpnmiempaofdaaGreatW.PrintWords Go.Proofs.YtcpnmiempaofdaaGreatW.PrintLast Go.Proofs.YtcpnmiempaofdaaGreatW.PrintMore
attribute [local go_sem] max2_int min2_int max_two min_two max_three min_three max_four min_four   -- for this text's walks alone
set_option linter.unusedVariables false
set_option linter.unusedSimpArgs false

/-! ### spec_l1Cur_hints: function 112 -/
mutual
def spec_l1Cur_hints.l0 : Nat → List (S35) → ByteArray → Int → List Int → Int → Int → Int → Int → Option ((List (S35)) × Int × Int)
 | 0, _, _, _, _, _, _, _, _ => none
 | k + 1, x5, x6, x7, x1000, x1001, x1002, x293000, x293001 => if x7 > 0 then ((spec_l1Cur_code1.f k x1000 x1001 x1002 x293000 x293001).bind fun bt299 => ((spec_whAsked.f k x293000 x293001 x6).bind fun t303 => (if t303 = true then ((spec_whCode.f k x293000 x293001 bt299.1).bind fun t304 => (spec_l1Cur_hints.j1 k x5 x6 x7 t304 x1000 bt299.2.1 bt299.2.2 x293000 x293001 bt299.1 0 0)) else (spec_l1Cur_hints.j1 k x5 x6 x7 false x1000 bt299.2.1 bt299.2.2 x293000 x293001 bt299.1 0 0)))) else ((spec_l1Cur_one.f x1000 x1001 x1002 20).bind fun bt325 => (if bt325.1 = true then (spec_l1Cur_hints.l1 k x5 x6 x1000 bt325.2.1 bt325.2.2) else (some (x5, bt325.2.1, bt325.2.2))))
def spec_l1Cur_hints.j1 : Nat → List (S35) → ByteArray → Int → Bool → List Int → Int → Int → Int → Int → ByteArray → Int → Int → Option ((List (S35)) × Int × Int)
 | 0, _, _, _, _, _, _, _, _, _, _, _, _ => none
 | k + 1, x5, x6, x7, x32, x1000, x1001, x1002, x293000, x293001, x303000, x303001, x303002 => if x32 = true then ((spec_hiOf.f x303000 x6).bind fun bt305 => (spec_l1Cur_hints.j2 k x5 x6 x7 x1000 x1001 x1002 x293000 x293001 x303000 bt305.1 bt305.2)) else (spec_l1Cur_hints.j2 k x5 x6 x7 x1000 x1001 x1002 x293000 x293001 x303000 x303001 x303002)
def spec_l1Cur_hints.j2 : Nat → List (S35) → ByteArray → Int → List Int → Int → Int → Int → Int → ByteArray → Int → Int → Option ((List (S35)) × Int × Int)
 | 0, _, _, _, _, _, _, _, _, _, _, _ => none
 | k + 1, x5, x6, x7, x1000, x1001, x1002, x293000, x293001, x303000, x303001, x303002 => (spec_l1Cur_one.f x1000 x1001 x1002 12).bind fun bt307 => (if bt307.1 = true then ((spec_l1Cur_pick.f x1000 bt307.2.1 bt307.2.2 5).bind fun bt310 => ((spec_l1Cur_pick.f x1000 bt310.2.1 bt310.2.2 4).bind fun bt313 => ((spec_l1Cur_pick.f x1000 bt313.2.1 bt313.2.2 9).bind fun bt316 => (if x5.length < 4398046511104 then (spec_l1Cur_hints.l0 k (x5 ++ [(⟨x303000, wrap64 (bt310.1 - 1), wrap64 (bt313.1 - (wrap64 (Int.tdiv bt316.1 8)))⟩ : S35)]) x6 (wrap64 (x7 - 1)) x1000 bt316.2.1 bt316.2.2 x293000 x293001) else (none))))) else (if x5.length < 4398046511104 then (spec_l1Cur_hints.l0 k (x5 ++ [(⟨x303000, x303001, x303002⟩ : S35)]) x6 (wrap64 (x7 - 1)) x1000 bt307.2.1 bt307.2.2 x293000 x293001) else (none)))
def spec_l1Cur_hints.l1 : Nat → List (S35) → ByteArray → List Int → Int → Int → Option ((List (S35)) × Int × Int)
 | 0, _, _, _, _, _ => none
 | k + 1, x5, x6, x1000, x1001, x1002 => (spec_l1Cur_pick.f x1000 x1001 x1002 2).bind fun bt328 => (if (x5.length : Int) < (wrap64 (10 + bt328.1)) then (if x5.length < 4398046511104 then (spec_l1Cur_hints.l1 k (x5 ++ [(⟨x6, 0, 0⟩ : S35)]) x6 x1000 bt328.2.1 bt328.2.2) else (none)) else (some (x5, bt328.2.1, bt328.2.2)))
end
def spec_l1Cur_hints.f (k : Nat) (s0_0 : List Int) (s0_1 : Int) (s0_2 : Int) (a1_0 : Int) (a1_1 : Int) : Option ((List (S35)) × Int × Int) := (spec_l1Cur_code1.f k s0_0 s0_1 s0_2 a1_0 a1_1).bind fun bt293 => ((spec_l1Cur_pick.f s0_0 bt293.2.1 bt293.2.2 4).bind fun bt296 => (spec_l1Cur_hints.l0 k ([] : List (S35)) bt293.1 bt296.1 s0_0 bt296.2.1 bt296.2.2 a1_0 a1_1))
theorem spec_l1Cur_hints.mono_l : ∀ k, (∀ y0 y1 y2 y3 y4 y5 y6 y7, LeO (spec_l1Cur_hints.l0 k y0 y1 y2 y3 y4 y5 y6 y7) (spec_l1Cur_hints.l0 (k + 1) y0 y1 y2 y3 y4 y5 y6 y7)) ∧ (∀ y0 y1 y2 y3 y4 y5 y6 y7 y8 y9 y10 y11, LeO (spec_l1Cur_hints.j1 k y0 y1 y2 y3 y4 y5 y6 y7 y8 y9 y10 y11) (spec_l1Cur_hints.j1 (k + 1) y0 y1 y2 y3 y4 y5 y6 y7 y8 y9 y10 y11)) ∧ (∀ y0 y1 y2 y3 y4 y5 y6 y7 y8 y9 y10, LeO (spec_l1Cur_hints.j2 k y0 y1 y2 y3 y4 y5 y6 y7 y8 y9 y10) (spec_l1Cur_hints.j2 (k + 1) y0 y1 y2 y3 y4 y5 y6 y7 y8 y9 y10)) ∧ (∀ y0 y1 y2 y3 y4, LeO (spec_l1Cur_hints.l1 k y0 y1 y2 y3 y4) (spec_l1Cur_hints.l1 (k + 1) y0 y1 y2 y3 y4))
 | 0 => ⟨fun _ _ _ _ _ _ _ _ r h => by simp [spec_l1Cur_hints.l0] at h, fun _ _ _ _ _ _ _ _ _ _ _ _ r h => by simp [spec_l1Cur_hints.j1] at h, fun _ _ _ _ _ _ _ _ _ _ _ r h => by simp [spec_l1Cur_hints.j2] at h, fun _ _ _ _ _ r h => by simp [spec_l1Cur_hints.l1] at h⟩
 | k + 1 => by
  obtain ⟨ih0, ih1, ih2, ih3⟩ := spec_l1Cur_hints.mono_l k
  refine ⟨?_, ?_, ?_, ?_⟩
  intro y0 y1 y2 y3 y4 y5 y6 y7; unfold spec_l1Cur_hints.l0; rotate_left
  intro y0 y1 y2 y3 y4 y5 y6 y7 y8 y9 y10 y11; unfold spec_l1Cur_hints.j1; rotate_left
  intro y0 y1 y2 y3 y4 y5 y6 y7 y8 y9 y10; unfold spec_l1Cur_hints.j2; rotate_left
  intro y0 y1 y2 y3 y4; unfold spec_l1Cur_hints.l1; rotate_left
  all_goals repeat' first
  | (with_reducible first | exact ih0 _ _ _ _ _ _ _ _ | exact ih1 _ _ _ _ _ _ _ _ _ _ _ _ | exact ih2 _ _ _ _ _ _ _ _ _ _ _ | exact ih3 _ _ _ _ _ | exact spec_l1Cur_code1.mono _ _ _ _ _ _ | exact spec_whAsked.mono _ _ _ _ | exact spec_whCode.mono _ _ _ _ | exact LeO.refl _ | exact LeO.none _ | refine LeO.ite ?_ ?_ | refine LeO.bind ?_ (fun _ => ?_))
  | exact ih0 _ _ _ _ _ _ _ _
  | exact ih1 _ _ _ _ _ _ _ _ _ _ _ _
  | exact ih2 _ _ _ _ _ _ _ _ _ _ _
  | exact ih3 _ _ _ _ _
  | exact spec_l1Cur_code1.mono _ _ _ _ _ _
  | exact spec_whAsked.mono _ _ _ _
  | exact spec_whCode.mono _ _ _ _
  | exact LeO.none _
  | refine LeO.ite ?_ ?_
  | refine LeO.bind ?_ (fun _ => ?_)
theorem spec_l1Cur_hints.mono : ∀ a0 a1 a2 a3 a4 k, LeO (spec_l1Cur_hints.f k a0 a1 a2 a3 a4) (spec_l1Cur_hints.f (k + 1) a0 a1 a2 a3 a4) := by
 intro a0 a1 a2 a3 a4 k
 obtain ⟨ih0, ih1, ih2, ih3⟩ := spec_l1Cur_hints.mono_l k
 unfold spec_l1Cur_hints.f
 repeat' first
   | (with_reducible first | exact ih0 _ _ _ _ _ _ _ _ | exact ih1 _ _ _ _ _ _ _ _ _ _ _ _ | exact ih2 _ _ _ _ _ _ _ _ _ _ _ | exact ih3 _ _ _ _ _ | exact spec_l1Cur_code1.mono _ _ _ _ _ _ | exact spec_whAsked.mono _ _ _ _ | exact spec_whCode.mono _ _ _ _ | exact LeO.refl _ | exact LeO.none _ | refine LeO.ite ?_ ?_ | refine LeO.bind ?_ (fun _ => ?_))
   | exact ih0 _ _ _ _ _ _ _ _
   | exact ih1 _ _ _ _ _ _ _ _ _ _ _ _
   | exact ih2 _ _ _ _ _ _ _ _ _ _ _
   | exact ih3 _ _ _ _ _
   | exact spec_l1Cur_code1.mono _ _ _ _ _ _
   | exact spec_whAsked.mono _ _ _ _
   | exact spec_whCode.mono _ _ _ _
   | exact LeO.none _
   | refine LeO.ite ?_ ?_
   | refine LeO.bind ?_ (fun _ => ?_)
set_option maxHeartbeats 8000000 in
set_option maxRecDepth 100000 in
theorem spec_l1Cur_hints.calls (k : Nat) (g : Nat) (s0_0 : List Int) (s0_1 : Int) (s0_2 : Int) (a1_0 : Int) (a1_1 : Int) (r1 : List (S35)) (r2 : Int) (r3 : Int) (w0 w : World) (hI : IsS76 w0 w g s0_0 s0_1 s0_2) (hB : Below w0.heap.size w0 w) (h : spec_l1Cur_hints.f k s0_0 s0_1 s0_2 a1_0 a1_1 = some (r1, r2, r3)) :
  Calls Tryz.prog 112 #[.pointer (some ⟨g, 0, none⟩), .agg #[.int .i64 a1_0, .int .i64 a1_1]] w fun e w' => ∃ v0_ : Value, e = .returned (v0_) ∧ Kd.R k35 35 w' w.heap.size (fun _ => True) v0_ r1 ∧ IsS76 w0 w' g s0_0 r2 r3 ∧ Below w0.heap.size w0 w' ∧ KeepBut w w' g none := by
 have hu25 := Tryz.underlying25
 have hu35 := Tryz.underlying35
 have HI0 := Aside0.mk hI
 have HK := Aside0.mk (KeepBut.refl w g none)
 have HL := Aside0.mk hB.size
 clear hI
 have HW0 := Aside0.mk hB.size
 have HB := Aside0.mk hB
 clear hB
 have H := h
 unfold spec_l1Cur_hints.f at H
 clear h
 replace H := Option.bind_eq_some_iff.mp H
 obtain ⟨⟨t293, t294, t295⟩, A30, H⟩ := H
 (try dsimp only at H)
 have A3 := Aside0.mk A30
 clear A30
 replace H := Option.bind_eq_some_iff.mp H
 obtain ⟨⟨t296, t297, t298⟩, A40, H⟩ := H
 (try dsimp only at H)
 have A4 := Aside0.mk A40
 clear A40
 have H' := Aside0.mk H
 clear H
 go_enter Tryz.func112, Tryz.ntmps112
 go_wp2_with (first | ((with_reducible refine gate_dst (N := 3) rfl ?_); refine box_event ?hg (N := 3) ?hd (cs := #[.int .i64 a1_0, .int .i64 a1_1]) (t := 25) ?hr ?_; (case hd => rfl); (case hg => rfl); (case hr => first | (go_simp; done) | (go_simp; rfl)); intro gb292 hg w5 hbox hb; replace HB := Aside0.mk (below_step bI hb); have BK292 := Aside0.mk (hbox); have GW292 := Aside0.mk ((by rw [hg]; exact (keep_size (w := w) (g := g) (row := none) kK) : w.heap.size ≤ gb292)); have GE292 := Aside0.mk ((Nat.le_trans HW0.out (by rw [hg]; exact (keep_size (w := w) (g := g) (row := none) kK) : w.heap.size ≤ gb292) : w0.heap.size ≤ gb292)); replace HK := Aside0.mk (KeepBut.trans kK (KeepBut.of_below hb g none) (.inl rfl)); have NB0_292 := Aside0.mk ((by rw [hg]; exact Nat.ne_of_lt (IsS76.lt (show IsS76 w0 _ g s0_0 s0_1 s0_2 from iS)) : g ≠ gb292)); have NB292_0 := Aside0.mk ((by rw [hg]; exact Nat.ne_of_gt (IsS76.lt (show IsS76 w0 _ g s0_0 s0_1 s0_2 from iS)) : gb292 ≠ g)); replace HI0 := Aside0.mk (IsS76.below iS hb); clear hb hbox hg; have hnb6 := NB292_0.out; have hnc6 := NB0_292.out; have hcz7_0 := cZ BK292 0 (.int .i64 a1_0); have hcz7_1 := cZ BK292 1 (.int .i64 a1_1); have hfz7_0 := blk_frozen BK292.out 0; have hfz7_1 := blk_frozen BK292.out 1) | ((with_reducible refine gate_callee (f := 50) rfl ?_); refine goesL_ (some 13) rfl rfl Tryz.func50 (by kernel_rfl) rfl #[.pointer (some ⟨g, 0, none⟩), .agg #[.int .i64 a1_0, .int .i64 a1_1]] rfl lM ?_; (with_reducible refine (spec_l1Cur_code1.calls k g s0_0 s0_1 s0_2 a1_0 a1_1 t293 t294 t295 w0 _ ?side1 ?side2 A3.out).mono ?_); (case side1 => exact iS); (case side2 => exact bF GE292); rintro e w8 ⟨rfl, hi, hb, hk⟩; refine ⟨_, rfl, ?_⟩; replace BK292 := Aside0.mk (KeepBut.blk hk (g' := gb292) (o := .cells #[.int .i64 a1_0, .int .i64 a1_1] 25 (0, 0)) bK NB292_0.out (by simp)); replace HK := Aside0.mk (KeepBut.trans (kF GW292) hk (.inl rfl)); replace HB := Aside0.mk (hb); replace HI0 := Aside0.mk (hi); (try clear hb); (try clear hk); (try clear hi)) | ((with_reducible refine gate_callee (f := 68) rfl ?_); refine goesL_ (some 15) rfl rfl Tryz.func68 (by kernel_rfl) rfl #[.pointer (some ⟨g, 0, none⟩), .int .i64 4] rfl lM ?_; (with_reducible refine (spec_l1Cur_pick.calls g s0_0 t294 t295 4 t296 t297 t298 w0 _ ?side1 ?side2 A4.out).mono ?_); (case side1 => exact iS); (case side2 => exact bF GE292); rintro e w9 ⟨rfl, hi, hb, hk⟩; refine ⟨_, rfl, ?_⟩; replace BK292 := Aside0.mk (KeepBut.blk hk (g' := gb292) (o := .cells #[.int .i64 a1_0, .int .i64 a1_1] 25 (0, 0)) bK NB292_0.out (by simp)); replace HK := Aside0.mk (KeepBut.trans (kF GW292) hk (.inl rfl)); replace HB := Aside0.mk (hb); replace HI0 := Aside0.mk (hi); (try clear hb); (try clear hk); (try clear hi)))
 (try simp only [Act.put, List.setIfInBounds_toArray, List.set_cons_zero, List.set_cons_succ])
 go_loopg [5, 7] k (fun kq v5 v7 w' => ∃ (x5_1 : List (S35)) (x7_1 : Int) (x1001_1 : Int) (x1002_1 : Int), v7 = .int .i64 x7_1 ∧ Aside0 (spec_l1Cur_hints.l0 kq x5_1 t293 x7_1 s0_0 x1001_1 x1002_1 a1_0 a1_1 = some (r1, r2, r3)) ∧ Aside0 (kq ≤ k) ∧ Aside0 (Kd.R k35 35 w' w.heap.size (fun _ => True) v5 x5_1) ∧ Aside0 (w'.heap[gb292]? = some (.cells #[.int .i64 a1_0, .int .i64 a1_1] 25 (0, 0))) ∧ Aside0 (IsS76 w0 w' g s0_0 x1001_1 x1002_1) ∧ Aside0 (KeepBut w w' g none) ∧ Aside0 (Below w0.heap.size w0 w'))
 case atStart => exact ⟨(([] : List (S35))), (t296), (t297), (t298), fR, H', ⟨Nat.le_refl _⟩, ⟨by first | exact Kd.R_nil _ _ _ _ _ | exact Kd.N_nil _ _ _ _ _ | exact Kd.V_nil _ _ _ _ _ | exact Kd.Q_nil _ _ _ _ _ | exact Kd.S_nil _ _ _ _ _⟩, ⟨bK⟩, ⟨iS⟩, ⟨kF GW292⟩, ⟨bF GE292⟩⟩
 case round =>
  clear H'
  try clear c1
  try clear p2
  try clear c5
  try clear c6
  try clear hcz7_0
  try clear hcz7_1
  try clear hfz7_0
  try clear hfz7_1
  obtain ⟨x5_1, x7_1, x1001_1, x1002_1, rfl, HA, HK1, HO_5, BK292, HI0, HK, HB⟩ := hrel
  cases gk with
  | zero => exact absurd HA.out (by simp [spec_l1Cur_hints.l0])
  | succ k1 =>
   have H := HA.out
   clear HA
   simp only [spec_l1Cur_hints.l0] at H
   by_cases c10 : x7_1 > 0
   ·rw [if_pos c10] at H
    have c10b0 : decide (0 < x7_1) = true := decide_eq_true c10
    clear c10
    replace H := Option.bind_eq_some_iff.mp H
    obtain ⟨⟨t299, t300, t301⟩, A110, H⟩ := H
    (try dsimp only at H)
    have A11 := Aside0.mk A110
    clear A110
    have HC12 := Aside0.mk H
    clear H
    have hnb13 := NB292_0.out
    have hnc13 := NB0_292.out
    have hcz14_0 := cZ BK292 0 (.int .i64 a1_0)
    have hcz14_1 := cZ BK292 1 (.int .i64 a1_1)
    have hfz14_0 := blk_frozen BK292.out 0
    have hfz14_1 := blk_frozen BK292.out 1
    go_upto_region 7 with (first | ((with_reducible refine gate_callee (f := 50) rfl ?_); refine goesL_ (some 22) rfl rfl Tryz.func50 (by kernel_rfl) rfl #[.pointer (some ⟨g, 0, none⟩), .agg #[.int .i64 a1_0, .int .i64 a1_1]] rfl lM ?_; (with_reducible refine (spec_l1Cur_code1.calls k1 g s0_0 x1001_1 x1002_1 a1_0 a1_1 t299 t300 t301 w0 _ ?side1 ?side2 A11.out).mono ?_); (case side1 => exact iS); (case side2 => exact bF GE292); rintro e w15 ⟨rfl, hi, hb, hk⟩; refine ⟨_, rfl, ?_⟩; replace HO_5 := Aside0.mk (Kd.R_mono (Kd.R_keep (IsS76.apart (show IsS76 w0 _ g s0_0 x1001_1 x1002_1 from iS) (kR HO_5) (by decide)) hk (fun _ h => h.2)) (fun _ h => h.1)); replace BK292 := Aside0.mk (KeepBut.blk hk (g' := gb292) (o := .cells #[.int .i64 a1_0, .int .i64 a1_1] 25 (0, 0)) bK NB292_0.out (by simp)); replace HK := Aside0.mk (KeepBut.trans (kF GW292) hk (.inl rfl)); replace HB := Aside0.mk (hb); replace HI0 := Aside0.mk (hi); (try clear hb); (try clear hk); (try clear hi)) | ((with_reducible refine gate_dst (N := 8) rfl ?_); refine box_event ?hg (N := 8) ?hd (cs := #[.string (⟨#[]⟩ : ByteArray), .int .i64 0, .int .i64 0]) (t := 35) ?hr ?_; (case hd => rfl); (case hg => rfl); (case hr => first | (go_simp; done) | (go_simp; rfl)); intro gb302 hg w16 hbox hb; have n0_ := Aside0.mk (Kd.R_below (Kd.R_elderB (kR HO_5) gb302 (Nat.le_of_eq hg.symm)) hb); have n1_ := Aside0.mk (blk_below (g := gb292) (o := .cells #[.int .i64 a1_0, .int .i64 a1_1] 25 (0, 0)) bK hb); have n2_ := Aside0.mk (IsS76.below iS hb); have n3_ := Aside0.mk (KeepBut.trans (kF GW292) (KeepBut.of_below hb g none) (.inl rfl)); have n4_ := Aside0.mk (below_step (bF GE292) hb); have n5_ := Aside0.mk (hbox); have n6_ := Aside0.mk ((by rw [hg]; exact (keep_size (w := w) (g := g) (row := none) (kF GW292)) : w.heap.size ≤ gb302)); have n7_ := Aside0.mk ((Nat.le_trans HW0.out (by rw [hg]; exact (keep_size (w := w) (g := g) (row := none) (kF GW292)) : w.heap.size ≤ gb302) : w0.heap.size ≤ gb302)); have n8_ := Aside0.mk ((by rw [hg]; exact Nat.ne_of_lt (blk_lt (g := gb292) (o := .cells #[.int .i64 a1_0, .int .i64 a1_1] 25 (0, 0)) bK) : gb292 ≠ gb302)); have n9_ := Aside0.mk ((by rw [hg]; exact Nat.ne_of_gt (blk_lt (g := gb292) (o := .cells #[.int .i64 a1_0, .int .i64 a1_1] 25 (0, 0)) bK) : gb302 ≠ gb292)); have n10_ := Aside0.mk ((by rw [hg]; exact Nat.ne_of_lt (IsS76.lt (show IsS76 w0 _ g s0_0 t300 t301 from iS)) : g ≠ gb302)); have n11_ := Aside0.mk ((by rw [hg]; exact Nat.ne_of_gt (IsS76.lt (show IsS76 w0 _ g s0_0 t300 t301 from iS)) : gb302 ≠ g)); clear HO_5; clear BK292; clear HI0; clear HK; clear HB; have HO_5 := n0_; have BK292 := n1_; have HI0 := n2_; have HK := n3_; have HB := n4_; have BK302 := n5_; have GW302 := n6_; have GE302 := n7_; have NB292_302 := n8_; have NB302_292 := n9_; have NB0_302 := n10_; have NB302_0 := n11_; clear n0_ n1_ n2_ n3_ n4_ n5_ n6_ n7_ n8_ n9_ n10_ n11_; clear hb hbox hg; have hnb17 := NB302_292.out; have hnc17 := NB292_302.out; have hnb18 := NB302_0.out; have hnc18 := NB0_302.out; have hcz19_0 := cZ BK302 0 (.string (⟨#[]⟩ : ByteArray)); have hcz19_1 := cZ BK302 1 (.int .i64 0); have hcz19_2 := cZ BK302 2 (.int .i64 0); have hfz19_0 := blk_frozen BK302.out 0; have hfz19_1 := blk_frozen BK302.out 1; have hfz19_2 := blk_frozen BK302.out 2))
    (try simp only [Act.put, List.setIfInBounds_toArray, List.set_cons_zero, List.set_cons_succ])
    go_cut [32] (fun v32 wc => ∃ (kq : Nat) (x32_11 : Bool), v32 = .bool x32_11 ∧ Aside0 (spec_l1Cur_hints.j1 kq x5_1 t293 x7_1 x32_11 s0_0 t300 t301 a1_0 a1_1 t299 0 0 = some (r1, r2, r3)) ∧ Aside0 (kq ≤ k1) ∧ Aside0 (Kd.R k35 35 wc w.heap.size (fun k_ => k_ ≠ gb302) u5 x5_1) ∧ Aside0 (wc.heap[gb292]? = some (.cells #[.int .i64 a1_0, .int .i64 a1_1] 25 (0, 0))) ∧ Aside0 (wc.heap[gb302]? = some (.cells #[.string t299, .int .i64 0, .int .i64 0] 35 (0, 0))) ∧ Aside0 (IsS76 w0 wc g s0_0 t300 t301) ∧ Aside0 (KeepBut w wc g none) ∧ Aside0 (Below w0.heap.size w0 wc))
    case first =>
     have H := HC12.out
     clear HC12
     replace H := Option.bind_eq_some_iff.mp H
     obtain ⟨t303, A200, H⟩ := H
     (try dsimp only at H)
     have A20 := Aside0.mk A200
     clear A200
     by_cases c21 : t303 = true
     ·subst c21
      replace H := zt H
      replace H := Option.bind_eq_some_iff.mp H
      obtain ⟨t304, A220, H⟩ := H
      (try dsimp only at H)
      have A22 := Aside0.mk A220
      clear A220
      have H' := Aside0.mk H
      clear H
      have hnb23 := NB292_302.out
      have hnc23 := NB302_292.out
      have hnb24 := NB292_0.out
      have hnc24 := NB0_292.out
      have hcz25_0 := cZ BK292 0 (.int .i64 a1_0)
      have hcz25_1 := cZ BK292 1 (.int .i64 a1_1)
      have hfz25_0 := blk_frozen BK292.out 0
      have hfz25_1 := blk_frozen BK292.out 1
      go_wp2_with (first | ((with_reducible refine gate_callee (f := 129) rfl ?_); refine goesL_ (some 26) rfl rfl Tryz.func129 (by kernel_rfl) rfl #[.agg #[.int .i64 a1_0, .int .i64 a1_1], .string t293] rfl lM ?_; (with_reducible refine (spec_whAsked.calls k1 a1_0 a1_1 t293 true _ A20.out).mono ?_); rintro e w26 ⟨rfl, hb⟩; refine ⟨_, rfl, ?_⟩; replace HO_5 := Aside0.mk (Kd.R_below (by (with_reducible repeat (first | apply Kd.R_alloc | apply Kd.R_drewN | apply Kd.R_drew)); exact (Kd.R_mono (Kd.R_far (p := ⟨gb302, 2, none⟩) (Kd.R_far (p := ⟨gb302, 1, none⟩) (Kd.R_far (p := ⟨gb302, 0, none⟩) (Kd.R_mono HO_5.out (fun k_ hk => (⟨hk, hk.2⟩ : _ ∧ k_ ≠ gb302))) (fun _ hk => hk.2) (.string t299)) (fun _ hk => hk.2) (.int .i64 0)) (fun _ hk => hk.2) (.int .i64 0)) (fun _ h_ => h_.1))) hb); replace BK292 := Aside0.mk (blk_below (g := gb292) (o := .cells #[.int .i64 a1_0, .int .i64 a1_1] 25 (0, 0)) (by (with_reducible repeat (first | refine blk_drewN ?_ _ | refine blk_drew ?_ | refine blk_alloc ?_ _)); refine blk_far ?_ NB292_302.out _; (with_reducible repeat (first | refine blk_drewN ?_ _ | refine blk_drew ?_ | refine blk_alloc ?_ _)); refine blk_far ?_ NB292_302.out _; (with_reducible repeat (first | refine blk_drewN ?_ _ | refine blk_drew ?_ | refine blk_alloc ?_ _)); refine blk_far ?_ NB292_302.out _; (with_reducible repeat (first | refine blk_drewN ?_ _ | refine blk_drew ?_ | refine blk_alloc ?_ _)); exact BK292.out) hb); replace BK302 := Aside0.mk (blk_below (g := gb302) (o := .cells #[.string t299, .int .i64 0, .int .i64 0] 35 (0, 0)) (by (with_reducible repeat (first | refine blk_drewN ?_ _ | refine blk_drew ?_ | refine blk_alloc ?_ _)); refine blk_put (cs := #[.string t299, .int .i64 0, .int .i64 0]) ?_ 2 _ rfl; (with_reducible repeat (first | refine blk_drewN ?_ _ | refine blk_drew ?_ | refine blk_alloc ?_ _)); refine blk_put (cs := #[.string t299, .int .i64 0, .int .i64 0]) ?_ 1 _ rfl; (with_reducible repeat (first | refine blk_drewN ?_ _ | refine blk_drew ?_ | refine blk_alloc ?_ _)); refine blk_put (cs := #[.string (⟨#[]⟩ : ByteArray), .int .i64 0, .int .i64 0]) ?_ 0 _ rfl; (with_reducible repeat (first | refine blk_drewN ?_ _ | refine blk_drew ?_ | refine blk_alloc ?_ _)); exact BK302.out) hb); replace HK := Aside0.mk (KeepBut.trans (by repeat (first | (with_reducible first | exact HK.out | apply KeepBut.set_ | apply keep_drewN | apply keep_drew | apply keep_alloc | refine keep_far ?_ GW292.out _ | refine keep_far ?_ GW302.out _) | exact HK.out)) (KeepBut.of_below hb g none) (.inl rfl)); replace HB := Aside0.mk (below_step (by repeat (first | (with_reducible first | exact HB.out | apply below_alloc | apply pw_below_drewN | apply below_drew1 | refine below_set ?_ (IsS76.ge HI0.out) | refine below_set ?_ GE292.out | refine below_set ?_ GE302.out) | exact HB.out)) hb); replace HI0 := Aside0.mk (IsS76.below (show IsS76 w0 (((w16.setCell ⟨gb302, 0, none⟩ (.string t299)).setCell ⟨gb302, 1, none⟩ (.int .i64 0)).setCell ⟨gb302, 2, none⟩ (.int .i64 0)) g s0_0 t300 t301 from iS) hb); (try clear hb); have hcz27_0 := cZ BK292 0 (.int .i64 a1_0); have hcz27_1 := cZ BK292 1 (.int .i64 a1_1); have hfz27_0 := blk_frozen BK292.out 0; have hfz27_1 := blk_frozen BK292.out 1; have hnb28 := NB302_0.out; have hnc28 := NB0_302.out; have hcz29_0 := cZ BK302 0 (.string t299); have hcz29_1 := cZ BK302 1 (.int .i64 0); have hcz29_2 := cZ BK302 2 (.int .i64 0); have hfz29_0 := blk_frozen BK302.out 0; have hfz29_1 := blk_frozen BK302.out 1; have hfz29_2 := blk_frozen BK302.out 2) | (go_at_call 54; (with_reducible refine (spec_whCode.calls k1 a1_0 a1_1 t299 t304 _ A22.out).mono ?_); rintro e w30 ⟨rfl, hb⟩; have n0_ := Aside0.mk (Kd.R_below (kR HO_5) hb); have n1_ := Aside0.mk (blk_below (g := gb292) (o := .cells #[.int .i64 a1_0, .int .i64 a1_1] 25 (0, 0)) bK hb); have n2_ := Aside0.mk (IsS76.below iS hb); have n3_ := Aside0.mk (blk_below (g := gb302) (o := .cells #[.string t299, .int .i64 0, .int .i64 0] 35 (0, 0)) bK hb); have n4_ := Aside0.mk (KeepBut.trans (by repeat (first | (with_reducible first | exact HK.out | apply KeepBut.set_ | apply keep_drewN | apply keep_drew | apply keep_alloc | refine keep_far ?_ GW292.out _ | refine keep_far ?_ GW302.out _) | exact HK.out)) (KeepBut.of_below hb g none) (.inl rfl)); have n5_ := Aside0.mk (below_step (by repeat (first | (with_reducible first | exact HB.out | apply below_alloc | apply pw_below_drewN | apply below_drew1 | refine below_set ?_ (IsS76.ge HI0.out) | refine below_set ?_ GE292.out | refine below_set ?_ GE302.out) | exact HB.out)) hb); clear HO_5; clear BK292; clear HI0; clear BK302; clear HK; clear HB; have HO_5 := n0_; have BK292 := n1_; have HI0 := n2_; have BK302 := n3_; have HK := n4_; have HB := n5_; clear n0_ n1_ n2_ n3_ n4_ n5_; (try clear hb)))
      go_meet
      case rel => exact ⟨_, (t304), fR, H', ⟨by have := HK1.out; first | omega | exact Nat.le_refl _⟩, ⟨by (with_reducible repeat (first | apply Kd.R_alloc | apply Kd.R_drewN | apply Kd.R_drew)); exact Kd.R_mono HO_5.out (fun _ hk => hk.2)⟩, ⟨bK⟩, ⟨bK⟩, ⟨iS⟩, ⟨by repeat (first | (with_reducible first | exact HK.out | apply KeepBut.set_ | apply keep_drewN | apply keep_drew | apply keep_alloc | refine keep_far ?_ GW292.out _ | refine keep_far ?_ GW302.out _) | exact HK.out)⟩, ⟨by repeat (first | (with_reducible first | exact HB.out | apply below_alloc | apply pw_below_drewN | apply below_drew1 | refine below_set ?_ (IsS76.ge HI0.out) | refine below_set ?_ GE292.out | refine below_set ?_ GE302.out) | exact HB.out)⟩⟩
     ·replace c21 := Bool.eq_false_iff.mpr c21
      subst c21
      replace H := zf H
      have H' := Aside0.mk H
      clear H
      have hnb31 := NB292_302.out
      have hnc31 := NB302_292.out
      have hnb32 := NB292_0.out
      have hnc32 := NB0_292.out
      have hcz33_0 := cZ BK292 0 (.int .i64 a1_0)
      have hcz33_1 := cZ BK292 1 (.int .i64 a1_1)
      have hfz33_0 := blk_frozen BK292.out 0
      have hfz33_1 := blk_frozen BK292.out 1
      go_wp2_with (first | ((with_reducible refine gate_callee (f := 129) rfl ?_); refine goesL_ (some 26) rfl rfl Tryz.func129 (by kernel_rfl) rfl #[.agg #[.int .i64 a1_0, .int .i64 a1_1], .string t293] rfl lM ?_; (with_reducible refine (spec_whAsked.calls k1 a1_0 a1_1 t293 false _ A20.out).mono ?_); rintro e w34 ⟨rfl, hb⟩; refine ⟨_, rfl, ?_⟩; replace HO_5 := Aside0.mk (Kd.R_below (by (with_reducible repeat (first | apply Kd.R_alloc | apply Kd.R_drewN | apply Kd.R_drew)); exact (Kd.R_mono (Kd.R_far (p := ⟨gb302, 2, none⟩) (Kd.R_far (p := ⟨gb302, 1, none⟩) (Kd.R_far (p := ⟨gb302, 0, none⟩) (Kd.R_mono HO_5.out (fun k_ hk => (⟨hk, hk.2⟩ : _ ∧ k_ ≠ gb302))) (fun _ hk => hk.2) (.string t299)) (fun _ hk => hk.2) (.int .i64 0)) (fun _ hk => hk.2) (.int .i64 0)) (fun _ h_ => h_.1))) hb); replace BK292 := Aside0.mk (blk_below (g := gb292) (o := .cells #[.int .i64 a1_0, .int .i64 a1_1] 25 (0, 0)) (by (with_reducible repeat (first | refine blk_drewN ?_ _ | refine blk_drew ?_ | refine blk_alloc ?_ _)); refine blk_far ?_ NB292_302.out _; (with_reducible repeat (first | refine blk_drewN ?_ _ | refine blk_drew ?_ | refine blk_alloc ?_ _)); refine blk_far ?_ NB292_302.out _; (with_reducible repeat (first | refine blk_drewN ?_ _ | refine blk_drew ?_ | refine blk_alloc ?_ _)); refine blk_far ?_ NB292_302.out _; (with_reducible repeat (first | refine blk_drewN ?_ _ | refine blk_drew ?_ | refine blk_alloc ?_ _)); exact BK292.out) hb); replace BK302 := Aside0.mk (blk_below (g := gb302) (o := .cells #[.string t299, .int .i64 0, .int .i64 0] 35 (0, 0)) (by (with_reducible repeat (first | refine blk_drewN ?_ _ | refine blk_drew ?_ | refine blk_alloc ?_ _)); refine blk_put (cs := #[.string t299, .int .i64 0, .int .i64 0]) ?_ 2 _ rfl; (with_reducible repeat (first | refine blk_drewN ?_ _ | refine blk_drew ?_ | refine blk_alloc ?_ _)); refine blk_put (cs := #[.string t299, .int .i64 0, .int .i64 0]) ?_ 1 _ rfl; (with_reducible repeat (first | refine blk_drewN ?_ _ | refine blk_drew ?_ | refine blk_alloc ?_ _)); refine blk_put (cs := #[.string (⟨#[]⟩ : ByteArray), .int .i64 0, .int .i64 0]) ?_ 0 _ rfl; (with_reducible repeat (first | refine blk_drewN ?_ _ | refine blk_drew ?_ | refine blk_alloc ?_ _)); exact BK302.out) hb); replace HK := Aside0.mk (KeepBut.trans (by repeat (first | (with_reducible first | exact HK.out | apply KeepBut.set_ | apply keep_drewN | apply keep_drew | apply keep_alloc | refine keep_far ?_ GW292.out _ | refine keep_far ?_ GW302.out _) | exact HK.out)) (KeepBut.of_below hb g none) (.inl rfl)); replace HB := Aside0.mk (below_step (by repeat (first | (with_reducible first | exact HB.out | apply below_alloc | apply pw_below_drewN | apply below_drew1 | refine below_set ?_ (IsS76.ge HI0.out) | refine below_set ?_ GE292.out | refine below_set ?_ GE302.out) | exact HB.out)) hb); replace HI0 := Aside0.mk (IsS76.below (show IsS76 w0 (((w16.setCell ⟨gb302, 0, none⟩ (.string t299)).setCell ⟨gb302, 1, none⟩ (.int .i64 0)).setCell ⟨gb302, 2, none⟩ (.int .i64 0)) g s0_0 t300 t301 from iS) hb); (try clear hb)))
      go_meet
      case rel => exact ⟨_, (false), fR, H', ⟨by have := HK1.out; first | omega | exact Nat.le_refl _⟩, ⟨by (with_reducible repeat (first | apply Kd.R_alloc | apply Kd.R_drewN | apply Kd.R_drew)); exact Kd.R_mono HO_5.out (fun _ hk => hk.2)⟩, ⟨bK⟩, ⟨bK⟩, ⟨iS⟩, ⟨by repeat (first | (with_reducible first | exact HK.out | apply KeepBut.set_ | apply keep_drewN | apply keep_drew | apply keep_alloc | refine keep_far ?_ GW292.out _ | refine keep_far ?_ GW302.out _) | exact HK.out)⟩, ⟨by repeat (first | (with_reducible first | exact HB.out | apply below_alloc | apply pw_below_drewN | apply below_drew1 | refine below_set ?_ (IsS76.ge HI0.out) | refine below_set ?_ GE292.out | refine below_set ?_ GE302.out) | exact HB.out)⟩⟩
    case rest =>
     clear HC12
     try clear c1
     try clear c2
     try clear p2
     try clear c3
     try clear c5
     try clear c6
     try clear c10
     try clear c10b0
     try clear c11
     try clear c12
     try clear c13
     try clear c17
     try clear c18
     try clear c21
     try clear c23
     try clear c24
     try clear c28
     try clear c31
     try clear c32
     try clear hcz14_0
     try clear hcz14_1
     try clear hcz19_0
     try clear hcz19_1
     try clear hcz19_2
     try clear hcz25_0
     try clear hcz25_1
     try clear hcz27_0
     try clear hcz27_1
     try clear hcz29_0
     try clear hcz29_1
     try clear hcz29_2
     try clear hcz33_0
     try clear hcz33_1
     try clear hcz7_0
     try clear hcz7_1
     try clear hfz14_0
     try clear hfz14_1
     try clear hfz19_0
     try clear hfz19_1
     try clear hfz19_2
     try clear hfz25_0
     try clear hfz25_1
     try clear hfz27_0
     try clear hfz27_1
     try clear hfz29_0
     try clear hfz29_1
     try clear hfz29_2
     try clear hfz33_0
     try clear hfz33_1
     try clear hfz7_0
     try clear hfz7_1
     try clear p2
     obtain ⟨kq, x32_11, rfl, HA, HJ11, HO_5, BK292, BK302, HI0, HK, HB⟩ := hcut
     cases kq with
     | zero => exact absurd HA.out (by simp [spec_l1Cur_hints.j1])
     | succ kj11 =>
      have H := HA.out
      clear HA
      simp only [spec_l1Cur_hints.j1] at H
      have HC35 := Aside0.mk H
      clear H
      go_upto_if 32 with (fail)
      go_cut [] (fun wc => ∃ (kq : Nat) (x303001_34 : Int) (x303002_34 : Int), Aside0 (spec_l1Cur_hints.j2 kq x5_1 t293 x7_1 s0_0 t300 t301 a1_0 a1_1 t299 x303001_34 x303002_34 = some (r1, r2, r3)) ∧ Aside0 (kq ≤ kj11) ∧ Aside0 (Kd.R k35 35 wc w.heap.size (fun k_ => k_ ≠ gb302) u5 x5_1) ∧ Aside0 (wc.heap[gb292]? = some (.cells #[.int .i64 a1_0, .int .i64 a1_1] 25 (0, 0))) ∧ Aside0 (wc.heap[gb302]? = some (.cells #[.string t299, .int .i64 x303001_34, .int .i64 x303002_34] 35 (0, 0))) ∧ Aside0 (IsS76 w0 wc g s0_0 t300 t301) ∧ Aside0 (KeepBut w wc g none) ∧ Aside0 (Below w0.heap.size w0 wc))
      case first =>
       have H := HC35.out
       clear HC35
       by_cases c36 : x32_11 = true
       ·subst c36
        replace H := zt H
        replace H := Option.bind_eq_some_iff.mp H
        obtain ⟨⟨t305, t306⟩, A370, H⟩ := H
        (try dsimp only at H)
        have A37 := Aside0.mk A370
        clear A370
        have H' := Aside0.mk H
        clear H
        have hnb38 := NB302_292.out
        have hnc38 := NB292_302.out
        have hnb39 := NB302_0.out
        have hnc39 := NB0_302.out
        have hcz40_0 := cZ BK302 0 (.string t299)
        have hcz40_1 := cZ BK302 1 (.int .i64 0)
        have hcz40_2 := cZ BK302 2 (.int .i64 0)
        have hfz40_0 := blk_frozen BK302.out 0
        have hfz40_1 := blk_frozen BK302.out 1
        have hfz40_2 := blk_frozen BK302.out 2
        go_wp2_with (first | ((with_reducible refine gate_callee (f := 75) rfl ?_); refine goesL_ (some 37) rfl rfl Tryz.func75 (by kernel_rfl) rfl #[.string t299, .string t293] rfl lM ?_; (with_reducible refine (spec_hiOf.calls t299 t293 t305 t306 _ A37.out).mono ?_); rintro e w41 ⟨rfl, hb⟩; refine ⟨_, rfl, ?_⟩; have n0_ := Aside0.mk (Kd.R_below (kR HO_5) hb); have n1_ := Aside0.mk (blk_below (g := gb292) (o := .cells #[.int .i64 a1_0, .int .i64 a1_1] 25 (0, 0)) bK hb); have n2_ := Aside0.mk (blk_below (g := gb302) (o := .cells #[.string t299, .int .i64 0, .int .i64 0] 35 (0, 0)) bK hb); have n3_ := Aside0.mk (IsS76.below iS hb); have n4_ := Aside0.mk (KeepBut.trans (by repeat (first | (with_reducible first | exact HK.out | apply KeepBut.set_ | apply keep_drewN | apply keep_drew | apply keep_alloc | refine keep_far ?_ GW292.out _ | refine keep_far ?_ GW302.out _) | exact HK.out)) (KeepBut.of_below hb g none) (.inl rfl)); have n5_ := Aside0.mk (below_step (by repeat (first | (with_reducible first | exact HB.out | apply below_alloc | apply pw_below_drewN | apply below_drew1 | refine below_set ?_ (IsS76.ge HI0.out) | refine below_set ?_ GE292.out | refine below_set ?_ GE302.out) | exact HB.out)) hb); clear HO_5; clear BK292; clear BK302; clear HI0; clear HK; clear HB; have HO_5 := n0_; have BK292 := n1_; have BK302 := n2_; have HI0 := n3_; have HK := n4_; have HB := n5_; clear n0_ n1_ n2_ n3_ n4_ n5_; (try clear hb); have hcz42_0 := cZ BK302 0 (.string t299); have hcz42_1 := cZ BK302 1 (.int .i64 0); have hcz42_2 := cZ BK302 2 (.int .i64 0); have hfz42_0 := blk_frozen BK302.out 0; have hfz42_1 := blk_frozen BK302.out 1; have hfz42_2 := blk_frozen BK302.out 2))
        go_meet
        case rel => exact ⟨_, (t305), (t306), H', ⟨by have := HK1.out; have := HJ11.out; first | omega | exact Nat.le_refl _⟩, ⟨by (with_reducible repeat (first | apply Kd.R_alloc | apply Kd.R_drewN | apply Kd.R_drew)); exact Kd.R_mono (Kd.R_far (p := ⟨gb302, 2, none⟩) (Kd.R_far (p := ⟨gb302, 1, none⟩) (Kd.R_mono HO_5.out (fun k_ hk => (⟨hk, by first | exact hk | exact hk.2 | exact hk.1⟩ : _ ∧ k_ ≠ gb302))) (fun _ hk => hk.2) (.int .i64 t305)) (fun _ hk => hk.2) (.int .i64 t306)) (fun _ hk => by first | exact hk.1 | exact hk.1.2)⟩, ⟨by (with_reducible repeat (first | refine blk_drewN ?_ _ | refine blk_drew ?_ | refine blk_alloc ?_ _)); refine blk_far ?_ NB292_302.out _; (with_reducible repeat (first | refine blk_drewN ?_ _ | refine blk_drew ?_ | refine blk_alloc ?_ _)); refine blk_far ?_ NB292_302.out _; (with_reducible repeat (first | refine blk_drewN ?_ _ | refine blk_drew ?_ | refine blk_alloc ?_ _)); exact BK292.out⟩, ⟨by (with_reducible repeat (first | refine blk_drewN ?_ _ | refine blk_drew ?_ | refine blk_alloc ?_ _)); refine blk_put (cs := #[.string t299, .int .i64 t305, .int .i64 0]) ?_ 2 _ rfl; (with_reducible repeat (first | refine blk_drewN ?_ _ | refine blk_drew ?_ | refine blk_alloc ?_ _)); refine blk_put (cs := #[.string t299, .int .i64 0, .int .i64 0]) ?_ 1 _ rfl; (with_reducible repeat (first | refine blk_drewN ?_ _ | refine blk_drew ?_ | refine blk_alloc ?_ _)); exact BK302.out⟩, ⟨iS⟩, ⟨by repeat (first | (with_reducible first | exact HK.out | apply KeepBut.set_ | apply keep_drewN | apply keep_drew | apply keep_alloc | refine keep_far ?_ GW292.out _ | refine keep_far ?_ GW302.out _) | exact HK.out)⟩, ⟨by repeat (first | (with_reducible first | exact HB.out | apply below_alloc | apply pw_below_drewN | apply below_drew1 | refine below_set ?_ (IsS76.ge HI0.out) | refine below_set ?_ GE292.out | refine below_set ?_ GE302.out) | exact HB.out)⟩⟩
       ·replace c36 := Bool.eq_false_iff.mpr c36
        subst c36
        replace H := zf H
        have H' := Aside0.mk H
        clear H
        go_wp2
        go_meet
        case rel => exact ⟨_, (0), (0), H', ⟨by have := HK1.out; have := HJ11.out; first | omega | exact Nat.le_refl _⟩, ⟨kR HO_5⟩, ⟨bK⟩, ⟨bK⟩, ⟨iS⟩, ⟨by repeat (first | (with_reducible first | exact HK.out | apply KeepBut.set_ | apply keep_drewN | apply keep_drew | apply keep_alloc | refine keep_far ?_ GW292.out _ | refine keep_far ?_ GW302.out _) | exact HK.out)⟩, ⟨by repeat (first | (with_reducible first | exact HB.out | apply below_alloc | apply pw_below_drewN | apply below_drew1 | refine below_set ?_ (IsS76.ge HI0.out) | refine below_set ?_ GE292.out | refine below_set ?_ GE302.out) | exact HB.out)⟩⟩
      case rest =>
       clear HC35
       try clear c1
       try clear c2
       try clear p2
       try clear c3
       try clear c5
       try clear c6
       try clear c7
       try clear c10
       try clear c10b0
       try clear c11
       try clear c12
       try clear c13
       try clear c17
       try clear c18
       try clear c21
       try clear c23
       try clear c24
       try clear c28
       try clear c31
       try clear c32
       try clear c36
       try clear c38
       try clear c39
       try clear hcz14_0
       try clear hcz14_1
       try clear hcz19_0
       try clear hcz19_1
       try clear hcz19_2
       try clear hcz25_0
       try clear hcz25_1
       try clear hcz27_0
       try clear hcz27_1
       try clear hcz29_0
       try clear hcz29_1
       try clear hcz29_2
       try clear hcz33_0
       try clear hcz33_1
       try clear hcz40_0
       try clear hcz40_1
       try clear hcz40_2
       try clear hcz42_0
       try clear hcz42_1
       try clear hcz42_2
       try clear hcz7_0
       try clear hcz7_1
       try clear hfz14_0
       try clear hfz14_1
       try clear hfz19_0
       try clear hfz19_1
       try clear hfz19_2
       try clear hfz25_0
       try clear hfz25_1
       try clear hfz27_0
       try clear hfz27_1
       try clear hfz29_0
       try clear hfz29_1
       try clear hfz29_2
       try clear hfz33_0
       try clear hfz33_1
       try clear hfz40_0
       try clear hfz40_1
       try clear hfz40_2
       try clear hfz42_0
       try clear hfz42_1
       try clear hfz42_2
       try clear hfz7_0
       try clear hfz7_1
       try clear p2
       obtain ⟨kq, x303001_34, x303002_34, HA, HJ34, HO_5, BK292, BK302, HI0, HK, HB⟩ := hcut
       cases kq with
       | zero => exact absurd HA.out (by simp [spec_l1Cur_hints.j2])
       | succ kj34 =>
        have H := HA.out
        clear HA
        simp only [spec_l1Cur_hints.j2] at H
        replace H := Option.bind_eq_some_iff.mp H
        obtain ⟨⟨t307, t308, t309⟩, A430, H⟩ := H
        (try dsimp only at H)
        have A43 := Aside0.mk A430
        clear A430
        by_cases c44 : t307 = true
        ·subst c44
         replace H := zt H
         replace H := Option.bind_eq_some_iff.mp H
         obtain ⟨⟨t310, t311, t312⟩, A450, H⟩ := H
         (try dsimp only at H)
         have A45 := Aside0.mk A450
         clear A450
         replace H := Option.bind_eq_some_iff.mp H
         obtain ⟨⟨t313, t314, t315⟩, A460, H⟩ := H
         (try dsimp only at H)
         have A46 := Aside0.mk A460
         clear A460
         replace H := Option.bind_eq_some_iff.mp H
         obtain ⟨⟨t316, t317, t318⟩, A470, H⟩ := H
         (try dsimp only at H)
         have A47 := Aside0.mk A470
         clear A470
         replace H := nz H; obtain ⟨c48, H⟩ := H
         have LMc48 := Aside0.mk c48
         clear c48
         obtain ⟨y319, hy319⟩ : ∃ y_ : List (S35), y_ = (x5_1 ++ [(⟨t299, wrap64 (t310 - 1), wrap64 (t313 - (wrap64 (Int.tdiv t316 8)))⟩ : S35)]) := ⟨_, rfl⟩
         replace H : (spec_l1Cur_hints.l0 kj34 y319 t293 (wrap64 (x7_1 - 1)) s0_0 t317 t318 a1_0 a1_1) = some (r1, r2, r3) := hZ hy319 H
         have Ny319 := Aside0.mk hy319
         clear hy319
         have H' := Aside0.mk H
         clear H
         go_wp2_with (first | ((with_reducible refine gate_callee (f := 88) rfl ?_); refine goesL_ (some 45) rfl rfl Tryz.func88 (by kernel_rfl) rfl #[.pointer (some ⟨g, 0, none⟩), .int .i64 12] rfl lM ?_; (with_reducible refine (spec_l1Cur_one.calls g s0_0 t300 t301 12 true t308 t309 w0 _ ?side1 ?side2 A43.out).mono ?_); (case side1 => exact iS); (case side2 => repeat (first | (with_reducible first | exact HB.out | apply below_alloc | apply pw_below_drewN | apply below_drew1 | refine below_set ?_ (IsS76.ge HI0.out) | refine below_set ?_ GE292.out | refine below_set ?_ GE302.out) | exact HB.out)); rintro e w49 ⟨rfl, hi, hb, hk⟩; refine ⟨_, rfl, ?_⟩; have n0_ := Aside0.mk (Kd.R_mono (Kd.R_keep (IsS76.apart (show IsS76 w0 _ g s0_0 t300 t301 from iS) (kR HO_5) (by decide)) hk (fun _ h => h.2)) (fun _ h => h.1)); have n1_ := Aside0.mk (KeepBut.blk hk (g' := gb292) (o := .cells #[.int .i64 a1_0, .int .i64 a1_1] 25 (0, 0)) bK NB292_0.out (by simp)); have n2_ := Aside0.mk (KeepBut.blk hk (g' := gb302) (o := .cells #[.string t299, .int .i64 x303001_34, .int .i64 x303002_34] 35 (0, 0)) bK NB302_0.out (by simp)); have n3_ := Aside0.mk (KeepBut.trans (by repeat (first | (with_reducible first | exact HK.out | apply KeepBut.set_ | apply keep_drewN | apply keep_drew | apply keep_alloc | refine keep_far ?_ GW292.out _ | refine keep_far ?_ GW302.out _) | exact HK.out)) hk (.inl rfl)); have n4_ := Aside0.mk (hb); have n5_ := Aside0.mk (hi); clear HO_5; clear BK292; clear BK302; clear HK; clear HB; clear HI0; have HO_5 := n0_; have BK292 := n1_; have BK302 := n2_; have HK := n3_; have HB := n4_; have HI0 := n5_; clear n0_ n1_ n2_ n3_ n4_ n5_; (try clear hb); (try clear hk); (try clear hi)) | ((with_reducible refine gate_callee (f := 68) rfl ?_); refine goesL_ (some 47) rfl rfl Tryz.func68 (by kernel_rfl) rfl #[.pointer (some ⟨g, 0, none⟩), .int .i64 5] rfl lM ?_; (with_reducible refine (spec_l1Cur_pick.calls g s0_0 t308 t309 5 t310 t311 t312 w0 _ ?side1 ?side2 A45.out).mono ?_); (case side1 => exact iS); (case side2 => repeat (first | (with_reducible first | exact HB.out | apply below_alloc | apply pw_below_drewN | apply below_drew1 | refine below_set ?_ (IsS76.ge HI0.out) | refine below_set ?_ GE292.out | refine below_set ?_ GE302.out) | exact HB.out)); rintro e w50 ⟨rfl, hi, hb, hk⟩; refine ⟨_, rfl, ?_⟩; have n0_ := Aside0.mk (Kd.R_mono (Kd.R_keep (IsS76.apart (show IsS76 w0 _ g s0_0 t308 t309 from iS) (kR HO_5) (by decide)) hk (fun _ h => h.2)) (fun _ h => h.1)); have n1_ := Aside0.mk (KeepBut.blk hk (g' := gb292) (o := .cells #[.int .i64 a1_0, .int .i64 a1_1] 25 (0, 0)) bK NB292_0.out (by simp)); have n2_ := Aside0.mk (KeepBut.blk hk (g' := gb302) (o := .cells #[.string t299, .int .i64 x303001_34, .int .i64 x303002_34] 35 (0, 0)) bK NB302_0.out (by simp)); have n3_ := Aside0.mk (KeepBut.trans (by repeat (first | (with_reducible first | exact HK.out | apply KeepBut.set_ | apply keep_drewN | apply keep_drew | apply keep_alloc | refine keep_far ?_ GW292.out _ | refine keep_far ?_ GW302.out _) | exact HK.out)) hk (.inl rfl)); have n4_ := Aside0.mk (hb); have n5_ := Aside0.mk (hi); clear HO_5; clear BK292; clear BK302; clear HK; clear HB; clear HI0; have HO_5 := n0_; have BK292 := n1_; have BK302 := n2_; have HK := n3_; have HB := n4_; have HI0 := n5_; clear n0_ n1_ n2_ n3_ n4_ n5_; (try clear hb); (try clear hk); (try clear hi); have hnb51 := NB302_292.out; have hnc51 := NB292_302.out; have hnb52 := NB302_0.out; have hnc52 := NB0_302.out; have hcz53_0 := cZ BK302 0 (.string t299); have hcz53_1 := cZ BK302 1 (.int .i64 x303001_34); have hcz53_2 := cZ BK302 2 (.int .i64 x303002_34); have hfz53_0 := blk_frozen BK302.out 0; have hfz53_1 := blk_frozen BK302.out 1; have hfz53_2 := blk_frozen BK302.out 2) | ((with_reducible refine gate_callee (f := 68) rfl ?_); refine goesL_ (some 51) rfl rfl Tryz.func68 (by kernel_rfl) rfl #[.pointer (some ⟨g, 0, none⟩), .int .i64 4] rfl lM ?_; (with_reducible refine (spec_l1Cur_pick.calls g s0_0 t311 t312 4 t313 t314 t315 w0 _ ?side1 ?side2 A46.out).mono ?_); (case side1 => exact iS); (case side2 => repeat (first | (with_reducible first | exact HB.out | apply below_alloc | apply pw_below_drewN | apply below_drew1 | refine below_set ?_ (IsS76.ge HI0.out) | refine below_set ?_ GE292.out | refine below_set ?_ GE302.out) | exact HB.out)); rintro e w54 ⟨rfl, hi, hb, hk⟩; refine ⟨_, rfl, ?_⟩; replace HO_5 := Aside0.mk (Kd.R_mono (Kd.R_keep (IsS76.apart (show IsS76 w0 _ g s0_0 t311 t312 from iS) (by (with_reducible repeat (first | apply Kd.R_alloc | apply Kd.R_drewN | apply Kd.R_drew)); exact (Kd.R_mono (Kd.R_far (p := ⟨gb302, 1, none⟩) (Kd.R_mono HO_5.out (fun k_ hk => (⟨hk, by first | exact hk | exact hk.2 | exact hk.1⟩ : _ ∧ k_ ≠ gb302))) (fun _ hk => hk.2) (.int .i64 (wrap64 (t310 - 1)))) (fun _ h_ => h_.1))) (by decide)) hk (fun _ h => h.2)) (fun _ h => h.1)); replace BK292 := Aside0.mk (KeepBut.blk hk (g' := gb292) (o := .cells #[.int .i64 a1_0, .int .i64 a1_1] 25 (0, 0)) (by (with_reducible repeat (first | refine blk_drewN ?_ _ | refine blk_drew ?_ | refine blk_alloc ?_ _)); refine blk_far ?_ NB292_302.out _; (with_reducible repeat (first | refine blk_drewN ?_ _ | refine blk_drew ?_ | refine blk_alloc ?_ _)); exact BK292.out) NB292_0.out (by simp)); replace BK302 := Aside0.mk (KeepBut.blk hk (g' := gb302) (o := .cells #[.string t299, .int .i64 (wrap64 (t310 - 1)), .int .i64 x303002_34] 35 (0, 0)) (by (with_reducible repeat (first | refine blk_drewN ?_ _ | refine blk_drew ?_ | refine blk_alloc ?_ _)); refine blk_put (cs := #[.string t299, .int .i64 x303001_34, .int .i64 x303002_34]) ?_ 1 _ rfl; (with_reducible repeat (first | refine blk_drewN ?_ _ | refine blk_drew ?_ | refine blk_alloc ?_ _)); exact BK302.out) NB302_0.out (by simp)); replace HK := Aside0.mk (KeepBut.trans (by repeat (first | (with_reducible first | exact HK.out | apply KeepBut.set_ | apply keep_drewN | apply keep_drew | apply keep_alloc | refine keep_far ?_ GW292.out _ | refine keep_far ?_ GW302.out _) | exact HK.out)) hk (.inl rfl)); replace HB := Aside0.mk (hb); replace HI0 := Aside0.mk (hi); (try clear hb); (try clear hk); (try clear hi)) | ((with_reducible refine gate_callee (f := 68) rfl ?_); refine goesL_ (some 53) rfl rfl Tryz.func68 (by kernel_rfl) rfl #[.pointer (some ⟨g, 0, none⟩), .int .i64 9] rfl lM ?_; (with_reducible refine (spec_l1Cur_pick.calls g s0_0 t314 t315 9 t316 t317 t318 w0 _ ?side1 ?side2 A47.out).mono ?_); (case side1 => exact iS); (case side2 => repeat (first | (with_reducible first | exact HB.out | apply below_alloc | apply pw_below_drewN | apply below_drew1 | refine below_set ?_ (IsS76.ge HI0.out) | refine below_set ?_ GE292.out | refine below_set ?_ GE302.out) | exact HB.out)); rintro e w55 ⟨rfl, hi, hb, hk⟩; refine ⟨_, rfl, ?_⟩; have n0_ := Aside0.mk (Kd.R_mono (Kd.R_keep (IsS76.apart (show IsS76 w0 _ g s0_0 t314 t315 from iS) (kR HO_5) (by decide)) hk (fun _ h => h.2)) (fun _ h => h.1)); have n1_ := Aside0.mk (KeepBut.blk hk (g' := gb292) (o := .cells #[.int .i64 a1_0, .int .i64 a1_1] 25 (0, 0)) bK NB292_0.out (by simp)); have n2_ := Aside0.mk (KeepBut.blk hk (g' := gb302) (o := .cells #[.string t299, .int .i64 (wrap64 (t310 - 1)), .int .i64 x303002_34] 35 (0, 0)) bK NB302_0.out (by simp)); have n3_ := Aside0.mk (KeepBut.trans (by repeat (first | (with_reducible first | exact HK.out | apply KeepBut.set_ | apply keep_drewN | apply keep_drew | apply keep_alloc | refine keep_far ?_ GW292.out _ | refine keep_far ?_ GW302.out _) | exact HK.out)) hk (.inl rfl)); have n4_ := Aside0.mk (hb); have n5_ := Aside0.mk (hi); clear HO_5; clear BK292; clear BK302; clear HK; clear HB; clear HI0; have HO_5 := n0_; have BK292 := n1_; have BK302 := n2_; have HK := n3_; have HB := n4_; have HI0 := n5_; clear n0_ n1_ n2_ n3_ n4_ n5_; (try clear hb); (try clear hk); (try clear hi); have hcz56_0 := cZ BK302 0 (.string t299); have hcz56_1 := cZ BK302 1 (.int .i64 (wrap64 (t310 - 1))); have hcz56_2 := cZ BK302 2 (.int .i64 x303002_34); have hfz56_0 := blk_frozen BK302.out 0; have hfz56_1 := blk_frozen BK302.out 1; have hfz56_2 := blk_frozen BK302.out 2) | ((with_reducible refine gate_builtin (b := .append) (xs := #[.tmp 57, .tmp 59]) rfl ?_); at_builtin; refine Kd.R_append k35 w.heap.size rfl (.tmp 57) (.tmp 59) 28 35 (.agg #[(.string ⟨#[]⟩), (.int .i64 0), (.int .i64 0)]) 32 rfl Tryz.underlying28 info35 rfl (by decide) (by omega) u5 x5_1 (⟨t299, wrap64 (t310 - 1), wrap64 (t313 - (wrap64 (Int.tdiv t316 8)))⟩ : S35) [.string t299, .int .i64 (wrap64 (t310 - 1)), .int .i64 (wrap64 (t313 - (wrap64 (Int.tdiv t316 8))))] (fun k_ => k_ ≠ gb302) (fun _ => False) rfl (by first | (go_simp; done) | (go_simp; rfl)) ?aP (fun _ hk => hk.elim) ?aF ?aO (Below.refl _ _) ?aS ?aL ?_; (case aP => exact k35_mkM _ _ _ (⟨t299, wrap64 (t310 - 1), wrap64 (t313 - (wrap64 (Int.tdiv t316 8)))⟩ : S35)); (case aF => exact (fun k_ hk => Kd.freshB (g := gb302) (o := .cells #[.string t299, .int .i64 (wrap64 (t310 - 1)), .int .i64 (wrap64 (t313 - (wrap64 (Int.tdiv t316 8))))] 35 (0, 0)) (by (with_reducible repeat (first | refine blk_drewN ?_ _ | refine blk_drew ?_ | refine blk_alloc ?_ _)); refine blk_put (cs := #[.string t299, .int .i64 (wrap64 (t310 - 1)), .int .i64 x303002_34]) ?_ 2 _ rfl; (with_reducible repeat (first | refine blk_drewN ?_ _ | refine blk_drew ?_ | refine blk_alloc ?_ _)); exact BK302.out) k_ hk)); (case aO => exact (by (with_reducible repeat (first | apply Kd.R_alloc | apply Kd.R_drewN | apply Kd.R_drew)); exact Kd.R_mono (Kd.R_far (p := ⟨gb302, 2, none⟩) (Kd.R_mono HO_5.out (fun k_ hk => (⟨hk, hk⟩ : _ ∧ k_ ≠ gb302))) (fun _ hk => hk.2) (.int .i64 (wrap64 (t313 - (wrap64 (Int.tdiv t316 8)))))) (fun _ hk => by first | exact hk.1 | exact hk.1.2))); (case aS => exact (keep_size (w := w) (g := g) (row := none) (by repeat (first | (with_reducible first | exact HK.out | apply KeepBut.set_ | apply keep_drewN | apply keep_drew | apply keep_alloc | refine keep_far ?_ GW292.out _ | refine keep_far ?_ GW302.out _) | exact HK.out)))); (case aL => have := LMc48.out; omega); intro v320 w57 ho hb hg hat; rw [← Ny319.out] at ho; have n0_ := Aside0.mk (blk_grown (g := gb292) (o := .cells #[.int .i64 a1_0, .int .i64 a1_1] 25 (0, 0)) (by (with_reducible repeat (first | refine blk_drewN ?_ _ | refine blk_drew ?_ | refine blk_alloc ?_ _)); refine blk_far ?_ NB292_302.out _; (with_reducible repeat (first | refine blk_drewN ?_ _ | refine blk_drew ?_ | refine blk_alloc ?_ _)); exact BK292.out) hg (Kd.R_ne HO_5.out BK292.out (by decide))); have n1_ := Aside0.mk (blk_grown (g := gb302) (o := .cells #[.string t299, .int .i64 (wrap64 (t310 - 1)), .int .i64 (wrap64 (t313 - (wrap64 (Int.tdiv t316 8))))] 35 (0, 0)) (by (with_reducible repeat (first | refine blk_drewN ?_ _ | refine blk_drew ?_ | refine blk_alloc ?_ _)); refine blk_put (cs := #[.string t299, .int .i64 (wrap64 (t310 - 1)), .int .i64 x303002_34]) ?_ 2 _ rfl; (with_reducible repeat (first | refine blk_drewN ?_ _ | refine blk_drew ?_ | refine blk_alloc ?_ _)); exact BK302.out) hg (Kd.R_away HO_5.out (fun _ hk => hk))); have n2_ := Aside0.mk (IsS76.grown (IsS76.far HI0.out NB0_302.out _) hg (IsS76.own_ne HI0.out HO_5.out (by decide))); have n3_ := Aside0.mk (below_weaken (by repeat (first | (with_reducible first | exact HB.out | apply below_alloc | apply pw_below_drewN | apply below_drew1 | refine below_set ?_ (IsS76.ge HI0.out) | refine below_set ?_ GE292.out | refine below_set ?_ GE302.out) | exact HB.out)) HL.out hb); have n4_ := Aside0.mk (KeepBut.trans (by repeat (first | (with_reducible first | exact HK.out | apply KeepBut.set_ | apply keep_drewN | apply keep_drew | apply keep_alloc | refine keep_far ?_ GW292.out _ | refine keep_far ?_ GW302.out _) | exact HK.out)) (KeepBut.of_grown hg g) (Kd.R_base2 HO_5.out)); have n5_ := Aside0.mk (ho); clear BK292; clear BK302; clear HI0; clear HB; clear HK; clear HO_5; have BK292 := n0_; have BK302 := n1_; have HI0 := n2_; have HB := n3_; have HK := n4_; have HO321 := n5_; clear n0_ n1_ n2_ n3_ n4_ n5_; clear ho hb hg hat))
         go_roundg kj34
         case measure => have := HK1.out; have := HJ11.out; have := HJ34.out; omega
         case rel => exact ⟨(y319), (wrap64 (x7_1 - 1)), (t317), (t318), fR, H', ⟨by have := HK1.out; have := HJ11.out; have := HJ34.out; omega⟩, ⟨by (with_reducible repeat (first | apply Kd.R_alloc | apply Kd.R_drewN | apply Kd.R_drew)); exact Kd.R_mono HO321.out (fun _ hk => trivial)⟩, ⟨bK⟩, ⟨iS⟩, ⟨by repeat (first | (with_reducible first | exact HK.out | apply KeepBut.set_ | apply keep_drewN | apply keep_drew | apply keep_alloc | refine keep_far ?_ GW292.out _ | refine keep_far ?_ GW302.out _) | exact HK.out)⟩, ⟨by repeat (first | (with_reducible first | exact HB.out | apply below_alloc | apply pw_below_drewN | apply below_drew1 | refine below_set ?_ (IsS76.ge HI0.out) | refine below_set ?_ GE292.out | refine below_set ?_ GE302.out) | exact HB.out)⟩⟩
        ·replace c44 := Bool.eq_false_iff.mpr c44
         subst c44
         replace H := zf H
         replace H := nz H; obtain ⟨c58, H⟩ := H
         have LMc58 := Aside0.mk c58
         clear c58
         obtain ⟨y322, hy322⟩ : ∃ y_ : List (S35), y_ = (x5_1 ++ [(⟨t299, x303001_34, x303002_34⟩ : S35)]) := ⟨_, rfl⟩
         replace H : (spec_l1Cur_hints.l0 kj34 y322 t293 (wrap64 (x7_1 - 1)) s0_0 t308 t309 a1_0 a1_1) = some (r1, r2, r3) := hZ hy322 H
         have Ny322 := Aside0.mk hy322
         clear hy322
         have H' := Aside0.mk H
         clear H
         go_wp2_with (first | ((with_reducible refine gate_callee (f := 88) rfl ?_); refine goesL_ (some 45) rfl rfl Tryz.func88 (by kernel_rfl) rfl #[.pointer (some ⟨g, 0, none⟩), .int .i64 12] rfl lM ?_; (with_reducible refine (spec_l1Cur_one.calls g s0_0 t300 t301 12 false t308 t309 w0 _ ?side1 ?side2 A43.out).mono ?_); (case side1 => exact iS); (case side2 => repeat (first | (with_reducible first | exact HB.out | apply below_alloc | apply pw_below_drewN | apply below_drew1 | refine below_set ?_ (IsS76.ge HI0.out) | refine below_set ?_ GE292.out | refine below_set ?_ GE302.out) | exact HB.out)); rintro e w59 ⟨rfl, hi, hb, hk⟩; refine ⟨_, rfl, ?_⟩; have n0_ := Aside0.mk (Kd.R_mono (Kd.R_keep (IsS76.apart (show IsS76 w0 _ g s0_0 t300 t301 from iS) (kR HO_5) (by decide)) hk (fun _ h => h.2)) (fun _ h => h.1)); have n1_ := Aside0.mk (KeepBut.blk hk (g' := gb292) (o := .cells #[.int .i64 a1_0, .int .i64 a1_1] 25 (0, 0)) bK NB292_0.out (by simp)); have n2_ := Aside0.mk (KeepBut.blk hk (g' := gb302) (o := .cells #[.string t299, .int .i64 x303001_34, .int .i64 x303002_34] 35 (0, 0)) bK NB302_0.out (by simp)); have n3_ := Aside0.mk (KeepBut.trans (by repeat (first | (with_reducible first | exact HK.out | apply KeepBut.set_ | apply keep_drewN | apply keep_drew | apply keep_alloc | refine keep_far ?_ GW292.out _ | refine keep_far ?_ GW302.out _) | exact HK.out)) hk (.inl rfl)); have n4_ := Aside0.mk (hb); have n5_ := Aside0.mk (hi); clear HO_5; clear BK292; clear BK302; clear HK; clear HB; clear HI0; have HO_5 := n0_; have BK292 := n1_; have BK302 := n2_; have HK := n3_; have HB := n4_; have HI0 := n5_; clear n0_ n1_ n2_ n3_ n4_ n5_; (try clear hb); (try clear hk); (try clear hi); have hnb60 := NB302_292.out; have hnc60 := NB292_302.out; have hnb61 := NB302_0.out; have hnc61 := NB0_302.out; have hcz62_0 := cZ BK302 0 (.string t299); have hcz62_1 := cZ BK302 1 (.int .i64 x303001_34); have hcz62_2 := cZ BK302 2 (.int .i64 x303002_34); have hfz62_0 := blk_frozen BK302.out 0; have hfz62_1 := blk_frozen BK302.out 1; have hfz62_2 := blk_frozen BK302.out 2) | ((with_reducible refine gate_builtin (b := .append) (xs := #[.tmp 57, .tmp 59]) rfl ?_); at_builtin; refine Kd.R_append k35 w.heap.size rfl (.tmp 57) (.tmp 59) 28 35 (.agg #[(.string ⟨#[]⟩), (.int .i64 0), (.int .i64 0)]) 32 rfl Tryz.underlying28 info35 rfl (by decide) (by omega) u5 x5_1 (⟨t299, x303001_34, x303002_34⟩ : S35) [.string t299, .int .i64 x303001_34, .int .i64 x303002_34] (fun k_ => k_ ≠ gb302) (fun _ => False) rfl rfl ?aP (fun _ hk => hk.elim) ?aF ?aO (Below.refl _ _) ?aS ?aL ?_; (case aP => exact k35_mkM _ _ _ (⟨t299, x303001_34, x303002_34⟩ : S35)); (case aF => exact (fun k_ hk => Kd.freshB (g := gb302) (o := .cells #[.string t299, .int .i64 x303001_34, .int .i64 x303002_34] 35 (0, 0)) bK k_ hk)); (case aO => exact (kR HO_5)); (case aS => exact (keep_size (w := w) (g := g) (row := none) (by repeat (first | (with_reducible first | exact HK.out | apply KeepBut.set_ | apply keep_drewN | apply keep_drew | apply keep_alloc | refine keep_far ?_ GW292.out _ | refine keep_far ?_ GW302.out _) | exact HK.out)))); (case aL => have := LMc58.out; omega); intro v323 w63 ho hb hg hat; rw [← Ny322.out] at ho; have n0_ := Aside0.mk (blk_grown (g := gb292) (o := .cells #[.int .i64 a1_0, .int .i64 a1_1] 25 (0, 0)) bK hg (Kd.R_ne HO_5.out BK292.out (by decide))); have n1_ := Aside0.mk (blk_grown (g := gb302) (o := .cells #[.string t299, .int .i64 x303001_34, .int .i64 x303002_34] 35 (0, 0)) bK hg (Kd.R_away HO_5.out (fun _ hk => hk))); have n2_ := Aside0.mk (IsS76.grown (by repeat (first | (with_reducible first | exact HI0.out | apply IsS76.alloc | apply IsS76.drewN | apply IsS76.drew | apply IsS76.set_1 | apply IsS76.set_2 | refine IsS76.far ?_ NB0_292.out _ | refine IsS76.far ?_ NB0_302.out _) | exact HI0.out)) hg (IsS76.own_ne HI0.out HO_5.out (by decide))); have n3_ := Aside0.mk (below_weaken (by repeat (first | (with_reducible first | exact HB.out | apply below_alloc | apply pw_below_drewN | apply below_drew1 | refine below_set ?_ (IsS76.ge HI0.out) | refine below_set ?_ GE292.out | refine below_set ?_ GE302.out) | exact HB.out)) HL.out hb); have n4_ := Aside0.mk (KeepBut.trans (by repeat (first | (with_reducible first | exact HK.out | apply KeepBut.set_ | apply keep_drewN | apply keep_drew | apply keep_alloc | refine keep_far ?_ GW292.out _ | refine keep_far ?_ GW302.out _) | exact HK.out)) (KeepBut.of_grown hg g) (Kd.R_base2 HO_5.out)); have n5_ := Aside0.mk (ho); clear BK292; clear BK302; clear HI0; clear HB; clear HK; clear HO_5; have BK292 := n0_; have BK302 := n1_; have HI0 := n2_; have HB := n3_; have HK := n4_; have HO324 := n5_; clear n0_ n1_ n2_ n3_ n4_ n5_; clear ho hb hg hat))
         go_roundg kj34
         case measure => have := HK1.out; have := HJ11.out; have := HJ34.out; omega
         case rel => exact ⟨(y322), (wrap64 (x7_1 - 1)), (t308), (t309), fR, H', ⟨by have := HK1.out; have := HJ11.out; have := HJ34.out; omega⟩, ⟨by (with_reducible repeat (first | apply Kd.R_alloc | apply Kd.R_drewN | apply Kd.R_drew)); exact Kd.R_mono HO324.out (fun _ hk => trivial)⟩, ⟨bK⟩, ⟨iS⟩, ⟨by repeat (first | (with_reducible first | exact HK.out | apply KeepBut.set_ | apply keep_drewN | apply keep_drew | apply keep_alloc | refine keep_far ?_ GW292.out _ | refine keep_far ?_ GW302.out _) | exact HK.out)⟩, ⟨by repeat (first | (with_reducible first | exact HB.out | apply below_alloc | apply pw_below_drewN | apply below_drew1 | refine below_set ?_ (IsS76.ge HI0.out) | refine below_set ?_ GE292.out | refine below_set ?_ GE302.out) | exact HB.out)⟩⟩
   ·rw [if_neg c10] at H
    have c10b0 : decide (0 < x7_1) = false := decide_eq_false c10
    clear c10
    replace H := Option.bind_eq_some_iff.mp H
    obtain ⟨⟨t325, t326, t327⟩, A640, H⟩ := H
    (try dsimp only at H)
    have A64 := Aside0.mk A640
    clear A640
    by_cases c65 : t325 = true
    ·subst c65
     replace H := zt H
     have H' := Aside0.mk H
     clear H
     go_wp2_with (first | ((with_reducible refine gate_callee (f := 88) rfl ?_); refine goesL_ (some 62) rfl rfl Tryz.func88 (by kernel_rfl) rfl #[.pointer (some ⟨g, 0, none⟩), .int .i64 20] rfl lM ?_; (with_reducible refine (spec_l1Cur_one.calls g s0_0 x1001_1 x1002_1 20 true t326 t327 w0 _ ?side1 ?side2 A64.out).mono ?_); (case side1 => exact iS); (case side2 => exact bF GE292); rintro e w66 ⟨rfl, hi, hb, hk⟩; refine ⟨_, rfl, ?_⟩; replace HO_5 := Aside0.mk (Kd.R_mono (Kd.R_keep (IsS76.apart (show IsS76 w0 _ g s0_0 x1001_1 x1002_1 from iS) (kR HO_5) (by decide)) hk (fun _ h => h.2)) (fun _ h => h.1)); replace BK292 := Aside0.mk (KeepBut.blk hk (g' := gb292) (o := .cells #[.int .i64 a1_0, .int .i64 a1_1] 25 (0, 0)) bK NB292_0.out (by simp)); replace HK := Aside0.mk (KeepBut.trans (kF GW292) hk (.inl rfl)); replace HB := Aside0.mk (hb); replace HI0 := Aside0.mk (hi); (try clear hb); (try clear hk); (try clear hi)))
     (try simp only [Act.put, List.setIfInBounds_toArray, List.set_cons_zero, List.set_cons_succ])
     go_loopg [5] k1 (fun kq v5 w' => ∃ (x5_2 : List (S35)) (x1001_2 : Int) (x1002_2 : Int), Aside0 (spec_l1Cur_hints.l1 kq x5_2 t293 s0_0 x1001_2 x1002_2 = some (r1, r2, r3)) ∧ Aside0 (kq ≤ k1) ∧ Aside0 (Kd.R k35 35 w' w.heap.size (fun _ => True) v5 x5_2) ∧ Aside0 (w'.heap[gb292]? = some (.cells #[.int .i64 a1_0, .int .i64 a1_1] 25 (0, 0))) ∧ Aside0 (IsS76 w0 w' g s0_0 x1001_2 x1002_2) ∧ Aside0 (KeepBut w w' g none) ∧ Aside0 (Below w0.heap.size w0 w'))
     case atStart => exact ⟨(x5_1), (t326), (t327), H', ⟨Nat.le_refl _⟩, ⟨kR HO_5⟩, ⟨bK⟩, ⟨iS⟩, ⟨kF GW292⟩, ⟨bF GE292⟩⟩
     case round =>
      clear H'
      try clear c1
      try clear c2
      try clear p2
      try clear c3
      try clear c4
      try clear c5
      try clear c6
      try clear p6
      try clear c7
      try clear c8
      try clear c10
      try clear c10b0
      try clear c11
      try clear c12
      try clear c13
      try clear c17
      try clear c18
      try clear c21
      try clear c23
      try clear c24
      try clear c28
      try clear c31
      try clear c32
      try clear c36
      try clear c38
      try clear c39
      try clear c44
      try clear c48
      try clear c50
      try clear c51
      try clear c52
      try clear c58
      try clear c60
      try clear c61
      try clear p64
      try clear c65
      try clear hcz14_0
      try clear hcz14_1
      try clear hcz19_0
      try clear hcz19_1
      try clear hcz19_2
      try clear hcz25_0
      try clear hcz25_1
      try clear hcz27_0
      try clear hcz27_1
      try clear hcz29_0
      try clear hcz29_1
      try clear hcz29_2
      try clear hcz33_0
      try clear hcz33_1
      try clear hcz40_0
      try clear hcz40_1
      try clear hcz40_2
      try clear hcz42_0
      try clear hcz42_1
      try clear hcz42_2
      try clear hcz53_0
      try clear hcz53_1
      try clear hcz53_2
      try clear hcz56_0
      try clear hcz56_1
      try clear hcz56_2
      try clear hcz62_0
      try clear hcz62_1
      try clear hcz62_2
      try clear hcz7_0
      try clear hcz7_1
      try clear hfz14_0
      try clear hfz14_1
      try clear hfz19_0
      try clear hfz19_1
      try clear hfz19_2
      try clear hfz25_0
      try clear hfz25_1
      try clear hfz27_0
      try clear hfz27_1
      try clear hfz29_0
      try clear hfz29_1
      try clear hfz29_2
      try clear hfz33_0
      try clear hfz33_1
      try clear hfz40_0
      try clear hfz40_1
      try clear hfz40_2
      try clear hfz42_0
      try clear hfz42_1
      try clear hfz42_2
      try clear hfz53_0
      try clear hfz53_1
      try clear hfz53_2
      try clear hfz56_0
      try clear hfz56_1
      try clear hfz56_2
      try clear hfz62_0
      try clear hfz62_1
      try clear hfz62_2
      try clear hfz7_0
      try clear hfz7_1
      try clear p2
      obtain ⟨x5_2, x1001_2, x1002_2, HA, HK2, HO_5, BK292, HI0, HK, HB⟩ := hrel
      cases gk with
      | zero => exact absurd HA.out (by simp [spec_l1Cur_hints.l1])
      | succ k2 =>
       have H := HA.out
       clear HA
       simp only [spec_l1Cur_hints.l1] at H
       replace H := Option.bind_eq_some_iff.mp H
       obtain ⟨⟨t328, t329, t330⟩, A670, H⟩ := H
       (try dsimp only at H)
       have A67 := Aside0.mk A670
       clear A670
       by_cases c68 : (x5_2.length : Int) < (wrap64 (10 + t328))
       ·rw [if_pos c68] at H
        have c68b0 : decide ((x5_2.length : Int) < (wrap64 (10 + t328))) = true := decide_eq_true c68
        clear c68
        replace H := nz H; obtain ⟨c69, H⟩ := H
        have LMc69 := Aside0.mk c69
        clear c69
        obtain ⟨y331, hy331⟩ : ∃ y_ : List (S35), y_ = (x5_2 ++ [(⟨t293, 0, 0⟩ : S35)]) := ⟨_, rfl⟩
        replace H : (spec_l1Cur_hints.l1 k2 y331 t293 s0_0 t329 t330) = some (r1, r2, r3) := hZ hy331 H
        have Ny331 := Aside0.mk hy331
        clear hy331
        have H' := Aside0.mk H
        clear H
        obtain ⟨Ao70, co70, eo70⟩ := Kd.R_slice HO_5.out
        subst eo70
        go_wp2_with (first | ((with_reducible refine gate_callee (f := 68) rfl ?_); refine goesL_ (some 66) rfl rfl Tryz.func68 (by kernel_rfl) rfl #[.pointer (some ⟨g, 0, none⟩), .int .i64 2] rfl lM ?_; (with_reducible refine (spec_l1Cur_pick.calls g s0_0 x1001_2 x1002_2 2 t328 t329 t330 w0 _ ?side1 ?side2 A67.out).mono ?_); (case side1 => exact iS); (case side2 => exact bF GE292); rintro e w71 ⟨rfl, hi, hb, hk⟩; refine ⟨_, rfl, ?_⟩; replace HO_5 := Aside0.mk (Kd.R_mono (Kd.R_keep (IsS76.apart (show IsS76 w0 _ g s0_0 x1001_2 x1002_2 from iS) (kR HO_5) (by decide)) hk (fun _ h => h.2)) (fun _ h => h.1)); replace BK292 := Aside0.mk (KeepBut.blk hk (g' := gb292) (o := .cells #[.int .i64 a1_0, .int .i64 a1_1] 25 (0, 0)) bK NB292_0.out (by simp)); replace HK := Aside0.mk (KeepBut.trans (kF GW292) hk (.inl rfl)); replace HB := Aside0.mk (hb); replace HI0 := Aside0.mk (hi); (try clear hb); (try clear hk); (try clear hi)) | ((with_reducible refine gate_builtin (b := .append) (xs := #[.tmp 69, .tmp 72]) rfl ?_); at_builtin; refine Kd.R_append k35 w.heap.size rfl (.tmp 69) (.tmp 72) 28 35 (.agg #[(.string ⟨#[]⟩), (.int .i64 0), (.int .i64 0)]) 32 rfl Tryz.underlying28 info35 rfl (by decide) (by omega) (.slice Ao70 x5_2.length co70) x5_2 (⟨t293, 0, 0⟩ : S35) [.string t293, .int .i64 0, .int .i64 0] (fun _ => True) (fun _ => False) rfl rfl ?aP (fun _ hk => hk.elim) ?aF ?aO (Below.refl _ _) ?aS ?aL ?_; (case aP => exact k35_mkM _ _ _ (⟨t293, 0, 0⟩ : S35)); (case aF => exact (fun _ _ => trivial)); (case aO => exact (kR HO_5)); (case aS => exact (keep_size (w := w) (g := g) (row := none) (kF GW292))); (case aL => have := LMc69.out; omega); intro v332 w72 ho hb hg hat; rw [← Ny331.out] at ho; have n0_ := Aside0.mk (blk_grown (g := gb292) (o := .cells #[.int .i64 a1_0, .int .i64 a1_1] 25 (0, 0)) bK hg (Kd.R_ne HO_5.out BK292.out (by decide))); have n1_ := Aside0.mk (IsS76.grown (by repeat (first | (with_reducible first | exact HI0.out | apply IsS76.alloc | apply IsS76.drewN | apply IsS76.drew | apply IsS76.set_1 | apply IsS76.set_2 | refine IsS76.far ?_ NB0_292.out _) | exact HI0.out)) hg (IsS76.own_ne HI0.out HO_5.out (by decide))); have n2_ := Aside0.mk (below_weaken (bF GE292) HL.out hb); have n3_ := Aside0.mk (KeepBut.trans (kF GW292) (KeepBut.of_grown hg g) (Kd.R_base2 HO_5.out)); have n4_ := Aside0.mk (ho); clear BK292; clear HI0; clear HB; clear HK; clear HO_5; have BK292 := n0_; have HI0 := n1_; have HB := n2_; have HK := n3_; have HO333 := n4_; clear n0_ n1_ n2_ n3_ n4_; clear ho hb hg hat))
        go_roundg k2
        case measure => have := HK1.out; have := HK2.out; omega
        case rel => exact ⟨(y331), (t329), (t330), H', ⟨by have := HK1.out; have := HK2.out; omega⟩, ⟨kR HO333⟩, ⟨bK⟩, ⟨iS⟩, ⟨kF GW292⟩, ⟨bF GE292⟩⟩
       ·rw [if_neg c68] at H
        have c68b0 : decide ((x5_2.length : Int) < (wrap64 (10 + t328))) = false := decide_eq_false c68
        clear c68
        simp only [Option.some.injEq, Prod.mk.injEq] at H
        obtain ⟨rfl, rfl, rfl⟩ := H
        obtain ⟨Ao73, co73, eo73⟩ := Kd.R_slice HO_5.out
        subst eo73
        go_wp2_with (first | ((with_reducible refine gate_callee (f := 68) rfl ?_); refine goesL_ (some 66) rfl rfl Tryz.func68 (by kernel_rfl) rfl #[.pointer (some ⟨g, 0, none⟩), .int .i64 2] rfl lM ?_; (with_reducible refine (spec_l1Cur_pick.calls g s0_0 x1001_2 x1002_2 2 t328 t329 t330 w0 _ ?side1 ?side2 A67.out).mono ?_); (case side1 => exact iS); (case side2 => exact bF GE292); rintro e w74 ⟨rfl, hi, hb, hk⟩; refine ⟨_, rfl, ?_⟩; replace HO_5 := Aside0.mk (Kd.R_mono (Kd.R_keep (IsS76.apart (show IsS76 w0 _ g s0_0 x1001_2 x1002_2 from iS) (kR HO_5) (by decide)) hk (fun _ h => h.2)) (fun _ h => h.1)); replace BK292 := Aside0.mk (KeepBut.blk hk (g' := gb292) (o := .cells #[.int .i64 a1_0, .int .i64 a1_1] 25 (0, 0)) bK NB292_0.out (by simp)); replace HK := Aside0.mk (KeepBut.trans (kF GW292) hk (.inl rfl)); replace HB := Aside0.mk (hb); replace HI0 := Aside0.mk (hi); (try clear hb); (try clear hk); (try clear hi)))
        go_ret
        exact ⟨_, rE, kR HO_5, iS, bF GE292, kF GW292⟩
    ·replace c65 := Bool.eq_false_iff.mpr c65
     subst c65
     replace H := zf H
     simp only [Option.some.injEq, Prod.mk.injEq] at H
     obtain ⟨rfl, rfl, rfl⟩ := H
     go_wp2_with (first | ((with_reducible refine gate_callee (f := 88) rfl ?_); refine goesL_ (some 62) rfl rfl Tryz.func88 (by kernel_rfl) rfl #[.pointer (some ⟨g, 0, none⟩), .int .i64 20] rfl lM ?_; (with_reducible refine (spec_l1Cur_one.calls g s0_0 x1001_1 x1002_1 20 false t326 t327 w0 _ ?side1 ?side2 A64.out).mono ?_); (case side1 => exact iS); (case side2 => exact bF GE292); rintro e w75 ⟨rfl, hi, hb, hk⟩; refine ⟨_, rfl, ?_⟩; replace HO_5 := Aside0.mk (Kd.R_mono (Kd.R_keep (IsS76.apart (show IsS76 w0 _ g s0_0 x1001_1 x1002_1 from iS) (kR HO_5) (by decide)) hk (fun _ h => h.2)) (fun _ h => h.1)); replace BK292 := Aside0.mk (KeepBut.blk hk (g' := gb292) (o := .cells #[.int .i64 a1_0, .int .i64 a1_1] 25 (0, 0)) bK NB292_0.out (by simp)); replace HK := Aside0.mk (KeepBut.trans (kF GW292) hk (.inl rfl)); replace HB := Aside0.mk (hb); replace HI0 := Aside0.mk (hi); (try clear hb); (try clear hk); (try clear hi)))
     go_ret
     exact ⟨_, rE, kR HO_5, iS, bF GE292, kF GW292⟩

/-! ### spec_DrawFitsHints: function 78 -/
def spec_DrawFitsHints.e (k : Nat) (l0 : List Int) (at_ sd m s : Int) (hs : List S35) : Option (Int × Int × List S35 × ByteArray) := (spec_l1Cur_code1.f k l0 at_ sd m s).bind fun c => some (m, s, hs, c.1)
def spec_DrawFitsHints.g (k : Nat) (l0 : List Int) (at_ sd m s : Int) (hs : List S35) : Option (Int × Int × List S35 × ByteArray) := (spec_hiAll.f k m s).bind fun al => (spec_hiFitting.f k al hs).bind fun fs => if 0 < (fs.length : Int) then ((spec_l1Cur_pick.f l0 at_ sd (fs.length : Int)).bind fun p => if 0 ≤ p.1 ∧ p.1 < (fs.length : Int) then some (m, s, hs, rdOf ByteArray.empty fs p.1) else none) else spec_DrawFitsHints.e k l0 at_ sd m s hs
def spec_DrawFitsHints.d (k : Nat) (l0 : List Int) (at_ sd m s : Int) (hs : List S35) : Option (Int × Int × List S35 × ByteArray) := (spec_l1Cur_one.f l0 at_ sd 2).bind fun o => if o.1 = true then spec_DrawFitsHints.g k l0 o.2.1 o.2.2 m s hs else spec_DrawFitsHints.e k l0 o.2.1 o.2.2 m s hs
def spec_DrawFitsHints.f (k : Nat) (l0 : List Int) : Option (Int × Int × List S35 × ByteArray) := (spec_l1Cur_lock.f l0 0 0).bind fun a => (spec_l1Cur_hints.f k l0 a.2.2.1 a.2.2.2 a.1 a.2.1).bind fun hs => (spec_hiAsked.f k a.1 a.2.1 hs.1).bind fun q =>
 if q = true then spec_DrawFitsHints.d k l0 hs.2.1 hs.2.2 a.1 a.2.1 hs.1 else spec_DrawFitsHints.e k l0 hs.2.1 hs.2.2 a.1 a.2.1 hs.1
theorem spec_DrawFitsHints.mono_e (l0 : List Int) (at_ sd m s : Int) (hs : List S35) (k : Nat) : LeO (spec_DrawFitsHints.e k l0 at_ sd m s hs) (spec_DrawFitsHints.e (k + 1) l0 at_ sd m s hs) := LeO.bind (spec_l1Cur_code1.mono _ _ _ _ _ _) (fun _ => LeO.refl _)
theorem spec_DrawFitsHints.mono_g (l0 : List Int) (at_ sd m s : Int) (hs : List S35) (k : Nat) : LeO (spec_DrawFitsHints.g k l0 at_ sd m s hs) (spec_DrawFitsHints.g (k + 1) l0 at_ sd m s hs) := LeO.bind (spec_hiAll.mono _ _ _) (fun _ => LeO.bind (spec_hiFitting.mono _ _ _) (fun _ => LeO.ite (LeO.refl _) (spec_DrawFitsHints.mono_e _ _ _ _ _ _ _)))
theorem spec_DrawFitsHints.mono_d (l0 : List Int) (at_ sd m s : Int) (hs : List S35) (k : Nat) : LeO (spec_DrawFitsHints.d k l0 at_ sd m s hs) (spec_DrawFitsHints.d (k + 1) l0 at_ sd m s hs) := LeO.bind (LeO.refl _) (fun _ => LeO.ite (spec_DrawFitsHints.mono_g _ _ _ _ _ _ _) (spec_DrawFitsHints.mono_e _ _ _ _ _ _ _))
theorem spec_DrawFitsHints.mono : ∀ l0 k, LeO (spec_DrawFitsHints.f k l0) (spec_DrawFitsHints.f (k + 1) l0) := fun l0 k => LeO.bind (LeO.refl _) (fun _ => LeO.bind (spec_l1Cur_hints.mono _ _ _ _ _ _) (fun _ => LeO.bind (spec_hiAsked.mono _ _ _ _) (fun _ => LeO.ite (spec_DrawFitsHints.mono_d _ _ _ _ _ _ _) (spec_DrawFitsHints.mono_e _ _ _ _ _ _ _))))
theorem R_keepT {α : Type} {d : Kd α} {e g t base : Nat} {w w1 : World} {v : Value} {xs : List α} {cells : Array Value} (h : d.R e w base (fun _ => True) v xs) (hb : w.heap[g]? = some (.cells cells t (0, 0))) (ht : ∀ q, q ∈ e :: d.E → q ≠ t) (hk : KeepBut w w1 g none) : d.R e w1 base (fun _ => True) v xs := Kd.R_mono (Kd.R_keep (Kd.R_types h hb ht) hk (fun _ hk => hk.2)) (fun _ _ => trivial)
theorem R_setT {α : Type} {d : Kd α} {e g t base : Nat} {w : World} {v : Value} {xs : List α} {cells : Array Value} (h : d.R e w base (fun _ => True) v xs) (hb : w.heap[g]? = some (.cells cells t (0, 0))) (ht : ∀ q, q ∈ e :: d.E → q ≠ t) (j : Nat) (u : Value) : d.R e (w.setCell ⟨g, j, none⟩ u) base (fun _ => True) v xs := Kd.R_mono (Kd.R_far (p := ⟨g, j, none⟩) (Kd.R_types h hb ht) (fun _ hk => hk.2) u) (fun _ _ => trivial)
theorem kE_neL : ∀ q, q ∈ 35 :: (k35).E → q ≠ 25 := by decide
theorem kE_neC : ∀ q, q ∈ 35 :: (k35).E → q ≠ 76 := by decide
theorem kS_neL : ∀ q, q ∈ 9 :: (Kd.string).E → q ≠ 25 := by decide
theorem kS_neC : ∀ q, q ∈ 9 :: (Kd.string).E → q ≠ 76 := by decide
set_option maxHeartbeats 4000000 in
set_option maxRecDepth 100000 in
theorem spec_DrawFitsHints.calls (k : Nat) (A0 : Option Addr) (c0 : Nat) (l0 : List Int) (r1 r2 : Int) (r3 : List S35) (r4 : ByteArray) (w : World) (hr0 : Kd.C (Kd.int .u8) w A0 l0.length l0) (hc0 : l0.length ≤ c0) (h : spec_DrawFitsHints.f k l0 = some (r1, r2, r3, r4)) :
  Calls Tryz.prog 78 #[.slice A0 l0.length c0] w fun e w' => ∃ v2_ : Value, e = .returned (.tuple #[.agg #[.int .i64 r1, .int .i64 r2], v2_, .string r4]) ∧ Kd.R k35 35 w' w.heap.size (fun _ => True) v2_ r3 ∧ Below w.heap.size w w' := by
 have hu43 := Tryz.underlying76
 unfold spec_DrawFitsHints.f at h
 obtain ⟨⟨m, s, at1, sd1⟩, h1, h⟩ := Option.bind_eq_some_iff.mp h
 obtain ⟨⟨hs, at2, sd2⟩, h2, h⟩ := Option.bind_eq_some_iff.mp h
 obtain ⟨q, h3, h⟩ := Option.bind_eq_some_iff.mp h
 (try dsimp only at h h2 h3)
 have hn1 : w.heap.size ≠ w.heap.size + 1 := by omega
 have hul := Tryz.underlying25
 have HI := Aside0.mk (cur_new2 w (.cells #[.int .i64 0, .int .i64 0] 25) A0 c0 l0 hr0)
 have H1 := Aside0.mk h1
 have H2 := Aside0.mk h2
 have H3 := Aside0.mk h3
 have H := Aside0.mk h
 clear hr0 hc0 h1 h2 h3 h
 go_enter Tryz.func78, Tryz.ntmps78
 go_upto_region 4 with (first | (go_at_call 49; refine (spec_l1Cur_lock.calls (w.heap.size + 1) l0 0 0 m s at1 sd1 w _ HI.out (below_alloc (below_alloc (Below.refl _ _) _) _) H1.out).mono ?_; rintro e w1 ⟨rfl, hI, hB, hk⟩; have hblk := (hk.2 w.heap.size (by simp; try omega) hn1 (by simp)).trans (blk_alloc (blk_new w _) _); have HBK := Aside0.mk hblk; have HI1 := Aside0.mk hI; have HB1 := Aside0.mk hB; clear hI hB hk hblk HI) | (go_at_call 112; refine (spec_l1Cur_hints.calls k (w.heap.size + 1) l0 at1 sd1 m s hs at2 sd2 w _ (HI1.out.alloc (.cells #[.int .i64 m, .int .i64 s] 25)) (below_alloc HB1.out (.cells #[.int .i64 m, .int .i64 s] 25)) H2.out).mono ?_; rintro e w2 ⟨vh, rfl, hR, hI, hB, hk⟩; have hn2 : w1.heap.size ≠ w.heap.size + 1 := (fun e => absurd HI1.out.lt (by rw [e]; exact Nat.lt_irrefl _)); have hbln := (hk.2 w1.heap.size (by simp) hn2 (by simp)).trans (blk_new w1 (.cells #[.int .i64 m, .int .i64 s] 25)); have hblk := (hk.2 w.heap.size (blk_lt (blk_alloc HBK.out (.cells #[.int .i64 m, .int .i64 s] 25))) hn1 (by simp)).trans (blk_alloc HBK.out (.cells #[.int .i64 m, .int .i64 s] 25)); have HR := Aside0.mk (Kd.R_lower (base' := w.heap.size) hR (by have := HB1.out.size; simp; omega)); clear hR HBK HI1 HB1; have HBL := Aside0.mk hblk; have HBN := Aside0.mk hbln; have HI2 := Aside0.mk hI; have HB2 := Aside0.mk hB; clear hI hB hk hblk hbln))
 generalize w1.heap.size = n1 at *
 obtain ⟨Ah, ch, rfl⟩ := Kd.R_slice HR.out
 have he0 := (blk_cell HBN.out 0).trans rfl; have he1 := (blk_cell HBN.out 1).trans rfl; have hf0 := blk_frozen HBN.out 0; have hf1 := blk_frozen HBN.out 1
 have HE := H.out
 clear H H1 H2
 by_cases hq : q = true
 case neg =>
  replace hq := Bool.eq_false_iff.mpr hq
  subst hq
  rw [if_neg (by decide)] at HE
  go_upto_region 8 with (go_at_call 80; refine (spec_hiAsked.calls k m s Ah ch hs false _ (Kd.R_reads' HR.out).2.2 (Kd.R_reads' HR.out).2.1 H3.out).mono ?_; rintro e w3 ⟨rfl, hb⟩; have HR_ := Aside0.mk (Kd.R_below HR.out hb); have HBL_ := Aside0.mk (blk_below HBL.out hb); have HBN_ := Aside0.mk (blk_below HBN.out hb); have HI2_ := Aside0.mk (IsS76.below HI2.out hb); have HB2_ := Aside0.mk (below_step HB2.out hb); clear HR HBL HBN HI2 HB2 hb; have HR := HR_; have HBL := HBL_; have HBN := HBN_; have HI2 := HI2_; have HB2 := HB2_; clear HR_ HBL_ HBN_ HI2_ HB2_; have he2 := (blk_cell HBN.out 0).trans rfl; have he3 := (blk_cell HBN.out 1).trans rfl; have hf2 := blk_frozen HBN.out 0; have hf3 := blk_frozen HBN.out 1)
  unfold spec_DrawFitsHints.e at HE
  obtain ⟨⟨c, at9, sd9⟩, h9, HE⟩ := Option.bind_eq_some_iff.mp HE
  simp only [Option.some.injEq, Prod.mk.injEq] at HE
  obtain ⟨rfl, rfl, rfl, rfl⟩ := HE
  have H9 := Aside0.mk h9
  clear h9
  have HI4 := Aside0.mk (IsS76.drew HI2.out)
  have HB4 := Aside0.mk (below_drew1 HB2.out)
  have HR4 := Aside0.mk (Kd.R_drew HR.out)
  obtain ⟨Ac, cc, hcb, hcg, hcr⟩ := HI4.out
  have HCB := Aside0.mk hcb
  clear hcb hcg hcr HI2 HB2 HR
  have hd0 := (blk_cell HBN.out 0).trans rfl
  have hd1 := (blk_cell HBN.out 1).trans rfl
  go_region_with (go_at_call 50; refine (spec_l1Cur_code1.calls k (w.heap.size + 1) l0 at2 sd2 m s c at9 sd9 w _ HI4.out HB4.out H9.out).mono ?_; rintro e w9 ⟨rfl, hI, hB, hk⟩; have HR9 := Aside0.mk (R_keepT HR4.out HCB.out kE_neC hk); have hblk := (hk.2 w.heap.size (blk_lt HBL.out) hn1 (by simp)).trans HBL.out; have hbln := (hk.2 n1 (blk_lt HBN.out) hn2 (by simp)).trans HBN.out; have hc0 := (blk_cell hblk 0).trans rfl; have hc1 := (blk_cell hblk 1).trans rfl; have hf0 := blk_frozen hblk 0; have hf1 := blk_frozen hblk 1; have he2 := (blk_cell hbln 0).trans rfl; have he3 := (blk_cell hbln 1).trans rfl; have HBK := Aside0.mk hblk; have HB3 := Aside0.mk hB; clear hI hB hk hblk hbln)
  all_goals
   go_wp2
   (try simp only [Exit.inBlock, Exit.then])
   refine bodyPost_ret (results_row_tmp2 rfl _ _ w.heap.size 25 #[.int .i64 m, .int .i64 s] (0, 0) _ rfl (blk_put (blk_put HBK.out 0 _ rfl) 1 _ rfl) Tryz.underlying25 rfl (by kernel_rfl)) rfl ?_
   exact ⟨_, rfl, R_setT (R_setT HR9.out HBK.out kE_neL 0 _) (blk_put HBK.out 0 _ rfl) kE_neL 1 _, below_set' (below_set' HB3.out (Nat.le_refl _)) (Nat.le_refl _)⟩
 case pos =>
  subst hq
  rw [if_pos rfl] at HE
  unfold spec_DrawFitsHints.d at HE
  obtain ⟨⟨o, at3, sd3⟩, h4, HE⟩ := Option.bind_eq_some_iff.mp HE
  (try dsimp only at HE)
  have H4 := Aside0.mk h4
  clear h4
  by_cases ho : o = true
  case neg =>
   replace ho := Bool.eq_false_iff.mpr ho
   subst ho
   rw [if_neg (by decide)] at HE
   go_upto_region 8 with (first | (go_at_call 80; refine (spec_hiAsked.calls k m s Ah ch hs true _ (Kd.R_reads' HR.out).2.2 (Kd.R_reads' HR.out).2.1 H3.out).mono ?_; rintro e w3 ⟨rfl, hb⟩; have HR_ := Aside0.mk (Kd.R_below HR.out hb); have HBL_ := Aside0.mk (blk_below HBL.out hb); have HBN_ := Aside0.mk (blk_below HBN.out hb); have HI2_ := Aside0.mk (IsS76.below HI2.out hb); have HB2_ := Aside0.mk (below_step HB2.out hb); clear HR HBL HBN HI2 HB2 hb; have HR := HR_; have HBL := HBL_; have HBN := HBN_; have HI2 := HI2_; have HB2 := HB2_; clear HR_ HBL_ HBN_ HI2_ HB2_; have he2 := (blk_cell HBN.out 0).trans rfl; have he3 := (blk_cell HBN.out 1).trans rfl; have hf2 := blk_frozen HBN.out 0; have hf3 := blk_frozen HBN.out 1) | (go_at_call 88; refine (spec_l1Cur_one.calls (w.heap.size + 1) l0 at2 sd2 2 false at3 sd3 w _ HI2.out HB2.out H4.out).mono ?_; rintro e w4 ⟨rfl, hI, hB, hk⟩; obtain ⟨Ac, cc, hcb, hcg, hcr⟩ := HI2.out; have HR_ := Aside0.mk (R_keepT HR.out hcb kE_neC hk); have HBL_ := Aside0.mk ((hk.2 w.heap.size (blk_lt HBL.out) hn1 (by simp)).trans HBL.out); have HBN_ := Aside0.mk ((hk.2 n1 (blk_lt HBN.out) hn2 (by simp)).trans HBN.out); clear HR HBL HBN HI2 HB2 hcb hcg hcr; have HR := HR_; have HBL := HBL_; have HBN := HBN_; have HI2 := Aside0.mk hI; have HB2 := Aside0.mk hB; clear HR_ HBL_ HBN_ hI hB hk; have he4 := (blk_cell HBN.out 0).trans rfl; have he5 := (blk_cell HBN.out 1).trans rfl; have hf4 := blk_frozen HBN.out 0; have hf5 := blk_frozen HBN.out 1))
   unfold spec_DrawFitsHints.e at HE
   obtain ⟨⟨c, at9, sd9⟩, h9, HE⟩ := Option.bind_eq_some_iff.mp HE
   simp only [Option.some.injEq, Prod.mk.injEq] at HE
   obtain ⟨rfl, rfl, rfl, rfl⟩ := HE
   have H9 := Aside0.mk h9
   clear h9
   have HI4 := Aside0.mk (IsS76.drew HI2.out)
   have HB4 := Aside0.mk (below_drew1 HB2.out)
   have HR4 := Aside0.mk (Kd.R_drew HR.out)
   obtain ⟨Ac, cc, hcb, hcg, hcr⟩ := HI4.out
   have HCB := Aside0.mk hcb
   clear hcb hcg hcr HI2 HB2 HR
   have hd0 := (blk_cell HBN.out 0).trans rfl
   have hd1 := (blk_cell HBN.out 1).trans rfl
   go_region_with (go_at_call 50; refine (spec_l1Cur_code1.calls k (w.heap.size + 1) l0 at3 sd3 m s c at9 sd9 w _ HI4.out HB4.out H9.out).mono ?_; rintro e w9 ⟨rfl, hI, hB, hk⟩; have HR9 := Aside0.mk (R_keepT HR4.out HCB.out kE_neC hk); have hblk := (hk.2 w.heap.size (blk_lt HBL.out) hn1 (by simp)).trans HBL.out; have hbln := (hk.2 n1 (blk_lt HBN.out) hn2 (by simp)).trans HBN.out; have hc0 := (blk_cell hblk 0).trans rfl; have hc1 := (blk_cell hblk 1).trans rfl; have hf0 := blk_frozen hblk 0; have hf1 := blk_frozen hblk 1; have he2 := (blk_cell hbln 0).trans rfl; have he3 := (blk_cell hbln 1).trans rfl; have HBK := Aside0.mk hblk; have HB3 := Aside0.mk hB; clear hI hB hk hblk hbln)
   all_goals
    go_wp2
    (try simp only [Exit.inBlock, Exit.then])
    refine bodyPost_ret (results_row_tmp2 rfl _ _ w.heap.size 25 #[.int .i64 m, .int .i64 s] (0, 0) _ rfl (blk_put (blk_put HBK.out 0 _ rfl) 1 _ rfl) Tryz.underlying25 rfl (by kernel_rfl)) rfl ?_
    exact ⟨_, rfl, R_setT (R_setT HR9.out HBK.out kE_neL 0 _) (blk_put HBK.out 0 _ rfl) kE_neL 1 _, below_set' (below_set' HB3.out (Nat.le_refl _)) (Nat.le_refl _)⟩
  case pos =>
   subst ho
   rw [if_pos rfl] at HE
   unfold spec_DrawFitsHints.g at HE
   obtain ⟨al, h5, HE⟩ := Option.bind_eq_some_iff.mp HE
   obtain ⟨fs, h6, HE⟩ := Option.bind_eq_some_iff.mp HE
   have H5 := Aside0.mk h5
   have H6 := Aside0.mk h6
   clear h5 h6
   by_cases hz : 0 < (fs.length : Int)
   case neg =>
    rw [if_neg hz] at HE
    have hz0 : decide (0 < (fs.length : Int)) = false := decide_eq_false hz
    have hz1 : decide (0 < fs.length) = false := decide_eq_false (by omega)
    clear hz
    go_upto_region 8 with (first | (go_at_call 80; refine (spec_hiAsked.calls k m s Ah ch hs true _ (Kd.R_reads' HR.out).2.2 (Kd.R_reads' HR.out).2.1 H3.out).mono ?_; rintro e w3 ⟨rfl, hb⟩; have HR_ := Aside0.mk (Kd.R_below HR.out hb); have HBL_ := Aside0.mk (blk_below HBL.out hb); have HBN_ := Aside0.mk (blk_below HBN.out hb); have HI2_ := Aside0.mk (IsS76.below HI2.out hb); have HB2_ := Aside0.mk (below_step HB2.out hb); clear HR HBL HBN HI2 HB2 hb; have HR := HR_; have HBL := HBL_; have HBN := HBN_; have HI2 := HI2_; have HB2 := HB2_; clear HR_ HBL_ HBN_ HI2_ HB2_; have he2 := (blk_cell HBN.out 0).trans rfl; have he3 := (blk_cell HBN.out 1).trans rfl; have hf2 := blk_frozen HBN.out 0; have hf3 := blk_frozen HBN.out 1) | (go_at_call 88; refine (spec_l1Cur_one.calls (w.heap.size + 1) l0 at2 sd2 2 true at3 sd3 w _ HI2.out HB2.out H4.out).mono ?_; rintro e w4 ⟨rfl, hI, hB, hk⟩; obtain ⟨Ac, cc, hcb, hcg, hcr⟩ := HI2.out; have HR_ := Aside0.mk (R_keepT HR.out hcb kE_neC hk); have HBL_ := Aside0.mk ((hk.2 w.heap.size (blk_lt HBL.out) hn1 (by simp)).trans HBL.out); have HBN_ := Aside0.mk ((hk.2 n1 (blk_lt HBN.out) hn2 (by simp)).trans HBN.out); clear HR HBL HBN HI2 HB2 hcb hcg hcr; have HR := HR_; have HBL := HBL_; have HBN := HBN_; have HI2 := Aside0.mk hI; have HB2 := Aside0.mk hB; clear HR_ HBL_ HBN_ hI hB hk; have he4 := (blk_cell HBN.out 0).trans rfl; have he5 := (blk_cell HBN.out 1).trans rfl; have hf4 := blk_frozen HBN.out 0; have hf5 := blk_frozen HBN.out 1) | (go_at_call 66; refine (spec_hiAll.calls k m s al _ H5.out).mono ?_; rintro e w5 ⟨va, rfl, hra, hb⟩; obtain ⟨Aa, ca, rfl⟩ := Kd.R_slice hra; have HA := Aside0.mk hra; clear hra; have HR_ := Aside0.mk (Kd.R_below HR.out hb); have HBL_ := Aside0.mk (blk_below HBL.out hb); have HBN_ := Aside0.mk (blk_below HBN.out hb); have HI2_ := Aside0.mk (IsS76.below HI2.out hb); have HB2_ := Aside0.mk (below_step HB2.out hb); clear HR HBL HBN HI2 HB2 hb; have HR := HR_; have HBL := HBL_; have HBN := HBN_; have HI2 := HI2_; have HB2 := HB2_; clear HR_ HBL_ HBN_ HI2_ HB2_) | (go_at_call 73; refine (spec_hiFitting.calls k Aa ca al Ah ch hs fs _ (Kd.R_reads' HA.out).2.2 (Kd.R_reads' HA.out).2.1 (Kd.R_reads' HR.out).2.2 (Kd.R_reads' HR.out).2.1 H6.out).mono ?_; rintro e w6 ⟨vf, rfl, hrf, hb⟩; obtain ⟨Af, cf, rfl⟩ := Kd.R_slice hrf; have HF := Aside0.mk (Kd.R_lower (base' := w.heap.size) hrf HB2.out.size); clear hrf HA; have HR_ := Aside0.mk (Kd.R_below HR.out hb); have HBL_ := Aside0.mk (blk_below HBL.out hb); have HBN_ := Aside0.mk (blk_below HBN.out hb); have HI2_ := Aside0.mk (IsS76.below HI2.out hb); have HB2_ := Aside0.mk (below_step HB2.out hb); clear HR HBL HBN HI2 HB2 hb; have HR := HR_; have HBL := HBL_; have HBN := HBN_; have HI2 := HI2_; have HB2 := HB2_; clear HR_ HBL_ HBN_ HI2_ HB2_))
    unfold spec_DrawFitsHints.e at HE
    obtain ⟨⟨c, at9, sd9⟩, h9, HE⟩ := Option.bind_eq_some_iff.mp HE
    simp only [Option.some.injEq, Prod.mk.injEq] at HE
    obtain ⟨rfl, rfl, rfl, rfl⟩ := HE
    have H9 := Aside0.mk h9
    clear h9
    have HI4 := Aside0.mk (IsS76.drew HI2.out)
    have HB4 := Aside0.mk (below_drew1 HB2.out)
    have HR4 := Aside0.mk (Kd.R_drew HR.out)
    obtain ⟨Ac, cc, hcb, hcg, hcr⟩ := HI4.out
    have HCB := Aside0.mk hcb
    clear hcb hcg hcr HI2 HB2 HR
    have hd0 := (blk_cell HBN.out 0).trans rfl
    have hd1 := (blk_cell HBN.out 1).trans rfl
    go_region_with (go_at_call 50; refine (spec_l1Cur_code1.calls k (w.heap.size + 1) l0 at3 sd3 m s c at9 sd9 w _ HI4.out HB4.out H9.out).mono ?_; rintro e w9 ⟨rfl, hI, hB, hk⟩; have HR9 := Aside0.mk (R_keepT HR4.out HCB.out kE_neC hk); have hblk := (hk.2 w.heap.size (blk_lt HBL.out) hn1 (by simp)).trans HBL.out; have hbln := (hk.2 n1 (blk_lt HBN.out) hn2 (by simp)).trans HBN.out; have hc0 := (blk_cell hblk 0).trans rfl; have hc1 := (blk_cell hblk 1).trans rfl; have hf0 := blk_frozen hblk 0; have hf1 := blk_frozen hblk 1; have he2 := (blk_cell hbln 0).trans rfl; have he3 := (blk_cell hbln 1).trans rfl; have HBK := Aside0.mk hblk; have HB3 := Aside0.mk hB; clear hI hB hk hblk hbln)
    all_goals
     go_wp2
     (try simp only [Exit.inBlock, Exit.then])
     refine bodyPost_ret (results_row_tmp2 rfl _ _ w.heap.size 25 #[.int .i64 m, .int .i64 s] (0, 0) _ rfl (blk_put (blk_put HBK.out 0 _ rfl) 1 _ rfl) Tryz.underlying25 rfl (by kernel_rfl)) rfl ?_
     exact ⟨_, rfl, R_setT (R_setT HR9.out HBK.out kE_neL 0 _) (blk_put HBK.out 0 _ rfl) kE_neL 1 _, below_set' (below_set' HB3.out (Nat.le_refl _)) (Nat.le_refl _)⟩
   case pos =>
    rw [if_pos hz] at HE
    have hz0 : decide (0 < (fs.length : Int)) = true := decide_eq_true hz
    have hz1 : decide (0 < fs.length) = true := decide_eq_true (by omega)
    obtain ⟨⟨p, at5, sd5⟩, h7, HE⟩ := Option.bind_eq_some_iff.mp HE
    (try dsimp only at HE)
    by_cases hp : 0 ≤ p ∧ p < (fs.length : Int)
    case neg => rw [if_neg hp] at HE; exact absurd HE (by simp)
    rw [if_pos hp] at HE
    simp only [Option.some.injEq, Prod.mk.injEq] at HE
    obtain ⟨rfl, rfl, rfl, rfl⟩ := HE
    have H7 := Aside0.mk h7
    have HP := Aside0.mk hp
    clear h7 hz hp
    go_upto_region 7 with (first | (go_at_call 80; refine (spec_hiAsked.calls k m s Ah ch hs true _ (Kd.R_reads' HR.out).2.2 (Kd.R_reads' HR.out).2.1 H3.out).mono ?_; rintro e w3 ⟨rfl, hb⟩; have HR_ := Aside0.mk (Kd.R_below HR.out hb); have HBL_ := Aside0.mk (blk_below HBL.out hb); have HBN_ := Aside0.mk (blk_below HBN.out hb); have HI2_ := Aside0.mk (IsS76.below HI2.out hb); have HB2_ := Aside0.mk (below_step HB2.out hb); clear HR HBL HBN HI2 HB2 hb; have HR := HR_; have HBL := HBL_; have HBN := HBN_; have HI2 := HI2_; have HB2 := HB2_; clear HR_ HBL_ HBN_ HI2_ HB2_; have he2 := (blk_cell HBN.out 0).trans rfl; have he3 := (blk_cell HBN.out 1).trans rfl; have hf2 := blk_frozen HBN.out 0; have hf3 := blk_frozen HBN.out 1) | (go_at_call 88; refine (spec_l1Cur_one.calls (w.heap.size + 1) l0 at2 sd2 2 true at3 sd3 w _ HI2.out HB2.out H4.out).mono ?_; rintro e w4 ⟨rfl, hI, hB, hk⟩; obtain ⟨Ac, cc, hcb, hcg, hcr⟩ := HI2.out; have HR_ := Aside0.mk (R_keepT HR.out hcb kE_neC hk); have HBL_ := Aside0.mk ((hk.2 w.heap.size (blk_lt HBL.out) hn1 (by simp)).trans HBL.out); have HBN_ := Aside0.mk ((hk.2 n1 (blk_lt HBN.out) hn2 (by simp)).trans HBN.out); clear HR HBL HBN HI2 HB2 hcb hcg hcr; have HR := HR_; have HBL := HBL_; have HBN := HBN_; have HI2 := Aside0.mk hI; have HB2 := Aside0.mk hB; clear HR_ HBL_ HBN_ hI hB hk; have he4 := (blk_cell HBN.out 0).trans rfl; have he5 := (blk_cell HBN.out 1).trans rfl; have hf4 := blk_frozen HBN.out 0; have hf5 := blk_frozen HBN.out 1) | (go_at_call 66; refine (spec_hiAll.calls k m s al _ H5.out).mono ?_; rintro e w5 ⟨va, rfl, hra, hb⟩; obtain ⟨Aa, ca, rfl⟩ := Kd.R_slice hra; have HA := Aside0.mk hra; clear hra; have HR_ := Aside0.mk (Kd.R_below HR.out hb); have HBL_ := Aside0.mk (blk_below HBL.out hb); have HBN_ := Aside0.mk (blk_below HBN.out hb); have HI2_ := Aside0.mk (IsS76.below HI2.out hb); have HB2_ := Aside0.mk (below_step HB2.out hb); clear HR HBL HBN HI2 HB2 hb; have HR := HR_; have HBL := HBL_; have HBN := HBN_; have HI2 := HI2_; have HB2 := HB2_; clear HR_ HBL_ HBN_ HI2_ HB2_) | (go_at_call 73; refine (spec_hiFitting.calls k Aa ca al Ah ch hs fs _ (Kd.R_reads' HA.out).2.2 (Kd.R_reads' HA.out).2.1 (Kd.R_reads' HR.out).2.2 (Kd.R_reads' HR.out).2.1 H6.out).mono ?_; rintro e w6 ⟨vf, rfl, hrf, hb⟩; obtain ⟨Af, cf, rfl⟩ := Kd.R_slice hrf; have HF := Aside0.mk (Kd.R_lower (base' := w.heap.size) hrf HB2.out.size); clear hrf HA; have HR_ := Aside0.mk (Kd.R_below HR.out hb); have HBL_ := Aside0.mk (blk_below HBL.out hb); have HBN_ := Aside0.mk (blk_below HBN.out hb); have HI2_ := Aside0.mk (IsS76.below HI2.out hb); have HB2_ := Aside0.mk (below_step HB2.out hb); clear HR HBL HBN HI2 HB2 hb; have HR := HR_; have HBL := HBL_; have HBN := HBN_; have HI2 := HI2_; have HB2 := HB2_; clear HR_ HBL_ HBN_ HI2_ HB2_))
    have HI4 := Aside0.mk (IsS76.drew HI2.out)
    have HB4 := Aside0.mk (below_drew1 HB2.out)
    have HR4 := Aside0.mk (Kd.R_drew HR.out)
    have HF4 := Aside0.mk (Kd.R_drew HF.out)
    obtain ⟨Ac, cc, hcb, hcg, hcr⟩ := HI4.out
    have HCB := Aside0.mk hcb
    clear hcb hcg hcr HI2 HB2 HR HF
    have hd0 := (blk_cell HBN.out 0).trans rfl
    have hd1 := (blk_cell HBN.out 1).trans rfl
    have hp0 := HP.out.1
    have hp1 := HP.out.2
    clear HP
    have hp2 := eq_true hp0
    have hp3 := eq_true hp1
    have hp4 : decide (0 ≤ p) = true := decide_eq_true hp0
    have hp5 : decide (p < (fs.length : Int)) = true := decide_eq_true hp1
    go_region_with (go_at_call 68; refine (spec_l1Cur_pick.calls (w.heap.size + 1) l0 at3 sd3 (fs.length : Int) p at5 sd5 w _ HI4.out HB4.out H7.out).mono ?_; rintro e w9 ⟨rfl, hI, hB, hk⟩; have HR9 := Aside0.mk (R_keepT HR4.out HCB.out kE_neC hk); have hf9 := R_keepT HF4.out HCB.out kS_neC hk; obtain ⟨ad, ead, hx⟩ := Kd.at_string (Kd.R_reads' hf9).2.2 p hp0 hp1; cases ead; have hblk := (hk.2 w.heap.size (blk_lt HBL.out) hn1 (by simp)).trans HBL.out; obtain ⟨ad', ead', hx'⟩ := Kd.at_string (Kd.R_reads' (R_setT (R_setT hf9 hblk kS_neL 0 (.int .i64 m)) (blk_put hblk 0 _ rfl) kS_neL 1 (.int .i64 s))).2.2 p hp0 hp1; cases ead'; clear hp0 hp1; have hbln := (hk.2 n1 (blk_lt HBN.out) hn2 (by simp)).trans HBN.out; have hc0 := (blk_cell hblk 0).trans rfl; have hc1 := (blk_cell hblk 1).trans rfl; have hf0 := blk_frozen hblk 0; have hf1 := blk_frozen hblk 1; have he2 := (blk_cell hbln 0).trans rfl; have he3 := (blk_cell hbln 1).trans rfl; have HBK := Aside0.mk hblk; have HB3 := Aside0.mk hB; clear hI hB hk hblk hbln hf9)
    all_goals
     go_wp2
     (try simp only [Exit.inBlock, Exit.then])
     refine bodyPost_ret (results_row_tmp2 rfl _ _ w.heap.size 25 #[.int .i64 m, .int .i64 s] (0, 0) _ rfl (blk_put (blk_put HBK.out 0 _ rfl) 1 _ rfl) Tryz.underlying25 rfl (by kernel_rfl)) rfl ?_
     exact ⟨_, rfl, R_setT (R_setT HR9.out HBK.out kE_neL 0 _) (blk_put HBK.out 0 _ rfl) kE_neL 1 _, below_set' (below_set' HB3.out (Nat.le_refl _)) (Nat.le_refl _)⟩

/-! ### spec_DrawHintTable: function 32 -/
def spec_DrawHintTable.f (k : Nat) (l0 : List Int) : Option (Int × Int × List S35 × ByteArray) := spec_DrawFitsHints.f k l0
theorem spec_DrawHintTable.mono : ∀ l0 k, LeO (spec_DrawHintTable.f k l0) (spec_DrawHintTable.f (k + 1) l0) := fun l0 k => spec_DrawFitsHints.mono l0 k
set_option maxHeartbeats 4000000 in
set_option maxRecDepth 100000 in
theorem spec_DrawHintTable.calls (k : Nat) (A0 : Option Addr) (c0 : Nat) (l0 : List Int) (r1 r2 : Int) (r3 : List S35) (r4 : ByteArray) (w : World) (hr0 : Kd.C (Kd.int .u8) w A0 l0.length l0) (hc0 : l0.length ≤ c0) (h : spec_DrawHintTable.f k l0 = some (r1, r2, r3, r4)) :
  Calls Tryz.prog 32 #[.slice A0 l0.length c0] w fun e w' => ∃ v2_ : Value, e = .returned (.tuple #[.agg #[.int .i64 r1, .int .i64 r2], v2_, .string r4]) ∧ Kd.R k35 35 w' w.heap.size (fun _ => True) v2_ r3 ∧ Below w.heap.size w w' := by
 have hul := Tryz.underlying25
 have HR0 := Aside0.mk hr0
 have HC0 := Aside0.mk hc0
 have H := Aside0.mk h
 clear hr0 hc0 h
 go_enter Tryz.func32, Tryz.ntmps32
 go_wp2_with (go_at_call 78; refine (spec_DrawFitsHints.calls k A0 c0 l0 r1 r2 r3 r4 _ (Kd.C_alloc HR0.out _) HC0.out H.out).mono ?_; rintro e w1 ⟨v2, rfl, hR, hB⟩; have hblk := blk_below (blk_new w (.cells #[.int .i64 0, .int .i64 0] 25)) hB; have hc0 := (blk_cell hblk 0).trans rfl; have hc1 := (blk_cell hblk 1).trans rfl; have hf0 := blk_frozen hblk 0; have hf1 := blk_frozen hblk 1; have HBK := Aside0.mk hblk; have HB3 := Aside0.mk (below_step (below_alloc (Below.refl _ _) _) hB); have HR9 := Aside0.mk (Kd.R_lower (base' := w.heap.size) hR (by simp)); clear hB hR hblk)
 (try simp only [Exit.inBlock, Exit.then])
 refine bodyPost_ret (results_row_tmp2 rfl _ _ w.heap.size 25 #[.int .i64 r1, .int .i64 r2] (0, 0) _ rfl (blk_put (blk_put HBK.out 0 _ rfl) 1 _ rfl) Tryz.underlying25 rfl (by kernel_rfl)) rfl ?_
 exact ⟨_, rfl, R_setT (R_setT HR9.out HBK.out kE_neL 0 _) (blk_put HBK.out 0 _ rfl) kE_neL 1 _, below_set' (below_set' HB3.out (Nat.le_refl _)) (Nat.le_refl _)⟩

end Go.Proofs.YtcpnmiempaofdaaGreat.G
