-- Printed by hp.py, a program of this session: a machine's side of laws, out of the translation; Lean checks it.
import Derived.Test.YthpmpkmdjpaemaaGreatPx0
import Derived.Test.YthpmpkmdjpaemaaGreatPx2
import Derived.Test.YthpmpkmdjpaemaaGreatPx7
namespace Go.Proofs.YthpmpkmdjpaemaaGreat.P
open Go.RowKit Go.Proofs.YthpmpkmdjpaemaaGreatW.PrintWords Go.Proofs.YthpmpkmdjpaemaaGreatW.PrintLast Go.Proofs.YthpmpkmdjpaemaaGreatW.PrintMore
attribute [local go_sem] max2_int min2_int max_two min_two max_three min_three max_four min_four   -- for this text's walks alone
set_option linter.unusedVariables false
set_option linter.unusedSimpArgs false

/-! ### spec_orGood: function 35 -/
def spec_orGood.l0 : Nat → List ByteArray → List Bool → List ByteArray → Int → Int → Int → Int → Option (Bool)
 | 0, _, _, _, _, _, _, _ => none
 | k + 1, x1, x5, x14, x15, x16, x282000, x282001 => if x16 < x15 then (if 0 ≤ x16 then (if x16 < (x14.length : Int) then ((spec_whCode.f k x282000 x282001 (rdOf ByteArray.empty x14 x16)).bind fun t287 => (if t287 = true then ((spec_whNumber.f k x282000 x282001 (rdOf ByteArray.empty x14 x16)).bind fun t288 => (if 0 ≤ t288 then (if t288 < (x5.length : Int) then (if rdOf false x5 t288 = true then (some false) else (if x16 > 0 then (if 0 ≤ (wrap64 (x16 - 1)) then (if (wrap64 (x16 - 1)) < (x1.length : Int) then ((spec_whDistance.f k x282000 x282001 (rdOf ByteArray.empty x1 (wrap64 (x16 - 1))) (rdOf ByteArray.empty x14 x16)).bind fun t291 => (if t291 = 1 then ((spec_whNumber.f k x282000 x282001 (rdOf ByteArray.empty x14 x16)).bind fun t292 => (if 0 ≤ t292 then (if t292 < (x5.length : Int) then (spec_orGood.l0 k x1 (x5.set (t292 : Int).toNat true) x14 x15 (wrap64 (x16 + 1)) x282000 x282001) else (none)) else (none))) else (some false))) else (none)) else (none)) else ((spec_whNumber.f k x282000 x282001 (rdOf ByteArray.empty x14 x16)).bind fun t294 => (if 0 ≤ t294 then (if t294 < (x5.length : Int) then (spec_orGood.l0 k x1 (x5.set (t294 : Int).toNat true) x14 x15 (wrap64 (x16 + 1)) x282000 x282001) else (none)) else (none))))) else (none)) else (none))) else (some false))) else (none)) else (none)) else (some true)
def spec_orGood.f (k : Nat) (a0_0 : Int) (a0_1 : Int) (l1 : List ByteArray) : Option (Bool) := if (l1.length : Int) > 1000 then (some false) else ((spec_whCount.f k a0_0 a0_1).bind fun t282 => (if 0 ≤ t282 then (if (t282 : Int).toNat ≤ 281474976710656 then (spec_orGood.l0 k l1 (List.replicate (t282 : Int).toNat false) l1 (l1.length : Int) 0 a0_0 a0_1) else (none)) else (none)))
theorem spec_orGood.mono_l : ∀ k, (∀ y0 y1 y2 y3 y4 y5 y6, LeO (spec_orGood.l0 k y0 y1 y2 y3 y4 y5 y6) (spec_orGood.l0 (k + 1) y0 y1 y2 y3 y4 y5 y6))
 | 0 => fun _ _ _ _ _ _ _ r h => by simp [spec_orGood.l0] at h
 | k + 1 => by
  have ih0 := spec_orGood.mono_l k
  ·intro y0 y1 y2 y3 y4 y5 y6
   unfold spec_orGood.l0
   repeat' first
   | (with_reducible first | exact ih0 _ _ _ _ _ _ _ | exact spec_whCode.mono _ _ _ _ | exact spec_whCount.mono _ _ _ | exact spec_whDistance.mono _ _ _ _ _ | exact spec_whNumber.mono _ _ _ _ | exact LeO.refl _ | exact LeO.none _ | refine LeO.ite ?_ ?_ | refine LeO.bind ?_ (fun _ => ?_))
   | exact ih0 _ _ _ _ _ _ _
   | exact spec_whCode.mono _ _ _ _
   | exact spec_whCount.mono _ _ _
   | exact spec_whDistance.mono _ _ _ _ _
   | exact spec_whNumber.mono _ _ _ _
   | exact LeO.none _
   | refine LeO.ite ?_ ?_
   | refine LeO.bind ?_ (fun _ => ?_)
theorem spec_orGood.mono : ∀ a0 a1 a2 k, LeO (spec_orGood.f k a0 a1 a2) (spec_orGood.f (k + 1) a0 a1 a2) := by
 intro a0 a1 a2 k
 have ih0 := spec_orGood.mono_l k
 unfold spec_orGood.f
 repeat' first
   | (with_reducible first | exact ih0 _ _ _ _ _ _ _ | exact spec_whCode.mono _ _ _ _ | exact spec_whCount.mono _ _ _ | exact spec_whDistance.mono _ _ _ _ _ | exact spec_whNumber.mono _ _ _ _ | exact LeO.refl _ | exact LeO.none _ | refine LeO.ite ?_ ?_ | refine LeO.bind ?_ (fun _ => ?_))
   | exact ih0 _ _ _ _ _ _ _
   | exact spec_whCode.mono _ _ _ _
   | exact spec_whCount.mono _ _ _
   | exact spec_whDistance.mono _ _ _ _ _
   | exact spec_whNumber.mono _ _ _ _
   | exact LeO.none _
   | refine LeO.ite ?_ ?_
   | refine LeO.bind ?_ (fun _ => ?_)
def spec_orGood.T7 : Bool × List (List Nat × List Nat) := (true, [([], []), ([], []), ([0, 1], [0, 1]), ([2], [2]), ([3, 2], [3]), ([4], [4]), ([4], [4]), ([4], [4]), ([6, 7, 4, 4], [4, 6, 7]), ([5, 8, 4], [4, 5, 8]), ([9, 4], [4, 9]), ([4, 10], [4, 10]), ([11, 8], [11]), ([12], [12]), ([13, 12], [12, 13]), ([14, 12, 12], [12, 14]), ([15], [15]), ([15], [15]), ([15], [15]), ([18, 15], [15, 18]), ([17, 19, 15], [15, 17, 19]), ([20, 15], [15, 20]), ([15], [15]), ([16, 21, 22, 15, 15], [15, 16, 21, 22]), ([23, 15], [15, 23]), ([15, 24, 12], [12, 15, 24]), ([12, 25], [12, 25])])
def spec_orGood.B7 : List Nat := [0, 0, 3, 7, 15, 31, 31, 31, 223, 511, 1023, 2047, 4095, 8191, 16383, 32767, 65535, 65535, 65535, 327679, 983039, 2031615, 65535, 8388607, 16777215, 33554431, 67108863]
theorem spec_orGood.tab7 : rtab .any (opsOf Tryz.f35 7) = spec_orGood.T7 := by kernel_rfl
theorem spec_orGood.bits7 : waitsOk spec_orGood.T7.2 spec_orGood.B7 = true := by kernel_rfl
set_option maxHeartbeats 8000000 in
set_option maxRecDepth 100000 in
theorem spec_orGood.calls (k : Nat) (a0_0 : Int) (a0_1 : Int) (A1 : Option Addr) (c1 : Nat) (l1 : List ByteArray) (r : Bool) (w : World) (hr1 : Kd.C Kd.string w A1 l1.length l1) (hc1 : l1.length ≤ c1) (h : spec_orGood.f k a0_0 a0_1 l1 = some r) :
  Calls Tryz.prog 35 #[.agg #[.int .i64 a0_0, .int .i64 a0_1], .slice A1 l1.length c1] w fun e w' => e = .returned (.bool r) ∧ Below w.heap.size w w' := by
 have hu25 := Tryz.underlying25
 have HR1 := Aside0.mk hr1
 have HC1 := Aside0.mk hc1
 clear hr1 hc1
 have HB := Aside0.mk (Below.refl w.heap.size w)
 have H := h
 unfold spec_orGood.f at H
 clear h
 by_cases c3 : (l1.length : Int) > 1000
 ·rw [if_pos c3] at H
  have c3b0 : decide (1000 < (l1.length : Int)) = true := decide_eq_true c3
  have c3b1 : decide (1000 < l1.length) = true := decide_eq_true (by omega)
  clear c3
  obtain rfl := Option.some.inj H
  go_enter Tryz.func35, Tryz.ntmps35
  go_wp2_with (first | ((with_reducible refine gate_dst (N := 2) rfl ?_); refine box_event ?hg (N := 2) ?hd (cs := #[.int .i64 a0_0, .int .i64 a0_1]) (t := 25) ?hr ?_; (case hd => rfl); (case hg => rfl); (case hr => first | (go_simp; done) | (go_simp; rfl)); intro gb281 hg w4 hbox hb; have BK281 := Aside0.mk (hbox); have GW281 : Aside0 (w.heap.size ≤ gb281) := gW hg; have GE281 := GW281; replace HB := Aside0.mk (below_step bB hb); clear hb hbox hg))
  go_ret
  exact ⟨rE, bG⟩
 ·rw [if_neg c3] at H
  have c3b0 : decide (1000 < (l1.length : Int)) = false := decide_eq_false c3
  have c3b1 : decide (1000 < l1.length) = false := decide_eq_false (by omega)
  clear c3
  replace H := Option.bind_eq_some_iff.mp H
  obtain ⟨t282, A50, H⟩ := H
  (try dsimp only at H)
  have A5 := Aside0.mk A50
  clear A50
  replace H := nz H; obtain ⟨c6, H⟩ := H
  have c6b0 := eq_true c6
  have c6b1 : decide (0 ≤ t282) = true := decide_eq_true c6
  clear c6
  replace H := nz H; obtain ⟨c7, H⟩ := H
  have c7b0 := eq_true c7
  have c7b1 : decide ((t282 : Int).toNat ≤ 281474976710656) = true := decide_eq_true c7
  clear c7
  obtain ⟨y283, hy283⟩ : ∃ y_ : List Bool, y_ = (List.replicate (t282 : Int).toNat false) := ⟨_, rfl⟩
  replace H : (spec_orGood.l0 k l1 y283 l1 (l1.length : Int) 0 a0_0 a0_1) = some r := hZ hy283 H
  have Ny283 := Aside0.mk hy283
  clear hy283
  have H' := Aside0.mk H
  clear H
  go_enter Tryz.func35, Tryz.ntmps35
  go_wp2_with (first | ((with_reducible refine gate_dst (N := 2) rfl ?_); refine box_event ?hg (N := 2) ?hd (cs := #[.int .i64 a0_0, .int .i64 a0_1]) (t := 25) ?hr ?_; (case hd => rfl); (case hg => rfl); (case hr => first | (go_simp; done) | (go_simp; rfl)); intro gb281 hg w8 hbox hb; have BK281 := Aside0.mk (hbox); have GW281 : Aside0 (w.heap.size ≤ gb281) := gW hg; have GE281 := GW281; replace HB := Aside0.mk (below_step bB hb); clear hb hbox hg; have hcz9_0 := cZ BK281 0 (.int .i64 a0_0); have hcz9_1 := cZ BK281 1 (.int .i64 a0_1); have hfz9_0 := blk_frozen BK281.out 0; have hfz9_1 := blk_frozen BK281.out 1) | ((with_reducible refine gate_callee (f := 28) rfl ?_); refine goesL_ (some 12) rfl rfl Tryz.func28 (by kernel_rfl) rfl #[.agg #[.int .i64 a0_0, .int .i64 a0_1]] rfl lM ?_; (with_reducible refine (spec_whCount.calls k a0_0 a0_1 t282 _ A5.out).mono ?_); rintro e w10 ⟨rfl, hb⟩; refine ⟨_, rfl, ?_⟩; replace BK281 := bW BK281 hb; replace HB := Aside0.mk (below_step bG hb); (try clear hb)) | ((with_reducible refine gate_dst (N := 13) rfl ?_); refine Kd.R_make Kd.bool _ 4 rfl (N := 13) rfl 84 _ _ rfl t282 rfl rfl Tryz.underlying84 (.bool false) 1 info4 rfl (by decide) (by omega) false (ok := fun _ => True) (okp := fun _ => True) rfl (fun _ hk => hk) trivial (oD) (Nat.le_trans (Nat.mul_le_mul_right _ (oD : t282.toNat ≤ 281474976710656)) (by omega)) (Below.refl _ _) (Nat.le_refl _) ?_; intro v284 w11 ho12 hb hg_ hnew_; clear hg_ hnew_; (first | rw [← Ny283.out] at ho12 | (simp only [Int.reduceToNat] at ho12; rw [← Ny283.out] at ho12)); have HO285 := Aside0.mk (Kd.R_lower ho12 (below_size bG)); replace BK281 := bW BK281 hb; replace HB := Aside0.mk (below_step bG hb); clear hb ho12))
  go_loopg [16] k (fun kq v16 w' => ∃ (x5_1 : List Bool) (x16_1 : Int), v16 = .int .i64 x16_1 ∧ Aside0 (spec_orGood.l0 kq l1 x5_1 l1 (l1.length : Int) x16_1 a0_0 a0_1 = some r) ∧ Aside0 (kq ≤ k) ∧ Aside0 (Kd.R Kd.bool 4 w' w.heap.size (fun _ => True) v284 x5_1) ∧ Aside0 (w'.heap[gb281]? = some (.cells #[.int .i64 a0_0, .int .i64 a0_1] 25 (0, 0))) ∧ Aside0 (Below w.heap.size w w'))
  case atStart => exact ⟨(y283), (0), fR, H', ⟨Nat.le_refl _⟩, ⟨kR HO285⟩, ⟨bK⟩, ⟨bG⟩⟩
  case round =>
   clear H'
   try clear c1
   try clear c2
   try clear p2
   try clear c3
   try clear c3b0
   try clear c3b1
   try clear c6
   try clear c6b0
   try clear c6b1
   try clear c7
   try clear c7b0
   try clear c7b1
   try clear hcz9_0
   try clear hcz9_1
   try clear hfz9_0
   try clear hfz9_1
   obtain ⟨x5_1, x16_1, rfl, HA, HK1, HO_5, BK281, HB⟩ := hrel
   cases gk with
   | zero => exact absurd HA.out (by simp [spec_orGood.l0])
   | succ k1 =>
    have H := HA.out
    clear HA
    simp only [spec_orGood.l0] at H
    by_cases c13 : x16_1 < (l1.length : Int)
    ·rw [if_pos c13] at H
     have c13b0 : decide (x16_1 < (l1.length : Int)) = true := decide_eq_true c13
     clear c13
     replace H := nz H; obtain ⟨c14, H⟩ := H
     have c14b0 : decide (0 ≤ x16_1) = true := decide_eq_true c14
     clear c14
     replace H := nz H; obtain ⟨c15, H⟩ := H
     have c15b0 : decide (x16_1 < (l1.length : Int)) = true := decide_eq_true c15
     clear c15
     replace H := Option.bind_eq_some_iff.mp H
     obtain ⟨t287, A160, H⟩ := H
     (try dsimp only at H)
     have A16 := Aside0.mk A160
     clear A160
     by_cases c17 : t287 = true
     ·subst c17
      replace H := zt H
      replace H := Option.bind_eq_some_iff.mp H
      obtain ⟨t288, A180, H⟩ := H
      (try dsimp only at H)
      have A18 := Aside0.mk A180
      clear A180
      replace H := nz H; obtain ⟨c19, H⟩ := H
      have c19b0 : decide (0 ≤ t288) = true := decide_eq_true c19
      clear c19
      replace H := nz H; obtain ⟨c20, H⟩ := H
      have c20b0 : decide (t288 < (x5_1.length : Int)) = true := decide_eq_true c20
      clear c20
      obtain ⟨bq21, hbq21⟩ : ∃ b_ : Bool, b_ = (rdOf false x5_1 t288) := ⟨_, rfl⟩
      replace H : (if bq21 = true then (some false) else (if x16_1 > 0 then (if 0 ≤ (wrap64 (x16_1 - 1)) then (if (wrap64 (x16_1 - 1)) < (l1.length : Int) then ((spec_whDistance.f k1 a0_0 a0_1 (rdOf ByteArray.empty l1 (wrap64 (x16_1 - 1))) (rdOf ByteArray.empty l1 x16_1)).bind fun t291 => (if t291 = 1 then ((spec_whNumber.f k1 a0_0 a0_1 (rdOf ByteArray.empty l1 x16_1)).bind fun t292 => (if 0 ≤ t292 then (if t292 < (x5_1.length : Int) then (spec_orGood.l0 k1 l1 (x5_1.set (t292 : Int).toNat true) l1 (l1.length : Int) (wrap64 (x16_1 + 1)) a0_0 a0_1) else (none)) else (none))) else (some false))) else (none)) else (none)) else ((spec_whNumber.f k1 a0_0 a0_1 (rdOf ByteArray.empty l1 x16_1)).bind fun t294 => (if 0 ≤ t294 then (if t294 < (x5_1.length : Int) then (spec_orGood.l0 k1 l1 (x5_1.set (t294 : Int).toNat true) l1 (l1.length : Int) (wrap64 (x16_1 + 1)) a0_0 a0_1) else (none)) else (none))))) = some r := by rw [← hbq21] at H; exact H
      have Nbq21 := Aside0.mk hbq21
      clear hbq21
      by_cases c22 : bq21 = true
      ·subst c22
       replace H := zt H
       obtain rfl := Option.some.inj H
       have p286 : 0 ≤ (x16_1 : Int) := oD
       have q286 : x16_1 < (l1.length : Int) := oD
       obtain ⟨ad286, e286, hx286_0⟩ := Kd.at_string HR1.out x16_1 p286 q286
       cases e286
       replace hx286_0 := (HB.out.cell (World.block_lt_of_cell? w _ hx286_0)).trans hx286_0
       replace p286 := eq_true p286
       replace q286 := eq_true q286
       try go_wp2
       have n0_ := Aside0.mk (Kd.R_drew HO_5.out)
       have n1_ := Aside0.mk (blk_drew BK281.out)
       have n2_ := Aside0.mk (below_drew1 HB.out)
       clear HO_5
       clear BK281
       clear HB
       have HO_5 := n0_
       have BK281 := n1_
       have HB := n2_
       clear n0_ n1_ n2_
       have p289 : 0 ≤ (t288 : Int) := oD
       have q289 : t288 < (x5_1.length : Int) := oD
       obtain ⟨Ap289, cp289, ep289⟩ := Kd.R_slice HO_5.out
       (first | subst ep289 | (injection ep289 with f1_ f2_ f3_; have f4_ := f1_.symm; have f5_ := f3_.symm; clear f1_ f2_ f3_; subst f4_; subst f5_))
       obtain ⟨ad289, e289, hx289_0⟩ := Kd.at_bool (Kd.R_reads' HO_5.out).2.2 t288 p289 q289
       (try rw [← Nbq21.out] at hx289_0)
       cases e289
       replace p289 := eq_true p289
       replace q289 := eq_true q289
       refine start_ (n := 27) (S := fun w' => w'.cell? ⟨gb281, 0, none⟩ = some (.int .i64 a0_0) ∧ w'.cell? ⟨gb281, 1, none⟩ = some (.int .i64 a0_1) ∧ w'.cell? (ad289.add (t288).toNat) = some (.bool true)) (ds := []) #[false, false, false, false, false, false, false, false, false, false, false, false, false, false, false, false, false, false, false, false, false, false, false, false, false, false, false] (by kernel_rfl) rfl rfl ⟨(blk_cell BK281.out 0).trans rfl, (blk_cell BK281.out 1).trans rfl, hx289_0⟩ (fun hHeld => ?_); refine with_tabW spec_orGood.tab7 spec_orGood.bits7 (fun HT_ HW_ => ?_)
       generalize wr.drew = w23 at HO_5 BK281 HB hx289_0 hHeld ⊢
       refine pU (i := 1) (N := some 22) ?_
       refine tU3 (i := 0) (N := some 21) ?_
       refine oU (i := 2) (N := some 23) (fun K hK => ?_)
       refine goes_ Tryz.func67 (by kernel_rfl) rfl #[.agg #[.int .i64 a0_0, .int .i64 a0_1], .string (rdOf ByteArray.empty l1 x16_1)] (by rfl) rfl rfl lM ?_
       with_reducible refine (spec_whCode.calls k1 a0_0 a0_1 (rdOf ByteArray.empty l1 x16_1) true _ A16.out).mono ?_
       rintro e w24 ⟨rfl, hb⟩
       have HS2_ := (hb.cell (World.block_lt_of_cell? _ _ (hHeld.2.2))).trans (hHeld.2.2)
       refine ⟨_, rfl, ?_⟩
       have n0_ := Aside0.mk (Kd.R_below (kR HO_5) hb)
       have n1_ := Aside0.mk (blk_below (g := gb281) (o := .cells #[.int .i64 a0_0, .int .i64 a0_1] 25 (0, 0)) bK hb)
       have n2_ := Aside0.mk (below_step bG hb)
       clear HO_5
       clear BK281
       clear HB
       have HO_5 := n0_
       have BK281 := n1_
       have HB := n2_
       clear n0_ n1_ n2_
       (try clear hb)
       (try clear hb2)
       (try clear hk)
       (try clear hi)
       refine hK.out _ _ ⟨(blk_cell BK281.out 0).trans rfl, (blk_cell BK281.out 1).trans rfl, HS2_⟩ (fun hHeld => ?_)
       clear hK K
       refine nU (some 23) ?_
       refine pU (i := 3) (N := some 24) ?_
       refine pU (i := 4) (N := some 25) ?_
       refine pU (i := 5) (N := some 26) ?_
       refine pU (i := 7) (N := some 28) ?_
       refine tU3 (i := 6) (N := some 27) ?_
       refine oU (i := 8) (N := some 29) (fun K hK => ?_)
       refine goes_ Tryz.func68 (by kernel_rfl) rfl #[.agg #[.int .i64 a0_0, .int .i64 a0_1], .string (rdOf ByteArray.empty l1 x16_1)] (by rfl) rfl rfl lM ?_
       with_reducible refine (spec_whNumber.calls k1 a0_0 a0_1 (rdOf ByteArray.empty l1 x16_1) t288 _ A18.out).mono ?_
       rintro e w25 ⟨rfl, hb⟩
       have HS2_ := (hb.cell (World.block_lt_of_cell? _ _ (hHeld.2.2))).trans (hHeld.2.2)
       refine ⟨_, rfl, ?_⟩
       have n0_ := Aside0.mk (Kd.R_below (kR HO_5) hb)
       have n1_ := Aside0.mk (blk_below (g := gb281) (o := .cells #[.int .i64 a0_0, .int .i64 a0_1] 25 (0, 0)) bK hb)
       have n2_ := Aside0.mk (below_step bG hb)
       clear HO_5
       clear BK281
       clear HB
       have HO_5 := n0_
       have BK281 := n1_
       have HB := n2_
       clear n0_ n1_ n2_
       (try clear hb)
       obtain ⟨Ao26, co26, eo26⟩ := Kd.R_slice HO_5.out
       (first | subst eo26 | (injection eo26 with f1_ f2_ f3_; have f4_ := f1_.symm; have f5_ := f3_.symm; clear f1_ f2_ f3_; subst f4_; subst f5_))
       refine hK.out _ _ ⟨(blk_cell BK281.out 0).trans rfl, (blk_cell BK281.out 1).trans rfl, HS2_⟩ (fun hHeld => ?_)
       clear hK K
       refine nU (some 29) ?_
       refine pU (i := 9) (N := some 30) ?_
       refine tU3 (i := 10) (N := some 31) ?_
       refine pU (i := 11) (N := some 32) ?_
       refine pU (i := 12) (N := some 33) ?_
       refine pV (i := 13) (N := some 34) (v := undef) ?_
       refine pV (i := 14) (N := some 35) (v := undef) ?_
       refine pV (i := 15) (N := some 36) (v := undef) ?_
       refine pV (i := 16) (N := some 37) (v := undef) ?_
       refine pV (i := 17) (N := some 38) (v := undef) ?_
       refine pV (i := 18) (N := some 39) (v := undef) ?_
       refine pV (i := 19) (N := some 40) (v := undef) ?_
       refine pV (i := 20) (N := some 41) (v := undef) ?_
       refine pV (i := 21) (N := some 42) (v := undef) ?_
       refine pV (i := 22) (N := some 43) (v := undef) ?_
       refine pV (i := 23) (N := some 44) (v := undef) ?_
       refine pV (i := 24) (N := some 45) (v := undef) ?_
       refine pV (i := 25) (N := some 46) (v := undef) ?_
       refine pU (i := 26) (N := some 47) ?_
       refine done_ (done_of HT_.out (by kernel_rfl)) ?_
       try go_wp2
       go_ret
       exact ⟨rE, bG⟩
      ·replace c22 := Bool.eq_false_iff.mpr c22
       subst c22
       replace H := zf H
       by_cases c27 : x16_1 > 0
       ·rw [if_pos c27] at H
        have c27b0 : decide (0 < x16_1) = true := decide_eq_true c27
        clear c27
        obtain ⟨ji28, hji28⟩ : ∃ j_ : Int, (wrap64 (x16_1 - 1)) = j_ := ⟨_, rfl⟩
        replace H : (if 0 ≤ (ji28) then (if (ji28) < (l1.length : Int) then ((spec_whDistance.f k1 a0_0 a0_1 (rdOf ByteArray.empty l1 (ji28)) (rdOf ByteArray.empty l1 x16_1)).bind fun t291 => (if t291 = 1 then ((spec_whNumber.f k1 a0_0 a0_1 (rdOf ByteArray.empty l1 x16_1)).bind fun t292 => (if 0 ≤ t292 then (if t292 < (x5_1.length : Int) then (spec_orGood.l0 k1 l1 (x5_1.set (t292 : Int).toNat true) l1 (l1.length : Int) (wrap64 (x16_1 + 1)) a0_0 a0_1) else (none)) else (none))) else (some false))) else (none)) else (none)) = some r := by first | (rw [hji28] at H; exact H) | (simp only [hji28] at H ⊢; exact H)
        (try rw [hji28] at A16)
        (try rw [hji28] at A18)
        have hji28w : (IntKind.i64.wrap (x16_1 - 1)) = ji28 := (i64_w _).trans hji28
        replace H := nz H; obtain ⟨c29, H⟩ := H
        have c29b0 : decide (0 ≤ (ji28)) = true := decide_eq_true c29
        clear c29
        replace H := nz H; obtain ⟨c30, H⟩ := H
        have c30b0 : decide ((ji28) < (l1.length : Int)) = true := decide_eq_true c30
        clear c30
        replace H := Option.bind_eq_some_iff.mp H
        obtain ⟨t291, A310, H⟩ := H
        (try dsimp only at H)
        have A31 := Aside0.mk A310
        clear A310
        by_cases c32 : t291 = 1
        ·rw [if_pos c32] at H
         have c32b0 : (t291 == 1) = true := beq_iff_eq.mpr c32
         have c32b1 : (t291 != 1) = false := bne_eq_false_iff_eq.mpr c32
         clear c32
         replace H := Option.bind_eq_some_iff.mp H
         obtain ⟨t292, A330, H⟩ := H
         (try dsimp only at H)
         have A33 := Aside0.mk A330
         clear A330
         replace H := nz H; obtain ⟨c34, H⟩ := H
         have c34b0 : decide (0 ≤ t292) = true := decide_eq_true c34
         clear c34
         replace H := nz H; obtain ⟨c35, H⟩ := H
         have c35b0 : decide (t292 < (x5_1.length : Int)) = true := decide_eq_true c35
         clear c35
         obtain ⟨y293, hy293⟩ : ∃ y_ : List Bool, y_ = (x5_1.set (t292 : Int).toNat true) := ⟨_, rfl⟩
         replace H : (spec_orGood.l0 k1 l1 y293 l1 (l1.length : Int) (wrap64 (x16_1 + 1)) a0_0 a0_1) = some r := hZ hy293 H
         have Ny293 := Aside0.mk hy293
         clear hy293
         have H' := Aside0.mk H
         clear H
         have p286 : 0 ≤ (x16_1 : Int) := oD
         have q286 : x16_1 < (l1.length : Int) := oD
         obtain ⟨ad286, e286, hx286_0⟩ := Kd.at_string HR1.out x16_1 p286 q286
         cases e286
         replace hx286_0 := (HB.out.cell (World.block_lt_of_cell? w _ hx286_0)).trans hx286_0
         replace p286 := eq_true p286
         replace q286 := eq_true q286
         try go_wp2
         have n0_ := Aside0.mk (Kd.R_drew HO_5.out)
         have n1_ := Aside0.mk (blk_drew BK281.out)
         have n2_ := Aside0.mk (below_drew1 HB.out)
         clear HO_5
         clear BK281
         clear HB
         have HO_5 := n0_
         have BK281 := n1_
         have HB := n2_
         clear n0_ n1_ n2_
         have p289 : 0 ≤ (t288 : Int) := oD
         have q289 : t288 < (x5_1.length : Int) := oD
         obtain ⟨Ap289, cp289, ep289⟩ := Kd.R_slice HO_5.out
         (first | subst ep289 | (injection ep289 with f1_ f2_ f3_; have f4_ := f1_.symm; have f5_ := f3_.symm; clear f1_ f2_ f3_; subst f4_; subst f5_))
         obtain ⟨ad289, e289, hx289_0⟩ := Kd.at_bool (Kd.R_reads' HO_5.out).2.2 t288 p289 q289
         (try rw [← Nbq21.out] at hx289_0)
         cases e289
         replace p289 := eq_true p289
         replace q289 := eq_true q289
         have p290 : 0 ≤ ((ji28) : Int) := oD
         have q290 : (ji28) < (l1.length : Int) := oD
         obtain ⟨ad290, e290, hx290_0⟩ := Kd.at_string HR1.out (ji28) p290 q290
         have hw290_0 := hx290_0
         obtain rfl : ad286 = ad290 := (by injection e290)
         replace hx290_0 := (HB.out.cell (World.block_lt_of_cell? w _ hx290_0)).trans hx290_0
         replace p290 := eq_true p290
         replace q290 := eq_true q290
         refine start_ (n := 27) (S := fun w' => w'.cell? ⟨gb281, 0, none⟩ = some (.int .i64 a0_0) ∧ w'.cell? ⟨gb281, 1, none⟩ = some (.int .i64 a0_1) ∧ w'.cell? (ad289.add (t288).toNat) = some (.bool false) ∧ w'.cell? (ad286.add ((ji28)).toNat) = some (.string (rdOf ByteArray.empty l1 (ji28)))) (ds := []) #[false, false, false, false, false, false, false, false, false, false, false, false, false, false, false, false, false, false, false, false, false, false, false, false, false, false, false] (by kernel_rfl) rfl rfl ⟨(blk_cell BK281.out 0).trans rfl, (blk_cell BK281.out 1).trans rfl, hx289_0, ((HB.out.cell (World.block_lt_of_cell? w _ hw290_0)).trans hw290_0)⟩ (fun hHeld => ?_); refine with_tabW spec_orGood.tab7 spec_orGood.bits7 (fun HT_ HW_ => ?_)
         generalize wr.drew = w37 at HO_5 BK281 HB hx289_0 hx290_0 hHeld ⊢
         refine pU (i := 1) (N := some 22) ?_
         refine tU4 (i := 0) (N := some 21) ?_
         refine oU (i := 2) (N := some 23) (fun K hK => ?_)
         refine goes_ Tryz.func67 (by kernel_rfl) rfl #[.agg #[.int .i64 a0_0, .int .i64 a0_1], .string (rdOf ByteArray.empty l1 x16_1)] (by rfl) rfl rfl lM ?_
         with_reducible refine (spec_whCode.calls k1 a0_0 a0_1 (rdOf ByteArray.empty l1 x16_1) true _ A16.out).mono ?_
         rintro e w38 ⟨rfl, hb⟩
         have HS2_ := (hb.cell (World.block_lt_of_cell? _ _ (hHeld.2.2.1))).trans (hHeld.2.2.1)
         refine ⟨_, rfl, ?_⟩
         have n0_ := Aside0.mk (Kd.R_below (kR HO_5) hb)
         have n1_ := Aside0.mk (blk_below (g := gb281) (o := .cells #[.int .i64 a0_0, .int .i64 a0_1] 25 (0, 0)) bK hb)
         have n2_ := Aside0.mk (below_step bG hb)
         clear HO_5
         clear BK281
         clear HB
         have HO_5 := n0_
         have BK281 := n1_
         have HB := n2_
         clear n0_ n1_ n2_
         (try clear hb)
         (try clear hb2)
         (try clear hk)
         (try clear hi)
         refine hK.out _ _ ⟨(blk_cell BK281.out 0).trans rfl, (blk_cell BK281.out 1).trans rfl, HS2_, ((HB.out.cell (World.block_lt_of_cell? w _ hw290_0)).trans hw290_0)⟩ (fun hHeld => ?_)
         clear hK K
         refine nU (some 23) ?_
         refine pU (i := 3) (N := some 24) ?_
         refine pU (i := 4) (N := some 25) ?_
         refine pU (i := 5) (N := some 26) ?_
         refine pU (i := 7) (N := some 28) ?_
         refine tU4 (i := 6) (N := some 27) ?_
         refine oU (i := 8) (N := some 29) (fun K hK => ?_)
         refine goes_ Tryz.func68 (by kernel_rfl) rfl #[.agg #[.int .i64 a0_0, .int .i64 a0_1], .string (rdOf ByteArray.empty l1 x16_1)] (by rfl) rfl rfl lM ?_
         with_reducible refine (spec_whNumber.calls k1 a0_0 a0_1 (rdOf ByteArray.empty l1 x16_1) t288 _ A18.out).mono ?_
         rintro e w39 ⟨rfl, hb⟩
         have HS2_ := (hb.cell (World.block_lt_of_cell? _ _ (hHeld.2.2.1))).trans (hHeld.2.2.1)
         refine ⟨_, rfl, ?_⟩
         have n0_ := Aside0.mk (Kd.R_below (kR HO_5) hb)
         have n1_ := Aside0.mk (blk_below (g := gb281) (o := .cells #[.int .i64 a0_0, .int .i64 a0_1] 25 (0, 0)) bK hb)
         have n2_ := Aside0.mk (below_step bG hb)
         clear HO_5
         clear BK281
         clear HB
         have HO_5 := n0_
         have BK281 := n1_
         have HB := n2_
         clear n0_ n1_ n2_
         (try clear hb)
         obtain ⟨Ao40, co40, eo40⟩ := Kd.R_slice HO_5.out
         (first | subst eo40 | (injection eo40 with f1_ f2_ f3_; have f4_ := f1_.symm; have f5_ := f3_.symm; clear f1_ f2_ f3_; subst f4_; subst f5_))
         refine hK.out _ _ ⟨(blk_cell BK281.out 0).trans rfl, (blk_cell BK281.out 1).trans rfl, HS2_, ((HB.out.cell (World.block_lt_of_cell? w _ hw290_0)).trans hw290_0)⟩ (fun hHeld => ?_)
         clear hK K
         refine nU (some 29) ?_
         refine pU (i := 9) (N := some 30) ?_
         refine tU4 (i := 10) (N := some 31) ?_
         refine pU (i := 11) (N := some 32) ?_
         refine pU (i := 12) (N := some 33) ?_
         refine pU (i := 13) (N := some 34) ?_
         refine pU (i := 14) (N := some 35) ?_
         refine pU (i := 15) (N := some 36) ?_
         refine pU (i := 17) (N := some 38) ?_
         refine pU (i := 18) (N := some 39) ?_
         refine pU (i := 19) (N := some 40) ?_
         refine pU (i := 20) (N := some 41) ?_
         refine pU (i := 22) (N := some 43) ?_
         refine tU4 (i := 16) (N := some 37) ?_
         refine tU4 (i := 21) (N := some 42) ?_
         refine oU (i := 23) (N := some 44) (fun K hK => ?_)
         refine goes_ Tryz.func39 (by kernel_rfl) rfl #[.agg #[.int .i64 a0_0, .int .i64 a0_1], .string (rdOf ByteArray.empty l1 (ji28)), .string (rdOf ByteArray.empty l1 x16_1)] (by rfl) rfl rfl (by (try simp only [List.map_toArray, List.map_cons, List.map_nil]); first | done | (simp only [hji28]; rfl) | rfl | (simp only [List.length_drop, List.length_take]; rfl)) ?_
         with_reducible refine (spec_whDistance.calls k1 a0_0 a0_1 (rdOf ByteArray.empty l1 (ji28)) (rdOf ByteArray.empty l1 x16_1) t291 _ A31.out).mono ?_
         rintro e w41 ⟨rfl, hb⟩
         have HS2_ := (hb.cell (World.block_lt_of_cell? _ _ (hHeld.2.2.1))).trans (hHeld.2.2.1)
         refine ⟨_, rfl, ?_⟩
         have n0_ := Aside0.mk (Kd.R_below (kR HO_5) hb)
         have n1_ := Aside0.mk (blk_below (g := gb281) (o := .cells #[.int .i64 a0_0, .int .i64 a0_1] 25 (0, 0)) bK hb)
         have n2_ := Aside0.mk (below_step bG hb)
         clear HO_5
         clear BK281
         clear HB
         have HO_5 := n0_
         have BK281 := n1_
         have HB := n2_
         clear n0_ n1_ n2_
         (try clear hb)
         refine hK.out _ _ ⟨(blk_cell BK281.out 0).trans rfl, (blk_cell BK281.out 1).trans rfl, HS2_, ((HB.out.cell (World.block_lt_of_cell? w _ hw290_0)).trans hw290_0)⟩ (fun hHeld => ?_)
         clear hK K
         refine nU (some 44) ?_
         refine pU (i := 24) (N := some 45) ?_
         refine pU (i := 25) (N := some 46) ?_
         refine pU (i := 26) (N := some 47) ?_
         refine done_ (done_of HT_.out (by kernel_rfl)) ?_
         have hcz42_0 := cZ BK281 0 (.int .i64 a0_0)
         have hcz42_1 := cZ BK281 1 (.int .i64 a0_1)
         have hfz42_0 := blk_frozen BK281.out 0
         have hfz42_1 := blk_frozen BK281.out 1
         try go_wp2_with (first | ((with_reducible refine gate_callee (f := 68) rfl ?_); refine goesL_ (some 51) rfl rfl Tryz.func68 (by kernel_rfl) rfl #[.agg #[.int .i64 a0_0, .int .i64 a0_1], .string (rdOf ByteArray.empty l1 x16_1)] rfl lM ?_; (with_reducible refine (spec_whNumber.calls k1 a0_0 a0_1 (rdOf ByteArray.empty l1 x16_1) t292 _ A33.out).mono ?_); rintro e w43 ⟨rfl, hb⟩; refine ⟨_, rfl, ?_⟩; replace HO_5 := Aside0.mk (Kd.R_below (kR HO_5) hb); replace BK281 := bW BK281 hb; replace HB := Aside0.mk (below_step bG hb); (try clear hb); have p36 : 0 ≤ (t292 : Int) := oD; have q36 : (t292 : Int) < ((x5_1.length : Int) : Int) := oD; obtain ⟨go36, co36, eo36, gb36, gl36, cl36, HG36⟩ := Kd.R_form HO_5.out (by omega); (first | cases eo36 | (injection eo36 with ea_ en_ ec_; (first | subst ea_ | (injection ea_ with ea_; subst ea_)); subst ec_; clear en_)); have GB36 := Aside0.mk gb36; have GG36 := Aside0.mk HG36; clear gb36 gl36 HG36; (first | simp only [add_plain] at hx289_0 | skip); obtain ⟨hx36_0, hf36_0⟩ := Kd.R_celln false HO_5.out (t292 : Int) p36 q36; replace p36 := eq_true p36; replace q36 := eq_true q36; obtain ⟨hy44_, hz44_⟩ := Kd.R_celln false HO_5.out (t292 : Int) (oD) (oD); have HP44 := Kd.R_putg HO_5.out (t292 : Int) true) | ((with_reducible refine gate_store (t := 4) (p := 52) rfl ?_); refine store_event (t := 4) (p := 52) (v := ?vo_w45) (w1 := (w43.setCell ⟨go36, (t292 : Int).toNat, none⟩ (.bool true))) ?hg ?ho ?hn ?hr ?_; (case ho => rfl); (case hg => rfl); (case hn => rfl); (case hr => first | (go_simp; done) | (go_simp; rfl)); intro w45 hw; have hg : w43.grownBy w45 (some go36) := (by rw [hw]; exact HP44.2); have hp_ : Kd.R Kd.bool 4 w45 w.heap.size (fun _ => True) (.slice (some ⟨go36, 0, none⟩) x5_1.length co40) y293 := (by rw [hw, Ny293.out]; exact HP44.1); clear HP44; replace BK281 := Aside0.mk (blk_grown (g := gb281) (o := .cells #[.int .i64 a0_0, .int .i64 a0_1] 25 (0, 0)) bK hg (Kd.R_ne HO_5.out BK281.out (by decide))); replace HO_5 := Aside0.mk (hp_); replace HB := Aside0.mk ((by rw [hw]; exact below_set (HB.out) GB36.out : Below w.heap.size w w45)); clear hg hw hp_))
         go_roundg k1
         case measure => have := HK1.out; omega
         case rel => exact ⟨(y293), (wrap64 (x16_1 + 1)), fR, H', ⟨by have := HK1.out; omega⟩, ⟨kR HO_5⟩, ⟨bK⟩, ⟨bG⟩⟩
        ·rw [if_neg c32] at H
         have c32b0 : (t291 == 1) = false := beq_eq_false_iff_ne.mpr c32
         have c32b1 : (t291 != 1) = true := bne_iff_ne.mpr c32
         obtain rfl := Option.some.inj H
         have p286 : 0 ≤ (x16_1 : Int) := oD
         have q286 : x16_1 < (l1.length : Int) := oD
         obtain ⟨ad286, e286, hx286_0⟩ := Kd.at_string HR1.out x16_1 p286 q286
         cases e286
         replace hx286_0 := (HB.out.cell (World.block_lt_of_cell? w _ hx286_0)).trans hx286_0
         replace p286 := eq_true p286
         replace q286 := eq_true q286
         try go_wp2
         have n0_ := Aside0.mk (Kd.R_drew HO_5.out)
         have n1_ := Aside0.mk (blk_drew BK281.out)
         have n2_ := Aside0.mk (below_drew1 HB.out)
         clear HO_5
         clear BK281
         clear HB
         have HO_5 := n0_
         have BK281 := n1_
         have HB := n2_
         clear n0_ n1_ n2_
         have p289 : 0 ≤ (t288 : Int) := oD
         have q289 : t288 < (x5_1.length : Int) := oD
         obtain ⟨Ap289, cp289, ep289⟩ := Kd.R_slice HO_5.out
         (first | subst ep289 | (injection ep289 with f1_ f2_ f3_; have f4_ := f1_.symm; have f5_ := f3_.symm; clear f1_ f2_ f3_; subst f4_; subst f5_))
         obtain ⟨ad289, e289, hx289_0⟩ := Kd.at_bool (Kd.R_reads' HO_5.out).2.2 t288 p289 q289
         (try rw [← Nbq21.out] at hx289_0)
         cases e289
         replace p289 := eq_true p289
         replace q289 := eq_true q289
         have p290 : 0 ≤ ((ji28) : Int) := oD
         have q290 : (ji28) < (l1.length : Int) := oD
         obtain ⟨ad290, e290, hx290_0⟩ := Kd.at_string HR1.out (ji28) p290 q290
         have hw290_0 := hx290_0
         obtain rfl : ad286 = ad290 := (by injection e290)
         replace hx290_0 := (HB.out.cell (World.block_lt_of_cell? w _ hx290_0)).trans hx290_0
         replace p290 := eq_true p290
         replace q290 := eq_true q290
         refine start_ (n := 27) (S := fun w' => w'.cell? ⟨gb281, 0, none⟩ = some (.int .i64 a0_0) ∧ w'.cell? ⟨gb281, 1, none⟩ = some (.int .i64 a0_1) ∧ w'.cell? (ad289.add (t288).toNat) = some (.bool false) ∧ w'.cell? (ad286.add ((ji28)).toNat) = some (.string (rdOf ByteArray.empty l1 (ji28)))) (ds := []) #[false, false, false, false, false, false, false, false, false, false, false, false, false, false, false, false, false, false, false, false, false, false, false, false, false, false, false] (by kernel_rfl) rfl rfl ⟨(blk_cell BK281.out 0).trans rfl, (blk_cell BK281.out 1).trans rfl, hx289_0, ((HB.out.cell (World.block_lt_of_cell? w _ hw290_0)).trans hw290_0)⟩ (fun hHeld => ?_); refine with_tabW spec_orGood.tab7 spec_orGood.bits7 (fun HT_ HW_ => ?_)
         generalize wr.drew = w46 at HO_5 BK281 HB hx289_0 hx290_0 hHeld ⊢
         refine pU (i := 1) (N := some 22) ?_
         refine tU4 (i := 0) (N := some 21) ?_
         refine oU (i := 2) (N := some 23) (fun K hK => ?_)
         refine goes_ Tryz.func67 (by kernel_rfl) rfl #[.agg #[.int .i64 a0_0, .int .i64 a0_1], .string (rdOf ByteArray.empty l1 x16_1)] (by rfl) rfl rfl lM ?_
         with_reducible refine (spec_whCode.calls k1 a0_0 a0_1 (rdOf ByteArray.empty l1 x16_1) true _ A16.out).mono ?_
         rintro e w47 ⟨rfl, hb⟩
         have HS2_ := (hb.cell (World.block_lt_of_cell? _ _ (hHeld.2.2.1))).trans (hHeld.2.2.1)
         refine ⟨_, rfl, ?_⟩
         have n0_ := Aside0.mk (Kd.R_below (kR HO_5) hb)
         have n1_ := Aside0.mk (blk_below (g := gb281) (o := .cells #[.int .i64 a0_0, .int .i64 a0_1] 25 (0, 0)) bK hb)
         have n2_ := Aside0.mk (below_step bG hb)
         clear HO_5
         clear BK281
         clear HB
         have HO_5 := n0_
         have BK281 := n1_
         have HB := n2_
         clear n0_ n1_ n2_
         (try clear hb)
         (try clear hb2)
         (try clear hk)
         (try clear hi)
         refine hK.out _ _ ⟨(blk_cell BK281.out 0).trans rfl, (blk_cell BK281.out 1).trans rfl, HS2_, ((HB.out.cell (World.block_lt_of_cell? w _ hw290_0)).trans hw290_0)⟩ (fun hHeld => ?_)
         clear hK K
         refine nU (some 23) ?_
         refine pU (i := 3) (N := some 24) ?_
         refine pU (i := 4) (N := some 25) ?_
         refine pU (i := 5) (N := some 26) ?_
         refine pU (i := 7) (N := some 28) ?_
         refine tU4 (i := 6) (N := some 27) ?_
         refine oU (i := 8) (N := some 29) (fun K hK => ?_)
         refine goes_ Tryz.func68 (by kernel_rfl) rfl #[.agg #[.int .i64 a0_0, .int .i64 a0_1], .string (rdOf ByteArray.empty l1 x16_1)] (by rfl) rfl rfl lM ?_
         with_reducible refine (spec_whNumber.calls k1 a0_0 a0_1 (rdOf ByteArray.empty l1 x16_1) t288 _ A18.out).mono ?_
         rintro e w48 ⟨rfl, hb⟩
         have HS2_ := (hb.cell (World.block_lt_of_cell? _ _ (hHeld.2.2.1))).trans (hHeld.2.2.1)
         refine ⟨_, rfl, ?_⟩
         have n0_ := Aside0.mk (Kd.R_below (kR HO_5) hb)
         have n1_ := Aside0.mk (blk_below (g := gb281) (o := .cells #[.int .i64 a0_0, .int .i64 a0_1] 25 (0, 0)) bK hb)
         have n2_ := Aside0.mk (below_step bG hb)
         clear HO_5
         clear BK281
         clear HB
         have HO_5 := n0_
         have BK281 := n1_
         have HB := n2_
         clear n0_ n1_ n2_
         (try clear hb)
         obtain ⟨Ao49, co49, eo49⟩ := Kd.R_slice HO_5.out
         (first | subst eo49 | (injection eo49 with f1_ f2_ f3_; have f4_ := f1_.symm; have f5_ := f3_.symm; clear f1_ f2_ f3_; subst f4_; subst f5_))
         refine hK.out _ _ ⟨(blk_cell BK281.out 0).trans rfl, (blk_cell BK281.out 1).trans rfl, HS2_, ((HB.out.cell (World.block_lt_of_cell? w _ hw290_0)).trans hw290_0)⟩ (fun hHeld => ?_)
         clear hK K
         refine nU (some 29) ?_
         refine pU (i := 9) (N := some 30) ?_
         refine tU4 (i := 10) (N := some 31) ?_
         refine pU (i := 11) (N := some 32) ?_
         refine pU (i := 12) (N := some 33) ?_
         refine pU (i := 13) (N := some 34) ?_
         refine pU (i := 14) (N := some 35) ?_
         refine pU (i := 15) (N := some 36) ?_
         refine pU (i := 17) (N := some 38) ?_
         refine pU (i := 18) (N := some 39) ?_
         refine pU (i := 19) (N := some 40) ?_
         refine pU (i := 20) (N := some 41) ?_
         refine pU (i := 22) (N := some 43) ?_
         refine tU4 (i := 16) (N := some 37) ?_
         refine tU4 (i := 21) (N := some 42) ?_
         refine oU (i := 23) (N := some 44) (fun K hK => ?_)
         refine goes_ Tryz.func39 (by kernel_rfl) rfl #[.agg #[.int .i64 a0_0, .int .i64 a0_1], .string (rdOf ByteArray.empty l1 (ji28)), .string (rdOf ByteArray.empty l1 x16_1)] (by rfl) rfl rfl (by (try simp only [List.map_toArray, List.map_cons, List.map_nil]); first | done | (simp only [hji28]; rfl) | rfl | (simp only [List.length_drop, List.length_take]; rfl)) ?_
         with_reducible refine (spec_whDistance.calls k1 a0_0 a0_1 (rdOf ByteArray.empty l1 (ji28)) (rdOf ByteArray.empty l1 x16_1) t291 _ A31.out).mono ?_
         rintro e w50 ⟨rfl, hb⟩
         have HS2_ := (hb.cell (World.block_lt_of_cell? _ _ (hHeld.2.2.1))).trans (hHeld.2.2.1)
         refine ⟨_, rfl, ?_⟩
         have n0_ := Aside0.mk (Kd.R_below (kR HO_5) hb)
         have n1_ := Aside0.mk (blk_below (g := gb281) (o := .cells #[.int .i64 a0_0, .int .i64 a0_1] 25 (0, 0)) bK hb)
         have n2_ := Aside0.mk (below_step bG hb)
         clear HO_5
         clear BK281
         clear HB
         have HO_5 := n0_
         have BK281 := n1_
         have HB := n2_
         clear n0_ n1_ n2_
         (try clear hb)
         refine hK.out _ _ ⟨(blk_cell BK281.out 0).trans rfl, (blk_cell BK281.out 1).trans rfl, HS2_, ((HB.out.cell (World.block_lt_of_cell? w _ hw290_0)).trans hw290_0)⟩ (fun hHeld => ?_)
         clear hK K
         refine nU (some 44) ?_
         refine pU (i := 24) (N := some 45) ?_
         refine pU (i := 25) (N := some 46) ?_
         refine pU (i := 26) (N := some 47) ?_
         refine done_ (done_of HT_.out (by kernel_rfl)) ?_
         try go_wp2
         go_ret
         exact ⟨by first | rfl | (simp [errW_none, errW_some] <;> rfl) | (simp only [← hji28]; first | rfl | (simp [errW_none, errW_some] <;> rfl)) | (simp [*, errW_none, errW_some] <;> rfl), bG⟩
       ·rw [if_neg c27] at H
        have c27b0 : decide (0 < x16_1) = false := decide_eq_false c27
        clear c27
        replace H := Option.bind_eq_some_iff.mp H
        obtain ⟨t294, A510, H⟩ := H
        (try dsimp only at H)
        have A51 := Aside0.mk A510
        clear A510
        replace H := nz H; obtain ⟨c52, H⟩ := H
        have c52b0 : decide (0 ≤ t294) = true := decide_eq_true c52
        clear c52
        replace H := nz H; obtain ⟨c53, H⟩ := H
        have c53b0 : decide (t294 < (x5_1.length : Int)) = true := decide_eq_true c53
        clear c53
        obtain ⟨y295, hy295⟩ : ∃ y_ : List Bool, y_ = (x5_1.set (t294 : Int).toNat true) := ⟨_, rfl⟩
        replace H : (spec_orGood.l0 k1 l1 y295 l1 (l1.length : Int) (wrap64 (x16_1 + 1)) a0_0 a0_1) = some r := hZ hy295 H
        have Ny295 := Aside0.mk hy295
        clear hy295
        have H' := Aside0.mk H
        clear H
        have p286 : 0 ≤ (x16_1 : Int) := oD
        have q286 : x16_1 < (l1.length : Int) := oD
        obtain ⟨ad286, e286, hx286_0⟩ := Kd.at_string HR1.out x16_1 p286 q286
        cases e286
        replace hx286_0 := (HB.out.cell (World.block_lt_of_cell? w _ hx286_0)).trans hx286_0
        replace p286 := eq_true p286
        replace q286 := eq_true q286
        try go_wp2
        have n0_ := Aside0.mk (Kd.R_drew HO_5.out)
        have n1_ := Aside0.mk (blk_drew BK281.out)
        have n2_ := Aside0.mk (below_drew1 HB.out)
        clear HO_5
        clear BK281
        clear HB
        have HO_5 := n0_
        have BK281 := n1_
        have HB := n2_
        clear n0_ n1_ n2_
        have p289 : 0 ≤ (t288 : Int) := oD
        have q289 : t288 < (x5_1.length : Int) := oD
        obtain ⟨Ap289, cp289, ep289⟩ := Kd.R_slice HO_5.out
        (first | subst ep289 | (injection ep289 with f1_ f2_ f3_; have f4_ := f1_.symm; have f5_ := f3_.symm; clear f1_ f2_ f3_; subst f4_; subst f5_))
        obtain ⟨ad289, e289, hx289_0⟩ := Kd.at_bool (Kd.R_reads' HO_5.out).2.2 t288 p289 q289
        (try rw [← Nbq21.out] at hx289_0)
        cases e289
        replace p289 := eq_true p289
        replace q289 := eq_true q289
        refine start_ (n := 27) (S := fun w' => w'.cell? ⟨gb281, 0, none⟩ = some (.int .i64 a0_0) ∧ w'.cell? ⟨gb281, 1, none⟩ = some (.int .i64 a0_1) ∧ w'.cell? (ad289.add (t288).toNat) = some (.bool false)) (ds := []) #[false, false, false, false, false, false, false, false, false, false, false, false, false, false, false, false, false, false, false, false, false, false, false, false, false, false, false] (by kernel_rfl) rfl rfl ⟨(blk_cell BK281.out 0).trans rfl, (blk_cell BK281.out 1).trans rfl, hx289_0⟩ (fun hHeld => ?_); refine with_tabW spec_orGood.tab7 spec_orGood.bits7 (fun HT_ HW_ => ?_)
        generalize wr.drew = w55 at HO_5 BK281 HB hx289_0 hHeld ⊢
        refine pU (i := 1) (N := some 22) ?_
        refine tU3 (i := 0) (N := some 21) ?_
        refine oU (i := 2) (N := some 23) (fun K hK => ?_)
        refine goes_ Tryz.func67 (by kernel_rfl) rfl #[.agg #[.int .i64 a0_0, .int .i64 a0_1], .string (rdOf ByteArray.empty l1 x16_1)] (by rfl) rfl rfl lM ?_
        with_reducible refine (spec_whCode.calls k1 a0_0 a0_1 (rdOf ByteArray.empty l1 x16_1) true _ A16.out).mono ?_
        rintro e w56 ⟨rfl, hb⟩
        have HS2_ := (hb.cell (World.block_lt_of_cell? _ _ (hHeld.2.2))).trans (hHeld.2.2)
        refine ⟨_, rfl, ?_⟩
        have n0_ := Aside0.mk (Kd.R_below (kR HO_5) hb)
        have n1_ := Aside0.mk (blk_below (g := gb281) (o := .cells #[.int .i64 a0_0, .int .i64 a0_1] 25 (0, 0)) bK hb)
        have n2_ := Aside0.mk (below_step bG hb)
        clear HO_5
        clear BK281
        clear HB
        have HO_5 := n0_
        have BK281 := n1_
        have HB := n2_
        clear n0_ n1_ n2_
        (try clear hb)
        (try clear hb2)
        (try clear hk)
        (try clear hi)
        refine hK.out _ _ ⟨(blk_cell BK281.out 0).trans rfl, (blk_cell BK281.out 1).trans rfl, HS2_⟩ (fun hHeld => ?_)
        clear hK K
        refine nU (some 23) ?_
        refine pU (i := 3) (N := some 24) ?_
        refine pU (i := 4) (N := some 25) ?_
        refine pU (i := 5) (N := some 26) ?_
        refine pU (i := 7) (N := some 28) ?_
        refine tU3 (i := 6) (N := some 27) ?_
        refine oU (i := 8) (N := some 29) (fun K hK => ?_)
        refine goes_ Tryz.func68 (by kernel_rfl) rfl #[.agg #[.int .i64 a0_0, .int .i64 a0_1], .string (rdOf ByteArray.empty l1 x16_1)] (by rfl) rfl rfl lM ?_
        with_reducible refine (spec_whNumber.calls k1 a0_0 a0_1 (rdOf ByteArray.empty l1 x16_1) t288 _ A18.out).mono ?_
        rintro e w57 ⟨rfl, hb⟩
        have HS2_ := (hb.cell (World.block_lt_of_cell? _ _ (hHeld.2.2))).trans (hHeld.2.2)
        refine ⟨_, rfl, ?_⟩
        have n0_ := Aside0.mk (Kd.R_below (kR HO_5) hb)
        have n1_ := Aside0.mk (blk_below (g := gb281) (o := .cells #[.int .i64 a0_0, .int .i64 a0_1] 25 (0, 0)) bK hb)
        have n2_ := Aside0.mk (below_step bG hb)
        clear HO_5
        clear BK281
        clear HB
        have HO_5 := n0_
        have BK281 := n1_
        have HB := n2_
        clear n0_ n1_ n2_
        (try clear hb)
        obtain ⟨Ao58, co58, eo58⟩ := Kd.R_slice HO_5.out
        (first | subst eo58 | (injection eo58 with f1_ f2_ f3_; have f4_ := f1_.symm; have f5_ := f3_.symm; clear f1_ f2_ f3_; subst f4_; subst f5_))
        refine hK.out _ _ ⟨(blk_cell BK281.out 0).trans rfl, (blk_cell BK281.out 1).trans rfl, HS2_⟩ (fun hHeld => ?_)
        clear hK K
        refine nU (some 29) ?_
        refine pU (i := 9) (N := some 30) ?_
        refine tU3 (i := 10) (N := some 31) ?_
        refine pU (i := 11) (N := some 32) ?_
        refine pU (i := 12) (N := some 33) ?_
        refine pU (i := 13) (N := some 34) ?_
        refine pU (i := 14) (N := some 35) ?_
        refine pU (i := 15) (N := some 36) ?_
        refine pV (i := 16) (N := some 37) (v := undef) ?_
        refine pV (i := 17) (N := some 38) (v := undef) ?_
        refine pV (i := 18) (N := some 39) (v := undef) ?_
        refine pV (i := 19) (N := some 40) (v := undef) ?_
        refine pV (i := 20) (N := some 41) (v := undef) ?_
        refine pV (i := 21) (N := some 42) (v := undef) ?_
        refine pV (i := 22) (N := some 43) (v := undef) ?_
        refine pV (i := 23) (N := some 44) (v := undef) ?_
        refine pV (i := 24) (N := some 45) (v := undef) ?_
        refine pU (i := 25) (N := some 46) ?_
        refine pU (i := 26) (N := some 47) ?_
        refine done_ (done_of HT_.out (by kernel_rfl)) ?_
        have hcz59_0 := cZ BK281 0 (.int .i64 a0_0)
        have hcz59_1 := cZ BK281 1 (.int .i64 a0_1)
        have hfz59_0 := blk_frozen BK281.out 0
        have hfz59_1 := blk_frozen BK281.out 1
        try go_wp2_with (first | ((with_reducible refine gate_callee (f := 68) rfl ?_); refine goesL_ (some 51) rfl rfl Tryz.func68 (by kernel_rfl) rfl #[.agg #[.int .i64 a0_0, .int .i64 a0_1], .string (rdOf ByteArray.empty l1 x16_1)] rfl lM ?_; (with_reducible refine (spec_whNumber.calls k1 a0_0 a0_1 (rdOf ByteArray.empty l1 x16_1) t294 _ A51.out).mono ?_); rintro e w60 ⟨rfl, hb⟩; refine ⟨_, rfl, ?_⟩; replace HO_5 := Aside0.mk (Kd.R_below (kR HO_5) hb); replace BK281 := bW BK281 hb; replace HB := Aside0.mk (below_step bG hb); (try clear hb); have p54 : 0 ≤ (t294 : Int) := oD; have q54 : (t294 : Int) < ((x5_1.length : Int) : Int) := oD; obtain ⟨go54, co54, eo54, gb54, gl54, cl54, HG54⟩ := Kd.R_form HO_5.out (by omega); (first | cases eo54 | (injection eo54 with ea_ en_ ec_; (first | subst ea_ | (injection ea_ with ea_; subst ea_)); subst ec_; clear en_)); have GB54 := Aside0.mk gb54; have GG54 := Aside0.mk HG54; clear gb54 gl54 HG54; (first | simp only [add_plain] at hx289_0 | skip); obtain ⟨hx54_0, hf54_0⟩ := Kd.R_celln false HO_5.out (t294 : Int) p54 q54; replace p54 := eq_true p54; replace q54 := eq_true q54; obtain ⟨hy61_, hz61_⟩ := Kd.R_celln false HO_5.out (t294 : Int) (oD) (oD); have HP61 := Kd.R_putg HO_5.out (t294 : Int) true) | ((with_reducible refine gate_store (t := 4) (p := 52) rfl ?_); refine store_event (t := 4) (p := 52) (v := ?vo_w62) (w1 := (w60.setCell ⟨go54, (t294 : Int).toNat, none⟩ (.bool true))) ?hg ?ho ?hn ?hr ?_; (case ho => rfl); (case hg => rfl); (case hn => rfl); (case hr => first | (go_simp; done) | (go_simp; rfl)); intro w62 hw; have hg : w60.grownBy w62 (some go54) := (by rw [hw]; exact HP61.2); have hp_ : Kd.R Kd.bool 4 w62 w.heap.size (fun _ => True) (.slice (some ⟨go54, 0, none⟩) x5_1.length co58) y295 := (by rw [hw, Ny295.out]; exact HP61.1); clear HP61; replace BK281 := Aside0.mk (blk_grown (g := gb281) (o := .cells #[.int .i64 a0_0, .int .i64 a0_1] 25 (0, 0)) bK hg (Kd.R_ne HO_5.out BK281.out (by decide))); replace HO_5 := Aside0.mk (hp_); replace HB := Aside0.mk ((by rw [hw]; exact below_set (HB.out) GB54.out : Below w.heap.size w w62)); clear hg hw hp_))
        go_roundg k1
        case measure => have := HK1.out; omega
        case rel => exact ⟨(y295), (wrap64 (x16_1 + 1)), fR, H', ⟨by have := HK1.out; omega⟩, ⟨kR HO_5⟩, ⟨bK⟩, ⟨bG⟩⟩
     ·replace c17 := Bool.eq_false_iff.mpr c17
      subst c17
      replace H := zf H
      obtain rfl := Option.some.inj H
      have p286 : 0 ≤ (x16_1 : Int) := oD
      have q286 : x16_1 < (l1.length : Int) := oD
      obtain ⟨ad286, e286, hx286_0⟩ := Kd.at_string HR1.out x16_1 p286 q286
      cases e286
      replace hx286_0 := (HB.out.cell (World.block_lt_of_cell? w _ hx286_0)).trans hx286_0
      replace p286 := eq_true p286
      replace q286 := eq_true q286
      try go_wp2
      have n0_ := Aside0.mk (Kd.R_drew HO_5.out)
      have n1_ := Aside0.mk (blk_drew BK281.out)
      have n2_ := Aside0.mk (below_drew1 HB.out)
      clear HO_5
      clear BK281
      clear HB
      have HO_5 := n0_
      have BK281 := n1_
      have HB := n2_
      clear n0_ n1_ n2_
      refine start_ (n := 27) (S := fun w' => w'.cell? ⟨gb281, 0, none⟩ = some (.int .i64 a0_0) ∧ w'.cell? ⟨gb281, 1, none⟩ = some (.int .i64 a0_1)) (ds := []) #[false, false, false, false, false, false, false, false, false, false, false, false, false, false, false, false, false, false, false, false, false, false, false, false, false, false, false] (by kernel_rfl) rfl rfl ⟨(blk_cell BK281.out 0).trans rfl, (blk_cell BK281.out 1).trans rfl⟩ (fun hHeld => ?_); refine with_tabW spec_orGood.tab7 spec_orGood.bits7 (fun HT_ HW_ => ?_)
      generalize wr.drew = w63 at HO_5 BK281 HB hHeld ⊢
      refine pU (i := 1) (N := some 22) ?_
      refine tU2 (i := 0) (N := some 21) ?_
      refine oU (i := 2) (N := some 23) (fun K hK => ?_)
      refine goes_ Tryz.func67 (by kernel_rfl) rfl #[.agg #[.int .i64 a0_0, .int .i64 a0_1], .string (rdOf ByteArray.empty l1 x16_1)] (by rfl) rfl rfl lM ?_
      with_reducible refine (spec_whCode.calls k1 a0_0 a0_1 (rdOf ByteArray.empty l1 x16_1) false _ A16.out).mono ?_
      rintro e w64 ⟨rfl, hb⟩
      refine ⟨_, rfl, ?_⟩
      have n0_ := Aside0.mk (Kd.R_below (kR HO_5) hb)
      have n1_ := Aside0.mk (blk_below (g := gb281) (o := .cells #[.int .i64 a0_0, .int .i64 a0_1] 25 (0, 0)) bK hb)
      have n2_ := Aside0.mk (below_step bG hb)
      clear HO_5
      clear BK281
      clear HB
      have HO_5 := n0_
      have BK281 := n1_
      have HB := n2_
      clear n0_ n1_ n2_
      (try clear hb)
      (try clear hb2)
      (try clear hk)
      (try clear hi)
      refine hK.out _ _ ⟨(blk_cell BK281.out 0).trans rfl, (blk_cell BK281.out 1).trans rfl⟩ (fun hHeld => ?_)
      clear hK K
      refine nU (some 23) ?_
      refine pU (i := 3) (N := some 24) ?_
      refine pU (i := 4) (N := some 25) ?_
      refine pV (i := 5) (N := some 26) (v := undef) ?_
      refine pV (i := 6) (N := some 27) (v := undef) ?_
      refine pV (i := 7) (N := some 28) (v := undef) ?_
      refine pV (i := 8) (N := some 29) (v := undef) ?_
      refine pV (i := 9) (N := some 30) (v := undef) ?_
      refine pV (i := 10) (N := some 31) (v := undef) ?_
      refine pU (i := 11) (N := some 32) ?_
      refine pU (i := 12) (N := some 33) ?_
      refine pV (i := 13) (N := some 34) (v := undef) ?_
      refine pV (i := 14) (N := some 35) (v := undef) ?_
      refine pV (i := 15) (N := some 36) (v := undef) ?_
      refine pV (i := 16) (N := some 37) (v := undef) ?_
      refine pV (i := 17) (N := some 38) (v := undef) ?_
      refine pV (i := 18) (N := some 39) (v := undef) ?_
      refine pV (i := 19) (N := some 40) (v := undef) ?_
      refine pV (i := 20) (N := some 41) (v := undef) ?_
      refine pV (i := 21) (N := some 42) (v := undef) ?_
      refine pV (i := 22) (N := some 43) (v := undef) ?_
      refine pV (i := 23) (N := some 44) (v := undef) ?_
      refine pV (i := 24) (N := some 45) (v := undef) ?_
      refine pV (i := 25) (N := some 46) (v := undef) ?_
      refine pU (i := 26) (N := some 47) ?_
      refine done_ (done_of HT_.out (by kernel_rfl)) ?_
      try go_wp2
      go_ret
      exact ⟨rE, bG⟩
    ·rw [if_neg c13] at H
     have c13b0 : decide (x16_1 < (l1.length : Int)) = false := decide_eq_false c13
     clear c13
     obtain rfl := Option.some.inj H
     go_wp2
     go_ret
     exact ⟨rE, bG⟩

end Go.Proofs.YthpmpkmdjpaemaaGreat.P
