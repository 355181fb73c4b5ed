-- Printed by hp.py, a program of this session: a machine's side of laws, out of the translation; Lean checks it.
import Derived.Test.YthpmpkmdjpaemaaGreatPx0
import Derived.Test.YthpmpkmdjpaemaaGreatPx2
import Derived.Test.YthpmpkmdjpaemaaGreatPx7
import Derived.Test.YthpmpkmdjpaemaaGreatPx16
import Derived.Test.YthpmpkmdjpaemaaGreatPx17
import Derived.Test.YthpmpkmdjpaemaaGreatPx18
namespace Go.Proofs.YthpmpkmdjpaemaaGreat.P
open Go.RowKit Go.Proofs.YthpmpkmdjpaemaaGreatW.PrintWords Go.Proofs.YthpmpkmdjpaemaaGreatW.PrintLast Go.Proofs.YthpmpkmdjpaemaaGreatW.PrintMore
attribute [local go_sem] max2_int min2_int max_two min_two max_three min_three max_four min_four   -- for this text's walks alone
set_option linter.unusedVariables false
set_option linter.unusedSimpArgs false

/-! ### spec_orSearch: function 49 -/
mutual
def spec_orSearch.l0 : Nat → List ByteArray → List ByteArray → Int → Int → List ByteArray → Int → Int → Int → Int → Option (List ByteArray × Int × Int)
 | 0, _, _, _, _, _, _, _, _, _ => none
 | k + 1, x1, x8, x9, x10, x49, x50, x51, x508000, x508001 => if x51 < x50 then (if 0 ≤ x51 then (if x51 < (x49.length : Int) then ((spec_l1HasS.f k x1 (rdOf ByteArray.empty x49 x51)).bind fun t524 => (if t524 = true then (spec_orSearch.l0 k x1 x8 x9 x10 x49 x50 (wrap64 (x51 + 1)) x508000 x508001) else ((spec_l1OwnS.f x1).bind fun t525 => ((some (([rdOf ByteArray.empty x49 x51] : List ByteArray) : List ByteArray)).bind fun y528 => (if t525.length + y528.length < 8796093022208 then ((spec_orSearch.f k x508000 x508001 (t525 ++ y528)).bind fun bt534 => (if x9 = 0 then (spec_orSearch.l0 k x1 bt534.1 (wrap64 (x9 + bt534.2.1)) (wrap64 (x10 + bt534.2.2)) x49 x50 (wrap64 (x51 + 1)) x508000 x508001) else (spec_orSearch.l0 k x1 x8 (wrap64 (x9 + bt534.2.1)) (wrap64 (x10 + bt534.2.2)) x49 x50 (wrap64 (x51 + 1)) x508000 x508001))) else (none)))))) else (none)) else (none)) else (some (x8, x9, x10))
def spec_orSearch.f : Nat → Int → Int → List ByteArray → Option (List ByteArray × Int × Int)
 | 0, _, _, _ => none
 | k + 1, a0_0, a0_1, l1 => (spec_whCount.f k a0_0 a0_1).bind fun t508 => (if (l1.length : Int) = t508 then (if 0 < (l1.length : Int) then (if 0 ≤ (wrap64 ((l1.length : Int) - 1)) then (if (wrap64 ((l1.length : Int) - 1)) < (l1.length : Int) then ((spec_whDistance.f k a0_0 a0_1 (rdOf ByteArray.empty l1 0) (rdOf ByteArray.empty l1 (wrap64 ((l1.length : Int) - 1)))).bind fun t511 => (if t511 = 1 then ((spec_l1OwnS.f l1).bind fun t512 => (some (t512, 1, 1))) else ((spec_l1OwnS.f l1).bind fun t515 => (some (t515, 1, 0))))) else (none)) else (none)) else (none)) else (if 0 ≤ (wrap64 ((l1.length : Int) - 1)) then (if (wrap64 ((l1.length : Int) - 1)) < (l1.length : Int) then ((spec_NextCodes.f k a0_0 a0_1 (rdOf ByteArray.empty l1 (wrap64 ((l1.length : Int) - 1)))).bind fun bt519 => (spec_orSearch.l0 k l1 ([] : List ByteArray) 0 0 bt519.1 (bt519.1.length : Int) 0 a0_0 a0_1)) else (none)) else (none)))
end
theorem spec_orSearch.mono_l : ∀ k, (∀ y0 y1 y2, LeO (spec_orSearch.f k y0 y1 y2) (spec_orSearch.f (k + 1) y0 y1 y2)) ∧ (∀ y0 y1 y2 y3 y4 y5 y6 y7 y8, LeO (spec_orSearch.l0 k y0 y1 y2 y3 y4 y5 y6 y7 y8) (spec_orSearch.l0 (k + 1) y0 y1 y2 y3 y4 y5 y6 y7 y8))
 | 0 => ⟨fun _ _ _ r h => by simp [spec_orSearch.f] at h, fun _ _ _ _ _ _ _ _ _ r h => by simp [spec_orSearch.l0] at h⟩
 | k + 1 => by
  obtain ⟨ih0, ih1⟩ := spec_orSearch.mono_l k
  refine ⟨?_, ?_⟩
  intro y0 y1 y2; unfold spec_orSearch.f; rotate_left
  intro y0 y1 y2 y3 y4 y5 y6 y7 y8; unfold spec_orSearch.l0; rotate_left
  all_goals repeat' first
  | (with_reducible first | exact ih0 _ _ _ | exact ih1 _ _ _ _ _ _ _ _ _ | exact spec_NextCodes.mono _ _ _ _ | exact spec_l1HasS.mono _ _ _ | exact spec_whCount.mono _ _ _ | exact spec_whDistance.mono _ _ _ _ _ | exact LeO.refl _ | exact LeO.none _ | refine LeO.ite ?_ ?_ | refine LeO.bind ?_ (fun _ => ?_))
  | exact ih0 _ _ _
  | exact ih1 _ _ _ _ _ _ _ _ _
  | exact spec_NextCodes.mono _ _ _ _
  | exact spec_l1HasS.mono _ _ _
  | exact spec_whCount.mono _ _ _
  | exact spec_whDistance.mono _ _ _ _ _
  | exact LeO.none _
  | refine LeO.ite ?_ ?_
  | refine LeO.bind ?_ (fun _ => ?_)
theorem spec_orSearch.mono : ∀ a0 a1 a2 k, LeO (spec_orSearch.f k a0 a1 a2) (spec_orSearch.f (k + 1) a0 a1 a2) := by
 intro a0 a1 a2 k
 obtain ⟨ih0, ih1⟩ := spec_orSearch.mono_l k
 exact ih0 a0 a1 a2
def spec_orSearch.T3 : Bool × List (List Nat × List Nat) := (true, [([], []), ([], []), ([1], [1]), ([2], [2]), ([], []), ([], []), ([5], [5]), ([6], [6]), ([4, 7], [4, 7]), ([8], [8]), ([0, 3, 9], [0, 3, 9]), ([10], [10])])
def spec_orSearch.B3 : List Nat := [0, 0, 2, 6, 0, 0, 32, 96, 240, 496, 1023, 2047]
theorem spec_orSearch.tab3 : rtab .any (opsOf Tryz.f49 3) = spec_orSearch.T3 := by kernel_rfl
theorem spec_orSearch.bits3 : waitsOk spec_orSearch.T3.2 spec_orSearch.B3 = true := by kernel_rfl
def spec_orSearch.T8 : Bool × List (List Nat × List Nat) := (true, [([], []), ([], []), ([], []), ([2], [2]), ([3], [3]), ([1, 4], [1, 4]), ([5], [5]), ([0, 6], [0, 6]), ([7], [7]), ([8], [8]), ([8], [8]), ([9, 7, 0, 1, 2, 3, 4, 5, 6, 7, 8, 9], [9]), ([10, 11, 0, 1, 2, 3, 4, 5, 6, 7, 8, 9, 10, 11], [10])])
def spec_orSearch.B8 : List Nat := [0, 0, 0, 4, 12, 30, 62, 127, 255, 511, 511, 1023, 4095]
theorem spec_orSearch.tab8 : rtab .any (opsOf Tryz.f49 8) = spec_orSearch.T8 := by kernel_rfl
theorem spec_orSearch.bits8 : waitsOk spec_orSearch.T8.2 spec_orSearch.B8 = true := by kernel_rfl
def spec_orSearch.T13 : Bool × List (List Nat × List Nat) := (true, [([], []), ([], []), ([1], [1]), ([], []), ([3], [3]), ([2, 4, 2], [2, 4]), ([0, 5, 5], [0, 5]), ([6], [6]), ([7], [7]), ([7], [7]), ([7], [7]), ([8, 6, 0, 1, 2, 3, 4, 5, 6, 7, 8], [8]), ([9, 11, 0, 1, 2, 3, 4, 5, 6, 7, 8, 9, 11], [9]), ([10, 12, 0, 1, 2, 3, 4, 5, 6, 7, 8, 9, 10, 11, 12], [10])])
def spec_orSearch.B13 : List Nat := [0, 0, 2, 0, 8, 30, 63, 127, 255, 255, 255, 511, 3071, 8191]
theorem spec_orSearch.tab13 : rtab .any (opsOf Tryz.f49 13) = spec_orSearch.T13 := by kernel_rfl
theorem spec_orSearch.bits13 : waitsOk spec_orSearch.T13.2 spec_orSearch.B13 = true := by kernel_rfl
set_option maxHeartbeats 8000000 in
set_option maxRecDepth 100000 in
theorem spec_orSearch.calls (k : Nat) : ∀ (a0_0 : Int) (a0_1 : Int) (A1 : Option Addr) (c1 : Nat) (l1 : List ByteArray) (r1 : List ByteArray) (r2 : Int) (r3 : Int) (w : World) (hr1 : Kd.C Kd.string w A1 l1.length l1) (hc1 : l1.length ≤ c1) (h : spec_orSearch.f k a0_0 a0_1 l1 = some (r1, r2, r3)),
  Calls Tryz.prog 49 #[.agg #[.int .i64 a0_0, .int .i64 a0_1], .slice A1 l1.length c1] w fun e w' => ∃ v0_ : Value, e = .returned (.tuple #[v0_, .int .i64 r2, .int .i64 r3]) ∧ Kd.R Kd.string 9 w' w.heap.size (fun _ => True) v0_ r1 ∧ Below w.heap.size w w' := by
 induction k using Nat.strongRecOn with
 | _ k ih =>
 intro a0_0 a0_1 A1 c1 l1 r1 r2 r3 w hr1 hc1 h
 cases k with
 | zero => exact absurd h (by simp [spec_orSearch.f])
 | succ k =>
 simp only [spec_orSearch.f] at h
 have hu25 := Tryz.underlying25
 have HR1 := Aside0.mk hr1
 have HC1 := Aside0.mk hc1
 clear hr1 hc1
 have HB := Aside0.mk (Below.refl w.heap.size w)
 have H : ((spec_whCount.f k a0_0 a0_1).bind fun t508 => (if (l1.length : Int) = t508 then (if 0 < (l1.length : Int) then (if 0 ≤ (wrap64 ((l1.length : Int) - 1)) then (if (wrap64 ((l1.length : Int) - 1)) < (l1.length : Int) then ((spec_whDistance.f k a0_0 a0_1 (rdOf ByteArray.empty l1 0) (rdOf ByteArray.empty l1 (wrap64 ((l1.length : Int) - 1)))).bind fun t511 => (if t511 = 1 then ((spec_l1OwnS.f l1).bind fun t512 => (some (t512, 1, 1))) else ((spec_l1OwnS.f l1).bind fun t515 => (some (t515, 1, 0))))) else (none)) else (none)) else (none)) else (if 0 ≤ (wrap64 ((l1.length : Int) - 1)) then (if (wrap64 ((l1.length : Int) - 1)) < (l1.length : Int) then ((spec_NextCodes.f k a0_0 a0_1 (rdOf ByteArray.empty l1 (wrap64 ((l1.length : Int) - 1)))).bind fun bt519 => (spec_orSearch.l0 k l1 ([] : List ByteArray) 0 0 bt519.1 (bt519.1.length : Int) 0 a0_0 a0_1)) else (none)) else (none)))) = some (r1, r2, r3) := h
 clear h
 replace H := Option.bind_eq_some_iff.mp H
 obtain ⟨t508, A30, H⟩ := H
 (try dsimp only at H)
 have A3 := Aside0.mk A30
 clear A30
 by_cases c4 : (l1.length : Int) = t508
 ·rw [if_pos c4] at H
  have c4b0 : ((l1.length : Int) == t508) = true := beq_iff_eq.mpr c4
  have c4b1 : ((l1.length : Int) != t508) = false := bne_eq_false_iff_eq.mpr c4
  clear c4
  replace H := nz H; obtain ⟨c5, H⟩ := H
  have c5b0 : decide (0 < (l1.length : Int)) = true := decide_eq_true c5
  have c5b1 : decide (0 < l1.length) = true := decide_eq_true (by omega)
  clear c5
  obtain ⟨ji6, hji6⟩ : ∃ j_ : Int, (wrap64 ((l1.length : Int) - 1)) = j_ := ⟨_, rfl⟩
  replace H : (if 0 ≤ (ji6) then (if (ji6) < (l1.length : Int) then ((spec_whDistance.f k a0_0 a0_1 (rdOf ByteArray.empty l1 0) (rdOf ByteArray.empty l1 (ji6))).bind fun t511 => (if t511 = 1 then ((spec_l1OwnS.f l1).bind fun t512 => (some (t512, 1, 1))) else ((spec_l1OwnS.f l1).bind fun t515 => (some (t515, 1, 0))))) else (none)) else (none)) = some (r1, r2, r3) := by first | (rw [hji6] at H; exact H) | (simp only [hji6] at H ⊢; exact H)
  (try rw [hji6] at A3)
  have hji6w : (IntKind.i64.wrap ((l1.length : Int) - 1)) = ji6 := (i64_w _).trans hji6
  replace H := nz H; obtain ⟨c7, H⟩ := H
  have c7b0 : decide (0 ≤ (ji6)) = true := decide_eq_true c7
  clear c7
  replace H := nz H; obtain ⟨c8, H⟩ := H
  have c8b0 : decide ((ji6) < (l1.length : Int)) = true := decide_eq_true c8
  clear c8
  replace H := Option.bind_eq_some_iff.mp H
  obtain ⟨t511, A90, H⟩ := H
  (try dsimp only at H)
  have A9 := Aside0.mk A90
  clear A90
  by_cases c10 : t511 = 1
  ·rw [if_pos c10] at H
   have c10b0 : (t511 == 1) = true := beq_iff_eq.mpr c10
   have c10b1 : (t511 != 1) = false := bne_eq_false_iff_eq.mpr c10
   clear c10
   replace H := Option.bind_eq_some_iff.mp H
   obtain ⟨t512, A110, H⟩ := H
   (try dsimp only at H)
   have A11 := Aside0.mk A110
   clear A110
   simp only [Option.some.injEq, Prod.mk.injEq] at H
   obtain ⟨rfl, rfl, rfl⟩ := H
   go_enter Tryz.func49, Tryz.ntmps49
   try go_wp2_with (first | ((with_reducible refine gate_dst (N := 2) rfl ?_); refine box_event ?hg (N := 2) ?hd (cs := #[.int .i64 a0_0, .int .i64 a0_1]) (t := 25) ?hr ?_; (case hd => rfl); (case hg => rfl); (case hr => first | (go_simp; done) | (go_simp; rfl)); intro gb507 hg w12 hbox hb; have BK507 := Aside0.mk (hbox); have GW507 : Aside0 (w.heap.size ≤ gb507) := gW hg; have GE507 := GW507; replace HB := Aside0.mk (below_step bB hb); clear hb hbox hg; have hcz13_0 := cZ BK507 0 (.int .i64 a0_0); have hcz13_1 := cZ BK507 1 (.int .i64 a0_1); have hfz13_0 := blk_frozen BK507.out 0; have hfz13_1 := blk_frozen BK507.out 1) | ((with_reducible refine gate_callee (f := 28) rfl ?_); refine goesL_ (some 21) rfl rfl Tryz.func28 (by kernel_rfl) rfl #[.agg #[.int .i64 a0_0, .int .i64 a0_1]] rfl lM ?_; (with_reducible refine (spec_whCount.calls k a0_0 a0_1 t508 _ A3.out).mono ?_); rintro e w14 ⟨rfl, hb⟩; refine ⟨_, rfl, ?_⟩; replace BK507 := bW BK507 hb; replace HB := Aside0.mk (below_step bG hb); (try clear hb)))
   have n0_ := Aside0.mk (blk_drew BK507.out)
   have n1_ := Aside0.mk (below_drew1 HB.out)
   clear BK507
   clear HB
   have BK507 := n0_
   have HB := n1_
   clear n0_ n1_
   have p509 : 0 ≤ (0 : Int) := (by omega)
   have q509 : 0 < (l1.length : Int) := oD
   obtain ⟨ad509, e509, hx509_0⟩ := Kd.at_string HR1.out 0 p509 q509
   have hw509_0 := hx509_0
   (try rw [show ((0 : Int)).toNat = 0 from rfl] at hw509_0)
   (try rw [show 0 * 1 = 0 from rfl] at hw509_0)
   (try rw [Addr.add_zero'] at hw509_0)
   cases e509
   have qi509 : (0 < l1.length) = True := eq_true (by omega)
   (try rw [show ((0 : Int)).toNat = 0 from rfl] at hx509_0)
   (try rw [Addr.add_zero'] at hx509_0)
   replace hx509_0 := (HB.out.cell (World.block_lt_of_cell? w _ hx509_0)).trans hx509_0
   replace p509 := eq_true p509
   replace q509 := eq_true q509
   have p510 : 0 ≤ ((ji6) : Int) := oD
   have q510 : (ji6) < (l1.length : Int) := oD
   obtain ⟨ad510, e510, hx510_0⟩ := Kd.at_string HR1.out (ji6) p510 q510
   have hw510_0 := hx510_0
   obtain rfl : ad509 = ad510 := (by injection e510)
   replace hx510_0 := (HB.out.cell (World.block_lt_of_cell? w _ hx510_0)).trans hx510_0
   replace p510 := eq_true p510
   replace q510 := eq_true q510
   refine start_ (n := 12) (S := fun w' => w'.cell? ⟨gb507, 0, none⟩ = some (.int .i64 a0_0) ∧ w'.cell? ⟨gb507, 1, none⟩ = some (.int .i64 a0_1) ∧ w'.cell? ad509 = some (.string (rdOf ByteArray.empty l1 0)) ∧ w'.cell? (ad509.add ((ji6)).toNat) = some (.string (rdOf ByteArray.empty l1 (ji6)))) (ds := []) #[false, false, false, false, false, false, false, false, false, false, false, false] (by kernel_rfl) rfl rfl ⟨(blk_cell BK507.out 0).trans rfl, (blk_cell BK507.out 1).trans rfl, ((HB.out.cell (World.block_lt_of_cell? w _ hw509_0)).trans hw509_0), ((HB.out.cell (World.block_lt_of_cell? w _ hw510_0)).trans hw510_0)⟩ (fun hHeld => ?_); refine with_tabW spec_orSearch.tab3 spec_orSearch.bits3 (fun HT_ HW_ => ?_)
   generalize w14.drew = w15 at BK507 HB hx509_0 hx510_0 hHeld ⊢
   refine pU (i := 1) (N := some 24) ?_
   refine pU (i := 2) (N := some 25) ?_
   refine pU (i := 4) (N := some 27) ?_
   refine pU (i := 5) (N := some 28) ?_
   refine pU (i := 6) (N := some 29) ?_
   refine pU (i := 7) (N := some 30) ?_
   refine pU (i := 8) (N := some 31) ?_
   refine tU4 (i := 0) (N := some 23) ?_
   refine tU4 (i := 3) (N := some 26) ?_
   refine tU4 (i := 9) (N := some 32) ?_
   refine oU (i := 10) (N := some 33) (fun K hK => ?_)
   refine goes_ Tryz.func39 (by kernel_rfl) rfl #[.agg #[.int .i64 a0_0, .int .i64 a0_1], .string (rdOf ByteArray.empty l1 0), .string (rdOf ByteArray.empty l1 (ji6))] (by rfl) rfl rfl (by (try simp only [List.map_toArray, List.map_cons, List.map_nil]); first | done | (simp only [hji6]; rfl) | rfl | (simp only [List.length_drop, List.length_take]; rfl)) ?_
   with_reducible refine (spec_whDistance.calls k a0_0 a0_1 (rdOf ByteArray.empty l1 0) (rdOf ByteArray.empty l1 (ji6)) t511 _ A9.out).mono ?_
   rintro e w16 ⟨rfl, hb⟩
   refine ⟨_, rfl, ?_⟩
   have n0_ := Aside0.mk (blk_below (g := gb507) (o := .cells #[.int .i64 a0_0, .int .i64 a0_1] 25 (0, 0)) bK hb)
   have n1_ := Aside0.mk (below_step bG hb)
   clear BK507
   clear HB
   have BK507 := n0_
   have HB := n1_
   clear n0_ n1_
   (try clear hb)
   (try clear hb2)
   (try clear hk)
   (try clear hi)
   refine hK.out _ _ ⟨(blk_cell BK507.out 0).trans rfl, (blk_cell BK507.out 1).trans rfl, ((HB.out.cell (World.block_lt_of_cell? w _ hw509_0)).trans hw509_0), ((HB.out.cell (World.block_lt_of_cell? w _ hw510_0)).trans hw510_0)⟩ (fun hHeld => ?_)
   clear hK K
   refine nU (some 33) ?_
   refine pU (i := 11) (N := some 34) ?_
   refine done_ (done_of HT_.out (by kernel_rfl)) ?_
   try go_wp2_with (first | ((with_reducible refine gate_callee (f := 79) rfl ?_); refine goesL_ (some 36) rfl rfl Tryz.func79 (by kernel_rfl) rfl #[.slice (some ad509) l1.length c1] rfl lM ?_; (with_reducible refine (spec_l1OwnS.calls _ _ l1 t512 _ ?side1 ?side2 A11.out).mono ?_); (case side1 => exact cS (Kd.C_below HR1.out HB.out)); (case side2 => exact HC1.out); rintro e w17 ⟨v513, rfl, ho0, hb⟩; refine ⟨_, rfl, ?_⟩; have HO514 := Aside0.mk (Kd.R_lower ho0 (below_size bG)); replace BK507 := bW BK507 hb; replace HB := Aside0.mk (below_step bG hb); (try clear hb); (try clear ho0)))
   go_ret3
   exact ⟨_, by first | rfl | (simp [errW_none, errW_some] <;> rfl) | (simp only [← hji6]; first | rfl | (simp [errW_none, errW_some] <;> rfl)) | (simp [*, errW_none, errW_some] <;> rfl), kR HO514, bG⟩
  ·rw [if_neg c10] at H
   have c10b0 : (t511 == 1) = false := beq_eq_false_iff_ne.mpr c10
   have c10b1 : (t511 != 1) = true := bne_iff_ne.mpr c10
   replace H := Option.bind_eq_some_iff.mp H
   obtain ⟨t515, A180, H⟩ := H
   (try dsimp only at H)
   have A18 := Aside0.mk A180
   clear A180
   simp only [Option.some.injEq, Prod.mk.injEq] at H
   obtain ⟨rfl, rfl, rfl⟩ := H
   go_enter Tryz.func49, Tryz.ntmps49
   try go_wp2_with (first | ((with_reducible refine gate_dst (N := 2) rfl ?_); refine box_event ?hg (N := 2) ?hd (cs := #[.int .i64 a0_0, .int .i64 a0_1]) (t := 25) ?hr ?_; (case hd => rfl); (case hg => rfl); (case hr => first | (go_simp; done) | (go_simp; rfl)); intro gb507 hg w19 hbox hb; have BK507 := Aside0.mk (hbox); have GW507 : Aside0 (w.heap.size ≤ gb507) := gW hg; have GE507 := GW507; replace HB := Aside0.mk (below_step bB hb); clear hb hbox hg; have hcz20_0 := cZ BK507 0 (.int .i64 a0_0); have hcz20_1 := cZ BK507 1 (.int .i64 a0_1); have hfz20_0 := blk_frozen BK507.out 0; have hfz20_1 := blk_frozen BK507.out 1) | ((with_reducible refine gate_callee (f := 28) rfl ?_); refine goesL_ (some 21) rfl rfl Tryz.func28 (by kernel_rfl) rfl #[.agg #[.int .i64 a0_0, .int .i64 a0_1]] rfl lM ?_; (with_reducible refine (spec_whCount.calls k a0_0 a0_1 t508 _ A3.out).mono ?_); rintro e w21 ⟨rfl, hb⟩; refine ⟨_, rfl, ?_⟩; replace BK507 := bW BK507 hb; replace HB := Aside0.mk (below_step bG hb); (try clear hb)))
   have n0_ := Aside0.mk (blk_drew BK507.out)
   have n1_ := Aside0.mk (below_drew1 HB.out)
   clear BK507
   clear HB
   have BK507 := n0_
   have HB := n1_
   clear n0_ n1_
   have p509 : 0 ≤ (0 : Int) := (by omega)
   have q509 : 0 < (l1.length : Int) := oD
   obtain ⟨ad509, e509, hx509_0⟩ := Kd.at_string HR1.out 0 p509 q509
   have hw509_0 := hx509_0
   (try rw [show ((0 : Int)).toNat = 0 from rfl] at hw509_0)
   (try rw [show 0 * 1 = 0 from rfl] at hw509_0)
   (try rw [Addr.add_zero'] at hw509_0)
   cases e509
   have qi509 : (0 < l1.length) = True := eq_true (by omega)
   (try rw [show ((0 : Int)).toNat = 0 from rfl] at hx509_0)
   (try rw [Addr.add_zero'] at hx509_0)
   replace hx509_0 := (HB.out.cell (World.block_lt_of_cell? w _ hx509_0)).trans hx509_0
   replace p509 := eq_true p509
   replace q509 := eq_true q509
   have p510 : 0 ≤ ((ji6) : Int) := oD
   have q510 : (ji6) < (l1.length : Int) := oD
   obtain ⟨ad510, e510, hx510_0⟩ := Kd.at_string HR1.out (ji6) p510 q510
   have hw510_0 := hx510_0
   obtain rfl : ad509 = ad510 := (by injection e510)
   replace hx510_0 := (HB.out.cell (World.block_lt_of_cell? w _ hx510_0)).trans hx510_0
   replace p510 := eq_true p510
   replace q510 := eq_true q510
   refine start_ (n := 12) (S := fun w' => w'.cell? ⟨gb507, 0, none⟩ = some (.int .i64 a0_0) ∧ w'.cell? ⟨gb507, 1, none⟩ = some (.int .i64 a0_1) ∧ w'.cell? ad509 = some (.string (rdOf ByteArray.empty l1 0)) ∧ w'.cell? (ad509.add ((ji6)).toNat) = some (.string (rdOf ByteArray.empty l1 (ji6)))) (ds := []) #[false, false, false, false, false, false, false, false, false, false, false, false] (by kernel_rfl) rfl rfl ⟨(blk_cell BK507.out 0).trans rfl, (blk_cell BK507.out 1).trans rfl, ((HB.out.cell (World.block_lt_of_cell? w _ hw509_0)).trans hw509_0), ((HB.out.cell (World.block_lt_of_cell? w _ hw510_0)).trans hw510_0)⟩ (fun hHeld => ?_); refine with_tabW spec_orSearch.tab3 spec_orSearch.bits3 (fun HT_ HW_ => ?_)
   generalize w21.drew = w22 at BK507 HB hx509_0 hx510_0 hHeld ⊢
   refine pU (i := 1) (N := some 24) ?_
   refine pU (i := 2) (N := some 25) ?_
   refine pU (i := 4) (N := some 27) ?_
   refine pU (i := 5) (N := some 28) ?_
   refine pU (i := 6) (N := some 29) ?_
   refine pU (i := 7) (N := some 30) ?_
   refine pU (i := 8) (N := some 31) ?_
   refine tU4 (i := 0) (N := some 23) ?_
   refine tU4 (i := 3) (N := some 26) ?_
   refine tU4 (i := 9) (N := some 32) ?_
   refine oU (i := 10) (N := some 33) (fun K hK => ?_)
   refine goes_ Tryz.func39 (by kernel_rfl) rfl #[.agg #[.int .i64 a0_0, .int .i64 a0_1], .string (rdOf ByteArray.empty l1 0), .string (rdOf ByteArray.empty l1 (ji6))] (by rfl) rfl rfl (by (try simp only [List.map_toArray, List.map_cons, List.map_nil]); first | done | (simp only [hji6]; rfl) | rfl | (simp only [List.length_drop, List.length_take]; rfl)) ?_
   with_reducible refine (spec_whDistance.calls k a0_0 a0_1 (rdOf ByteArray.empty l1 0) (rdOf ByteArray.empty l1 (ji6)) t511 _ A9.out).mono ?_
   rintro e w23 ⟨rfl, hb⟩
   refine ⟨_, rfl, ?_⟩
   have n0_ := Aside0.mk (blk_below (g := gb507) (o := .cells #[.int .i64 a0_0, .int .i64 a0_1] 25 (0, 0)) bK hb)
   have n1_ := Aside0.mk (below_step bG hb)
   clear BK507
   clear HB
   have BK507 := n0_
   have HB := n1_
   clear n0_ n1_
   (try clear hb)
   (try clear hb2)
   (try clear hk)
   (try clear hi)
   refine hK.out _ _ ⟨(blk_cell BK507.out 0).trans rfl, (blk_cell BK507.out 1).trans rfl, ((HB.out.cell (World.block_lt_of_cell? w _ hw509_0)).trans hw509_0), ((HB.out.cell (World.block_lt_of_cell? w _ hw510_0)).trans hw510_0)⟩ (fun hHeld => ?_)
   clear hK K
   refine nU (some 33) ?_
   refine pU (i := 11) (N := some 34) ?_
   refine done_ (done_of HT_.out (by kernel_rfl)) ?_
   try go_wp2_with (first | ((with_reducible refine gate_callee (f := 79) rfl ?_); refine goesL_ (some 36) rfl rfl Tryz.func79 (by kernel_rfl) rfl #[.slice (some ad509) l1.length c1] rfl lM ?_; (with_reducible refine (spec_l1OwnS.calls _ _ l1 t515 _ ?side1 ?side2 A18.out).mono ?_); (case side1 => exact cS (Kd.C_below HR1.out HB.out)); (case side2 => exact HC1.out); rintro e w24 ⟨v516, rfl, ho0, hb⟩; refine ⟨_, rfl, ?_⟩; have HO517 := Aside0.mk (Kd.R_lower ho0 (below_size bG)); replace BK507 := bW BK507 hb; replace HB := Aside0.mk (below_step bG hb); (try clear hb); (try clear ho0)))
   go_ret3
   exact ⟨_, by first | rfl | (simp [errW_none, errW_some] <;> rfl) | (simp only [← hji6]; first | rfl | (simp [errW_none, errW_some] <;> rfl)) | (simp [*, errW_none, errW_some] <;> rfl), kR HO517, bG⟩
 ·rw [if_neg c4] at H
  have c4b0 : ((l1.length : Int) == t508) = false := beq_eq_false_iff_ne.mpr c4
  have c4b1 : ((l1.length : Int) != t508) = true := bne_iff_ne.mpr c4
  obtain ⟨ji25, hji25⟩ : ∃ j_ : Int, (wrap64 ((l1.length : Int) - 1)) = j_ := ⟨_, rfl⟩
  replace H : (if 0 ≤ (ji25) then (if (ji25) < (l1.length : Int) then ((spec_NextCodes.f k a0_0 a0_1 (rdOf ByteArray.empty l1 (ji25))).bind fun bt519 => (spec_orSearch.l0 k l1 ([] : List ByteArray) 0 0 bt519.1 (bt519.1.length : Int) 0 a0_0 a0_1)) else (none)) else (none)) = some (r1, r2, r3) := by first | (rw [hji25] at H; exact H) | (simp only [hji25] at H ⊢; exact H)
  (try rw [hji25] at A3)
  have hji25w : (IntKind.i64.wrap ((l1.length : Int) - 1)) = ji25 := (i64_w _).trans hji25
  replace H := nz H; obtain ⟨c26, H⟩ := H
  have c26b0 : decide (0 ≤ (ji25)) = true := decide_eq_true c26
  clear c26
  replace H := nz H; obtain ⟨c27, H⟩ := H
  have c27b0 : decide ((ji25) < (l1.length : Int)) = true := decide_eq_true c27
  clear c27
  replace H := Option.bind_eq_some_iff.mp H
  obtain ⟨⟨t519, t522⟩, A280, H⟩ := H
  (try dsimp only at H)
  have A28 := Aside0.mk A280
  clear A280
  have H' := Aside0.mk H
  clear H
  go_enter Tryz.func49, Tryz.ntmps49
  try go_wp2_with (first | ((with_reducible refine gate_dst (N := 2) rfl ?_); refine box_event ?hg (N := 2) ?hd (cs := #[.int .i64 a0_0, .int .i64 a0_1]) (t := 25) ?hr ?_; (case hd => rfl); (case hg => rfl); (case hr => first | (go_simp; done) | (go_simp; rfl)); intro gb507 hg w29 hbox hb; have BK507 := Aside0.mk (hbox); have GW507 : Aside0 (w.heap.size ≤ gb507) := gW hg; have GE507 := GW507; replace HB := Aside0.mk (below_step bB hb); clear hb hbox hg; have hcz30_0 := cZ BK507 0 (.int .i64 a0_0); have hcz30_1 := cZ BK507 1 (.int .i64 a0_1); have hfz30_0 := blk_frozen BK507.out 0; have hfz30_1 := blk_frozen BK507.out 1) | ((with_reducible refine gate_callee (f := 28) rfl ?_); refine goesL_ (some 21) rfl rfl Tryz.func28 (by kernel_rfl) rfl #[.agg #[.int .i64 a0_0, .int .i64 a0_1]] rfl lM ?_; (with_reducible refine (spec_whCount.calls k a0_0 a0_1 t508 _ A3.out).mono ?_); rintro e w31 ⟨rfl, hb⟩; refine ⟨_, rfl, ?_⟩; replace BK507 := bW BK507 hb; replace HB := Aside0.mk (below_step bG hb); (try clear hb)))
  have n0_ := Aside0.mk (blk_drew BK507.out)
  have n1_ := Aside0.mk (below_drew1 HB.out)
  clear BK507
  clear HB
  have BK507 := n0_
  have HB := n1_
  clear n0_ n1_
  have p518 : 0 ≤ ((ji25) : Int) := oD
  have q518 : (ji25) < (l1.length : Int) := oD
  obtain ⟨ad518, e518, hx518_0⟩ := Kd.at_string HR1.out (ji25) p518 q518
  have hw518_0 := hx518_0
  cases e518
  replace hx518_0 := (HB.out.cell (World.block_lt_of_cell? w _ hx518_0)).trans hx518_0
  replace p518 := eq_true p518
  replace q518 := eq_true q518
  refine start_ (n := 13) (S := fun w' => w'.cell? ⟨gb507, 0, none⟩ = some (.int .i64 a0_0) ∧ w'.cell? ⟨gb507, 1, none⟩ = some (.int .i64 a0_1) ∧ w'.cell? (ad518.add ((ji25)).toNat) = some (.string (rdOf ByteArray.empty l1 (ji25)))) (ds := []) #[false, false, false, false, false, false, false, false, false, false, false, false, false] (by kernel_rfl) rfl rfl ⟨(blk_cell BK507.out 0).trans rfl, (blk_cell BK507.out 1).trans rfl, ((HB.out.cell (World.block_lt_of_cell? w _ hw518_0)).trans hw518_0)⟩ (fun hHeld => ?_); refine with_tabW spec_orSearch.tab8 spec_orSearch.bits8 (fun HT_ HW_ => ?_)
  generalize w31.drew = w32 at BK507 HB hx518_0 hHeld ⊢
  refine pU (i := 1) (N := some 40) ?_
  refine pU (i := 2) (N := some 41) ?_
  refine pU (i := 3) (N := some 42) ?_
  refine pU (i := 4) (N := some 43) ?_
  refine pU (i := 5) (N := some 44) ?_
  refine tU3 (i := 0) (N := some 39) ?_
  refine tU3 (i := 6) (N := some 45) ?_
  refine oU (i := 7) (N := some 46) (fun K hK => ?_)
  refine goes_ Tryz.func80 (by kernel_rfl) rfl #[.agg #[.int .i64 a0_0, .int .i64 a0_1], .string (rdOf ByteArray.empty l1 (ji25))] (by rfl) rfl rfl (by (try simp only [List.map_toArray, List.map_cons, List.map_nil]); first | done | (simp only [hji25]; rfl) | rfl | (simp only [List.length_drop, List.length_take]; rfl)) ?_
  with_reducible refine (spec_NextCodes.calls k a0_0 a0_1 (rdOf ByteArray.empty l1 (ji25)) t519 t522 _ A28.out).mono ?_
  rintro e w33 ⟨v520, rfl, ho0, hb⟩
  refine ⟨_, rfl, ?_⟩
  have n0_ := Aside0.mk (Kd.R_lower ho0 (below_size bG))
  have n1_ := Aside0.mk (blk_below (g := gb507) (o := .cells #[.int .i64 a0_0, .int .i64 a0_1] 25 (0, 0)) bK hb)
  have n2_ := Aside0.mk (below_step bG hb)
  clear BK507
  clear HB
  have HO521 := n0_
  have BK507 := n1_
  have HB := n2_
  clear n0_ n1_ n2_
  (try clear hb)
  (try clear hb2)
  (try clear hk)
  (try clear hi)
  (try clear ho0)
  refine hK.out _ _ ⟨(blk_cell BK507.out 0).trans rfl, (blk_cell BK507.out 1).trans rfl, ((HB.out.cell (World.block_lt_of_cell? w _ hw518_0)).trans hw518_0)⟩ (fun hHeld => ?_)
  clear hK K
  refine nU (some 46) ?_
  refine pU (i := 8) (N := some 38) ?_
  refine pU (i := 9) (N := some 47) ?_
  refine pU (i := 10) (N := some 48) ?_
  refine pU (i := 11) (N := some 11) ?_
  refine pU (i := 12) (N := some 12) ?_
  refine done_ (done_of HT_.out (by kernel_rfl)) ?_
  obtain ⟨Ao34, co34, eo34⟩ := Kd.R_slice HO521.out
  subst eo34
  try go_wp2
  go_loopg [8, 9, 10, 51] k (fun kq v8 v9 v10 v51 w' => ∃ (x8_1 : List ByteArray) (x9_1 : Int) (x10_1 : Int) (x51_1 : Int), v9 = .int .i64 x9_1 ∧ v10 = .int .i64 x10_1 ∧ v51 = .int .i64 x51_1 ∧ Aside0 (spec_orSearch.l0 kq l1 x8_1 x9_1 x10_1 t519 (t519.length : Int) x51_1 a0_0 a0_1 = some (r1, r2, r3)) ∧ Aside0 (kq ≤ k) ∧ Aside0 (Kd.R Kd.string 9 w' w.heap.size (fun k_ => some k_ ≠ ((.slice Ao34 t519.length co34) : Value).ownBlock) v8 x8_1) ∧ Aside0 (Kd.R Kd.string 9 w' w.heap.size (fun k_ => some k_ ≠ (v8 : Value).ownBlock) (.slice Ao34 t519.length co34) t519) ∧ Aside0 (w'.heap[gb507]? = some (.cells #[.int .i64 a0_0, .int .i64 a0_1] 25 (0, 0))) ∧ Aside0 (Below w.heap.size w w'))
  case atStart => exact ⟨(([] : List ByteArray)), (0), (0), (0), fR, fR, fR, H', ⟨Nat.le_refl _⟩, ⟨by first | exact Kd.R_nil _ _ _ _ _ | exact Kd.N_nil _ _ _ _ _ | exact Kd.V_nil _ _ _ _ _ | exact Kd.Q_nil _ _ _ _ _ | exact Kd.S_nil _ _ _ _ _⟩, ⟨by (with_reducible repeat (first | apply Kd.R_alloc | apply Kd.R_drewN | apply Kd.R_drew)); exact Kd.R_mono HO521.out (fun _ hk => (by simp [Value.ownBlock]))⟩, ⟨bK⟩, ⟨bG⟩⟩
  case round =>
   clear H'
   try clear c1
   try clear c2
   try clear p2
   try clear c3
   try clear c4
   try clear c4b0
   try clear c4b1
   try clear c5
   try clear c5b0
   try clear c5b1
   try clear p5
   try clear q5
   try clear hx5
   try clear qi5
   try clear p6
   try clear c7
   try clear c7b0
   try clear c8
   try clear c8b0
   try clear c10
   try clear c10b0
   try clear c10b1
   try clear c26
   try clear c26b0
   try clear c27
   try clear c27b0
   try clear c28
   try clear hcz13_0
   try clear hcz13_1
   try clear hcz20_0
   try clear hcz20_1
   try clear hcz30_0
   try clear hcz30_1
   try clear hfz13_0
   try clear hfz13_1
   try clear hfz20_0
   try clear hfz20_1
   try clear hfz30_0
   try clear hfz30_1
   try clear hx509_0
   try clear hx510_0
   try clear hx518_0
   try clear p509
   try clear p510
   try clear p518
   try clear q509
   try clear q510
   try clear q518
   obtain ⟨x8_1, x9_1, x10_1, x51_1, rfl, rfl, rfl, HA, HK1, HO_8, HO_49, BK507, HB⟩ := hrel
   cases gk with
   | zero => exact absurd HA.out (by simp [spec_orSearch.l0])
   | succ k1 =>
    have H := HA.out
    clear HA
    simp only [spec_orSearch.l0] at H
    by_cases c35 : x51_1 < (t519.length : Int)
    ·rw [if_pos c35] at H
     have c35b0 : decide (x51_1 < (t519.length : Int)) = true := decide_eq_true c35
     clear c35
     replace H := nz H; obtain ⟨c36, H⟩ := H
     have c36b0 : decide (0 ≤ x51_1) = true := decide_eq_true c36
     clear c36
     replace H := nz H; obtain ⟨c37, H⟩ := H
     have c37b0 : decide (x51_1 < (t519.length : Int)) = true := decide_eq_true c37
     clear c37
     replace H := Option.bind_eq_some_iff.mp H
     obtain ⟨t524, A380, H⟩ := H
     (try dsimp only at H)
     have A38 := Aside0.mk A380
     clear A380
     by_cases c39 : t524 = true
     ·subst c39
      replace H := zt H
      have H' := Aside0.mk H
      clear H
      have p523 : 0 ≤ (x51_1 : Int) := oD
      have q523 : x51_1 < (t519.length : Int) := oD
      obtain ⟨ad523, e523, hx523_0⟩ := Kd.at_string (Kd.R_reads' HO_49.out).2.2 x51_1 p523 q523
      cases e523
      replace p523 := eq_true p523
      replace q523 := eq_true q523
      go_wp2_with (first | ((with_reducible refine gate_callee (f := 81) rfl ?_); refine goesL_ (some 57) rfl rfl Tryz.func81 (by kernel_rfl) rfl #[.slice (some ad518) l1.length c1, .string (rdOf ByteArray.empty t519 x51_1)] rfl lM ?_; (with_reducible refine (spec_l1HasS.calls k1 _ _ l1 (rdOf ByteArray.empty t519 x51_1) true _ ?side1 ?side2 A38.out).mono ?_); (case side1 => exact cS (Kd.C_below HR1.out HB.out)); (case side2 => exact HC1.out); rintro e w' ⟨rfl, ⟨nd, rfl⟩⟩; refine ⟨_, rfl, ?_⟩))
      go_roundg k1
      case measure => have := HK1.out; omega
      case rel => exact ⟨(x8_1), (x9_1), (x10_1), (wrap64 (x51_1 + 1)), fR, fR, fR, H', ⟨by have := HK1.out; omega⟩, ⟨kR HO_8⟩, ⟨kR HO_49⟩, ⟨bK⟩, ⟨bG⟩⟩
     ·replace c39 := Bool.eq_false_iff.mpr c39
      subst c39
      replace H := zf H
      replace H := Option.bind_eq_some_iff.mp H
      obtain ⟨t525, A400, H⟩ := H
      (try dsimp only at H)
      have A40 := Aside0.mk A400
      clear A400
      obtain ⟨y528, hy528⟩ : ∃ y_ : List ByteArray, y_ = (([rdOf ByteArray.empty t519 x51_1] : List ByteArray)) := ⟨_, rfl⟩
      replace H : (if t525.length + y528.length < 8796093022208 then ((spec_orSearch.f k1 a0_0 a0_1 (t525 ++ y528)).bind fun bt534 => (if x9_1 = 0 then (spec_orSearch.l0 k1 l1 bt534.1 (wrap64 (x9_1 + bt534.2.1)) (wrap64 (x10_1 + bt534.2.2)) t519 (t519.length : Int) (wrap64 (x51_1 + 1)) a0_0 a0_1) else (spec_orSearch.l0 k1 l1 x8_1 (wrap64 (x9_1 + bt534.2.1)) (wrap64 (x10_1 + bt534.2.2)) t519 (t519.length : Int) (wrap64 (x51_1 + 1)) a0_0 a0_1))) else (none)) = some (r1, r2, r3) := hZ hy528 H
      have Ny528 := Aside0.mk hy528
      clear hy528
      replace H := nz H; obtain ⟨c41, H⟩ := H
      have LMc41 := Aside0.mk c41
      clear c41
      obtain ⟨y531, hy531⟩ : ∃ y_ : List ByteArray, y_ = (t525 ++ y528) := ⟨_, rfl⟩
      replace H : ((spec_orSearch.f k1 a0_0 a0_1 y531).bind fun bt534 => (if x9_1 = 0 then (spec_orSearch.l0 k1 l1 bt534.1 (wrap64 (x9_1 + bt534.2.1)) (wrap64 (x10_1 + bt534.2.2)) t519 (t519.length : Int) (wrap64 (x51_1 + 1)) a0_0 a0_1) else (spec_orSearch.l0 k1 l1 x8_1 (wrap64 (x9_1 + bt534.2.1)) (wrap64 (x10_1 + bt534.2.2)) t519 (t519.length : Int) (wrap64 (x51_1 + 1)) a0_0 a0_1))) = some (r1, r2, r3) := hZ hy531 H
      have Ny531 := Aside0.mk hy531
      clear hy531
      replace H := Option.bind_eq_some_iff.mp H
      obtain ⟨⟨t534, t537, t538⟩, A420, H⟩ := H
      (try dsimp only at H)
      have A42 := Aside0.mk A420
      clear A420
      by_cases c43 : x9_1 = 0
      ·rw [if_pos c43] at H
       have c43b0 : (x9_1 == 0) = true := beq_iff_eq.mpr c43
       have c43b1 : (x9_1 != 0) = false := bne_eq_false_iff_eq.mpr c43
       clear c43
       have H' := Aside0.mk H
       clear H
       have p523 : 0 ≤ (x51_1 : Int) := oD
       have q523 : x51_1 < (t519.length : Int) := oD
       obtain ⟨ad523, e523, hx523_0⟩ := Kd.at_string (Kd.R_reads' HO_49.out).2.2 x51_1 p523 q523
       cases e523
       replace p523 := eq_true p523
       replace q523 := eq_true q523
       try go_wp2_with (first | ((with_reducible refine gate_callee (f := 81) rfl ?_); refine goesL_ (some 57) rfl rfl Tryz.func81 (by kernel_rfl) rfl #[.slice (some ad518) l1.length c1, .string (rdOf ByteArray.empty t519 x51_1)] rfl lM ?_; (with_reducible refine (spec_l1HasS.calls k1 _ _ l1 (rdOf ByteArray.empty t519 x51_1) false _ ?side1 ?side2 A38.out).mono ?_); (case side1 => exact cS (Kd.C_below HR1.out HB.out)); (case side2 => exact HC1.out); rintro e w' ⟨rfl, ⟨nd, rfl⟩⟩; refine ⟨_, rfl, ?_⟩))
       (try (rw [drewN_self wr]; generalize hq_ : World.drewN wr _ = wr; have n0_ : Aside0 (Kd.R Kd.string 9 wr w.heap.size (fun k_ => some k_ ≠ (u8 : Value).ownBlock) (.slice (some ad523) t519.length co34) t519) := ⟨by rw [← hq_]; exact (kR HO_49)⟩; have n1_ : Aside0 (Kd.R Kd.string 9 wr w.heap.size (fun k_ => some k_ ≠ (.slice (some ad523) t519.length co34 : Value).ownBlock) u8 x8_1) := ⟨by rw [← hq_]; exact (kR HO_8)⟩; have n2_ : Aside0 (wr.heap[gb507]? = some (.cells #[.int .i64 a0_0, .int .i64 a0_1] 25 (0, 0))) := ⟨by rw [← hq_]; exact bK⟩; have n3_ : Aside0 (Below w.heap.size w wr) := ⟨by rw [← hq_]; exact bG⟩; clear HO_49 HO_8 BK507 HB hq_; have HO_49 := n0_; have HO_8 := n1_; have BK507 := n2_; have HB := n3_; clear n0_ n1_ n2_ n3_))
       have n0_ := Aside0.mk (Kd.R_drew HO_8.out)
       have n1_ := Aside0.mk (Kd.R_drew HO_49.out)
       have n2_ := Aside0.mk (blk_drew BK507.out)
       have n3_ := Aside0.mk (below_drew1 HB.out)
       clear HO_8
       clear HO_49
       clear BK507
       clear HB
       have HO_8 := n0_
       have HO_49 := n1_
       have BK507 := n2_
       have HB := n3_
       clear n0_ n1_ n2_ n3_
       refine start_ (n := 14) (S := fun w' => w'.cell? ⟨gb507, 0, none⟩ = some (.int .i64 a0_0) ∧ w'.cell? ⟨gb507, 1, none⟩ = some (.int .i64 a0_1)) (ds := []) #[false, false, false, false, false, false, false, false, false, false, false, false, false, false] (by kernel_rfl) rfl rfl ⟨(blk_cell BK507.out 0).trans rfl, (blk_cell BK507.out 1).trans rfl⟩ (fun hHeld => ?_); refine with_tabW spec_orSearch.tab13 spec_orSearch.bits13 (fun HT_ HW_ => ?_)
       generalize wr.drew = w44 at HO_8 HO_49 BK507 HB hHeld ⊢
       refine pU (i := 1) (N := some 60) ?_
       refine pU (i := 3) (N := some 62) ?_
       refine tU2 (i := 0) (N := some 59) ?_
       refine join_ (σ := Value × Value) 9 #[true, true, true, true, true, false, false, false, false, false, false, false, false, false] (fun s_ => [(61, s_.1), (63, s_.2)]) (fun s_ w' => (w'.cell? ⟨gb507, 0, none⟩ = some (.int .i64 a0_0) ∧ w'.cell? ⟨gb507, 1, none⟩ = some (.int .i64 a0_1)) ∧ (Kd.R Kd.string 9 w' w.heap.size (fun k_ => some k_ ≠ (s_.2 : Value).ownBlock ∧ some k_ ≠ (.slice (some ad523) t519.length co34 : Value).ownBlock ∧ some k_ ≠ (u8 : Value).ownBlock) s_.1 t525) ∧ (Kd.R Kd.string 9 w' w.heap.size (fun k_ => some k_ ≠ (s_.1 : Value).ownBlock ∧ some k_ ≠ (.slice (some ad523) t519.length co34 : Value).ownBlock ∧ some k_ ≠ (u8 : Value).ownBlock) s_.2 y528) ∧ (Kd.R Kd.string 9 w' w.heap.size (fun k_ => some k_ ≠ (s_.1 : Value).ownBlock ∧ some k_ ≠ (s_.2 : Value).ownBlock ∧ some k_ ≠ (u8 : Value).ownBlock) (.slice (some ad523) t519.length co34) t519) ∧ (Kd.R Kd.string 9 w' w.heap.size (fun k_ => some k_ ≠ (s_.1 : Value).ownBlock ∧ some k_ ≠ (s_.2 : Value).ownBlock ∧ some k_ ≠ (.slice (some ad523) t519.length co34 : Value).ownBlock) u8 x8_1) ∧ (w'.heap[gb507]? = some (.cells #[.int .i64 a0_0, .int .i64 a0_1] 25 (0, 0))) ∧ (Below w.heap.size w w')) ?_ ?_
       rotate_left
       ·intro hCont
        refine two_ (i := 2) (j := 4) (Ni := some 61) (Nj := some 63) #[true, true, true, true, false, false, false, false, false, false, false, false, false, false] #[true, true, false, true, true, false, false, false, false, false, false, false, false, false] rfl rfl rfl rfl (two_of HT_.out (by kernel_rfl)) (by decide) (by decide) (fun K hK => ?_) (fun K hK => ?_)
        ·skip
         refine goes_ Tryz.func79 (by kernel_rfl) rfl #[.slice (some ad518) l1.length c1] (by rfl) rfl rfl lM ?_
         with_reducible refine (spec_l1OwnS.calls _ _ l1 t525 _ ?side1 ?side2 A40.out).mono ?_
         (case side1 => exact cS (Kd.C_below HR1.out HB.out))
         (case side2 => exact HC1.out)
         rintro e w45 ⟨v526, rfl, ho0, hb⟩
         refine ⟨_, rfl, ?_⟩
         have n0_ := Aside0.mk (Kd.R_elder' (kR HO_8) (Kd.R_base ho0) hb)
         have n1_ := Aside0.mk (Kd.R_elder' (kR HO_49) (Kd.R_base ho0) hb)
         have n2_ := Aside0.mk (Kd.R_lower (Kd.R_new' (Kd.R_new' ho0 (Kd.R_lt (kR HO_8))) (Kd.R_lt (kR HO_49))) (below_size bG))
         have n3_ := Aside0.mk (blk_below (g := gb507) (o := .cells #[.int .i64 a0_0, .int .i64 a0_1] 25 (0, 0)) bK hb)
         have n4_ := Aside0.mk (below_step bG hb)
         clear HO_8
         clear HO_49
         clear BK507
         clear HB
         have HO_8 := n0_
         have HO_49 := n1_
         have HO527 := n2_
         have BK507 := n3_
         have HB := n4_
         clear n0_ n1_ n2_ n3_ n4_
         (try clear hb)
         (try clear hk)
         (try clear ho0)
         refine hK.out _ _ ⟨(blk_cell BK507.out 0).trans rfl, (blk_cell BK507.out 1).trans rfl⟩ (fun hHeld => ?_)
         clear hK K
         refine nU (some 61) ?_
         refine oU (i := 4) (N := some 63) (fun K hK => ?_)
         refine Kd.R_lit_step Kd.string _ 9 ?hg (N := 63) ?hd (xs := ([rdOf ByteArray.empty t519 x51_1] : List ByteArray)) (inner := [.string (rdOf ByteArray.empty t519 x51_1)]) (ok := fun _ => True) (okp := fun _ => True) ?hr ?hp (fun _ hk => hk) trivial (Below.refl _ _) (Nat.le_refl _) (by simp) ?_; (case hd => rfl); (case hg => rfl); (case hr => first | (go_simp; done) | (go_simp; rfl)); (case hp => exact (Reps.one (show Kd.M Kd.string _ _ _ (rdOf ByteArray.empty t519 x51_1) [.string (rdOf ByteArray.empty t519 x51_1)] from rfl) (Reps.none _ _)))
         intro v529 w46 ho47 hb hg_ hnew_
         clear hg_ hnew_
         (first | rw [← Ny528.out] at ho47 | (simp only [Int.reduceToNat] at ho47; rw [← Ny528.out] at ho47))
         have n0_ := Aside0.mk (Kd.R_elder' (kR HO_8) (Kd.R_base ho47) hb)
         have n1_ := Aside0.mk (Kd.R_elder' (kR HO_49) (Kd.R_base ho47) hb)
         have n2_ := Aside0.mk (Kd.R_elder' (kR HO527) (Kd.R_base ho47) hb)
         have n3_ := Aside0.mk (Kd.R_lower (Kd.R_new' (Kd.R_new' (Kd.R_new' ho47 (Kd.R_lt (kR HO_8))) (Kd.R_lt (kR HO_49))) (Kd.R_lt (kR HO527))) (below_size bG))
         have n4_ := Aside0.mk (blk_below (g := gb507) (o := .cells #[.int .i64 a0_0, .int .i64 a0_1] 25 (0, 0)) bK hb)
         have n5_ := Aside0.mk (below_step bG hb)
         clear HO_8
         clear HO_49
         clear HO527
         clear BK507
         clear HB
         have HO_8 := n0_
         have HO_49 := n1_
         have HO527 := n2_
         have HO530 := n3_
         have BK507 := n4_
         have HB := n5_
         clear n0_ n1_ n2_ n3_ n4_ n5_
         clear hb ho47
         refine hK.out _ _ ⟨(blk_cell BK507.out 0).trans rfl, (blk_cell BK507.out 1).trans rfl⟩ (fun hHeld => ?_)
         clear hK K
         refine nU (some 63) ?_
         exact norm_ (by simp only [putAll, Act.put, List.setIfInBounds_toArray, List.set_cons_zero, List.set_cons_succ]) (hCont (v526, v529) _ ⟨hHeld, (by (with_reducible repeat (first | apply Kd.R_alloc | apply Kd.R_drewN | apply Kd.R_drew)); exact Kd.R_mono HO527.out (fun _ hk => ⟨hk.2, ⟨hk.1.2, hk.1.1.2⟩⟩)), (by (with_reducible repeat (first | apply Kd.R_alloc | apply Kd.R_drewN | apply Kd.R_drew)); exact Kd.R_mono HO530.out (fun _ hk => ⟨hk.2, ⟨hk.1.2, hk.1.1.2⟩⟩)), (by (with_reducible repeat (first | apply Kd.R_alloc | apply Kd.R_drewN | apply Kd.R_drew)); exact Kd.R_mono HO_49.out (fun _ hk => ⟨hk.1.2, ⟨hk.2, hk.1.1⟩⟩)), (by (with_reducible repeat (first | apply Kd.R_alloc | apply Kd.R_drewN | apply Kd.R_drew)); exact Kd.R_mono HO_8.out (fun _ hk => ⟨hk.1.2, ⟨hk.2, hk.1.1⟩⟩)), bK, bG⟩)
        ·skip
         refine Kd.R_lit_step Kd.string _ 9 ?hg (N := 63) ?hd (xs := ([rdOf ByteArray.empty t519 x51_1] : List ByteArray)) (inner := [.string (rdOf ByteArray.empty t519 x51_1)]) (ok := fun _ => True) (okp := fun _ => True) ?hr ?hp (fun _ hk => hk) trivial (Below.refl _ _) (Nat.le_refl _) (by simp) ?_; (case hd => rfl); (case hg => rfl); (case hr => first | (go_simp; done) | (go_simp; rfl)); (case hp => exact (Reps.one (show Kd.M Kd.string _ _ _ (rdOf ByteArray.empty t519 x51_1) [.string (rdOf ByteArray.empty t519 x51_1)] from rfl) (Reps.none _ _)))
         intro v529 w45 ho46 hb hg_ hnew_
         clear hg_ hnew_
         (first | rw [← Ny528.out] at ho46 | (simp only [Int.reduceToNat] at ho46; rw [← Ny528.out] at ho46))
         have n0_ := Aside0.mk (Kd.R_elder' (kR HO_8) (Kd.R_base ho46) hb)
         have n1_ := Aside0.mk (Kd.R_elder' (kR HO_49) (Kd.R_base ho46) hb)
         have n2_ := Aside0.mk (Kd.R_lower (Kd.R_new' (Kd.R_new' ho46 (Kd.R_lt (kR HO_8))) (Kd.R_lt (kR HO_49))) (below_size bG))
         have n3_ := Aside0.mk (blk_below (g := gb507) (o := .cells #[.int .i64 a0_0, .int .i64 a0_1] 25 (0, 0)) bK hb)
         have n4_ := Aside0.mk (below_step bG hb)
         clear HO_8
         clear HO_49
         clear BK507
         clear HB
         have HO_8 := n0_
         have HO_49 := n1_
         have HO530 := n2_
         have BK507 := n3_
         have HB := n4_
         clear n0_ n1_ n2_ n3_ n4_
         clear hb ho46
         refine hK.out _ _ ⟨(blk_cell BK507.out 0).trans rfl, (blk_cell BK507.out 1).trans rfl⟩ (fun hHeld => ?_)
         clear hK K
         refine nU (some 63) ?_
         refine oU (i := 2) (N := some 61) (fun K hK => ?_)
         refine goes_ Tryz.func79 (by kernel_rfl) rfl #[.slice (some ad518) l1.length c1] (by rfl) rfl rfl lM ?_
         with_reducible refine (spec_l1OwnS.calls _ _ l1 t525 _ ?side1 ?side2 A40.out).mono ?_
         (case side1 => exact cS (Kd.C_below HR1.out HB.out))
         (case side2 => exact HC1.out)
         rintro e w47 ⟨v526, rfl, ho0, hb⟩
         refine ⟨_, rfl, ?_⟩
         have n0_ := Aside0.mk (Kd.R_elder' (kR HO_8) (Kd.R_base ho0) hb)
         have n1_ := Aside0.mk (Kd.R_elder' (kR HO_49) (Kd.R_base ho0) hb)
         have n2_ := Aside0.mk (Kd.R_elder' (kR HO530) (Kd.R_base ho0) hb)
         have n3_ := Aside0.mk (Kd.R_lower (Kd.R_new' (Kd.R_new' (Kd.R_new' ho0 (Kd.R_lt (kR HO_8))) (Kd.R_lt (kR HO_49))) (Kd.R_lt (kR HO530))) (below_size bG))
         have n4_ := Aside0.mk (blk_below (g := gb507) (o := .cells #[.int .i64 a0_0, .int .i64 a0_1] 25 (0, 0)) bK hb)
         have n5_ := Aside0.mk (below_step bG hb)
         clear HO_8
         clear HO_49
         clear HO530
         clear BK507
         clear HB
         have HO_8 := n0_
         have HO_49 := n1_
         have HO530 := n2_
         have HO527 := n3_
         have BK507 := n4_
         have HB := n5_
         clear n0_ n1_ n2_ n3_ n4_ n5_
         (try clear hb)
         (try clear hk)
         (try clear ho0)
         refine hK.out _ _ ⟨(blk_cell BK507.out 0).trans rfl, (blk_cell BK507.out 1).trans rfl⟩ (fun hHeld => ?_)
         clear hK K
         refine nU (some 61) ?_
         exact norm_ (by simp only [putAll, Act.put, List.setIfInBounds_toArray, List.set_cons_zero, List.set_cons_succ]) (hCont (v526, v529) _ ⟨hHeld, (by (with_reducible repeat (first | apply Kd.R_alloc | apply Kd.R_drewN | apply Kd.R_drew)); exact Kd.R_mono HO527.out (fun _ hk => ⟨hk.2, ⟨hk.1.2, hk.1.1.2⟩⟩)), (by (with_reducible repeat (first | apply Kd.R_alloc | apply Kd.R_drewN | apply Kd.R_drew)); exact Kd.R_mono HO530.out (fun _ hk => ⟨hk.2, ⟨hk.1.2, hk.1.1.2⟩⟩)), (by (with_reducible repeat (first | apply Kd.R_alloc | apply Kd.R_drewN | apply Kd.R_drew)); exact Kd.R_mono HO_49.out (fun _ hk => ⟨hk.2, ⟨hk.1.2, hk.1.1⟩⟩)), (by (with_reducible repeat (first | apply Kd.R_alloc | apply Kd.R_drewN | apply Kd.R_drew)); exact Kd.R_mono HO_8.out (fun _ hk => ⟨hk.2, ⟨hk.1.2, hk.1.1⟩⟩)), bK, bG⟩)
       rintro ⟨v526, v529⟩ w48 ⟨hS_, h0_, h1_, h2_, h3_, h4_, h5_⟩
       have n0_ : Aside0 (Kd.R Kd.string 9 w48 w.heap.size (fun k_ => some k_ ≠ (v529 : Value).ownBlock ∧ some k_ ≠ (.slice (some ad523) t519.length co34 : Value).ownBlock ∧ some k_ ≠ (u8 : Value).ownBlock) v526 t525) := ⟨h0_⟩
       have n1_ : Aside0 (Kd.R Kd.string 9 w48 w.heap.size (fun k_ => some k_ ≠ (v526 : Value).ownBlock ∧ some k_ ≠ (.slice (some ad523) t519.length co34 : Value).ownBlock ∧ some k_ ≠ (u8 : Value).ownBlock) v529 y528) := ⟨h1_⟩
       have n2_ : Aside0 (Kd.R Kd.string 9 w48 w.heap.size (fun k_ => some k_ ≠ (v526 : Value).ownBlock ∧ some k_ ≠ (v529 : Value).ownBlock ∧ some k_ ≠ (u8 : Value).ownBlock) (.slice (some ad523) t519.length co34) t519) := ⟨h2_⟩
       have n3_ : Aside0 (Kd.R Kd.string 9 w48 w.heap.size (fun k_ => some k_ ≠ (v526 : Value).ownBlock ∧ some k_ ≠ (v529 : Value).ownBlock ∧ some k_ ≠ (.slice (some ad523) t519.length co34 : Value).ownBlock) u8 x8_1) := ⟨h3_⟩
       have n4_ : Aside0 (w48.heap[gb507]? = some (.cells #[.int .i64 a0_0, .int .i64 a0_1] 25 (0, 0))) := ⟨h4_⟩
       have n5_ : Aside0 (Below w.heap.size w w48) := ⟨h5_⟩
       clear HO_8
       clear HO_49
       clear BK507
       clear HB
       clear h0_ h1_ h2_ h3_ h4_ h5_
       have HO527 := n0_
       have HO530 := n1_
       have HO_49 := n2_
       have HO_8 := n3_
       have BK507 := n4_
       have HB := n5_
       clear n0_ n1_ n2_ n3_ n4_ n5_
       have hHeld : w48.cell? ⟨gb507, 0, none⟩ = some (.int .i64 a0_0) ∧ w48.cell? ⟨gb507, 1, none⟩ = some (.int .i64 a0_1) := hS_
       obtain ⟨Ao50, co50, eo50⟩ := Kd.R_slice HO530.out
       (first | subst eo50 | (injection eo50 with f1_ f2_ f3_; have f4_ := f1_.symm; have f5_ := f3_.symm; clear f1_ f2_ f3_; subst f4_; subst f5_))
       refine nV ?_
       refine oU (i := 5) (N := some 64) (fun K hK => ?_)
       refine Kd.R_append_rows_step Kd.string (w0 := w) w.heap.size (by rfl) (.tmp 61) (.tmp 63) 26 9 (.string ⟨#[]⟩) 16 rfl Tryz.underlying26 info9 rfl (by decide) (by omega) v526 t525 y528 _ _ _ (fun k_ => some k_ ≠ (u8 : Value).ownBlock ∧ some k_ ≠ (.slice (some ad523) t519.length co34 : Value).ownBlock ∧ some k_ ≠ (.slice Ao50 y528.length co50 : Value).ownBlock) (fun _ => False) rfl rfl ?aO ?aR (fun _ _ h => h) (fun _ h => h.elim) ?aF ?aB ?aS ?aL ?_
       (case aR => exact cS ((Kd.R_reads' HO530.out).2.2))
       (case aB => exact bG)
       (case aF => exact (fun k_ hk => ⟨Kd.fresh' (Kd.R_lt (kR HO_8)) k_ hk, Kd.fresh' (Kd.R_lt (kR HO_49)) k_ hk, Kd.fresh' (Kd.R_lt (kR HO530)) k_ hk⟩))
       (case aO => exact (by (with_reducible repeat (first | apply Kd.R_alloc | apply Kd.R_drewN | apply Kd.R_drew)); exact Kd.R_mono HO527.out (fun _ hk => ⟨hk.2.2, ⟨hk.2.1, hk.1⟩⟩)))
       (case aS => exact (below_size bG))
       (case aL => have := LMc41.out; omega)
       intro v532 w49 ho hb hg hat
       rw [← Ny531.out] at ho
       have n0_ := Aside0.mk (Kd.R_after (ok := (fun k_ => some k_ ≠ (.slice (some ad523) t519.length co34 : Value).ownBlock ∧ some k_ ≠ (.slice Ao50 y528.length co50 : Value).ownBlock)) (by (with_reducible repeat (first | apply Kd.R_alloc | apply Kd.R_drewN | apply Kd.R_drew)); exact Kd.R_mono HO_8.out (fun _ hk => ⟨⟨hk.2.2, hk.2.1⟩, hk.1⟩)) hg hat)
       have n1_ := Aside0.mk (Kd.R_after (ok := (fun k_ => some k_ ≠ (u8 : Value).ownBlock ∧ some k_ ≠ (.slice Ao50 y528.length co50 : Value).ownBlock)) (by (with_reducible repeat (first | apply Kd.R_alloc | apply Kd.R_drewN | apply Kd.R_drew)); exact Kd.R_mono HO_49.out (fun _ hk => ⟨⟨hk.2.2, hk.2.1⟩, hk.1⟩)) hg hat)
       have n2_ := Aside0.mk (blk_grown (g := gb507) (o := .cells #[.int .i64 a0_0, .int .i64 a0_1] 25 (0, 0)) bK hg (Kd.R_ne HO527.out BK507.out (by decide)))
       have n3_ := Aside0.mk (Kd.R_after (ok := (fun k_ => some k_ ≠ (u8 : Value).ownBlock ∧ some k_ ≠ (.slice (some ad523) t519.length co34 : Value).ownBlock)) (by (with_reducible repeat (first | apply Kd.R_alloc | apply Kd.R_drewN | apply Kd.R_drew)); exact Kd.R_mono HO530.out (fun _ hk => ⟨⟨hk.2.2, hk.2.1⟩, hk.1⟩)) hg hat)
       have n4_ := Aside0.mk (hb)
       have n5_ := Aside0.mk (ho)
       clear HO_8
       clear HO_49
       clear BK507
       clear HO530
       clear HB
       clear HO527
       have HO_8 := n0_
       have HO_49 := n1_
       have BK507 := n2_
       have HO530 := n3_
       have HB := n4_
       have HO533 := n5_
       clear n0_ n1_ n2_ n3_ n4_ n5_
       clear ho hb hg hat
       obtain ⟨Ao51, co51, eo51⟩ := Kd.R_slice HO533.out
       (first | subst eo51 | (injection eo51 with f1_ f2_ f3_; have f4_ := f1_.symm; have f5_ := f3_.symm; clear f1_ f2_ f3_; subst f4_; subst f5_))
       refine hK.out _ _ ⟨(blk_cell BK507.out 0).trans rfl, (blk_cell BK507.out 1).trans rfl⟩ (fun hHeld => ?_)
       clear hK K
       refine nU (some 64) ?_
       refine oU (i := 6) (N := some 65) (fun K hK => ?_)
       refine goes_ Tryz.func49 (by kernel_rfl) rfl #[.agg #[.int .i64 a0_0, .int .i64 a0_1], .slice Ao51 y531.length co51] (by rfl) rfl rfl lM ?_
       with_reducible refine (ih k1 (by have := HK1.out; omega) a0_0 a0_1 _ _ y531 t534 t537 t538 _ ?side1 ?side2 A42.out).mono ?_
       (case side1 => exact cS ((Kd.R_reads' HO533.out).2.2))
       (case side2 => exact (Kd.R_reads' HO533.out).2.1)
       rintro e w52 ⟨v535, rfl, ho0, hb⟩
       refine ⟨_, rfl, ?_⟩
       have n0_ := Aside0.mk (Kd.R_elder' (kR HO_8) (Kd.R_base ho0) hb)
       have n1_ := Aside0.mk (Kd.R_elder' (kR HO_49) (Kd.R_base ho0) hb)
       have n2_ := Aside0.mk (Kd.R_elder' (kR HO530) (Kd.R_base ho0) hb)
       have n3_ := Aside0.mk (Kd.R_elder' (kR HO533) (Kd.R_base ho0) hb)
       have n4_ := Aside0.mk (Kd.R_lower (Kd.R_new' (Kd.R_new' (Kd.R_new' (Kd.R_new' ho0 (Kd.R_lt (kR HO_8))) (Kd.R_lt (kR HO_49))) (Kd.R_lt (kR HO530))) (Kd.R_lt (kR HO533))) (below_size bG))
       have n5_ := Aside0.mk (blk_below (g := gb507) (o := .cells #[.int .i64 a0_0, .int .i64 a0_1] 25 (0, 0)) bK hb)
       have n6_ := Aside0.mk (below_step bG hb)
       clear HO_8
       clear HO_49
       clear HO530
       clear HO533
       clear BK507
       clear HB
       have HO_8 := n0_
       have HO_49 := n1_
       have HO530 := n2_
       have HO533 := n3_
       have HO536 := n4_
       have BK507 := n5_
       have HB := n6_
       clear n0_ n1_ n2_ n3_ n4_ n5_ n6_
       (try clear hb)
       (try clear hk)
       (try clear ho0)
       refine hK.out _ _ ⟨(blk_cell BK507.out 0).trans rfl, (blk_cell BK507.out 1).trans rfl⟩ (fun hHeld => ?_)
       clear hK K
       refine nU (some 65) ?_
       refine pU (i := 7) (N := some 58) ?_
       refine pU (i := 8) (N := some 66) ?_
       refine pU (i := 9) (N := some 67) ?_
       refine pU (i := 10) (N := some 68) ?_
       refine pU (i := 11) (N := some 15) ?_
       refine pU (i := 12) (N := some 16) ?_
       refine pU (i := 13) (N := some 17) ?_
       refine done_ (done_of HT_.out (by kernel_rfl)) ?_
       try go_wp2
       go_roundg k1
       case measure => have := HK1.out; omega
       case rel => exact ⟨(t534), (wrap64 (x9_1 + t537)), (wrap64 (x10_1 + t538)), (wrap64 (x51_1 + 1)), fR, fR, fR, H', ⟨by have := HK1.out; omega⟩, ⟨by (with_reducible repeat (first | apply Kd.R_alloc | apply Kd.R_drewN | apply Kd.R_drew)); exact Kd.R_mono HO536.out (fun _ hk => hk.1.1.2)⟩, ⟨by (with_reducible repeat (first | apply Kd.R_alloc | apply Kd.R_drewN | apply Kd.R_drew)); exact Kd.R_mono HO_49.out (fun _ hk => hk.2)⟩, ⟨bK⟩, ⟨bG⟩⟩
      ·rw [if_neg c43] at H
       have c43b0 : (x9_1 == 0) = false := beq_eq_false_iff_ne.mpr c43
       have c43b1 : (x9_1 != 0) = true := bne_iff_ne.mpr c43
       have H' := Aside0.mk H
       clear H
       have p523 : 0 ≤ (x51_1 : Int) := oD
       have q523 : x51_1 < (t519.length : Int) := oD
       obtain ⟨ad523, e523, hx523_0⟩ := Kd.at_string (Kd.R_reads' HO_49.out).2.2 x51_1 p523 q523
       cases e523
       replace p523 := eq_true p523
       replace q523 := eq_true q523
       try go_wp2_with (first | ((with_reducible refine gate_callee (f := 81) rfl ?_); refine goesL_ (some 57) rfl rfl Tryz.func81 (by kernel_rfl) rfl #[.slice (some ad518) l1.length c1, .string (rdOf ByteArray.empty t519 x51_1)] rfl lM ?_; (with_reducible refine (spec_l1HasS.calls k1 _ _ l1 (rdOf ByteArray.empty t519 x51_1) false _ ?side1 ?side2 A38.out).mono ?_); (case side1 => exact cS (Kd.C_below HR1.out HB.out)); (case side2 => exact HC1.out); rintro e w' ⟨rfl, ⟨nd, rfl⟩⟩; refine ⟨_, rfl, ?_⟩))
       (try (rw [drewN_self wr]; generalize hq_ : World.drewN wr _ = wr; have n0_ : Aside0 (Kd.R Kd.string 9 wr w.heap.size (fun k_ => some k_ ≠ (u8 : Value).ownBlock) (.slice (some ad523) t519.length co34) t519) := ⟨by rw [← hq_]; exact (kR HO_49)⟩; have n1_ : Aside0 (Kd.R Kd.string 9 wr w.heap.size (fun k_ => some k_ ≠ (.slice (some ad523) t519.length co34 : Value).ownBlock) u8 x8_1) := ⟨by rw [← hq_]; exact (kR HO_8)⟩; have n2_ : Aside0 (wr.heap[gb507]? = some (.cells #[.int .i64 a0_0, .int .i64 a0_1] 25 (0, 0))) := ⟨by rw [← hq_]; exact bK⟩; have n3_ : Aside0 (Below w.heap.size w wr) := ⟨by rw [← hq_]; exact bG⟩; clear HO_49 HO_8 BK507 HB hq_; have HO_49 := n0_; have HO_8 := n1_; have BK507 := n2_; have HB := n3_; clear n0_ n1_ n2_ n3_))
       have n0_ := Aside0.mk (Kd.R_drew HO_8.out)
       have n1_ := Aside0.mk (Kd.R_drew HO_49.out)
       have n2_ := Aside0.mk (blk_drew BK507.out)
       have n3_ := Aside0.mk (below_drew1 HB.out)
       clear HO_8
       clear HO_49
       clear BK507
       clear HB
       have HO_8 := n0_
       have HO_49 := n1_
       have BK507 := n2_
       have HB := n3_
       clear n0_ n1_ n2_ n3_
       refine start_ (n := 14) (S := fun w' => w'.cell? ⟨gb507, 0, none⟩ = some (.int .i64 a0_0) ∧ w'.cell? ⟨gb507, 1, none⟩ = some (.int .i64 a0_1)) (ds := []) #[false, false, false, false, false, false, false, false, false, false, false, false, false, false] (by kernel_rfl) rfl rfl ⟨(blk_cell BK507.out 0).trans rfl, (blk_cell BK507.out 1).trans rfl⟩ (fun hHeld => ?_); refine with_tabW spec_orSearch.tab13 spec_orSearch.bits13 (fun HT_ HW_ => ?_)
       generalize wr.drew = w53 at HO_8 HO_49 BK507 HB hHeld ⊢
       refine pU (i := 1) (N := some 60) ?_
       refine pU (i := 3) (N := some 62) ?_
       refine tU2 (i := 0) (N := some 59) ?_
       refine join_ (σ := Value × Value) 9 #[true, true, true, true, true, false, false, false, false, false, false, false, false, false] (fun s_ => [(61, s_.1), (63, s_.2)]) (fun s_ w' => (w'.cell? ⟨gb507, 0, none⟩ = some (.int .i64 a0_0) ∧ w'.cell? ⟨gb507, 1, none⟩ = some (.int .i64 a0_1)) ∧ (Kd.R Kd.string 9 w' w.heap.size (fun k_ => some k_ ≠ (s_.2 : Value).ownBlock ∧ some k_ ≠ (.slice (some ad523) t519.length co34 : Value).ownBlock ∧ some k_ ≠ (u8 : Value).ownBlock) s_.1 t525) ∧ (Kd.R Kd.string 9 w' w.heap.size (fun k_ => some k_ ≠ (s_.1 : Value).ownBlock ∧ some k_ ≠ (.slice (some ad523) t519.length co34 : Value).ownBlock ∧ some k_ ≠ (u8 : Value).ownBlock) s_.2 y528) ∧ (Kd.R Kd.string 9 w' w.heap.size (fun k_ => some k_ ≠ (s_.1 : Value).ownBlock ∧ some k_ ≠ (s_.2 : Value).ownBlock ∧ some k_ ≠ (u8 : Value).ownBlock) (.slice (some ad523) t519.length co34) t519) ∧ (Kd.R Kd.string 9 w' w.heap.size (fun k_ => some k_ ≠ (s_.1 : Value).ownBlock ∧ some k_ ≠ (s_.2 : Value).ownBlock ∧ some k_ ≠ (.slice (some ad523) t519.length co34 : Value).ownBlock) u8 x8_1) ∧ (w'.heap[gb507]? = some (.cells #[.int .i64 a0_0, .int .i64 a0_1] 25 (0, 0))) ∧ (Below w.heap.size w w')) ?_ ?_
       rotate_left
       ·intro hCont
        refine two_ (i := 2) (j := 4) (Ni := some 61) (Nj := some 63) #[true, true, true, true, false, false, false, false, false, false, false, false, false, false] #[true, true, false, true, true, false, false, false, false, false, false, false, false, false] rfl rfl rfl rfl (two_of HT_.out (by kernel_rfl)) (by decide) (by decide) (fun K hK => ?_) (fun K hK => ?_)
        ·skip
         refine goes_ Tryz.func79 (by kernel_rfl) rfl #[.slice (some ad518) l1.length c1] (by rfl) rfl rfl lM ?_
         with_reducible refine (spec_l1OwnS.calls _ _ l1 t525 _ ?side1 ?side2 A40.out).mono ?_
         (case side1 => exact cS (Kd.C_below HR1.out HB.out))
         (case side2 => exact HC1.out)
         rintro e w54 ⟨v526, rfl, ho0, hb⟩
         refine ⟨_, rfl, ?_⟩
         have n0_ := Aside0.mk (Kd.R_elder' (kR HO_8) (Kd.R_base ho0) hb)
         have n1_ := Aside0.mk (Kd.R_elder' (kR HO_49) (Kd.R_base ho0) hb)
         have n2_ := Aside0.mk (Kd.R_lower (Kd.R_new' (Kd.R_new' ho0 (Kd.R_lt (kR HO_8))) (Kd.R_lt (kR HO_49))) (below_size bG))
         have n3_ := Aside0.mk (blk_below (g := gb507) (o := .cells #[.int .i64 a0_0, .int .i64 a0_1] 25 (0, 0)) bK hb)
         have n4_ := Aside0.mk (below_step bG hb)
         clear HO_8
         clear HO_49
         clear BK507
         clear HB
         have HO_8 := n0_
         have HO_49 := n1_
         have HO527 := n2_
         have BK507 := n3_
         have HB := n4_
         clear n0_ n1_ n2_ n3_ n4_
         (try clear hb)
         (try clear hk)
         (try clear ho0)
         refine hK.out _ _ ⟨(blk_cell BK507.out 0).trans rfl, (blk_cell BK507.out 1).trans rfl⟩ (fun hHeld => ?_)
         clear hK K
         refine nU (some 61) ?_
         refine oU (i := 4) (N := some 63) (fun K hK => ?_)
         refine Kd.R_lit_step Kd.string _ 9 ?hg (N := 63) ?hd (xs := ([rdOf ByteArray.empty t519 x51_1] : List ByteArray)) (inner := [.string (rdOf ByteArray.empty t519 x51_1)]) (ok := fun _ => True) (okp := fun _ => True) ?hr ?hp (fun _ hk => hk) trivial (Below.refl _ _) (Nat.le_refl _) (by simp) ?_; (case hd => rfl); (case hg => rfl); (case hr => first | (go_simp; done) | (go_simp; rfl)); (case hp => exact (Reps.one (show Kd.M Kd.string _ _ _ (rdOf ByteArray.empty t519 x51_1) [.string (rdOf ByteArray.empty t519 x51_1)] from rfl) (Reps.none _ _)))
         intro v529 w55 ho56 hb hg_ hnew_
         clear hg_ hnew_
         (first | rw [← Ny528.out] at ho56 | (simp only [Int.reduceToNat] at ho56; rw [← Ny528.out] at ho56))
         have n0_ := Aside0.mk (Kd.R_elder' (kR HO_8) (Kd.R_base ho56) hb)
         have n1_ := Aside0.mk (Kd.R_elder' (kR HO_49) (Kd.R_base ho56) hb)
         have n2_ := Aside0.mk (Kd.R_elder' (kR HO527) (Kd.R_base ho56) hb)
         have n3_ := Aside0.mk (Kd.R_lower (Kd.R_new' (Kd.R_new' (Kd.R_new' ho56 (Kd.R_lt (kR HO_8))) (Kd.R_lt (kR HO_49))) (Kd.R_lt (kR HO527))) (below_size bG))
         have n4_ := Aside0.mk (blk_below (g := gb507) (o := .cells #[.int .i64 a0_0, .int .i64 a0_1] 25 (0, 0)) bK hb)
         have n5_ := Aside0.mk (below_step bG hb)
         clear HO_8
         clear HO_49
         clear HO527
         clear BK507
         clear HB
         have HO_8 := n0_
         have HO_49 := n1_
         have HO527 := n2_
         have HO530 := n3_
         have BK507 := n4_
         have HB := n5_
         clear n0_ n1_ n2_ n3_ n4_ n5_
         clear hb ho56
         refine hK.out _ _ ⟨(blk_cell BK507.out 0).trans rfl, (blk_cell BK507.out 1).trans rfl⟩ (fun hHeld => ?_)
         clear hK K
         refine nU (some 63) ?_
         exact norm_ (by simp only [putAll, Act.put, List.setIfInBounds_toArray, List.set_cons_zero, List.set_cons_succ]) (hCont (v526, v529) _ ⟨hHeld, (by (with_reducible repeat (first | apply Kd.R_alloc | apply Kd.R_drewN | apply Kd.R_drew)); exact Kd.R_mono HO527.out (fun _ hk => ⟨hk.2, ⟨hk.1.2, hk.1.1.2⟩⟩)), (by (with_reducible repeat (first | apply Kd.R_alloc | apply Kd.R_drewN | apply Kd.R_drew)); exact Kd.R_mono HO530.out (fun _ hk => ⟨hk.2, ⟨hk.1.2, hk.1.1.2⟩⟩)), (by (with_reducible repeat (first | apply Kd.R_alloc | apply Kd.R_drewN | apply Kd.R_drew)); exact Kd.R_mono HO_49.out (fun _ hk => ⟨hk.1.2, ⟨hk.2, hk.1.1⟩⟩)), (by (with_reducible repeat (first | apply Kd.R_alloc | apply Kd.R_drewN | apply Kd.R_drew)); exact Kd.R_mono HO_8.out (fun _ hk => ⟨hk.1.2, ⟨hk.2, hk.1.1⟩⟩)), bK, bG⟩)
        ·skip
         refine Kd.R_lit_step Kd.string _ 9 ?hg (N := 63) ?hd (xs := ([rdOf ByteArray.empty t519 x51_1] : List ByteArray)) (inner := [.string (rdOf ByteArray.empty t519 x51_1)]) (ok := fun _ => True) (okp := fun _ => True) ?hr ?hp (fun _ hk => hk) trivial (Below.refl _ _) (Nat.le_refl _) (by simp) ?_; (case hd => rfl); (case hg => rfl); (case hr => first | (go_simp; done) | (go_simp; rfl)); (case hp => exact (Reps.one (show Kd.M Kd.string _ _ _ (rdOf ByteArray.empty t519 x51_1) [.string (rdOf ByteArray.empty t519 x51_1)] from rfl) (Reps.none _ _)))
         intro v529 w54 ho55 hb hg_ hnew_
         clear hg_ hnew_
         (first | rw [← Ny528.out] at ho55 | (simp only [Int.reduceToNat] at ho55; rw [← Ny528.out] at ho55))
         have n0_ := Aside0.mk (Kd.R_elder' (kR HO_8) (Kd.R_base ho55) hb)
         have n1_ := Aside0.mk (Kd.R_elder' (kR HO_49) (Kd.R_base ho55) hb)
         have n2_ := Aside0.mk (Kd.R_lower (Kd.R_new' (Kd.R_new' ho55 (Kd.R_lt (kR HO_8))) (Kd.R_lt (kR HO_49))) (below_size bG))
         have n3_ := Aside0.mk (blk_below (g := gb507) (o := .cells #[.int .i64 a0_0, .int .i64 a0_1] 25 (0, 0)) bK hb)
         have n4_ := Aside0.mk (below_step bG hb)
         clear HO_8
         clear HO_49
         clear BK507
         clear HB
         have HO_8 := n0_
         have HO_49 := n1_
         have HO530 := n2_
         have BK507 := n3_
         have HB := n4_
         clear n0_ n1_ n2_ n3_ n4_
         clear hb ho55
         refine hK.out _ _ ⟨(blk_cell BK507.out 0).trans rfl, (blk_cell BK507.out 1).trans rfl⟩ (fun hHeld => ?_)
         clear hK K
         refine nU (some 63) ?_
         refine oU (i := 2) (N := some 61) (fun K hK => ?_)
         refine goes_ Tryz.func79 (by kernel_rfl) rfl #[.slice (some ad518) l1.length c1] (by rfl) rfl rfl lM ?_
         with_reducible refine (spec_l1OwnS.calls _ _ l1 t525 _ ?side1 ?side2 A40.out).mono ?_
         (case side1 => exact cS (Kd.C_below HR1.out HB.out))
         (case side2 => exact HC1.out)
         rintro e w56 ⟨v526, rfl, ho0, hb⟩
         refine ⟨_, rfl, ?_⟩
         have n0_ := Aside0.mk (Kd.R_elder' (kR HO_8) (Kd.R_base ho0) hb)
         have n1_ := Aside0.mk (Kd.R_elder' (kR HO_49) (Kd.R_base ho0) hb)
         have n2_ := Aside0.mk (Kd.R_elder' (kR HO530) (Kd.R_base ho0) hb)
         have n3_ := Aside0.mk (Kd.R_lower (Kd.R_new' (Kd.R_new' (Kd.R_new' ho0 (Kd.R_lt (kR HO_8))) (Kd.R_lt (kR HO_49))) (Kd.R_lt (kR HO530))) (below_size bG))
         have n4_ := Aside0.mk (blk_below (g := gb507) (o := .cells #[.int .i64 a0_0, .int .i64 a0_1] 25 (0, 0)) bK hb)
         have n5_ := Aside0.mk (below_step bG hb)
         clear HO_8
         clear HO_49
         clear HO530
         clear BK507
         clear HB
         have HO_8 := n0_
         have HO_49 := n1_
         have HO530 := n2_
         have HO527 := n3_
         have BK507 := n4_
         have HB := n5_
         clear n0_ n1_ n2_ n3_ n4_ n5_
         (try clear hb)
         (try clear hk)
         (try clear ho0)
         refine hK.out _ _ ⟨(blk_cell BK507.out 0).trans rfl, (blk_cell BK507.out 1).trans rfl⟩ (fun hHeld => ?_)
         clear hK K
         refine nU (some 61) ?_
         exact norm_ (by simp only [putAll, Act.put, List.setIfInBounds_toArray, List.set_cons_zero, List.set_cons_succ]) (hCont (v526, v529) _ ⟨hHeld, (by (with_reducible repeat (first | apply Kd.R_alloc | apply Kd.R_drewN | apply Kd.R_drew)); exact Kd.R_mono HO527.out (fun _ hk => ⟨hk.2, ⟨hk.1.2, hk.1.1.2⟩⟩)), (by (with_reducible repeat (first | apply Kd.R_alloc | apply Kd.R_drewN | apply Kd.R_drew)); exact Kd.R_mono HO530.out (fun _ hk => ⟨hk.2, ⟨hk.1.2, hk.1.1.2⟩⟩)), (by (with_reducible repeat (first | apply Kd.R_alloc | apply Kd.R_drewN | apply Kd.R_drew)); exact Kd.R_mono HO_49.out (fun _ hk => ⟨hk.2, ⟨hk.1.2, hk.1.1⟩⟩)), (by (with_reducible repeat (first | apply Kd.R_alloc | apply Kd.R_drewN | apply Kd.R_drew)); exact Kd.R_mono HO_8.out (fun _ hk => ⟨hk.2, ⟨hk.1.2, hk.1.1⟩⟩)), bK, bG⟩)
       rintro ⟨v526, v529⟩ w57 ⟨hS_, h0_, h1_, h2_, h3_, h4_, h5_⟩
       have n0_ : Aside0 (Kd.R Kd.string 9 w57 w.heap.size (fun k_ => some k_ ≠ (v529 : Value).ownBlock ∧ some k_ ≠ (.slice (some ad523) t519.length co34 : Value).ownBlock ∧ some k_ ≠ (u8 : Value).ownBlock) v526 t525) := ⟨h0_⟩
       have n1_ : Aside0 (Kd.R Kd.string 9 w57 w.heap.size (fun k_ => some k_ ≠ (v526 : Value).ownBlock ∧ some k_ ≠ (.slice (some ad523) t519.length co34 : Value).ownBlock ∧ some k_ ≠ (u8 : Value).ownBlock) v529 y528) := ⟨h1_⟩
       have n2_ : Aside0 (Kd.R Kd.string 9 w57 w.heap.size (fun k_ => some k_ ≠ (v526 : Value).ownBlock ∧ some k_ ≠ (v529 : Value).ownBlock ∧ some k_ ≠ (u8 : Value).ownBlock) (.slice (some ad523) t519.length co34) t519) := ⟨h2_⟩
       have n3_ : Aside0 (Kd.R Kd.string 9 w57 w.heap.size (fun k_ => some k_ ≠ (v526 : Value).ownBlock ∧ some k_ ≠ (v529 : Value).ownBlock ∧ some k_ ≠ (.slice (some ad523) t519.length co34 : Value).ownBlock) u8 x8_1) := ⟨h3_⟩
       have n4_ : Aside0 (w57.heap[gb507]? = some (.cells #[.int .i64 a0_0, .int .i64 a0_1] 25 (0, 0))) := ⟨h4_⟩
       have n5_ : Aside0 (Below w.heap.size w w57) := ⟨h5_⟩
       clear HO_8
       clear HO_49
       clear BK507
       clear HB
       clear h0_ h1_ h2_ h3_ h4_ h5_
       have HO527 := n0_
       have HO530 := n1_
       have HO_49 := n2_
       have HO_8 := n3_
       have BK507 := n4_
       have HB := n5_
       clear n0_ n1_ n2_ n3_ n4_ n5_
       have hHeld : w57.cell? ⟨gb507, 0, none⟩ = some (.int .i64 a0_0) ∧ w57.cell? ⟨gb507, 1, none⟩ = some (.int .i64 a0_1) := hS_
       obtain ⟨Ao59, co59, eo59⟩ := Kd.R_slice HO530.out
       (first | subst eo59 | (injection eo59 with f1_ f2_ f3_; have f4_ := f1_.symm; have f5_ := f3_.symm; clear f1_ f2_ f3_; subst f4_; subst f5_))
       refine nV ?_
       refine oU (i := 5) (N := some 64) (fun K hK => ?_)
       refine Kd.R_append_rows_step Kd.string (w0 := w) w.heap.size (by rfl) (.tmp 61) (.tmp 63) 26 9 (.string ⟨#[]⟩) 16 rfl Tryz.underlying26 info9 rfl (by decide) (by omega) v526 t525 y528 _ _ _ (fun k_ => some k_ ≠ (u8 : Value).ownBlock ∧ some k_ ≠ (.slice (some ad523) t519.length co34 : Value).ownBlock ∧ some k_ ≠ (.slice Ao59 y528.length co59 : Value).ownBlock) (fun _ => False) rfl rfl ?aO ?aR (fun _ _ h => h) (fun _ h => h.elim) ?aF ?aB ?aS ?aL ?_
       (case aR => exact cS ((Kd.R_reads' HO530.out).2.2))
       (case aB => exact bG)
       (case aF => exact (fun k_ hk => ⟨Kd.fresh' (Kd.R_lt (kR HO_8)) k_ hk, Kd.fresh' (Kd.R_lt (kR HO_49)) k_ hk, Kd.fresh' (Kd.R_lt (kR HO530)) k_ hk⟩))
       (case aO => exact (by (with_reducible repeat (first | apply Kd.R_alloc | apply Kd.R_drewN | apply Kd.R_drew)); exact Kd.R_mono HO527.out (fun _ hk => ⟨hk.2.2, ⟨hk.2.1, hk.1⟩⟩)))
       (case aS => exact (below_size bG))
       (case aL => have := LMc41.out; omega)
       intro v532 w58 ho hb hg hat
       rw [← Ny531.out] at ho
       have n0_ := Aside0.mk (Kd.R_after (ok := (fun k_ => some k_ ≠ (.slice (some ad523) t519.length co34 : Value).ownBlock ∧ some k_ ≠ (.slice Ao59 y528.length co59 : Value).ownBlock)) (by (with_reducible repeat (first | apply Kd.R_alloc | apply Kd.R_drewN | apply Kd.R_drew)); exact Kd.R_mono HO_8.out (fun _ hk => ⟨⟨hk.2.2, hk.2.1⟩, hk.1⟩)) hg hat)
       have n1_ := Aside0.mk (Kd.R_after (ok := (fun k_ => some k_ ≠ (u8 : Value).ownBlock ∧ some k_ ≠ (.slice Ao59 y528.length co59 : Value).ownBlock)) (by (with_reducible repeat (first | apply Kd.R_alloc | apply Kd.R_drewN | apply Kd.R_drew)); exact Kd.R_mono HO_49.out (fun _ hk => ⟨⟨hk.2.2, hk.2.1⟩, hk.1⟩)) hg hat)
       have n2_ := Aside0.mk (blk_grown (g := gb507) (o := .cells #[.int .i64 a0_0, .int .i64 a0_1] 25 (0, 0)) bK hg (Kd.R_ne HO527.out BK507.out (by decide)))
       have n3_ := Aside0.mk (Kd.R_after (ok := (fun k_ => some k_ ≠ (u8 : Value).ownBlock ∧ some k_ ≠ (.slice (some ad523) t519.length co34 : Value).ownBlock)) (by (with_reducible repeat (first | apply Kd.R_alloc | apply Kd.R_drewN | apply Kd.R_drew)); exact Kd.R_mono HO530.out (fun _ hk => ⟨⟨hk.2.2, hk.2.1⟩, hk.1⟩)) hg hat)
       have n4_ := Aside0.mk (hb)
       have n5_ := Aside0.mk (ho)
       clear HO_8
       clear HO_49
       clear BK507
       clear HO530
       clear HB
       clear HO527
       have HO_8 := n0_
       have HO_49 := n1_
       have BK507 := n2_
       have HO530 := n3_
       have HB := n4_
       have HO533 := n5_
       clear n0_ n1_ n2_ n3_ n4_ n5_
       clear ho hb hg hat
       obtain ⟨Ao60, co60, eo60⟩ := Kd.R_slice HO533.out
       (first | subst eo60 | (injection eo60 with f1_ f2_ f3_; have f4_ := f1_.symm; have f5_ := f3_.symm; clear f1_ f2_ f3_; subst f4_; subst f5_))
       refine hK.out _ _ ⟨(blk_cell BK507.out 0).trans rfl, (blk_cell BK507.out 1).trans rfl⟩ (fun hHeld => ?_)
       clear hK K
       refine nU (some 64) ?_
       refine oU (i := 6) (N := some 65) (fun K hK => ?_)
       refine goes_ Tryz.func49 (by kernel_rfl) rfl #[.agg #[.int .i64 a0_0, .int .i64 a0_1], .slice Ao60 y531.length co60] (by rfl) rfl rfl lM ?_
       with_reducible refine (ih k1 (by have := HK1.out; omega) a0_0 a0_1 _ _ y531 t534 t537 t538 _ ?side1 ?side2 A42.out).mono ?_
       (case side1 => exact cS ((Kd.R_reads' HO533.out).2.2))
       (case side2 => exact (Kd.R_reads' HO533.out).2.1)
       rintro e w61 ⟨v535, rfl, ho0, hb⟩
       refine ⟨_, rfl, ?_⟩
       have n0_ := Aside0.mk (Kd.R_elder' (kR HO_8) (Kd.R_base ho0) hb)
       have n1_ := Aside0.mk (Kd.R_elder' (kR HO_49) (Kd.R_base ho0) hb)
       have n2_ := Aside0.mk (Kd.R_elder' (kR HO530) (Kd.R_base ho0) hb)
       have n3_ := Aside0.mk (Kd.R_elder' (kR HO533) (Kd.R_base ho0) hb)
       have n4_ := Aside0.mk (Kd.R_lower (Kd.R_new' (Kd.R_new' (Kd.R_new' (Kd.R_new' ho0 (Kd.R_lt (kR HO_8))) (Kd.R_lt (kR HO_49))) (Kd.R_lt (kR HO530))) (Kd.R_lt (kR HO533))) (below_size bG))
       have n5_ := Aside0.mk (blk_below (g := gb507) (o := .cells #[.int .i64 a0_0, .int .i64 a0_1] 25 (0, 0)) bK hb)
       have n6_ := Aside0.mk (below_step bG hb)
       clear HO_8
       clear HO_49
       clear HO530
       clear HO533
       clear BK507
       clear HB
       have HO_8 := n0_
       have HO_49 := n1_
       have HO530 := n2_
       have HO533 := n3_
       have HO536 := n4_
       have BK507 := n5_
       have HB := n6_
       clear n0_ n1_ n2_ n3_ n4_ n5_ n6_
       (try clear hb)
       (try clear hk)
       (try clear ho0)
       refine hK.out _ _ ⟨(blk_cell BK507.out 0).trans rfl, (blk_cell BK507.out 1).trans rfl⟩ (fun hHeld => ?_)
       clear hK K
       refine nU (some 65) ?_
       refine pU (i := 7) (N := some 58) ?_
       refine pU (i := 8) (N := some 66) ?_
       refine pU (i := 9) (N := some 67) ?_
       refine pU (i := 10) (N := some 68) ?_
       refine pU (i := 11) (N := some 15) ?_
       refine pU (i := 12) (N := some 16) ?_
       refine pU (i := 13) (N := some 17) ?_
       refine done_ (done_of HT_.out (by kernel_rfl)) ?_
       try go_wp2
       go_roundg k1
       case measure => have := HK1.out; omega
       case rel => exact ⟨(x8_1), (wrap64 (x9_1 + t537)), (wrap64 (x10_1 + t538)), (wrap64 (x51_1 + 1)), fR, fR, fR, H', ⟨by have := HK1.out; omega⟩, ⟨by (with_reducible repeat (first | apply Kd.R_alloc | apply Kd.R_drewN | apply Kd.R_drew)); exact Kd.R_mono HO_8.out (fun _ hk => hk.1.1.1)⟩, ⟨by (with_reducible repeat (first | apply Kd.R_alloc | apply Kd.R_drewN | apply Kd.R_drew)); exact Kd.R_mono HO_49.out (fun _ hk => hk.1.1.1)⟩, ⟨bK⟩, ⟨bG⟩⟩
    ·rw [if_neg c35] at H
     have c35b0 : decide (x51_1 < (t519.length : Int)) = false := decide_eq_false c35
     clear c35
     simp only [Option.some.injEq, Prod.mk.injEq] at H
     obtain ⟨rfl, rfl, rfl⟩ := H
     go_wp2
     go_ret3
     exact ⟨_, by first | rfl | (simp [errW_none, errW_some] <;> rfl) | (simp only [← hji25]; first | rfl | (simp [errW_none, errW_some] <;> rfl)) | (simp [*, errW_none, errW_some] <;> rfl), by (with_reducible repeat (first | apply Kd.R_alloc | apply Kd.R_drewN | apply Kd.R_drew)); exact Kd.R_mono HO_8.out (fun _ hk => trivial), bG⟩

end Go.Proofs.YthpmpkmdjpaemaaGreat.P
