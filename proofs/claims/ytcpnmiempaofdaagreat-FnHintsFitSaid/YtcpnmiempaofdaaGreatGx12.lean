-- Printed by hp.py, a program of this session: a machine's side of laws, out of the translation; Lean checks it.
import Derived.Test.YtcpnmiempaofdaaGreatGx0
import Derived.Test.YtcpnmiempaofdaaGreatGx6
import Derived.Test.YtcpnmiempaofdaaGreatGx7
import Derived.Test.YtcpnmiempaofdaaGreatGx10
import Derived.Test.YtcpnmiempaofdaaGreatGx11
namespace Go.Proofs.YtcpnmiempaofdaaGreat.G
open Go.RowKit Go.Proofs.YtcpnmiempaofdaaGreatW.PrintWords Go.Proofs.YtcpnmiempaofdaaGreatW.PrintLast Go.Proofs.YtcpnmiempaofdaaGreatW.PrintMore
attribute [local go_sem] max2_int min2_int max_two min_two max_three min_three max_four min_four   -- for this text's walks alone
set_option linter.unusedVariables false
set_option linter.unusedSimpArgs false

/-! ### spec_HintTable: function 34 -/
mutual
def spec_HintTable.j0 : Nat → List (S35) → ByteArray → Bool → Int → Int → Option ((List (List Int)) × Bool)
 | 0, _, _, _, _, _ => none
 | k + 1, x1, x2, x20, x343000, x343001 => if x20 = true then (some (([] : List (List Int)), false)) else ((spec_hiAll.f k x343000 x343001).bind fun t345 => ((spec_hiFitting.f k t345 x1).bind fun t348 => ((spec_hiParts.f k x343000 x2 t348).bind fun t351 => (spec_HintTable.l0 k ([] : List (List Int)) t351 (t351.length : Int) 0 x343000 x343001))))
def spec_HintTable.l0 : Nat → List (List Int) → List Int → Int → Int → Int → Int → Option ((List (List Int)) × Bool)
 | 0, _, _, _, _, _, _ => none
 | k + 1, x8, x28, x29, x30, x343000, x343001 => if x30 < x29 then (if 0 ≤ x30 then (if x30 < (x28.length : Int) then (if (rd x28 x30) > 0 then (if (wrap64 (x343000 + 1)) = 0 then (none) else (if x8.length < 5864062014805 then (spec_HintTable.l0 k (x8 ++ [(([wrap64 (Int.tdiv x30 (wrap64 (x343000 + 1))), Int.tmod x30 (wrap64 (x343000 + 1)), rd x28 x30] : List Int))]) x28 x29 (wrap64 (x30 + 1)) x343000 x343001) else (none))) else (spec_HintTable.l0 k x8 x28 x29 (wrap64 (x30 + 1)) x343000 x343001)) else (none)) else (none)) else (some (x8, true))
end
def spec_HintTable.f (k : Nat) (a0_0 : Int) (a0_1 : Int) (l1 : List (S35)) (a2 : ByteArray) : Option ((List (List Int)) × Bool) := (spec_hiAsked.f k a0_0 a0_1 l1).bind fun t343 => (if t343 = true then ((spec_whCode.f k a0_0 a0_1 a2).bind fun t344 => (spec_HintTable.j0 k l1 a2 (!t344) a0_0 a0_1)) else (spec_HintTable.j0 k l1 a2 true a0_0 a0_1))
theorem spec_HintTable.mono_l : ∀ k, (∀ y0 y1 y2 y3 y4, LeO (spec_HintTable.j0 k y0 y1 y2 y3 y4) (spec_HintTable.j0 (k + 1) y0 y1 y2 y3 y4)) ∧ (∀ y0 y1 y2 y3 y4 y5, LeO (spec_HintTable.l0 k y0 y1 y2 y3 y4 y5) (spec_HintTable.l0 (k + 1) y0 y1 y2 y3 y4 y5))
 | 0 => ⟨fun _ _ _ _ _ r h => by simp [spec_HintTable.j0] at h, fun _ _ _ _ _ _ r h => by simp [spec_HintTable.l0] at h⟩
 | k + 1 => by
  obtain ⟨ih0, ih1⟩ := spec_HintTable.mono_l k
  refine ⟨?_, ?_⟩
  intro y0 y1 y2 y3 y4; unfold spec_HintTable.j0; rotate_left
  intro y0 y1 y2 y3 y4 y5; unfold spec_HintTable.l0; rotate_left
  all_goals repeat' first
  | (with_reducible first | exact ih0 _ _ _ _ _ | exact ih1 _ _ _ _ _ _ | exact spec_hiAll.mono _ _ _ | exact spec_hiAsked.mono _ _ _ _ | exact spec_hiFitting.mono _ _ _ | exact spec_hiParts.mono _ _ _ _ | exact spec_whCode.mono _ _ _ _ | exact LeO.refl _ | exact LeO.none _ | refine LeO.ite ?_ ?_ | refine LeO.bind ?_ (fun _ => ?_))
  | exact ih0 _ _ _ _ _
  | exact ih1 _ _ _ _ _ _
  | exact spec_hiAll.mono _ _ _
  | exact spec_hiAsked.mono _ _ _ _
  | exact spec_hiFitting.mono _ _ _
  | exact spec_hiParts.mono _ _ _ _
  | exact spec_whCode.mono _ _ _ _
  | exact LeO.none _
  | refine LeO.ite ?_ ?_
  | refine LeO.bind ?_ (fun _ => ?_)
theorem spec_HintTable.mono : ∀ a0 a1 a2 a3 k, LeO (spec_HintTable.f k a0 a1 a2 a3) (spec_HintTable.f (k + 1) a0 a1 a2 a3) := by
 intro a0 a1 a2 a3 k
 obtain ⟨ih0, ih1⟩ := spec_HintTable.mono_l k
 unfold spec_HintTable.f
 repeat' first
   | (with_reducible first | exact ih0 _ _ _ _ _ | exact ih1 _ _ _ _ _ _ | exact spec_hiAll.mono _ _ _ | exact spec_hiAsked.mono _ _ _ _ | exact spec_hiFitting.mono _ _ _ | exact spec_hiParts.mono _ _ _ _ | exact spec_whCode.mono _ _ _ _ | exact LeO.refl _ | exact LeO.none _ | refine LeO.ite ?_ ?_ | refine LeO.bind ?_ (fun _ => ?_))
   | exact ih0 _ _ _ _ _
   | exact ih1 _ _ _ _ _ _
   | exact spec_hiAll.mono _ _ _
   | exact spec_hiAsked.mono _ _ _ _
   | exact spec_hiFitting.mono _ _ _
   | exact spec_hiParts.mono _ _ _ _
   | exact spec_whCode.mono _ _ _ _
   | exact LeO.none _
   | refine LeO.ite ?_ ?_
   | refine LeO.bind ?_ (fun _ => ?_)
def spec_HintTable.T4 : Bool × List (List Nat × List Nat) := (true, [([], []), ([0], [0]), ([], []), ([], []), ([3], [3]), ([], []), ([4, 5, 4], [4, 5]), ([1, 2, 6, 6], [1, 2, 6]), ([7], [7]), ([], [])])
def spec_HintTable.B4 : List Nat := [0, 1, 0, 0, 8, 0, 56, 127, 255, 0]
theorem spec_HintTable.tab4 : rtab .any (opsOf Tryz.f34 4) = spec_HintTable.T4 := by kernel_rfl
theorem spec_HintTable.bits4 : waitsOk spec_HintTable.T4.2 spec_HintTable.B4 = true := by kernel_rfl
def spec_HintTable.T8 : Bool × List (List Nat × List Nat) := (true, [([], []), ([], []), ([], []), ([2], [2]), ([3], [3]), ([1, 4], [1, 4]), ([], []), ([], []), ([7], [7]), ([8], [8]), ([6, 9], [6, 9]), ([], []), ([5, 10, 11], [5, 10, 11]), ([12], [12]), ([0, 13], [0, 13]), ([14, 14, 0, 1, 2, 3, 4, 5, 6, 7, 8, 9, 10, 11, 12, 13, 14], [0, 14])])
def spec_HintTable.B8 : List Nat := [0, 0, 0, 4, 12, 30, 0, 0, 128, 384, 960, 0, 4094, 8190, 16383, 32767]
theorem spec_HintTable.tab8 : rtab .any (opsOf Tryz.f34 8) = spec_HintTable.T8 := by kernel_rfl
theorem spec_HintTable.bits8 : waitsOk spec_HintTable.T8.2 spec_HintTable.B8 = true := by kernel_rfl
set_option maxHeartbeats 8000000 in
set_option maxRecDepth 100000 in
theorem spec_HintTable.calls (k : Nat) (a0_0 : Int) (a0_1 : Int) (A1 : Option Addr) (c1 : Nat) (l1 : List (S35)) (a2 : ByteArray) (r1 : List (List Int)) (r2 : Bool) (w : World) (hr1 : Kd.C k35 w A1 l1.length l1) (hc1 : l1.length ≤ c1) (h : spec_HintTable.f k a0_0 a0_1 l1 a2 = some (r1, r2)) :
  Calls Tryz.prog 34 #[.agg #[.int .i64 a0_0, .int .i64 a0_1], .slice A1 l1.length c1, .string a2] w fun e w' => ∃ v0_ : Value, e = .returned (.tuple #[v0_, .bool r2]) ∧ Kd.S (Kd.slice 3 (Kd.int .i64)) 55 w' w.heap.size (fun _ => True) v0_ r1 ∧ Below w.heap.size w w' := by
 have hu25 := Tryz.underlying25
 have HR1 := Aside0.mk hr1
 have HC1 := Aside0.mk hc1
 clear hr1 hc1
 have HB := Aside0.mk (Below.refl w.heap.size w)
 have H := h
 unfold spec_HintTable.f at H
 clear h
 have HC4 := Aside0.mk H
 clear H
 go_enter Tryz.func34, Tryz.ntmps34
 go_upto_region 1 with (first | ((with_reducible refine gate_dst (N := 3) rfl ?_); refine box_event ?hg (N := 3) ?hd (cs := #[.int .i64 a0_0, .int .i64 a0_1]) (t := 25) ?hr ?_; (case hd => rfl); (case hg => rfl); (case hr => first | (go_simp; done) | (go_simp; rfl)); intro gb342 hg w5 hbox hb; have BK342 := Aside0.mk (hbox); have GW342 : Aside0 (w.heap.size ≤ gb342) := gW hg; have GE342 := GW342; replace HB := Aside0.mk (below_step bB hb); clear hb hbox hg))
 (try simp only [Act.put, List.setIfInBounds_toArray, List.set_cons_zero, List.set_cons_succ])
 go_cut [20] (fun v20 wc => ∃ (kq : Nat) (x20_3 : Bool), v20 = .bool x20_3 ∧ Aside0 (spec_HintTable.j0 kq l1 a2 x20_3 a0_0 a0_1 = some (r1, r2)) ∧ Aside0 (kq ≤ k) ∧ Aside0 (wc.heap[gb342]? = some (.cells #[.int .i64 a0_0, .int .i64 a0_1] 25 (0, 0))) ∧ Aside0 (Below w.heap.size w wc))
 case first =>
  have H := HC4.out
  clear HC4
  replace H := Option.bind_eq_some_iff.mp H
  obtain ⟨t343, A60, H⟩ := H
  (try dsimp only at H)
  have A6 := Aside0.mk A60
  clear A60
  by_cases c7 : t343 = true
  ·subst c7
   replace H := zt H
   replace H := Option.bind_eq_some_iff.mp H
   obtain ⟨t344, A80, H⟩ := H
   (try dsimp only at H)
   have A8 := Aside0.mk A80
   clear A80
   have H' := Aside0.mk H
   clear H
   have hcz9_0 := cZ BK342 0 (.int .i64 a0_0)
   have hcz9_1 := cZ BK342 1 (.int .i64 a0_1)
   have hfz9_0 := blk_frozen BK342.out 0
   have hfz9_1 := blk_frozen BK342.out 1
   go_wp2_with (first | ((with_reducible refine gate_callee (f := 80) rfl ?_); refine goesL_ (some 13) rfl rfl Tryz.func80 (by kernel_rfl) rfl #[.agg #[.int .i64 a0_0, .int .i64 a0_1], .slice A1 l1.length c1] rfl lM ?_; (with_reducible refine (spec_hiAsked.calls k a0_0 a0_1 _ _ l1 true _ ?side1 ?side2 A6.out).mono ?_); (case side1 => exact cS (Kd.C_below HR1.out HB.out)); (case side2 => exact HC1.out); rintro e w10 ⟨rfl, hb⟩; refine ⟨_, rfl, ?_⟩; replace BK342 := bW BK342 hb; replace HB := Aside0.mk (below_step bG hb); (try clear hb); have hcz11_0 := cZ BK342 0 (.int .i64 a0_0); have hcz11_1 := cZ BK342 1 (.int .i64 a0_1); have hfz11_0 := blk_frozen BK342.out 0; have hfz11_1 := blk_frozen BK342.out 1) | (go_at_call 54; (with_reducible refine (spec_whCode.calls k a0_0 a0_1 a2 t344 _ A8.out).mono ?_); rintro e w12 ⟨rfl, hb⟩; replace BK342 := bW BK342 hb; replace HB := Aside0.mk (below_step bG hb); (try clear hb)))
   go_meet
   case rel => exact ⟨_, (!t344), fR, H', ⟨by first | omega | exact Nat.le_refl _⟩, ⟨bK⟩, ⟨bG⟩⟩
  ·replace c7 := Bool.eq_false_iff.mpr c7
   subst c7
   replace H := zf H
   have H' := Aside0.mk H
   clear H
   have hcz13_0 := cZ BK342 0 (.int .i64 a0_0)
   have hcz13_1 := cZ BK342 1 (.int .i64 a0_1)
   have hfz13_0 := blk_frozen BK342.out 0
   have hfz13_1 := blk_frozen BK342.out 1
   go_wp2_with (first | ((with_reducible refine gate_callee (f := 80) rfl ?_); refine goesL_ (some 13) rfl rfl Tryz.func80 (by kernel_rfl) rfl #[.agg #[.int .i64 a0_0, .int .i64 a0_1], .slice A1 l1.length c1] rfl lM ?_; (with_reducible refine (spec_hiAsked.calls k a0_0 a0_1 _ _ l1 false _ ?side1 ?side2 A6.out).mono ?_); (case side1 => exact cS (Kd.C_below HR1.out HB.out)); (case side2 => exact HC1.out); rintro e w14 ⟨rfl, hb⟩; refine ⟨_, rfl, ?_⟩; replace BK342 := bW BK342 hb; replace HB := Aside0.mk (below_step bG hb); (try clear hb)))
   go_meet
   case rel => exact ⟨_, (true), fR, H', ⟨by first | omega | exact Nat.le_refl _⟩, ⟨bK⟩, ⟨bG⟩⟩
 case rest =>
  clear HC4
  try clear c1
  try clear p2
  try clear c3
  try clear c7
  try clear c8
  try clear hcz11_0
  try clear hcz11_1
  try clear hcz13_0
  try clear hcz13_1
  try clear hcz9_0
  try clear hcz9_1
  try clear hfz11_0
  try clear hfz11_1
  try clear hfz13_0
  try clear hfz13_1
  try clear hfz9_0
  try clear hfz9_1
  obtain ⟨kq, x20_3, rfl, HA, HJ3, BK342, HB⟩ := hcut
  cases kq with
  | zero => exact absurd HA.out (by simp [spec_HintTable.j0])
  | succ kj3 =>
   have H := HA.out
   clear HA
   simp only [spec_HintTable.j0] at H
   by_cases c15 : x20_3 = true
   ·subst c15
    replace H := zt H
    simp only [Option.some.injEq, Prod.mk.injEq] at H
    obtain ⟨rfl, rfl⟩ := H
    go_wp2
    go_ret2
    exact ⟨_, rE, by first | exact Kd.S_nil _ _ _ _ _ | exact Kd.N_nil _ _ _ _ _ | exact Kd.V_nil _ _ _ _ _ | exact Kd.Q_nil _ _ _ _ _ | exact Kd.R_nil _ _ _ _ _, bG⟩
   ·replace c15 := Bool.eq_false_iff.mpr c15
    subst c15
    replace H := zf H
    replace H := Option.bind_eq_some_iff.mp H
    obtain ⟨t345, A160, H⟩ := H
    (try dsimp only at H)
    have A16 := Aside0.mk A160
    clear A160
    replace H := Option.bind_eq_some_iff.mp H
    obtain ⟨t348, A170, H⟩ := H
    (try dsimp only at H)
    have A17 := Aside0.mk A170
    clear A170
    replace H := Option.bind_eq_some_iff.mp H
    obtain ⟨t351, A180, H⟩ := H
    (try dsimp only at H)
    have A18 := Aside0.mk A180
    clear A180
    have H' := Aside0.mk H
    clear H
    try go_wp2
    have n0_ := Aside0.mk (blk_drew BK342.out)
    have n1_ := Aside0.mk (below_drew1 HB.out)
    clear BK342
    clear HB
    have BK342 := n0_
    have HB := n1_
    clear n0_ n1_
    refine start_ (n := 10) (S := fun w' => w'.cell? ⟨gb342, 0, none⟩ = some (.int .i64 a0_0) ∧ w'.cell? ⟨gb342, 1, none⟩ = some (.int .i64 a0_1)) (ds := []) #[false, false, false, false, false, false, false, false, false, false] (by kernel_rfl) rfl rfl ⟨(blk_cell BK342.out 0).trans rfl, (blk_cell BK342.out 1).trans rfl⟩ (fun hHeld => ?_); refine with_tabW spec_HintTable.tab4 spec_HintTable.bits4 (fun HT_ HW_ => ?_)
    generalize wc.drew = w19 at BK342 HB hHeld ⊢
    refine pure_ (i := 0) (N := some 21) (v := ?_) (a' := ?_) #[true, false, false, false, false, false, false, false, false, false] rfl rfl (any_of HT_.out (by kernel_rfl)) (fun _ _ _ h => h) (Or.inl ⟨by rfl, ?_⟩) ?_ ?_
    rotate_left
    ·intro w'
     go_simp
     with_reducible rfl
    rotate_left
    ·simp only [Act.put, List.setIfInBounds_toArray, List.set_cons_zero, List.set_cons_succ, i64_w, i32_w]
     rfl
    refine pure_ (i := 2) (N := some 23) (v := ?_) (a' := ?_) #[true, false, true, false, false, false, false, false, false, false] rfl rfl (any_of HT_.out (by kernel_rfl)) (fun _ _ _ h => h) (Or.inl ⟨by rfl, ?_⟩) ?_ ?_
    rotate_left
    ·intro w'
     go_simp
     with_reducible rfl
    rotate_left
    ·simp only [Act.put, List.setIfInBounds_toArray, List.set_cons_zero, List.set_cons_succ, i64_w, i32_w]
     rfl
    refine pure_ (i := 5) (N := some 26) (v := ?_) (a' := ?_) #[true, false, true, false, false, true, false, false, false, false] rfl rfl (any_of HT_.out (by kernel_rfl)) (fun _ _ _ h => h) (Or.inl ⟨by rfl, ?_⟩) ?_ ?_
    rotate_left
    ·intro w'
     go_simp
     with_reducible rfl
    rotate_left
    ·simp only [Act.put, List.setIfInBounds_toArray, List.set_cons_zero, List.set_cons_succ, i64_w, i32_w]
     rfl
    refine pure_ (i := 9) (N := some 30) (v := ?_) (a' := ?_) #[true, false, true, false, false, true, false, false, false, true] rfl rfl (any_of HT_.out (by kernel_rfl)) (fun _ _ _ h => h) (Or.inl ⟨by rfl, ?_⟩) ?_ ?_
    rotate_left
    ·intro w'
     go_simp
     with_reducible rfl
    rotate_left
    ·simp only [Act.put, List.setIfInBounds_toArray, List.set_cons_zero, List.set_cons_succ, i64_w, i32_w]
     rfl
    refine take_ (i := 1) (N := some 22) (v := ?_) (a' := ?_) #[true, true, true, false, false, true, false, false, false, true] rfl rfl (take_ofW HT_.out HW_.out (by kernel_rfl)) (fun _ _ _ h => h) (Or.inl ⟨by rfl, ?_⟩) hHeld ?_ ?_
    rotate_left
    ·rintro w' ⟨s0, s1⟩
     go_simp
     with_reducible rfl
    rotate_left
    ·simp only [Act.put, List.setIfInBounds_toArray, List.set_cons_zero, List.set_cons_succ, i64_w, i32_w]
     rfl
    refine take_ (i := 3) (N := some 24) (v := ?_) (a' := ?_) #[true, true, true, true, false, true, false, false, false, true] rfl rfl (take_ofW HT_.out HW_.out (by kernel_rfl)) (fun _ _ _ h => h) (Or.inl ⟨by rfl, ?_⟩) hHeld ?_ ?_
    rotate_left
    ·rintro w' ⟨s0, s1⟩
     go_simp
     with_reducible rfl
    rotate_left
    ·simp only [Act.put, List.setIfInBounds_toArray, List.set_cons_zero, List.set_cons_succ, i64_w, i32_w]
     rfl
    refine one_ (i := 4) (N := some 25) #[true, true, true, true, true, true, false, false, false, true] rfl rfl (one_of HT_.out (by kernel_rfl)) (by decide) (fun K hK => ?_)
    refine goes_ Tryz.func66 (by kernel_rfl) rfl #[.agg #[.int .i64 a0_0, .int .i64 a0_1]] (by rfl) rfl rfl lM ?_
    with_reducible refine (spec_hiAll.calls kj3 a0_0 a0_1 t345 _ A16.out).mono ?_
    rintro e w20 ⟨v346, rfl, ho0, hb⟩
    refine ⟨_, rfl, ?_⟩
    have n0_ := Aside0.mk (Kd.R_lower ho0 (below_size bG))
    have n1_ := Aside0.mk (blk_below (g := gb342) (o := .cells #[.int .i64 a0_0, .int .i64 a0_1] 25 (0, 0)) bK hb)
    have n2_ := Aside0.mk (below_step bG hb)
    clear BK342
    clear HB
    have HO347 := n0_
    have BK342 := n1_
    have HB := n2_
    clear n0_ n1_ n2_
    (try clear hb)
    (try clear ho0)
    obtain ⟨Ao21, co21, eo21⟩ := Kd.R_slice HO347.out
    (first | subst eo21 | (injection eo21 with f1_ f2_ f3_; have f4_ := f1_.symm; have f5_ := f3_.symm; clear f1_ f2_ f3_; subst f4_; subst f5_))
    refine hK.out _ _ ⟨(blk_cell BK342.out 0).trans rfl, (blk_cell BK342.out 1).trans rfl⟩ (fun hHeld => ?_)
    clear hK K
    refine norm_ (a' := ?_) ?_ ?_
    rotate_left
    ·show Act.put _ (some 25) _ = _
     simp only [Act.put, List.setIfInBounds_toArray, List.set_cons_zero, List.set_cons_succ, i64_w, i32_w]
     rfl
    refine one_ (i := 6) (N := some 27) #[true, true, true, true, true, true, true, false, false, true] rfl rfl (one_of HT_.out (by kernel_rfl)) (by decide) (fun K hK => ?_)
    refine goes_ Tryz.func73 (by kernel_rfl) rfl #[.slice Ao21 t345.length co21, .slice A1 l1.length c1] (by rfl) rfl rfl lM ?_
    with_reducible refine (spec_hiFitting.calls kj3 _ _ t345 _ _ l1 t348 _ ?side1 ?side2 ?side3 ?side4 A17.out).mono ?_
    (case side1 => exact cS ((Kd.R_reads' HO347.out).2.2))
    (case side2 => exact (Kd.R_reads' HO347.out).2.1)
    (case side3 => exact cS (Kd.C_below HR1.out HB.out))
    (case side4 => exact HC1.out)
    rintro e w22 ⟨v349, rfl, ho0, hb⟩
    refine ⟨_, rfl, ?_⟩
    have n0_ := Aside0.mk (Kd.R_elder' (kR HO347) (Kd.R_base ho0) hb)
    have n1_ := Aside0.mk (Kd.R_lower (Kd.R_new' ho0 (Kd.R_lt (kR HO347))) (below_size bG))
    have n2_ := Aside0.mk (blk_below (g := gb342) (o := .cells #[.int .i64 a0_0, .int .i64 a0_1] 25 (0, 0)) bK hb)
    have n3_ := Aside0.mk (below_step bG hb)
    clear HO347
    clear BK342
    clear HB
    have HO347 := n0_
    have HO350 := n1_
    have BK342 := n2_
    have HB := n3_
    clear n0_ n1_ n2_ n3_
    (try clear hb)
    (try clear ho0)
    obtain ⟨Ao23, co23, eo23⟩ := Kd.R_slice HO350.out
    (first | subst eo23 | (injection eo23 with f1_ f2_ f3_; have f4_ := f1_.symm; have f5_ := f3_.symm; clear f1_ f2_ f3_; subst f4_; subst f5_))
    refine hK.out _ _ ⟨(blk_cell BK342.out 0).trans rfl, (blk_cell BK342.out 1).trans rfl⟩ (fun hHeld => ?_)
    clear hK K
    refine norm_ (a' := ?_) ?_ ?_
    rotate_left
    ·show Act.put _ (some 27) _ = _
     simp only [Act.put, List.setIfInBounds_toArray, List.set_cons_zero, List.set_cons_succ, i64_w, i32_w]
     rfl
    refine one_ (i := 7) (N := some 28) #[true, true, true, true, true, true, true, true, false, true] rfl rfl (one_of HT_.out (by kernel_rfl)) (by decide) (fun K hK => ?_)
    refine goes_ Tryz.func67 (by kernel_rfl) rfl #[.int .i64 a0_0, .string a2, .slice Ao23 t348.length co23] (by rfl) rfl rfl lM ?_
    with_reducible refine (spec_hiParts.calls kj3 a0_0 a2 _ _ t348 t351 _ ?side1 ?side2 A18.out).mono ?_
    (case side1 => exact cS ((Kd.R_reads' HO350.out).2.2))
    (case side2 => exact (Kd.R_reads' HO350.out).2.1)
    rintro e w24 ⟨v352, rfl, ho0, hb⟩
    refine ⟨_, rfl, ?_⟩
    have n0_ := Aside0.mk (Kd.R_below (kR HO347) hb)
    have n1_ := Aside0.mk (Kd.R_below (kR HO350) hb)
    have n2_ := Aside0.mk (Kd.R_lower ho0 (below_size bG))
    have n3_ := Aside0.mk (blk_below (g := gb342) (o := .cells #[.int .i64 a0_0, .int .i64 a0_1] 25 (0, 0)) bK hb)
    have n4_ := Aside0.mk (below_step bG hb)
    clear HO347
    clear HO350
    clear BK342
    clear HB
    have HO347 := n0_
    have HO350 := n1_
    have HO353 := n2_
    have BK342 := n3_
    have HB := n4_
    clear n0_ n1_ n2_ n3_ n4_
    (try clear hb)
    (try clear ho0)
    obtain ⟨Ao25, co25, eo25⟩ := Kd.R_slice HO353.out
    (first | subst eo25 | (injection eo25 with f1_ f2_ f3_; have f4_ := f1_.symm; have f5_ := f3_.symm; clear f1_ f2_ f3_; subst f4_; subst f5_))
    refine hK.out _ _ ⟨(blk_cell BK342.out 0).trans rfl, (blk_cell BK342.out 1).trans rfl⟩ (fun hHeld => ?_)
    clear hK K
    refine norm_ (a' := ?_) ?_ ?_
    rotate_left
    ·show Act.put _ (some 28) _ = _
     simp only [Act.put, List.setIfInBounds_toArray, List.set_cons_zero, List.set_cons_succ, i64_w, i32_w]
     rfl
    refine pure_ (i := 8) (N := some 29) (v := ?_) (a' := ?_) #[true, true, true, true, true, true, true, true, true, true] rfl rfl (any_of HT_.out (by kernel_rfl)) (fun _ _ _ h => h) (Or.inl ⟨by rfl, ?_⟩) ?_ ?_
    rotate_left
    ·intro w'
     go_simp
     with_reducible rfl
    rotate_left
    ·simp only [Act.put, List.setIfInBounds_toArray, List.set_cons_zero, List.set_cons_succ, i64_w, i32_w]
     rfl
    refine done_ (done_of HT_.out (by kernel_rfl)) ?_
    try go_wp2
    go_loopg [8, 30] kj3 (fun kq v8 v30 w' => ∃ (x8_2 : List (List Int)) (x30_2 : Int), v30 = .int .i64 x30_2 ∧ Aside0 (spec_HintTable.l0 kq x8_2 t351 (t351.length : Int) x30_2 a0_0 a0_1 = some (r1, r2)) ∧ Aside0 (kq ≤ kj3) ∧ Aside0 (Kd.S (Kd.slice 3 (Kd.int .i64)) 55 w' w.heap.size (fun k_ => some k_ ≠ ((.slice Ao25 t351.length co25) : Value).ownBlock) v8 x8_2) ∧ Aside0 (Kd.R (Kd.int .i64) 3 w' w.heap.size (fun _ => True) (.slice Ao25 t351.length co25) t351) ∧ Aside0 (w'.heap[gb342]? = some (.cells #[.int .i64 a0_0, .int .i64 a0_1] 25 (0, 0))) ∧ Aside0 (Below w.heap.size w w'))
    case atStart => exact ⟨(([] : List (List Int))), (0), fR, H', ⟨Nat.le_refl _⟩, ⟨by first | exact Kd.S_nil _ _ _ _ _ | exact Kd.N_nil _ _ _ _ _ | exact Kd.V_nil _ _ _ _ _ | exact Kd.Q_nil _ _ _ _ _ | exact Kd.R_nil _ _ _ _ _⟩, ⟨kR HO353⟩, ⟨bK⟩, ⟨bG⟩⟩
    case round =>
     clear H'
     try clear c1
     try clear p2
     try clear c3
     try clear c6
     try clear c7
     try clear c8
     try clear c15
     try clear hcz11_0
     try clear hcz11_1
     try clear hcz13_0
     try clear hcz13_1
     try clear hcz9_0
     try clear hcz9_1
     try clear hfz11_0
     try clear hfz11_1
     try clear hfz13_0
     try clear hfz13_1
     try clear hfz9_0
     try clear hfz9_1
     try clear p2
     obtain ⟨x8_2, x30_2, rfl, HA, HK2, HO_8, HO_28, BK342, HB⟩ := hrel
     cases gk with
     | zero => exact absurd HA.out (by simp [spec_HintTable.l0])
     | succ k2 =>
      have H := HA.out
      clear HA
      simp only [spec_HintTable.l0] at H
      by_cases c26 : x30_2 < (t351.length : Int)
      ·rw [if_pos c26] at H
       have c26b0 : decide (x30_2 < (t351.length : Int)) = true := decide_eq_true c26
       clear c26
       replace H := nz H; obtain ⟨c27, H⟩ := H
       have c27b0 : decide (0 ≤ x30_2) = true := decide_eq_true c27
       clear c27
       replace H := nz H; obtain ⟨c28, H⟩ := H
       have c28b0 : decide (x30_2 < (t351.length : Int)) = true := decide_eq_true c28
       clear c28
       by_cases c29 : (rd t351 x30_2) > 0
       ·rw [if_pos c29] at H
        have c29b0 : decide (0 < (rd t351 x30_2)) = true := decide_eq_true c29
        clear c29
        replace H := nz' H; obtain ⟨c30, H⟩ := H
        have c30b0 : ((wrap64 (a0_0 + 1)) == 0) = false := beq_eq_false_iff_ne.mpr c30
        have c30b1 : ((wrap64 (a0_0 + 1)) != 0) = true := bne_iff_ne.mpr c30
        obtain ⟨y355, hy355⟩ : ∃ y_ : List Int, y_ = (([wrap64 (Int.tdiv x30_2 (wrap64 (a0_0 + 1))), Int.tmod x30_2 (wrap64 (a0_0 + 1)), rd t351 x30_2] : List Int)) := ⟨_, rfl⟩
        replace H : (if x8_2.length < 5864062014805 then (spec_HintTable.l0 k2 (x8_2 ++ [y355]) t351 (t351.length : Int) (wrap64 (x30_2 + 1)) a0_0 a0_1) else (none)) = some (r1, r2) := hZ hy355 H
        have Ny355 := Aside0.mk hy355
        clear hy355
        replace H := nz H; obtain ⟨c31, H⟩ := H
        have LMc31 := Aside0.mk c31
        clear c31
        obtain ⟨y358, hy358⟩ : ∃ y_ : List (List Int), y_ = (x8_2 ++ [y355]) := ⟨_, rfl⟩
        replace H : (spec_HintTable.l0 k2 y358 t351 (t351.length : Int) (wrap64 (x30_2 + 1)) a0_0 a0_1) = some (r1, r2) := hZ hy358 H
        have Ny358 := Aside0.mk hy358
        clear hy358
        have H' := Aside0.mk H
        clear H
        have p354 : 0 ≤ (x30_2 : Int) := oD
        have q354 : x30_2 < (t351.length : Int) := oD
        obtain ⟨ad354, e354, hx354_0⟩ := Kd.at_int (Kd.R_reads' HO_28.out).2.2 x30_2 p354 q354
        cases e354
        replace p354 := eq_true p354
        replace q354 := eq_true q354
        try go_wp2
        have n0_ := Aside0.mk (Kd.S_drew HO_8.out)
        have n1_ := Aside0.mk (Kd.R_drew HO_28.out)
        have n2_ := Aside0.mk (blk_drew BK342.out)
        have n3_ := Aside0.mk (below_drew1 HB.out)
        clear HO_8
        clear HO_28
        clear BK342
        clear HB
        have HO_8 := n0_
        have HO_28 := n1_
        have BK342 := n2_
        have HB := n3_
        clear n0_ n1_ n2_ n3_
        refine start_ (n := 16) (S := fun w' => w'.cell? ⟨gb342, 0, none⟩ = some (.int .i64 a0_0) ∧ w'.cell? ⟨gb342, 1, none⟩ = some (.int .i64 a0_1)) (ds := []) #[false, false, false, false, false, false, false, false, false, false, false, false, false, false, false, false] (by kernel_rfl) rfl rfl ⟨(blk_cell BK342.out 0).trans rfl, (blk_cell BK342.out 1).trans rfl⟩ (fun hHeld => ?_); refine with_tabW spec_HintTable.tab8 spec_HintTable.bits8 (fun HT_ HW_ => ?_)
        generalize wr.drew = w32 at HO_8 HO_28 BK342 HB hHeld ⊢
        refine pure_ (i := 0) (N := some 37) (v := ?_) (a' := ?_) #[true, false, false, false, false, false, false, false, false, false, false, false, false, false, false, false] rfl rfl (any_of HT_.out (by kernel_rfl)) (fun _ _ _ h => h) (Or.inl ⟨by rfl, ?_⟩) ?_ ?_
        rotate_left
        ·intro w'
         go_simp
         with_reducible rfl
        rotate_left
        ·simp only [Act.put, List.setIfInBounds_toArray, List.set_cons_zero, List.set_cons_succ, i64_w, i32_w]
         rfl
        refine pure_ (i := 1) (N := some 38) (v := ?_) (a' := ?_) #[true, true, false, false, false, false, false, false, false, false, false, false, false, false, false, false] rfl rfl (any_of HT_.out (by kernel_rfl)) (fun _ _ _ h => h) (Or.inl ⟨by rfl, ?_⟩) ?_ ?_
        rotate_left
        ·intro w'
         go_simp
         with_reducible rfl
        rotate_left
        ·simp only [Act.put, List.setIfInBounds_toArray, List.set_cons_zero, List.set_cons_succ, i64_w, i32_w]
         rfl
        refine pure_ (i := 2) (N := some 39) (v := ?_) (a' := ?_) #[true, true, true, false, false, false, false, false, false, false, false, false, false, false, false, false] rfl rfl (any_of HT_.out (by kernel_rfl)) (fun _ _ _ h => h) (Or.inl ⟨by rfl, ?_⟩) ?_ ?_
        rotate_left
        ·intro w'
         go_simp
         with_reducible rfl
        rotate_left
        ·simp only [Act.put, List.setIfInBounds_toArray, List.set_cons_zero, List.set_cons_succ, i64_w, i32_w]
         rfl
        refine pure_ (i := 6) (N := some 43) (v := ?_) (a' := ?_) #[true, true, true, false, false, false, true, false, false, false, false, false, false, false, false, false] rfl rfl (any_of HT_.out (by kernel_rfl)) (fun _ _ _ h => h) (Or.inl ⟨by rfl, ?_⟩) ?_ ?_
        rotate_left
        ·intro w'
         go_simp
         with_reducible rfl
        rotate_left
        ·simp only [Act.put, List.setIfInBounds_toArray, List.set_cons_zero, List.set_cons_succ, i64_w, i32_w]
         rfl
        refine pure_ (i := 7) (N := some 44) (v := ?_) (a' := ?_) #[true, true, true, false, false, false, true, true, false, false, false, false, false, false, false, false] rfl rfl (any_of HT_.out (by kernel_rfl)) (fun _ _ _ h => h) (Or.inl ⟨by rfl, ?_⟩) ?_ ?_
        rotate_left
        ·intro w'
         go_simp
         with_reducible rfl
        rotate_left
        ·simp only [Act.put, List.setIfInBounds_toArray, List.set_cons_zero, List.set_cons_succ, i64_w, i32_w]
         rfl
        refine pure_ (i := 11) (N := some 48) (v := ?_) (a' := ?_) #[true, true, true, false, false, false, true, true, false, false, false, true, false, false, false, false] rfl rfl (any_of HT_.out (by kernel_rfl)) (fun _ _ _ h => h) (Or.inl ⟨by rfl, ?_⟩) ?_ ?_
        rotate_left
        ·intro w'
         go_simp
         with_reducible rfl
        rotate_left
        ·simp only [Act.put, List.setIfInBounds_toArray, List.set_cons_zero, List.set_cons_succ, i64_w, i32_w]
         rfl
        refine take_ (i := 3) (N := some 40) (v := ?_) (a' := ?_) #[true, true, true, true, false, false, true, true, false, false, false, true, false, false, false, false] rfl rfl (take_ofW HT_.out HW_.out (by kernel_rfl)) (fun _ _ _ h => h) (Or.inl ⟨by rfl, ?_⟩) hHeld ?_ ?_
        rotate_left
        ·rintro w' ⟨s0, s1⟩
         go_simp
         with_reducible rfl
        rotate_left
        ·simp only [Act.put, List.setIfInBounds_toArray, List.set_cons_zero, List.set_cons_succ, i64_w, i32_w]
         rfl
        refine pure_ (i := 4) (N := some 41) (v := ?_) (a' := ?_) #[true, true, true, true, true, false, true, true, false, false, false, true, false, false, false, false] rfl rfl (any_of HT_.out (by kernel_rfl)) (fun _ _ _ h => h) (Or.inl ⟨by rfl, ?_⟩) ?_ ?_
        rotate_left
        ·intro w'
         go_simp
         with_reducible rfl
        rotate_left
        ·simp only [Act.put, List.setIfInBounds_toArray, List.set_cons_zero, List.set_cons_succ, i64_w, i32_w]
         rfl
        refine pure_ (i := 5) (N := some 42) (v := ?_) (a' := ?_) #[true, true, true, true, true, true, true, true, false, false, false, true, false, false, false, false] rfl rfl (any_of HT_.out (by kernel_rfl)) (fun _ _ _ h => h) (Or.inl ⟨by rfl, ?_⟩) ?_ ?_
        rotate_left
        ·intro w'
         go_simp
         with_reducible rfl
        rotate_left
        ·simp only [Act.put, List.setIfInBounds_toArray, List.set_cons_zero, List.set_cons_succ, i64_w, i32_w]
         rfl
        refine take_ (i := 8) (N := some 45) (v := ?_) (a' := ?_) #[true, true, true, true, true, true, true, true, true, false, false, true, false, false, false, false] rfl rfl (take_ofW HT_.out HW_.out (by kernel_rfl)) (fun _ _ _ h => h) (Or.inl ⟨by rfl, ?_⟩) hHeld ?_ ?_
        rotate_left
        ·rintro w' ⟨s0, s1⟩
         go_simp
         with_reducible rfl
        rotate_left
        ·simp only [Act.put, List.setIfInBounds_toArray, List.set_cons_zero, List.set_cons_succ, i64_w, i32_w]
         rfl
        refine pure_ (i := 9) (N := some 46) (v := ?_) (a' := ?_) #[true, true, true, true, true, true, true, true, true, true, false, true, false, false, false, false] rfl rfl (any_of HT_.out (by kernel_rfl)) (fun _ _ _ h => h) (Or.inl ⟨by rfl, ?_⟩) ?_ ?_
        rotate_left
        ·intro w'
         go_simp
         with_reducible rfl
        rotate_left
        ·simp only [Act.put, List.setIfInBounds_toArray, List.set_cons_zero, List.set_cons_succ, i64_w, i32_w]
         rfl
        refine pure_ (i := 10) (N := some 47) (v := ?_) (a' := ?_) #[true, true, true, true, true, true, true, true, true, true, true, true, false, false, false, false] rfl rfl (any_of HT_.out (by kernel_rfl)) (fun _ _ _ h => h) (Or.inl ⟨by rfl, ?_⟩) ?_ ?_
        rotate_left
        ·intro w'
         go_simp
         with_reducible rfl
        rotate_left
        ·simp only [Act.put, List.setIfInBounds_toArray, List.set_cons_zero, List.set_cons_succ, i64_w, i32_w]
         rfl
        refine one_ (i := 12) (N := some 49) #[true, true, true, true, true, true, true, true, true, true, true, true, true, false, false, false] rfl rfl (one_of HT_.out (by kernel_rfl)) (by decide) (fun K hK => ?_)
        refine Kd.R_lit_step (Kd.int .i64) _ 3 ?hg (N := 49) ?hd (xs := ([wrap64 (Int.tdiv x30_2 (wrap64 (a0_0 + 1))), Int.tmod x30_2 (wrap64 (a0_0 + 1)), rd t351 x30_2] : List Int)) (inner := [.int .i64 (wrap64 (Int.tdiv x30_2 (wrap64 (a0_0 + 1)))), .int .i64 (Int.tmod x30_2 (wrap64 (a0_0 + 1))), .int .i64 (rd t351 x30_2)]) (ok := fun _ => True) (okp := fun _ => True) ?hr ?hp (fun _ hk => hk) trivial (Below.refl _ _) (Nat.le_refl _) (by simp) ?_; (case hd => rfl); (case hg => rfl); (case hr => first | (go_simp; done) | (go_simp; rfl)); (case hp => exact (Reps.one (show Kd.M (Kd.int .i64) _ _ _ (wrap64 (Int.tdiv x30_2 (wrap64 (a0_0 + 1)))) [.int .i64 (wrap64 (Int.tdiv x30_2 (wrap64 (a0_0 + 1))))] from rfl) (Reps.one (show Kd.M (Kd.int .i64) _ _ _ (Int.tmod x30_2 (wrap64 (a0_0 + 1))) [.int .i64 (Int.tmod x30_2 (wrap64 (a0_0 + 1)))] from rfl) (Reps.one (show Kd.M (Kd.int .i64) _ _ _ (rd t351 x30_2) [.int .i64 (rd t351 x30_2)] from rfl) (Reps.none _ _)))))
        intro v356 w33 ho34 hb hg_ hnew_
        clear hg_ hnew_
        (first | rw [← Ny355.out] at ho34 | (simp only [Int.reduceToNat] at ho34; rw [← Ny355.out] at ho34))
        have n0_ := Aside0.mk (Kd.S_elder' (kS HO_8) (Kd.R_base ho34) hb)
        have n1_ := Aside0.mk (Kd.R_elder' (kR HO_28) (Kd.R_base ho34) hb)
        have n2_ := Aside0.mk (Kd.R_lower (Kd.R_new' ho34 (Kd.R_lt (kR HO_28))) (below_size bG))
        have n3_ := Aside0.mk (blk_below (g := gb342) (o := .cells #[.int .i64 a0_0, .int .i64 a0_1] 25 (0, 0)) bK hb)
        have n4_ := Aside0.mk (below_step bG hb)
        clear HO_8
        clear HO_28
        clear BK342
        clear HB
        have HO_8 := n0_
        have HO_28 := n1_
        have HO357 := n2_
        have BK342 := n3_
        have HB := n4_
        clear n0_ n1_ n2_ n3_ n4_
        clear hb ho34
        obtain ⟨Ao36, co36, eo36⟩ := Kd.R_slice HO357.out
        (first | subst eo36 | (injection eo36 with f1_ f2_ f3_; have f4_ := f1_.symm; have f5_ := f3_.symm; clear f1_ f2_ f3_; subst f4_; subst f5_))
        refine hK.out _ _ ⟨(blk_cell BK342.out 0).trans rfl, (blk_cell BK342.out 1).trans rfl⟩ (fun hHeld => ?_)
        clear hK K
        refine norm_ (a' := ?_) ?_ ?_
        rotate_left
        ·show Act.put _ (some 49) _ = _
         simp only [Act.put, List.setIfInBounds_toArray, List.set_cons_zero, List.set_cons_succ, i64_w, i32_w]
         rfl
        refine one_ (i := 13) (N := some 50) #[true, true, true, true, true, true, true, true, true, true, true, true, true, true, false, false] rfl rfl (one_of HT_.out (by kernel_rfl)) (by decide) (fun K hK => ?_)
        refine value_ (w1 := ?_) (v := ?_) (by rfl) rfl ?_ ?_
        rotate_left 2
        ·go_simp
         constructor
         ·rfl
         ·rfl
        refine hK.out _ _ ⟨(blk_cell (blk_alloc BK342.out _) 0).trans rfl, (blk_cell (blk_alloc BK342.out _) 1).trans rfl⟩ (fun hHeld => ?_)
        clear hK K
        refine norm_ (a' := ?_) ?_ ?_
        rotate_left
        ·show Act.put _ (some 50) _ = _
         simp only [Act.put, List.setIfInBounds_toArray, List.set_cons_zero, List.set_cons_succ, i64_w, i32_w]
         rfl
        refine one_ (i := 14) (N := some 51) #[true, true, true, true, true, true, true, true, true, true, true, true, true, true, true, false] rfl rfl (one_of HT_.out (by kernel_rfl)) (by decide) (fun K hK => ?_)
        refine Kd.S_append_step (Kd.slice 3 (Kd.int .i64)) (w0 := w) w.heap.size (by rfl) (.tmp 37) (.tmp 50) 44 55 (.slice none 0 0) 24 rfl Tryz.underlying44 info55 rfl (by decide) (by omega) u8 x8_2 y355 [.slice Ao36 y355.length co36] (fun k_ => some k_ ≠ (.slice (some ad354) t351.length co25 : Value).ownBlock) (fun k_ => some k_ = (.slice Ao36 y355.length co36 : Value).ownBlock) rfl rfl ?aP (fun k_ hk_ => ((Kd.R_mono (ok' := fun k_ => ((fun k_ => some k_ ≠ (.slice (some ad354) t351.length co25 : Value).ownBlock)) k_ ∧ some k_ ≠ (u8 : Value).ownBlock) (Kd.R_apart' (HO357.out) (Kd.S_typed HO_8.out) (by decide)) (fun k_ hk => ⟨hk.1.2, hk.2⟩))).1 k_ hk_.symm) ?aF ?aO ?aB ?aS ?aL ?_
        (case aP => exact Kd.M_row (Kd.R_mono (Kd.R_tight rfl (Kd.R_mono (ok' := fun k_ => ((fun k_ => some k_ ≠ (.slice (some ad354) t351.length co25 : Value).ownBlock)) k_ ∧ some k_ ≠ (u8 : Value).ownBlock) (Kd.R_apart' (HO357.out) (Kd.S_typed HO_8.out) (by decide)) (fun k_ hk => ⟨hk.1.2, hk.2⟩))) (fun _ h_ => h_)))
        (case aB => exact bG)
        (case aF => exact (fun k_ hk => Kd.fresh' (Kd.R_lt (kR HO_28)) k_ hk))
        (case aO => exact (by (with_reducible repeat (first | apply Kd.S_alloc | apply Kd.S_drewN | apply Kd.S_drew)); exact Kd.S_mono HO_8.out (fun k_ hk => ⟨hk.1, fun e_ => hk.2 e_⟩)))
        (case aS => exact (below_size bG))
        (case aL => have := LMc31.out; omega)
        intro v359 w35 ho hb hg hat
        rw [← Ny358.out] at ho
        have n0_ := Aside0.mk (Kd.R_over' (kR HO_28) (Kd.S_typed (kS HO_8)) (by decide) hg)
        have n1_ := Aside0.mk (blk_grown (g := gb342) (o := .cells #[.int .i64 a0_0, .int .i64 a0_1] 25 (0, 0)) bK hg (Kd.S_ne HO_8.out BK342.out (by decide)))
        have n2_ := Aside0.mk (hb)
        have n3_ := Aside0.mk (ho)
        clear HO_28
        clear BK342
        clear HB
        clear HO_8
        clear HO357
        have HO_28 := n0_
        have BK342 := n1_
        have HB := n2_
        have HO360 := n3_
        clear n0_ n1_ n2_ n3_
        clear ho hb hg hat
        refine hK.out _ _ ⟨(blk_cell BK342.out 0).trans rfl, (blk_cell BK342.out 1).trans rfl⟩ (fun hHeld => ?_)
        clear hK K
        refine norm_ (a' := ?_) ?_ ?_
        rotate_left
        ·show Act.put _ (some 51) _ = _
         simp only [Act.put, List.setIfInBounds_toArray, List.set_cons_zero, List.set_cons_succ, i64_w, i32_w]
         rfl
        refine pure_ (i := 15) (N := some 8) (v := ?_) (a' := ?_) #[true, true, true, true, true, true, true, true, true, true, true, true, true, true, true, true] rfl rfl (any_of HT_.out (by kernel_rfl)) (fun _ _ _ h => h) (Or.inl ⟨by rfl, ?_⟩) ?_ ?_
        rotate_left
        ·intro w'
         go_simp
         with_reducible rfl
        rotate_left
        ·simp only [Act.put, List.setIfInBounds_toArray, List.set_cons_zero, List.set_cons_succ, i64_w, i32_w]
         rfl
        refine done_ (done_of HT_.out (by kernel_rfl)) ?_
        try go_wp2
        go_roundg k2
        case measure => have := HJ3.out; have := HK2.out; omega
        case rel => exact ⟨(y358), (wrap64 (x30_2 + 1)), fR, H', ⟨by have := HJ3.out; have := HK2.out; omega⟩, ⟨kS HO360⟩, ⟨by (with_reducible repeat (first | apply Kd.R_alloc | apply Kd.R_drewN | apply Kd.R_drew)); exact Kd.R_mono HO_28.out (fun _ hk => trivial)⟩, ⟨bK⟩, ⟨bG⟩⟩
       ·rw [if_neg c29] at H
        have c29b0 : decide (0 < (rd t351 x30_2)) = false := decide_eq_false c29
        clear c29
        have H' := Aside0.mk H
        clear H
        have p354 : 0 ≤ (x30_2 : Int) := oD
        have q354 : x30_2 < (t351.length : Int) := oD
        obtain ⟨ad354, e354, hx354_0⟩ := Kd.at_int (Kd.R_reads' HO_28.out).2.2 x30_2 p354 q354
        cases e354
        replace p354 := eq_true p354
        replace q354 := eq_true q354
        go_wp2
        go_roundg k2
        case measure => have := HJ3.out; have := HK2.out; omega
        case rel => exact ⟨(x8_2), (wrap64 (x30_2 + 1)), fR, H', ⟨by have := HJ3.out; have := HK2.out; omega⟩, ⟨kS HO_8⟩, ⟨kR HO_28⟩, ⟨bK⟩, ⟨bG⟩⟩
      ·rw [if_neg c26] at H
       have c26b0 : decide (x30_2 < (t351.length : Int)) = false := decide_eq_false c26
       clear c26
       simp only [Option.some.injEq, Prod.mk.injEq] at H
       obtain ⟨rfl, rfl⟩ := H
       go_wp2
       go_ret2
       exact ⟨_, rE, by (with_reducible repeat (first | apply Kd.S_alloc | apply Kd.S_drewN | apply Kd.S_drew)); exact Kd.S_mono HO_8.out (fun _ hk => trivial), bG⟩

/-! ### impl_worst: function 81 -/
def rowsMost (rows : List (List Int)) : Int := rows.foldl (fun n row => max n (row.getD 2 0)) 0
def impl_worst.f (k : Nat) (codes : List ByteArray) (guess : ByteArray) : Option Int := (impl_table.f k codes guess).map rowsMost
theorem impl_worst.mono : ∀ a0 a1 k, LeO (impl_worst.f k a0 a1) (impl_worst.f (k + 1) a0 a1) := fun a0 a1 k => LeO.map _ (impl_table.mono _ _ _)
theorem rowsMost_snoc (rows : List (List Int)) (j : Nat) (h : j < rows.length) : rowsMost (rows.take (j + 1)) = max (rowsMost (rows.take j)) ((rows.getD j []).getD 2 0) := by
 unfold rowsMost
 rw [List.take_succ_eq_append_getElem h, List.foldl_append]
 simp [List.getD_eq_getElem?_getD, h]
set_option maxHeartbeats 4000000 in
set_option maxRecDepth 100000 in
theorem impl_worst.calls (k : Nat) (A0 : Option Addr) (c0 : Nat) (l0 : List ByteArray) (a1 : ByteArray) (r : Int) (w : World) (hr0 : Kd.C Kd.string w A0 l0.length l0) (hc0 : l0.length ≤ c0) (h : impl_worst.f k l0 a1 = some r) :
  Calls Tryz.prog 81 #[.slice A0 l0.length c0, .string a1] w fun e w' => e = .returned (.int .i64 r) ∧ Below w.heap.size w w' := by
 unfold impl_worst.f at h
 obtain ⟨rows, hrows, rfl⟩ := Option.map_eq_some_iff.mp h
 have htab := impl_table.calls k A0 c0 l0 a1 rows w hr0 hc0 hrows
 have HLN : Aside0 (rows.length ≤ 1000) := ⟨impl_table.f_le hrows⟩
 clear hr0 hc0 hrows h
 go_enter Tryz.func81, Tryz.ntmps81
 go_wp2_with (go_at_call 79; refine htab.mono ?_; rintro e w1 ⟨A, g, bb, cc, rfl, h1, h2, h3⟩; have HAG := Aside0.mk h1; have HT := Aside0.mk h2; have HB := Aside0.mk h3; clear h1 h2 h3 htab)
 go_loopg [5, 12] rows.length (fun gg v5 v12 wr => wr = w1 ∧ ∃ j : Nat, v12 = .int .i64 (j : Int) ∧ j ≤ rows.length ∧ rows.length - j ≤ gg ∧ v5 = .int .i64 (rowsMost (rows.take j)))
 case atStart => exact ⟨rfl, 0, rfl, by omega, by omega, rfl⟩
 case round =>
  obtain ⟨rfl, j, rfl, hj, hg, rfl⟩ := hrel
  by_cases hlt : j < rows.length
  ·have hltz : (j : Int) < (rows.length : Int) := by omega
   have hA : A = some ⟨g, 0, none⟩ := by
    rcases HAG.out with h | h
    ·rw [h] at hlt; exact absurd hlt (by simp)
    ·exact h
   subst hA
   obtain ⟨p, o, c, hrow, _, _, hc⟩ := HT.out.row j hlt
   have hcell := HT.out.cell j hlt
   have HSN : Aside0 (rowsMost (rows.take (j + 1)) = max (rowsMost (rows.take j)) c) := ⟨by rw [rowsMost_snoc rows j hlt, hrow]; rfl⟩
   have HNJ : Aside0 (wrap64 ((j : Int) + 1) = ((j + 1 : Nat) : Int)) := ⟨by have := HLN.out; unfold wrap64; omega⟩
   have HLT := Aside0.mk hlt
   have HG := Aside0.mk hg
   obtain ⟨mo, hmo⟩ : ∃ mo, mo = rowsMost (rows.take j) := ⟨_, rfl⟩
   rw [← hmo] at HSN ⊢
   clear hmo hrow hj hg hlt
   go_wp2
   ·rename_i hmc
    go_roundg (rows.length - (j + 1))
    case measure => have := HG.out; have := HLT.out; omega
    case rel => exact ⟨rfl, j + 1, by rw [HNJ.out], by have := HLT.out; omega, Nat.le_refl _, by rw [HSN.out, show max mo c = c by omega]⟩
   ·rename_i hmc
    go_roundg (rows.length - (j + 1))
    case measure => have := HG.out; have := HLT.out; omega
    case rel => exact ⟨rfl, j + 1, by rw [HNJ.out], by have := HLT.out; omega, Nat.le_refl _, by rw [HSN.out, show max mo c = mo by omega]⟩
  ·have hltz : ¬ (j : Int) < (rows.length : Int) := by omega
   have HE : Aside0 (rowsMost (rows.take j) = rowsMost rows) := ⟨by rw [List.take_of_length_le (by omega)]⟩
   clear hj hg hlt
   go_wp2
   go_ret
   exact ⟨by rw [HE.out]; rfl, HB.out⟩

end Go.Proofs.YtcpnmiempaofdaaGreat.G
