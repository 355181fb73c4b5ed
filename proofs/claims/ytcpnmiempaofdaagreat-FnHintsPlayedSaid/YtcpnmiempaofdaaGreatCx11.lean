-- Printed by hp.py, a program of this session: a machine's side of laws, out of the translation; Lean checks it.
import Derived.Test.YtcpnmiempaofdaaGreatCx0
import Derived.Test.YtcpnmiempaofdaaGreatCx4
import Derived.Test.YtcpnmiempaofdaaGreatCx5
import Derived.Test.YtcpnmiempaofdaaGreatCx6
import Derived.Test.YtcpnmiempaofdaaGreatCx7
namespace Go.Proofs.YtcpnmiempaofdaaGreat.C
open Go.RowKit Go.Proofs.YtcpnmiempaofdaaGreatW.PrintWords Go.Proofs.YtcpnmiempaofdaaGreatW.PrintLast Go.Proofs.YtcpnmiempaofdaaGreatW.PrintMore
attribute [local go_sem] max2_int min2_int max_two min_two max_three min_three max_four min_four   -- for this text's walks alone
set_option linter.unusedVariables false
set_option linter.unusedSimpArgs false

/-! ### impl_CountWithHint: function 22 -/
def impl_CountWithHint.j0 : Nat → Int → Int → Bool → Int → Int → Option (Int × Bool)
 | 0, _, _, _, _, _ => none
 | k + 1, x1, x2, x17, x380000, x380001 => if x17 = true then (some (0, false)) else ((impl_Lock_code.f k x380000 x380001 0).bind fun t382 => ((impl_Lock_fitting.f k x380000 x380001 (([(⟨t382, x1, x2⟩ : S35)] : List (S35)))).bind fun t386 => (some ((t386.length : Int), true))))
def impl_CountWithHint.f (k : Nat) (a0_0 : Int) (a0_1 : Int) (a1 : Int) (a2 : Int) : Option (Int × Bool) := (impl_isHinted.f k a0_0 a0_1 ([] : List ByteArray)).bind fun t380 => (if t380 = true then ((impl_Lock_isTold.f a0_0 a0_1 a1 a2).bind fun t381 => (impl_CountWithHint.j0 k a1 a2 (!t381) a0_0 a0_1)) else (impl_CountWithHint.j0 k a1 a2 true a0_0 a0_1))
theorem impl_CountWithHint.mono_l : ∀ k, (∀ y0 y1 y2 y3 y4, LeO (impl_CountWithHint.j0 k y0 y1 y2 y3 y4) (impl_CountWithHint.j0 (k + 1) y0 y1 y2 y3 y4))
 | 0 => fun _ _ _ _ _ r h => by simp [impl_CountWithHint.j0] at h
 | k + 1 => by
  have ih0 := impl_CountWithHint.mono_l k
  ·intro y0 y1 y2 y3 y4
   unfold impl_CountWithHint.j0
   repeat' first
   | (with_reducible exact ih0 _ _ _ _ _)
   | (with_reducible exact impl_Lock_code.mono _ _ _ _)
   | (with_reducible exact impl_Lock_fitting.mono _ _ _ _)
   | (with_reducible exact impl_isHinted.mono _ _ _ _)
   | (with_reducible exact LeO.refl _)
   | (with_reducible exact LeO.none _)
   | (with_reducible refine LeO.ite ?_ ?_)
   | (with_reducible refine LeO.bind ?_ (fun _ => ?_))
   | exact ih0 _ _ _ _ _
   | exact impl_Lock_code.mono _ _ _ _
   | exact impl_Lock_fitting.mono _ _ _ _
   | exact impl_isHinted.mono _ _ _ _
   | exact LeO.none _
   | refine LeO.ite ?_ ?_
   | refine LeO.bind ?_ (fun _ => ?_)
theorem impl_CountWithHint.mono : ∀ a0 a1 a2 a3 k, LeO (impl_CountWithHint.f k a0 a1 a2 a3) (impl_CountWithHint.f (k + 1) a0 a1 a2 a3) := by
 intro a0 a1 a2 a3 k
 have ih0 := impl_CountWithHint.mono_l k
 unfold impl_CountWithHint.f
 repeat' first
   | (with_reducible exact ih0 _ _ _ _ _)
   | (with_reducible exact impl_Lock_code.mono _ _ _ _)
   | (with_reducible exact impl_Lock_fitting.mono _ _ _ _)
   | (with_reducible exact impl_isHinted.mono _ _ _ _)
   | (with_reducible exact LeO.refl _)
   | (with_reducible exact LeO.none _)
   | (with_reducible refine LeO.ite ?_ ?_)
   | (with_reducible refine LeO.bind ?_ (fun _ => ?_))
   | exact ih0 _ _ _ _ _
   | exact impl_Lock_code.mono _ _ _ _
   | exact impl_Lock_fitting.mono _ _ _ _
   | exact impl_isHinted.mono _ _ _ _
   | exact LeO.none _
   | refine LeO.ite ?_ ?_
   | refine LeO.bind ?_ (fun _ => ?_)
def impl_CountWithHint.T3 : Bool × List (List Nat × List Nat) := (true, [([], []), ([], []), ([1], [1]), ([], []), ([], []), ([2, 3, 4], [2, 3, 4]), ([5], [5]), ([0, 6, 2], [0, 6]), ([7], [7]), ([8, 7, 0, 1, 2, 3, 4, 5, 6, 7, 8], [8]), ([9, 0, 1, 2, 3, 4, 5, 6, 7, 8, 9], [])])
def impl_CountWithHint.B3 : List Nat := [0, 0, 2, 0, 0, 30, 62, 127, 255, 511, 1023]
theorem impl_CountWithHint.tab3 : rtab .any (opsOf Tryz.f22 3) = impl_CountWithHint.T3 := by kernel_rfl
theorem impl_CountWithHint.bits3 : waitsOk impl_CountWithHint.T3.2 impl_CountWithHint.B3 = true := by kernel_rfl
set_option maxHeartbeats 8000000 in
set_option maxRecDepth 100000 in
theorem impl_CountWithHint.calls (k : Nat) (a0_0 : Int) (a0_1 : Int) (a1 : Int) (a2 : Int) (r1 : Int) (r2 : Bool) (w : World) (h : impl_CountWithHint.f k a0_0 a0_1 a1 a2 = some (r1, r2)) :
  Calls Tryz.prog 22 #[.agg #[.int .i64 a0_0, .int .i64 a0_1], .int .i64 a1, .int .i64 a2] w fun e w' => e = .returned (.tuple #[.int .i64 r1, .bool r2]) ∧ Below w.heap.size w w' := by
 have hu25 := Tryz.underlying25
 have hu35 := Tryz.underlying35
 have HB := Aside0.mk (Below.refl w.heap.size w)
 have H : ((impl_isHinted.f k a0_0 a0_1 ([] : List ByteArray)).bind fun t380 => (if t380 = true then ((impl_Lock_isTold.f a0_0 a0_1 a1 a2).bind fun t381 => (impl_CountWithHint.j0 k a1 a2 (!t381) a0_0 a0_1)) else (impl_CountWithHint.j0 k a1 a2 true a0_0 a0_1))) = some (r1, r2) := h
 clear h
 have HC4 := Aside0.mk H
 clear H
 go_enter Tryz.func22, Tryz.ntmps22
 go_upto_region 1 with (first | ((with_reducible refine gate_dst (N := 3) rfl ?_); refine box_event ?hg (N := 3) ?hd (cs := #[.int .i64 a0_0, .int .i64 a0_1]) (t := 25) ?hr ?_; (case hd => rfl); (case hg => rfl); (case hr => first | (go_simp; done) | (go_simp; rfl)); intro gb379 hg w5 hbox hb; have n0_ := Aside0.mk (below_step bB hb); have n1_ := Aside0.mk (hbox); have n2_ := Aside0.mk ((by rw [hg]; exact (below_size bB) : w.heap.size ≤ gb379)); have n3_ := Aside0.mk ((by rw [hg]; exact (below_size bB) : w.heap.size ≤ gb379)); clear HB; have HB := n0_; have BK379 := n1_; have GW379 := n2_; have GE379 := n3_; clear n0_ n1_ n2_ n3_; clear hb hbox hg))
 (try simp only [Act.put, List.setIfInBounds_toArray, List.set_cons_zero, List.set_cons_succ])
 go_cut [17] (fun v17 wc => ∃ (kq : Nat) (x17_3 : Bool), v17 = .bool x17_3 ∧ Aside0 (impl_CountWithHint.j0 kq a1 a2 x17_3 a0_0 a0_1 = some (r1, r2)) ∧ Aside0 (kq ≤ k) ∧ Aside0 (wc.heap[gb379]? = some (.cells #[.int .i64 a0_0, .int .i64 a0_1] 25 (0, 0))) ∧ Aside0 (Below w.heap.size w wc))
 case first =>
  have H := HC4.out
  clear HC4
  replace H := Option.bind_eq_some_iff.mp H
  obtain ⟨t380, A60, H⟩ := H
  replace H : (if t380 = true then ((impl_Lock_isTold.f a0_0 a0_1 a1 a2).bind fun t381 => (impl_CountWithHint.j0 k a1 a2 (!t381) a0_0 a0_1)) else (impl_CountWithHint.j0 k a1 a2 true a0_0 a0_1)) = some (r1, r2) := H
  have A6 := Aside0.mk A60
  clear A60
  by_cases c7 : t380 = true
  ·subst c7
   have H1 : ((impl_Lock_isTold.f a0_0 a0_1 a1 a2).bind fun t381 => (impl_CountWithHint.j0 k a1 a2 (!t381) a0_0 a0_1)) = some (r1, r2) := by rw [if_pos rfl] at H; exact H
   clear H
   have H := H1
   clear H1
   replace H := Option.bind_eq_some_iff.mp H
   obtain ⟨t381, A80, H⟩ := H
   replace H : (impl_CountWithHint.j0 k a1 a2 (!t381) a0_0 a0_1) = some (r1, r2) := H
   have A8 := Aside0.mk A80
   clear A80
   have H' := Aside0.mk H
   clear H
   have hcz9_0 : w5.cell? ⟨gb379, 0, none⟩ = some (.int .i64 a0_0) := (blk_cell BK379.out 0).trans rfl
   have hcz9_1 : w5.cell? ⟨gb379, 1, none⟩ = some (.int .i64 a0_1) := (blk_cell BK379.out 1).trans rfl
   have hfz9_0 := blk_frozen BK379.out 0
   have hfz9_1 := blk_frozen BK379.out 1
   go_wp2_with (first | ((with_reducible refine gate_callee (f := 51) rfl ?_); refine goesL_ (some 9) rfl rfl Tryz.func51 (by kernel_rfl) rfl #[.agg #[.int .i64 a0_0, .int .i64 a0_1], .slice none 0 0] rfl lM ?_; (refine (impl_isHinted.calls k a0_0 a0_1 _ _ ([] : List ByteArray) true _ ?side1 ?side2 A6.out).mono ?_); (case side1 => exact Kd.C_nil _ _); (case side2 => exact Nat.le_refl _); rintro e w10 ⟨rfl, hb⟩; refine ⟨_, rfl, ?_⟩; have n0_ := Aside0.mk (blk_below (g := gb379) (o := .cells #[.int .i64 a0_0, .int .i64 a0_1] 25 (0, 0)) bK hb); have n1_ := Aside0.mk (below_step bG hb); clear BK379; clear HB; have BK379 := n0_; have HB := n1_; clear n0_ n1_; (try clear hb); (try clear hb2); (try clear hk); (try clear hi); have hcz11_0 : w10.cell? ⟨gb379, 0, none⟩ = some (.int .i64 a0_0) := (blk_cell BK379.out 0).trans rfl; have hcz11_1 : w10.cell? ⟨gb379, 1, none⟩ = some (.int .i64 a0_1) := (blk_cell BK379.out 1).trans rfl; have hfz11_0 := blk_frozen BK379.out 0; have hfz11_1 := blk_frozen BK379.out 1) | (go_at_call 69; (with_reducible refine (impl_Lock_isTold.calls a0_0 a0_1 a1 a2 t381 _ A8.out).mono ?_); rintro e w12 ⟨rfl, hb⟩; have n0_ := Aside0.mk (blk_below (g := gb379) (o := .cells #[.int .i64 a0_0, .int .i64 a0_1] 25 (0, 0)) bK hb); have n1_ := Aside0.mk (below_step bG hb); clear BK379; clear HB; have BK379 := n0_; have HB := n1_; clear n0_ n1_; (try clear hb); (try clear hb2); (try clear hk); (try clear hi)))
   go_meet
   case rel => exact ⟨_, (!t381), fR, H', ⟨by first | omega | exact Nat.le_refl _⟩, ⟨bK⟩, ⟨bG⟩⟩
  ·replace c7 := Bool.eq_false_iff.mpr c7
   subst c7
   have H1 : (impl_CountWithHint.j0 k a1 a2 true a0_0 a0_1) = some (r1, r2) := by rw [if_neg (show ¬ (false = true) by decide)] at H; exact H
   clear H
   have H := H1
   clear H1
   have H' := Aside0.mk H
   clear H
   have hcz13_0 : w5.cell? ⟨gb379, 0, none⟩ = some (.int .i64 a0_0) := (blk_cell BK379.out 0).trans rfl
   have hcz13_1 : w5.cell? ⟨gb379, 1, none⟩ = some (.int .i64 a0_1) := (blk_cell BK379.out 1).trans rfl
   have hfz13_0 := blk_frozen BK379.out 0
   have hfz13_1 := blk_frozen BK379.out 1
   go_wp2_with (first | ((with_reducible refine gate_callee (f := 51) rfl ?_); refine goesL_ (some 9) rfl rfl Tryz.func51 (by kernel_rfl) rfl #[.agg #[.int .i64 a0_0, .int .i64 a0_1], .slice none 0 0] rfl lM ?_; (refine (impl_isHinted.calls k a0_0 a0_1 _ _ ([] : List ByteArray) false _ ?side1 ?side2 A6.out).mono ?_); (case side1 => exact Kd.C_nil _ _); (case side2 => exact Nat.le_refl _); rintro e w14 ⟨rfl, hb⟩; refine ⟨_, rfl, ?_⟩; have n0_ := Aside0.mk (blk_below (g := gb379) (o := .cells #[.int .i64 a0_0, .int .i64 a0_1] 25 (0, 0)) bK hb); have n1_ := Aside0.mk (below_step bG hb); clear BK379; clear HB; have BK379 := n0_; have HB := n1_; clear n0_ n1_; (try clear hb); (try clear hb2); (try clear hk); (try clear hi)))
   go_meet
   case rel => exact ⟨_, (true), fR, H', ⟨by first | omega | exact Nat.le_refl _⟩, ⟨bK⟩, ⟨bG⟩⟩
 case rest =>
  clear HC4
  try clear c2
  try clear p2
  try clear c5
  try clear c7
  try clear hcz11_0
  try clear hcz11_1
  try clear hcz13_0
  try clear hcz13_1
  try clear hcz9_0
  try clear hcz9_1
  try clear hfz11_0
  try clear hfz11_1
  try clear hfz13_0
  try clear hfz13_1
  try clear hfz9_0
  try clear hfz9_1
  obtain ⟨kq, x17_3, rfl, HA, HJ3, BK379, HB⟩ := hcut
  cases kq with
  | zero => exact absurd HA.out (by simp [impl_CountWithHint.j0])
  | succ kj3 =>
   have H := HA.out
   clear HA
   simp only [impl_CountWithHint.j0] at H
   by_cases c15 : x17_3 = true
   ·subst c15
    have H1 : (some (0, false)) = some (r1, r2) := by rw [if_pos rfl] at H; exact H
    clear H
    have H := H1
    clear H1
    simp only [Option.some.injEq, Prod.mk.injEq] at H
    obtain ⟨rfl, rfl⟩ := H
    go_wp2
    go_ret2
    exact ⟨by first | rfl | (simp [errW_none, errW_some] <;> rfl) | (simp [*, errW_none, errW_some] <;> rfl), bG⟩
   ·replace c15 := Bool.eq_false_iff.mpr c15
    subst c15
    have H1 : ((impl_Lock_code.f kj3 a0_0 a0_1 0).bind fun t382 => ((impl_Lock_fitting.f kj3 a0_0 a0_1 (([(⟨t382, a1, a2⟩ : S35)] : List (S35)))).bind fun t386 => (some ((t386.length : Int), true)))) = some (r1, r2) := by rw [if_neg (show ¬ (false = true) by decide)] at H; exact H
    clear H
    have H := H1
    clear H1
    replace H := Option.bind_eq_some_iff.mp H
    obtain ⟨t382, A160, H⟩ := H
    replace H : ((impl_Lock_fitting.f kj3 a0_0 a0_1 (([(⟨t382, a1, a2⟩ : S35)] : List (S35)))).bind fun t386 => (some ((t386.length : Int), true))) = some (r1, r2) := H
    have A16 := Aside0.mk A160
    clear A160
    obtain ⟨y383, hy383⟩ : ∃ y_ : List (S35), y_ = (([(⟨t382, a1, a2⟩ : S35)] : List (S35))) := ⟨_, rfl⟩
    replace H : ((impl_Lock_fitting.f kj3 a0_0 a0_1 y383).bind fun t386 => (some ((t386.length : Int), true))) = some (r1, r2) := by first | (rw [hy383]; with_reducible exact H) | (have H2_ := (Option.bind_some _ _).symm.trans H; rw [hy383]; with_reducible exact H2_) | (have H2_ := (Option.bind_some _ _).symm.trans H; with_reducible exact H2_) | with_reducible exact H | (rw [hy383]; exact H) | exact H
    have Ny383 := Aside0.mk hy383
    clear hy383
    replace H := Option.bind_eq_some_iff.mp H
    obtain ⟨t386, A170, H⟩ := H
    replace H : (some ((t386.length : Int), true)) = some (r1, r2) := H
    have A17 := Aside0.mk A170
    clear A170
    simp only [Option.some.injEq, Prod.mk.injEq] at H
    obtain ⟨rfl, rfl⟩ := H
    try go_wp2
    have n0_ := Aside0.mk (blk_drew BK379.out)
    have n1_ := Aside0.mk (below_drew1 HB.out)
    clear BK379
    clear HB
    have BK379 := n0_
    have HB := n1_
    clear n0_ n1_
    refine start_ (n := 11) (S := fun w' => w'.cell? ⟨gb379, 0, none⟩ = some (.int .i64 a0_0) ∧ w'.cell? ⟨gb379, 1, none⟩ = some (.int .i64 a0_1)) (ds := []) #[false, false, false, false, false, false, false, false, false, false, false] (by kernel_rfl) rfl rfl ⟨(blk_cell BK379.out 0).trans rfl, (blk_cell BK379.out 1).trans rfl⟩ (fun hHeld => ?_); refine with_tabW impl_CountWithHint.tab3 impl_CountWithHint.bits3 (fun HT_ HW_ => ?_)
    generalize wc.drew = w18 at BK379 HB hHeld ⊢
    refine pure_ (i := 3) (N := some 21) (v := ?_) (a' := ?_) #[false, false, false, true, false, false, false, false, false, false, false] rfl rfl (any_of HT_.out (by kernel_rfl)) (fun _ _ _ h => h) (Or.inl ⟨by rfl, ?_⟩) ?_ ?_
    rotate_left
    ·intro w'
     go_simp
     with_reducible rfl
    rotate_left
    ·simp only [Act.put, List.setIfInBounds_toArray, List.set_cons_zero, List.set_cons_succ, i64_w, i32_w]
     rfl
    refine pure_ (i := 4) (N := some 22) (v := ?_) (a' := ?_) #[false, false, false, true, true, false, false, false, false, false, false] rfl rfl (any_of HT_.out (by kernel_rfl)) (fun _ _ _ h => h) (Or.inl ⟨by rfl, ?_⟩) ?_ ?_
    rotate_left
    ·intro w'
     go_simp
     with_reducible rfl
    rotate_left
    ·simp only [Act.put, List.setIfInBounds_toArray, List.set_cons_zero, List.set_cons_succ, i64_w, i32_w]
     rfl
    refine take_ (i := 0) (N := some 18) (v := ?_) (a' := ?_) #[true, false, false, true, true, false, false, false, false, false, false] rfl rfl (take_ofW HT_.out HW_.out (by kernel_rfl)) (fun _ _ _ h => h) (Or.inl ⟨by rfl, ?_⟩) hHeld ?_ ?_
    rotate_left
    ·rintro w' ⟨s0, s1⟩
     go_simp
     with_reducible rfl
    rotate_left
    ·simp only [Act.put, List.setIfInBounds_toArray, List.set_cons_zero, List.set_cons_succ, i64_w, i32_w]
     rfl
    refine take_ (i := 1) (N := some 19) (v := ?_) (a' := ?_) #[true, true, false, true, true, false, false, false, false, false, false] rfl rfl (take_ofW HT_.out HW_.out (by kernel_rfl)) (fun _ _ _ h => h) (Or.inl ⟨by rfl, ?_⟩) hHeld ?_ ?_
    rotate_left
    ·rintro w' ⟨s0, s1⟩
     go_simp
     with_reducible rfl
    rotate_left
    ·simp only [Act.put, List.setIfInBounds_toArray, List.set_cons_zero, List.set_cons_succ, i64_w, i32_w]
     rfl
    refine one_ (i := 2) (N := some 20) #[true, true, true, true, true, false, false, false, false, false, false] rfl rfl (one_of HT_.out (by kernel_rfl)) (by decide) (fun K hK => ?_)
    refine goes_ Tryz.func70 (by kernel_rfl) rfl #[.agg #[.int .i64 a0_0, .int .i64 a0_1], .int .i64 0] (by rfl) rfl rfl lM ?_
    with_reducible refine (impl_Lock_code.calls kj3 a0_0 a0_1 0 t382 _ A16.out).mono ?_
    rintro e w19 ⟨rfl, hb⟩
    refine ⟨_, rfl, ?_⟩
    have n0_ := Aside0.mk (blk_below (g := gb379) (o := .cells #[.int .i64 a0_0, .int .i64 a0_1] 25 (0, 0)) bK hb)
    have n1_ := Aside0.mk (below_step bG hb)
    clear BK379
    clear HB
    have BK379 := n0_
    have HB := n1_
    clear n0_ n1_
    (try clear hb)
    (try clear hb2)
    (try clear hk)
    (try clear hi)
    refine hK.out _ _ ⟨(blk_cell BK379.out 0).trans rfl, (blk_cell BK379.out 1).trans rfl⟩ (fun hHeld => ?_)
    clear hK K
    refine norm_ (a' := ?_) ?_ ?_
    rotate_left
    ·show Act.put _ (some 20) _ = _
     simp only [Act.put, List.setIfInBounds_toArray, List.set_cons_zero, List.set_cons_succ, i64_w, i32_w]
     rfl
    refine pure_ (i := 5) (N := some 23) (v := ?_) (a' := ?_) #[true, true, true, true, true, true, false, false, false, false, false] rfl rfl (any_of HT_.out (by kernel_rfl)) (fun _ _ _ h => h) (Or.inl ⟨by rfl, ?_⟩) ?_ ?_
    rotate_left
    ·intro w'
     go_simp
     with_reducible rfl
    rotate_left
    ·simp only [Act.put, List.setIfInBounds_toArray, List.set_cons_zero, List.set_cons_succ, i64_w, i32_w]
     rfl
    refine one_ (i := 6) (N := some 24) #[true, true, true, true, true, true, true, false, false, false, false] rfl rfl (one_of HT_.out (by kernel_rfl)) (by decide) (fun K hK => ?_)
    refine Kd.R_lit_step k35 _ 35 ?hg (N := 24) ?hd (xs := ([(⟨t382, a1, a2⟩ : S35)] : List (S35))) (inner := [.string t382, .int .i64 a1, .int .i64 a2]) (ok := fun _ => True) (okp := fun _ => True) ?hr ?hp (fun _ hk => hk) trivial (Below.refl _ _) (Nat.le_refl _) (by simp) ?_; (case hd => rfl); (case hg => rfl); (case hr => first | (go_simp; done) | (go_simp; rfl)); (case hp => exact (Reps.c3 (show Kd.M k35 _ _ _ (⟨t382, a1, a2⟩ : S35) [.string t382, .int .i64 a1, .int .i64 a2] from (k35_mkM _ _ _ (⟨t382, a1, a2⟩ : S35) )) (Reps.none _ _)))
    intro v384 w20 ho21 hb hg_ hnew_
    clear hg_ hnew_
    (first | rw [← Ny383.out] at ho21 | (simp only [Int.reduceToNat] at ho21; rw [← Ny383.out] at ho21))
    have n0_ := Aside0.mk (Kd.R_lower ho21 (below_size bG))
    have n1_ := Aside0.mk (blk_below (g := gb379) (o := .cells #[.int .i64 a0_0, .int .i64 a0_1] 25 (0, 0)) bK hb)
    have n2_ := Aside0.mk (below_step bG hb)
    clear BK379
    clear HB
    have HO385 := n0_
    have BK379 := n1_
    have HB := n2_
    clear n0_ n1_ n2_
    clear hb ho21
    obtain ⟨Ao22, co22, eo22⟩ := Kd.R_slice HO385.out
    (first | subst eo22 | (injection eo22 with f1_ f2_ f3_; have f4_ := f1_.symm; have f5_ := f3_.symm; clear f1_ f2_ f3_; subst f4_; subst f5_))
    refine hK.out _ _ ⟨(blk_cell BK379.out 0).trans rfl, (blk_cell BK379.out 1).trans rfl⟩ (fun hHeld => ?_)
    clear hK K
    refine norm_ (a' := ?_) ?_ ?_
    rotate_left
    ·show Act.put _ (some 24) _ = _
     simp only [Act.put, List.setIfInBounds_toArray, List.set_cons_zero, List.set_cons_succ, i64_w, i32_w]
     rfl
    refine one_ (i := 7) (N := some 25) #[true, true, true, true, true, true, true, true, false, false, false] rfl rfl (one_of HT_.out (by kernel_rfl)) (by decide) (fun K hK => ?_)
    refine goes_ Tryz.func58 (by kernel_rfl) rfl #[.agg #[.int .i64 a0_0, .int .i64 a0_1], .slice Ao22 y383.length co22] (by rfl) rfl rfl lM ?_
    with_reducible refine (impl_Lock_fitting.calls kj3 a0_0 a0_1 _ _ y383 t386 _ ?side1 ?side2 A17.out).mono ?_
    (case side1 => repeat (first | exact (Kd.R_reads' HO385.out).2.2 | (with_reducible refine Kd.C_alloc ?_ _) | (with_reducible refine Kd.C_drewN ?_ _) | (with_reducible refine Kd.C_drew ?_)))
    (case side2 => exact (Kd.R_reads' HO385.out).2.1)
    rintro e w23 ⟨v387, rfl, ho0, hb⟩
    refine ⟨_, rfl, ?_⟩
    have n0_ := Aside0.mk (Kd.R_below (by (with_reducible repeat (first | apply Kd.R_alloc | apply Kd.R_drewN | apply Kd.R_drew)); exact HO385.out) hb)
    have n1_ := Aside0.mk (Kd.R_lower ho0 (below_size bG))
    have n2_ := Aside0.mk (blk_below (g := gb379) (o := .cells #[.int .i64 a0_0, .int .i64 a0_1] 25 (0, 0)) bK hb)
    have n3_ := Aside0.mk (below_step bG hb)
    clear HO385
    clear BK379
    clear HB
    have HO385 := n0_
    have HO388 := n1_
    have BK379 := n2_
    have HB := n3_
    clear n0_ n1_ n2_ n3_
    (try clear hb)
    (try clear hb2)
    (try clear hk)
    (try clear hi)
    (try clear ho0)
    obtain ⟨Ao24, co24, eo24⟩ := Kd.R_slice HO388.out
    (first | subst eo24 | (injection eo24 with f1_ f2_ f3_; have f4_ := f1_.symm; have f5_ := f3_.symm; clear f1_ f2_ f3_; subst f4_; subst f5_))
    refine hK.out _ _ ⟨(blk_cell BK379.out 0).trans rfl, (blk_cell BK379.out 1).trans rfl⟩ (fun hHeld => ?_)
    clear hK K
    refine norm_ (a' := ?_) ?_ ?_
    rotate_left
    ·show Act.put _ (some 25) _ = _
     simp only [Act.put, List.setIfInBounds_toArray, List.set_cons_zero, List.set_cons_succ, i64_w, i32_w]
     rfl
    refine pure_ (i := 8) (N := some 26) (v := ?_) (a' := ?_) #[true, true, true, true, true, true, true, true, true, false, false] rfl rfl (any_of HT_.out (by kernel_rfl)) (fun _ _ _ h => h) (Or.inl ⟨by rfl, ?_⟩) ?_ ?_
    rotate_left
    ·intro w'
     go_simp
     with_reducible rfl
    rotate_left
    ·simp only [Act.put, List.setIfInBounds_toArray, List.set_cons_zero, List.set_cons_succ, i64_w, i32_w]
     rfl
    refine pure_ (i := 9) (N := some 6) (v := ?_) (a' := ?_) #[true, true, true, true, true, true, true, true, true, true, false] rfl rfl (any_of HT_.out (by kernel_rfl)) (fun _ _ _ h => h) (Or.inl ⟨by rfl, ?_⟩) ?_ ?_
    rotate_left
    ·intro w'
     go_simp
     with_reducible rfl
    rotate_left
    ·simp only [Act.put, List.setIfInBounds_toArray, List.set_cons_zero, List.set_cons_succ, i64_w, i32_w]
     rfl
    refine pure_ (i := 10) (N := some 7) (v := ?_) (a' := ?_) #[true, true, true, true, true, true, true, true, true, true, true] rfl rfl (any_of HT_.out (by kernel_rfl)) (fun _ _ _ h => h) (Or.inl ⟨by rfl, ?_⟩) ?_ ?_
    rotate_left
    ·intro w'
     go_simp
     with_reducible rfl
    rotate_left
    ·simp only [Act.put, List.setIfInBounds_toArray, List.set_cons_zero, List.set_cons_succ, i64_w, i32_w]
     rfl
    refine done_ (done_of HT_.out (by kernel_rfl)) ?_
    try go_wp2
    go_ret2
    exact ⟨by first | rfl | (simp [errW_none, errW_some] <;> rfl) | (simp [*, errW_none, errW_some] <;> rfl), bG⟩

/-! ### spec_hiTold: function 71 -/
def spec_hiTold.f (a0_0 : Int) (a0_1 : Int) (a1 : Int) (a2 : Int) : Option (Bool) := (spec_l1In.f a1 0 a0_0).bind fun t390 => (if t390 = true then ((spec_l1In.f a2 0 (wrap64 (a0_0 - a1))).bind fun t391 => (some t391)) else (some false))
set_option maxHeartbeats 8000000 in
set_option maxRecDepth 100000 in
theorem spec_hiTold.calls (a0_0 : Int) (a0_1 : Int) (a1 : Int) (a2 : Int) (r : Bool) (w : World) (h : spec_hiTold.f a0_0 a0_1 a1 a2 = some r) :
  Calls Tryz.prog 71 #[.agg #[.int .i64 a0_0, .int .i64 a0_1], .int .i64 a1, .int .i64 a2] w fun e w' => e = .returned (.bool r) ∧ Below w.heap.size w w' := by
 have hu25 := Tryz.underlying25
 have HB := Aside0.mk (Below.refl w.heap.size w)
 have H : ((spec_l1In.f a1 0 a0_0).bind fun t390 => (if t390 = true then ((spec_l1In.f a2 0 (wrap64 (a0_0 - a1))).bind fun t391 => (some t391)) else (some false))) = some r := h
 clear h
 replace H := Option.bind_eq_some_iff.mp H
 obtain ⟨t390, A40, H⟩ := H
 replace H : (if t390 = true then ((spec_l1In.f a2 0 (wrap64 (a0_0 - a1))).bind fun t391 => (some t391)) else (some false)) = some r := H
 have A4 := Aside0.mk A40
 clear A40
 by_cases c5 : t390 = true
 ·subst c5
  have H1 : ((spec_l1In.f a2 0 (wrap64 (a0_0 - a1))).bind fun t391 => (some t391)) = some r := by rw [if_pos rfl] at H; exact H
  clear H
  have H := H1
  clear H1
  replace H := Option.bind_eq_some_iff.mp H
  obtain ⟨t391, A60, H⟩ := H
  replace H : (some t391) = some r := H
  have A6 := Aside0.mk A60
  clear A60
  obtain rfl := Option.some.inj H
  go_enter Tryz.func71, Tryz.ntmps71
  go_wp2_with (first | ((with_reducible refine gate_dst (N := 3) rfl ?_); refine box_event ?hg (N := 3) ?hd (cs := #[.int .i64 a0_0, .int .i64 a0_1]) (t := 25) ?hr ?_; (case hd => rfl); (case hg => rfl); (case hr => first | (go_simp; done) | (go_simp; rfl)); intro gb389 hg w7 hbox hb; have n0_ := Aside0.mk (below_step bB hb); have n1_ := Aside0.mk (hbox); have n2_ := Aside0.mk ((by rw [hg]; exact (below_size bB) : w.heap.size ≤ gb389)); have n3_ := Aside0.mk ((by rw [hg]; exact (below_size bB) : w.heap.size ≤ gb389)); clear HB; have HB := n0_; have BK389 := n1_; have GW389 := n2_; have GE389 := n3_; clear n0_ n1_ n2_ n3_; clear hb hbox hg; have hcz8_0 : w7.cell? ⟨gb389, 0, none⟩ = some (.int .i64 a0_0) := (blk_cell BK389.out 0).trans rfl; have hcz8_1 : w7.cell? ⟨gb389, 1, none⟩ = some (.int .i64 a0_1) := (blk_cell BK389.out 1).trans rfl; have hfz8_0 := blk_frozen BK389.out 0; have hfz8_1 := blk_frozen BK389.out 1) | ((with_reducible refine gate_callee (f := 99) rfl ?_); refine goesL_ (some 10) rfl rfl Tryz.func99 (by kernel_rfl) rfl #[.int .i64 a1, .int .i64 0, .int .i64 a0_0] rfl lM ?_; (with_reducible refine (spec_l1In.calls a1 0 a0_0 true _ A4.out).mono ?_); rintro e w' ⟨rfl, ⟨nd, rfl⟩⟩; refine ⟨_, rfl, ?_⟩) | (go_at_call 99; (with_reducible refine (spec_l1In.calls a2 0 (wrap64 (a0_0 - a1)) t391 _ A6.out).mono ?_); rintro e w' ⟨rfl, ⟨nd, rfl⟩⟩))
  go_ret
  exact ⟨by first | rfl | (simp [errW_none, errW_some] <;> rfl) | (simp [*, errW_none, errW_some] <;> rfl), bG⟩
 ·replace c5 := Bool.eq_false_iff.mpr c5
  subst c5
  have H1 : (some false) = some r := by rw [if_neg (show ¬ (false = true) by decide)] at H; exact H
  clear H
  have H := H1
  clear H1
  obtain rfl := Option.some.inj H
  go_enter Tryz.func71, Tryz.ntmps71
  go_wp2_with (first | ((with_reducible refine gate_dst (N := 3) rfl ?_); refine box_event ?hg (N := 3) ?hd (cs := #[.int .i64 a0_0, .int .i64 a0_1]) (t := 25) ?hr ?_; (case hd => rfl); (case hg => rfl); (case hr => first | (go_simp; done) | (go_simp; rfl)); intro gb389 hg w9 hbox hb; have n0_ := Aside0.mk (below_step bB hb); have n1_ := Aside0.mk (hbox); have n2_ := Aside0.mk ((by rw [hg]; exact (below_size bB) : w.heap.size ≤ gb389)); have n3_ := Aside0.mk ((by rw [hg]; exact (below_size bB) : w.heap.size ≤ gb389)); clear HB; have HB := n0_; have BK389 := n1_; have GW389 := n2_; have GE389 := n3_; clear n0_ n1_ n2_ n3_; clear hb hbox hg; have hcz10_0 : w9.cell? ⟨gb389, 0, none⟩ = some (.int .i64 a0_0) := (blk_cell BK389.out 0).trans rfl; have hcz10_1 : w9.cell? ⟨gb389, 1, none⟩ = some (.int .i64 a0_1) := (blk_cell BK389.out 1).trans rfl; have hfz10_0 := blk_frozen BK389.out 0; have hfz10_1 := blk_frozen BK389.out 1) | ((with_reducible refine gate_callee (f := 99) rfl ?_); refine goesL_ (some 10) rfl rfl Tryz.func99 (by kernel_rfl) rfl #[.int .i64 a1, .int .i64 0, .int .i64 a0_0] rfl lM ?_; (with_reducible refine (spec_l1In.calls a1 0 a0_0 false _ A4.out).mono ?_); rintro e w' ⟨rfl, ⟨nd, rfl⟩⟩; refine ⟨_, rfl, ?_⟩))
  go_ret
  exact ⟨by first | rfl | (simp [errW_none, errW_some] <;> rfl) | (simp [*, errW_none, errW_some] <;> rfl), bG⟩

/-! ### spec_CountWithHint: function 23 -/
def spec_CountWithHint.j0 : Nat → Int → Int → Bool → Int → Int → Option (Int × Bool)
 | 0, _, _, _, _, _ => none
 | k + 1, x1, x2, x18, x393000, x393001 => if x18 = true then (some (0, false)) else ((spec_whOf.f k x393000 x393001 0).bind fun t395 => ((spec_hiAll.f k x393000 x393001).bind fun t397 => ((spec_hiFitting.f k t397 (([(⟨t395, x1, x2⟩ : S35)] : List (S35)))).bind fun t403 => (some ((t403.length : Int), true)))))
def spec_CountWithHint.f (k : Nat) (a0_0 : Int) (a0_1 : Int) (a1 : Int) (a2 : Int) : Option (Int × Bool) := (spec_hiLock.f k a0_0 a0_1 1000).bind fun t393 => (if t393 = true then ((spec_hiTold.f a0_0 a0_1 a1 a2).bind fun t394 => (spec_CountWithHint.j0 k a1 a2 (!t394) a0_0 a0_1)) else (spec_CountWithHint.j0 k a1 a2 true a0_0 a0_1))
theorem spec_CountWithHint.mono_l : ∀ k, (∀ y0 y1 y2 y3 y4, LeO (spec_CountWithHint.j0 k y0 y1 y2 y3 y4) (spec_CountWithHint.j0 (k + 1) y0 y1 y2 y3 y4))
 | 0 => fun _ _ _ _ _ r h => by simp [spec_CountWithHint.j0] at h
 | k + 1 => by
  have ih0 := spec_CountWithHint.mono_l k
  ·intro y0 y1 y2 y3 y4
   unfold spec_CountWithHint.j0
   repeat' first
   | (with_reducible exact ih0 _ _ _ _ _)
   | (with_reducible exact spec_hiAll.mono _ _ _)
   | (with_reducible exact spec_hiFitting.mono _ _ _)
   | (with_reducible exact spec_hiLock.mono _ _ _ _)
   | (with_reducible exact spec_whOf.mono _ _ _ _)
   | (with_reducible exact LeO.refl _)
   | (with_reducible exact LeO.none _)
   | (with_reducible refine LeO.ite ?_ ?_)
   | (with_reducible refine LeO.bind ?_ (fun _ => ?_))
   | exact ih0 _ _ _ _ _
   | exact spec_hiAll.mono _ _ _
   | exact spec_hiFitting.mono _ _ _
   | exact spec_hiLock.mono _ _ _ _
   | exact spec_whOf.mono _ _ _ _
   | exact LeO.none _
   | refine LeO.ite ?_ ?_
   | refine LeO.bind ?_ (fun _ => ?_)
theorem spec_CountWithHint.mono : ∀ a0 a1 a2 a3 k, LeO (spec_CountWithHint.f k a0 a1 a2 a3) (spec_CountWithHint.f (k + 1) a0 a1 a2 a3) := by
 intro a0 a1 a2 a3 k
 have ih0 := spec_CountWithHint.mono_l k
 unfold spec_CountWithHint.f
 repeat' first
   | (with_reducible exact ih0 _ _ _ _ _)
   | (with_reducible exact spec_hiAll.mono _ _ _)
   | (with_reducible exact spec_hiFitting.mono _ _ _)
   | (with_reducible exact spec_hiLock.mono _ _ _ _)
   | (with_reducible exact spec_whOf.mono _ _ _ _)
   | (with_reducible exact LeO.refl _)
   | (with_reducible exact LeO.none _)
   | (with_reducible refine LeO.ite ?_ ?_)
   | (with_reducible refine LeO.bind ?_ (fun _ => ?_))
   | exact ih0 _ _ _ _ _
   | exact spec_hiAll.mono _ _ _
   | exact spec_hiFitting.mono _ _ _
   | exact spec_hiLock.mono _ _ _ _
   | exact spec_whOf.mono _ _ _ _
   | exact LeO.none _
   | refine LeO.ite ?_ ?_
   | refine LeO.bind ?_ (fun _ => ?_)
def spec_CountWithHint.T4 : Bool × List (List Nat × List Nat) := (true, [([], []), ([0], [0]), ([], []), ([2], [2]), ([1, 3, 1], [1, 3]), ([4], [4]), ([5, 4, 0, 1, 2, 3, 4, 5], [5]), ([6, 0, 1, 2, 3, 4, 5, 6], [])])
def spec_CountWithHint.B4 : List Nat := [0, 1, 0, 4, 15, 31, 63, 127]
theorem spec_CountWithHint.tab4 : rtab .any (opsOf Tryz.f23 4) = spec_CountWithHint.T4 := by kernel_rfl
theorem spec_CountWithHint.bits4 : waitsOk spec_CountWithHint.T4.2 spec_CountWithHint.B4 = true := by kernel_rfl
set_option maxHeartbeats 8000000 in
set_option maxRecDepth 100000 in
theorem spec_CountWithHint.calls (k : Nat) (a0_0 : Int) (a0_1 : Int) (a1 : Int) (a2 : Int) (r1 : Int) (r2 : Bool) (w : World) (h : spec_CountWithHint.f k a0_0 a0_1 a1 a2 = some (r1, r2)) :
  Calls Tryz.prog 23 #[.agg #[.int .i64 a0_0, .int .i64 a0_1], .int .i64 a1, .int .i64 a2] w fun e w' => e = .returned (.tuple #[.int .i64 r1, .bool r2]) ∧ Below w.heap.size w w' := by
 have hu25 := Tryz.underlying25
 have hu35 := Tryz.underlying35
 have HB := Aside0.mk (Below.refl w.heap.size w)
 have H : ((spec_hiLock.f k a0_0 a0_1 1000).bind fun t393 => (if t393 = true then ((spec_hiTold.f a0_0 a0_1 a1 a2).bind fun t394 => (spec_CountWithHint.j0 k a1 a2 (!t394) a0_0 a0_1)) else (spec_CountWithHint.j0 k a1 a2 true a0_0 a0_1))) = some (r1, r2) := h
 clear h
 have HC4 := Aside0.mk H
 clear H
 go_enter Tryz.func23, Tryz.ntmps23
 go_upto_region 1 with (first | ((with_reducible refine gate_dst (N := 3) rfl ?_); refine box_event ?hg (N := 3) ?hd (cs := #[.int .i64 a0_0, .int .i64 a0_1]) (t := 25) ?hr ?_; (case hd => rfl); (case hg => rfl); (case hr => first | (go_simp; done) | (go_simp; rfl)); intro gb392 hg w5 hbox hb; have n0_ := Aside0.mk (below_step bB hb); have n1_ := Aside0.mk (hbox); have n2_ := Aside0.mk ((by rw [hg]; exact (below_size bB) : w.heap.size ≤ gb392)); have n3_ := Aside0.mk ((by rw [hg]; exact (below_size bB) : w.heap.size ≤ gb392)); clear HB; have HB := n0_; have BK392 := n1_; have GW392 := n2_; have GE392 := n3_; clear n0_ n1_ n2_ n3_; clear hb hbox hg))
 (try simp only [Act.put, List.setIfInBounds_toArray, List.set_cons_zero, List.set_cons_succ])
 go_cut [18] (fun v18 wc => ∃ (kq : Nat) (x18_3 : Bool), v18 = .bool x18_3 ∧ Aside0 (spec_CountWithHint.j0 kq a1 a2 x18_3 a0_0 a0_1 = some (r1, r2)) ∧ Aside0 (kq ≤ k) ∧ Aside0 (wc.heap[gb392]? = some (.cells #[.int .i64 a0_0, .int .i64 a0_1] 25 (0, 0))) ∧ Aside0 (Below w.heap.size w wc))
 case first =>
  have H := HC4.out
  clear HC4
  replace H := Option.bind_eq_some_iff.mp H
  obtain ⟨t393, A60, H⟩ := H
  replace H : (if t393 = true then ((spec_hiTold.f a0_0 a0_1 a1 a2).bind fun t394 => (spec_CountWithHint.j0 k a1 a2 (!t394) a0_0 a0_1)) else (spec_CountWithHint.j0 k a1 a2 true a0_0 a0_1)) = some (r1, r2) := H
  have A6 := Aside0.mk A60
  clear A60
  by_cases c7 : t393 = true
  ·subst c7
   have H1 : ((spec_hiTold.f a0_0 a0_1 a1 a2).bind fun t394 => (spec_CountWithHint.j0 k a1 a2 (!t394) a0_0 a0_1)) = some (r1, r2) := by rw [if_pos rfl] at H; exact H
   clear H
   have H := H1
   clear H1
   replace H := Option.bind_eq_some_iff.mp H
   obtain ⟨t394, A80, H⟩ := H
   replace H : (spec_CountWithHint.j0 k a1 a2 (!t394) a0_0 a0_1) = some (r1, r2) := H
   have A8 := Aside0.mk A80
   clear A80
   have H' := Aside0.mk H
   clear H
   have hcz9_0 : w5.cell? ⟨gb392, 0, none⟩ = some (.int .i64 a0_0) := (blk_cell BK392.out 0).trans rfl
   have hcz9_1 : w5.cell? ⟨gb392, 1, none⟩ = some (.int .i64 a0_1) := (blk_cell BK392.out 1).trans rfl
   have hfz9_0 := blk_frozen BK392.out 0
   have hfz9_1 := blk_frozen BK392.out 1
   go_wp2_with (first | ((with_reducible refine gate_callee (f := 53) rfl ?_); refine goesL_ (some 10) rfl rfl Tryz.func53 (by kernel_rfl) rfl #[.agg #[.int .i64 a0_0, .int .i64 a0_1], .int .i64 1000] rfl lM ?_; (with_reducible refine (spec_hiLock.calls k a0_0 a0_1 1000 true _ A6.out).mono ?_); rintro e w10 ⟨rfl, hb⟩; refine ⟨_, rfl, ?_⟩; have n0_ := Aside0.mk (blk_below (g := gb392) (o := .cells #[.int .i64 a0_0, .int .i64 a0_1] 25 (0, 0)) bK hb); have n1_ := Aside0.mk (below_step bG hb); clear BK392; clear HB; have BK392 := n0_; have HB := n1_; clear n0_ n1_; (try clear hb); (try clear hb2); (try clear hk); (try clear hi); have hcz11_0 : w10.cell? ⟨gb392, 0, none⟩ = some (.int .i64 a0_0) := (blk_cell BK392.out 0).trans rfl; have hcz11_1 : w10.cell? ⟨gb392, 1, none⟩ = some (.int .i64 a0_1) := (blk_cell BK392.out 1).trans rfl; have hfz11_0 := blk_frozen BK392.out 0; have hfz11_1 := blk_frozen BK392.out 1) | (go_at_call 71; (with_reducible refine (spec_hiTold.calls a0_0 a0_1 a1 a2 t394 _ A8.out).mono ?_); rintro e w12 ⟨rfl, hb⟩; have n0_ := Aside0.mk (blk_below (g := gb392) (o := .cells #[.int .i64 a0_0, .int .i64 a0_1] 25 (0, 0)) bK hb); have n1_ := Aside0.mk (below_step bG hb); clear BK392; clear HB; have BK392 := n0_; have HB := n1_; clear n0_ n1_; (try clear hb); (try clear hb2); (try clear hk); (try clear hi)))
   go_meet
   case rel => exact ⟨_, (!t394), fR, H', ⟨by first | omega | exact Nat.le_refl _⟩, ⟨bK⟩, ⟨bG⟩⟩
  ·replace c7 := Bool.eq_false_iff.mpr c7
   subst c7
   have H1 : (spec_CountWithHint.j0 k a1 a2 true a0_0 a0_1) = some (r1, r2) := by rw [if_neg (show ¬ (false = true) by decide)] at H; exact H
   clear H
   have H := H1
   clear H1
   have H' := Aside0.mk H
   clear H
   have hcz13_0 : w5.cell? ⟨gb392, 0, none⟩ = some (.int .i64 a0_0) := (blk_cell BK392.out 0).trans rfl
   have hcz13_1 : w5.cell? ⟨gb392, 1, none⟩ = some (.int .i64 a0_1) := (blk_cell BK392.out 1).trans rfl
   have hfz13_0 := blk_frozen BK392.out 0
   have hfz13_1 := blk_frozen BK392.out 1
   go_wp2_with (first | ((with_reducible refine gate_callee (f := 53) rfl ?_); refine goesL_ (some 10) rfl rfl Tryz.func53 (by kernel_rfl) rfl #[.agg #[.int .i64 a0_0, .int .i64 a0_1], .int .i64 1000] rfl lM ?_; (with_reducible refine (spec_hiLock.calls k a0_0 a0_1 1000 false _ A6.out).mono ?_); rintro e w14 ⟨rfl, hb⟩; refine ⟨_, rfl, ?_⟩; have n0_ := Aside0.mk (blk_below (g := gb392) (o := .cells #[.int .i64 a0_0, .int .i64 a0_1] 25 (0, 0)) bK hb); have n1_ := Aside0.mk (below_step bG hb); clear BK392; clear HB; have BK392 := n0_; have HB := n1_; clear n0_ n1_; (try clear hb); (try clear hb2); (try clear hk); (try clear hi)))
   go_meet
   case rel => exact ⟨_, (true), fR, H', ⟨by first | omega | exact Nat.le_refl _⟩, ⟨bK⟩, ⟨bG⟩⟩
 case rest =>
  clear HC4
  try clear c2
  try clear p2
  try clear c5
  try clear c7
  try clear hcz11_0
  try clear hcz11_1
  try clear hcz13_0
  try clear hcz13_1
  try clear hcz9_0
  try clear hcz9_1
  try clear hfz11_0
  try clear hfz11_1
  try clear hfz13_0
  try clear hfz13_1
  try clear hfz9_0
  try clear hfz9_1
  obtain ⟨kq, x18_3, rfl, HA, HJ3, BK392, HB⟩ := hcut
  cases kq with
  | zero => exact absurd HA.out (by simp [spec_CountWithHint.j0])
  | succ kj3 =>
   have H := HA.out
   clear HA
   simp only [spec_CountWithHint.j0] at H
   by_cases c15 : x18_3 = true
   ·subst c15
    have H1 : (some (0, false)) = some (r1, r2) := by rw [if_pos rfl] at H; exact H
    clear H
    have H := H1
    clear H1
    simp only [Option.some.injEq, Prod.mk.injEq] at H
    obtain ⟨rfl, rfl⟩ := H
    go_wp2
    go_ret2
    exact ⟨by first | rfl | (simp [errW_none, errW_some] <;> rfl) | (simp [*, errW_none, errW_some] <;> rfl), bG⟩
   ·replace c15 := Bool.eq_false_iff.mpr c15
    subst c15
    have H1 : ((spec_whOf.f kj3 a0_0 a0_1 0).bind fun t395 => ((spec_hiAll.f kj3 a0_0 a0_1).bind fun t397 => ((spec_hiFitting.f kj3 t397 (([(⟨t395, a1, a2⟩ : S35)] : List (S35)))).bind fun t403 => (some ((t403.length : Int), true))))) = some (r1, r2) := by rw [if_neg (show ¬ (false = true) by decide)] at H; exact H
    clear H
    have H := H1
    clear H1
    replace H := Option.bind_eq_some_iff.mp H
    obtain ⟨t395, A160, H⟩ := H
    replace H : ((spec_hiAll.f kj3 a0_0 a0_1).bind fun t397 => ((spec_hiFitting.f kj3 t397 (([(⟨t395, a1, a2⟩ : S35)] : List (S35)))).bind fun t403 => (some ((t403.length : Int), true)))) = some (r1, r2) := H
    have A16 := Aside0.mk A160
    clear A160
    replace H := Option.bind_eq_some_iff.mp H
    obtain ⟨t397, A170, H⟩ := H
    replace H : ((spec_hiFitting.f kj3 t397 (([(⟨t395, a1, a2⟩ : S35)] : List (S35)))).bind fun t403 => (some ((t403.length : Int), true))) = some (r1, r2) := H
    have A17 := Aside0.mk A170
    clear A170
    obtain ⟨y400, hy400⟩ : ∃ y_ : List (S35), y_ = (([(⟨t395, a1, a2⟩ : S35)] : List (S35))) := ⟨_, rfl⟩
    replace H : ((spec_hiFitting.f kj3 t397 y400).bind fun t403 => (some ((t403.length : Int), true))) = some (r1, r2) := by first | (rw [hy400]; with_reducible exact H) | (have H2_ := (Option.bind_some _ _).symm.trans H; rw [hy400]; with_reducible exact H2_) | (have H2_ := (Option.bind_some _ _).symm.trans H; with_reducible exact H2_) | with_reducible exact H | (rw [hy400]; exact H) | exact H
    have Ny400 := Aside0.mk hy400
    clear hy400
    replace H := Option.bind_eq_some_iff.mp H
    obtain ⟨t403, A180, H⟩ := H
    replace H : (some ((t403.length : Int), true)) = some (r1, r2) := H
    have A18 := Aside0.mk A180
    clear A180
    simp only [Option.some.injEq, Prod.mk.injEq] at H
    obtain ⟨rfl, rfl⟩ := H
    have hcz19_0 : wc.cell? ⟨gb392, 0, none⟩ = some (.int .i64 a0_0) := (blk_cell BK392.out 0).trans rfl
    have hcz19_1 : wc.cell? ⟨gb392, 1, none⟩ = some (.int .i64 a0_1) := (blk_cell BK392.out 1).trans rfl
    have hfz19_0 := blk_frozen BK392.out 0
    have hfz19_1 := blk_frozen BK392.out 1
    try go_wp2_with (first | ((with_reducible refine gate_callee (f := 72) rfl ?_); refine goesL_ (some 20) rfl rfl Tryz.func72 (by kernel_rfl) rfl #[.agg #[.int .i64 a0_0, .int .i64 a0_1], .int .i64 0] rfl lM ?_; (with_reducible refine (spec_whOf.calls kj3 a0_0 a0_1 0 t395 _ A16.out).mono ?_); rintro e w20 ⟨rfl, hb⟩; refine ⟨_, rfl, ?_⟩; have n0_ := Aside0.mk (blk_below (g := gb392) (o := .cells #[.int .i64 a0_0, .int .i64 a0_1] 25 (0, 0)) bK hb); have n1_ := Aside0.mk (below_step bG hb); clear BK392; clear HB; have BK392 := n0_; have HB := n1_; clear n0_ n1_; (try clear hb); (try clear hb2); (try clear hk); (try clear hi)) | ((with_reducible refine gate_dst (N := 8) rfl ?_); refine box_event ?hg (N := 8) ?hd (cs := #[.string (⟨#[]⟩ : ByteArray), .int .i64 0, .int .i64 0]) (t := 35) ?hr ?_; (case hd => rfl); (case hg => rfl); (case hr => first | (go_simp; done) | (go_simp; rfl)); intro gb396 hg w21 hbox hb; have n0_ := Aside0.mk (blk_below (g := gb392) (o := .cells #[.int .i64 a0_0, .int .i64 a0_1] 25 (0, 0)) bK hb); have n1_ := Aside0.mk (below_step bG hb); have n2_ := Aside0.mk (hbox); have n3_ := Aside0.mk ((by rw [hg]; exact (below_size bG) : w.heap.size ≤ gb396)); have n4_ := Aside0.mk ((by rw [hg]; exact (below_size bG) : w.heap.size ≤ gb396)); have n5_ := Aside0.mk ((by rw [hg]; exact Nat.ne_of_lt (blk_lt (g := gb392) (o := .cells #[.int .i64 a0_0, .int .i64 a0_1] 25 (0, 0)) bK) : gb392 ≠ gb396)); have n6_ := Aside0.mk ((by rw [hg]; exact Nat.ne_of_gt (blk_lt (g := gb392) (o := .cells #[.int .i64 a0_0, .int .i64 a0_1] 25 (0, 0)) bK) : gb396 ≠ gb392)); clear BK392; clear HB; have BK392 := n0_; have HB := n1_; have BK396 := n2_; have GW396 := n3_; have GE396 := n4_; have NB392_396 := n5_; have NB396_392 := n6_; clear n0_ n1_ n2_ n3_ n4_ n5_ n6_; clear hb hbox hg; have hnb22 := NB396_392.out; have hnc22 := NB392_396.out; have hcz23_0 : w21.cell? ⟨gb396, 0, none⟩ = some (.string (⟨#[]⟩ : ByteArray)) := (blk_cell BK396.out 0).trans rfl; have hcz23_1 : w21.cell? ⟨gb396, 1, none⟩ = some (.int .i64 0) := (blk_cell BK396.out 1).trans rfl; have hcz23_2 : w21.cell? ⟨gb396, 2, none⟩ = some (.int .i64 0) := (blk_cell BK396.out 2).trans rfl; have hfz23_0 := blk_frozen BK396.out 0; have hfz23_1 := blk_frozen BK396.out 1; have hfz23_2 := blk_frozen BK396.out 2))
    have n0_ : Aside0 ((((w21.setCell ⟨gb396, 0, none⟩ (.string t395)).setCell ⟨gb396, 1, none⟩ (.int .i64 a1)).setCell ⟨gb396, 2, none⟩ (.int .i64 a2)).heap[gb392]? = some (.cells #[.int .i64 a0_0, .int .i64 a0_1] 25 (0, 0))) := ⟨by (with_reducible repeat (first | refine blk_drewN ?_ _ | refine blk_drew ?_ | refine blk_alloc ?_ _)); refine blk_far ?_ NB392_396.out _; (with_reducible repeat (first | refine blk_drewN ?_ _ | refine blk_drew ?_ | refine blk_alloc ?_ _)); refine blk_far ?_ NB392_396.out _; (with_reducible repeat (first | refine blk_drewN ?_ _ | refine blk_drew ?_ | refine blk_alloc ?_ _)); refine blk_far ?_ NB392_396.out _; (with_reducible repeat (first | refine blk_drewN ?_ _ | refine blk_drew ?_ | refine blk_alloc ?_ _)); exact BK392.out⟩
    have n1_ : Aside0 ((((w21.setCell ⟨gb396, 0, none⟩ (.string t395)).setCell ⟨gb396, 1, none⟩ (.int .i64 a1)).setCell ⟨gb396, 2, none⟩ (.int .i64 a2)).heap[gb396]? = some (.cells #[.string t395, .int .i64 a1, .int .i64 a2] 35 (0, 0))) := ⟨by (with_reducible repeat (first | refine blk_drewN ?_ _ | refine blk_drew ?_ | refine blk_alloc ?_ _)); refine blk_put (cs := #[.string t395, .int .i64 a1, .int .i64 0]) ?_ 2 _ rfl; (with_reducible repeat (first | refine blk_drewN ?_ _ | refine blk_drew ?_ | refine blk_alloc ?_ _)); refine blk_put (cs := #[.string t395, .int .i64 0, .int .i64 0]) ?_ 1 _ rfl; (with_reducible repeat (first | refine blk_drewN ?_ _ | refine blk_drew ?_ | refine blk_alloc ?_ _)); refine blk_put (cs := #[.string (⟨#[]⟩ : ByteArray), .int .i64 0, .int .i64 0]) ?_ 0 _ rfl; (with_reducible repeat (first | refine blk_drewN ?_ _ | refine blk_drew ?_ | refine blk_alloc ?_ _)); exact BK396.out⟩
    have n2_ : Aside0 (Below w.heap.size w (((w21.setCell ⟨gb396, 0, none⟩ (.string t395)).setCell ⟨gb396, 1, none⟩ (.int .i64 a1)).setCell ⟨gb396, 2, none⟩ (.int .i64 a2))) := ⟨bG⟩
    (try clear BK392)
    (try clear BK396)
    (try clear HB)
    generalize (((w21.setCell ⟨gb396, 0, none⟩ (.string t395)).setCell ⟨gb396, 1, none⟩ (.int .i64 a1)).setCell ⟨gb396, 2, none⟩ (.int .i64 a2)) = w24 at n0_ n1_ n2_ ⊢
    have BK392 := n0_
    have BK396 := n1_
    have HB := n2_
    clear n0_ n1_ n2_
    have n0_ := Aside0.mk (blk_drew BK392.out)
    have n1_ := Aside0.mk (blk_drew BK396.out)
    have n2_ := Aside0.mk (below_drew1 HB.out)
    clear BK392
    clear BK396
    clear HB
    have BK392 := n0_
    have BK396 := n1_
    have HB := n2_
    clear n0_ n1_ n2_
    refine start_ (n := 8) (S := fun w' => True) (ds := []) #[false, false, false, false, false, false, false, false] (by kernel_rfl) rfl rfl trivial (fun hHeld => ?_); refine with_tabW spec_CountWithHint.tab4 spec_CountWithHint.bits4 (fun HT_ HW_ => ?_)
    generalize w24.drew = w25 at BK392 BK396 HB hHeld ⊢
    refine inv_at [0, 1, 2, 3, 4, 5, 6, 7] (fun a0_ b a w' => ∃ (v398 : Value) (v401 : Value) (v404 : Value), a = putSel a0_ b [(0, 24, .agg #[.int .i64 a0_0, .int .i64 a0_1]), (1, 25, v398), (2, 26, .agg #[.string t395, .int .i64 a1, .int .i64 a2]), (3, 27, v401), (4, 28, v404), (5, 29, .int .i64 (t403.length : Int)), (6, 6, .int .i64 (t403.length : Int)), (7, 7, .bool true)] ∧ (w'.heap[gb392]? = some (.cells #[.int .i64 a0_0, .int .i64 a0_1] 25 (0, 0))) ∧ (w'.heap[gb396]? = some (.cells #[.string t395, .int .i64 a1, .int .i64 a2] 35 (0, 0))) ∧ (Below w.heap.size w w') ∧ (b 1 = true → Kd.R Kd.string 9 w' w.heap.size (fun _ => True) v398 t397) ∧ (b 3 = true → Kd.R k35 35 w' w.heap.size (fun k_ => k_ ≠ gb396) v401 y400) ∧ (b 4 = true → Kd.R Kd.string 9 w' w.heap.size (fun _ => True) v404 t403)) HT_.out HW_.out (by kernel_rfl) (by kernel_rfl) ?_ ?_ ?_
    ·exact ⟨.bool false, .bool false, .bool false, by simp only [putSel, Bool.false_eq_true, if_false], BK392.out, BK396.out, HB.out, fun h_ => absurd h_ (by decide), fun h_ => absurd h_ (by decide), fun h_ => absurd h_ (by decide)⟩
    ·skip
     clear BK392 BK396 HB
     refine steps_cons ?_ ?_
     ·rintro b a w' ⟨v398, v401, v404, ha, Q_BK392, Q_BK396, Q_HB, Q_HO399, Q_HO402, Q_HO405⟩ hb_ hon hoff
      refine ⟨_, rfl, fun K hK => ?_⟩
      have e3 : a.tmps[3]? = some (.pointer (some ⟨gb392, 0, none⟩)) := by rw [ha]; exact (putSel_off rfl).trans rfl
      replace ha := Aside0.mk ha
      have BK392 := Aside0.mk Q_BK392
      have BK396 := Aside0.mk Q_BK396
      have HB := Aside0.mk Q_HB
      have hc0_ : w'.cell? ⟨gb392, 0, none⟩ = some (.int .i64 a0_0) := (blk_cell BK392.out 0).trans rfl
      have hc1_ : w'.cell? ⟨gb392, 1, none⟩ = some (.int .i64 a0_1) := (blk_cell BK392.out 1).trans rfl
      refine value_ (w1 := w') (v := .agg #[.int .i64 a0_0, .int .i64 a0_1]) (by rfl) rfl ?_ ?_
      ·go_simp
       (try simp only [i64_w])
       try rfl
      refine hK.out _ _ ⟨v398, v401, v404, (by rw [ha.out]; exact putSel_upk 0 hb_ rfl rfl rfl), Q_BK392, Q_BK396, Q_HB, fun h0_ => absurd ((hoff 1 (by kernel_rfl)).symm.trans h0_) (by decide), Q_HO402, fun h0_ => absurd ((hoff 4 (by kernel_rfl)).symm.trans h0_) (by decide)⟩
     refine steps_cons ?_ ?_
     ·rintro b a w' ⟨v398, v401, v404, ha, Q_BK392, Q_BK396, Q_HB, Q_HO399, Q_HO402, Q_HO405⟩ hb_ hon hoff
      refine ⟨_, rfl, fun K hK => ?_⟩
      have e24 : a.tmps[24]? = some (.agg #[.int .i64 a0_0, .int .i64 a0_1]) := by rw [ha]; exact putSel_on (e := (0, 24, .agg #[.int .i64 a0_0, .int .i64 a0_1])) 0 rfl rfl (hon 0 (by kernel_rfl)) rfl
      replace ha := Aside0.mk ha
      have BK392 := Aside0.mk Q_BK392
      have BK396 := Aside0.mk Q_BK396
      have HB := Aside0.mk Q_HB
      refine goes_ Tryz.func66 (by kernel_rfl) rfl #[.agg #[.int .i64 a0_0, .int .i64 a0_1]] (by rfl) rfl rfl (by first | (simp only [List.map_toArray, List.map_cons, List.map_nil, Act.eval, Array.getD_eq_getD_getElem?, Option.getD_some, e24]; done) | (simp only [List.map_toArray, List.map_cons, List.map_nil, Act.eval, Array.getD_eq_getD_getElem?, Option.getD_some, e24]; rfl)) ?_
      with_reducible refine (spec_hiAll.calls kj3 a0_0 a0_1 t397 _ A17.out).mono ?_
      rintro e w26 ⟨v398, rfl, ho0, hb⟩
      refine ⟨_, rfl, ?_⟩
      have n0_ := Aside0.mk (Kd.R_lower ho0 (below_size bG))
      have n1_ := Aside0.mk (blk_below (g := gb392) (o := .cells #[.int .i64 a0_0, .int .i64 a0_1] 25 (0, 0)) bK hb)
      have n2_ := Aside0.mk (blk_below (g := gb396) (o := .cells #[.string t395, .int .i64 a1, .int .i64 a2] 35 (0, 0)) bK hb)
      have n3_ := Aside0.mk (below_step bG hb)
      have z_HO402 := fun (h0_ : b 3 = true) => (show Kd.R k35 35 w26 w.heap.size (fun k_ => k_ ≠ gb396) v401 y400 from by first | exact (Kd.R_below (by (with_reducible repeat (first | apply Kd.R_alloc | apply Kd.R_drewN | apply Kd.R_drew)); exact (Q_HO402 h0_)) hb) | exact Kd.R_mono (Kd.R_below (by (with_reducible repeat (first | apply Kd.R_alloc | apply Kd.R_drewN | apply Kd.R_drew)); exact (Q_HO402 h0_)) hb) (fun _ h_ => by first | trivial | exact h_ | exact h_.1))
      clear BK392
      clear BK396
      clear HB
      have HO399 := n0_
      have BK392 := n1_
      have BK396 := n2_
      have HB := n3_
      clear n0_ n1_ n2_ n3_
      (try clear hb)
      (try clear hb2)
      (try clear hk)
      (try clear hi)
      (try clear ho0)
      refine hK.out _ _ ⟨v398, v401, v404, (by rw [ha.out]; exact putSel_upk 1 hb_ rfl rfl rfl), bK, bK, bG, fun _ => (by (with_reducible repeat (first | apply Kd.R_alloc | apply Kd.R_drewN | apply Kd.R_drew)); exact HO399.out), z_HO402, fun h0_ => absurd ((hoff 4 (by kernel_rfl)).symm.trans h0_) (by decide)⟩
     refine steps_cons ?_ ?_
     ·rintro b a w' ⟨v398, v401, v404, ha, Q_BK392, Q_BK396, Q_HB, Q_HO399, Q_HO402, Q_HO405⟩ hb_ hon hoff
      refine ⟨_, rfl, fun K hK => ?_⟩
      have e8 : a.tmps[8]? = some (.pointer (some ⟨gb396, 0, none⟩)) := by rw [ha]; exact (putSel_off rfl).trans rfl
      replace ha := Aside0.mk ha
      have BK392 := Aside0.mk Q_BK392
      have BK396 := Aside0.mk Q_BK396
      have HB := Aside0.mk Q_HB
      have hc0_ : w'.cell? ⟨gb396, 0, none⟩ = some (.string t395) := (blk_cell BK396.out 0).trans rfl
      have hc1_ : w'.cell? ⟨gb396, 1, none⟩ = some (.int .i64 a1) := (blk_cell BK396.out 1).trans rfl
      have hc2_ : w'.cell? ⟨gb396, 2, none⟩ = some (.int .i64 a2) := (blk_cell BK396.out 2).trans rfl
      refine value_ (w1 := w') (v := .agg #[.string t395, .int .i64 a1, .int .i64 a2]) (by rfl) rfl ?_ ?_
      ·go_simp
       (try simp only [i64_w])
       try rfl
      refine hK.out _ _ ⟨v398, v401, v404, (by rw [ha.out]; exact putSel_upk 2 hb_ rfl rfl rfl), Q_BK392, Q_BK396, Q_HB, Q_HO399, fun h0_ => absurd ((hoff 3 (by kernel_rfl)).symm.trans h0_) (by decide), fun h0_ => absurd ((hoff 4 (by kernel_rfl)).symm.trans h0_) (by decide)⟩
     refine steps_cons ?_ ?_
     ·rintro b a w' ⟨v398, v401, v404, ha, Q_BK392, Q_BK396, Q_HB, Q_HO399, Q_HO402, Q_HO405⟩ hb_ hon hoff
      refine ⟨_, rfl, fun K hK => ?_⟩
      have e26 : a.tmps[26]? = some (.agg #[.string t395, .int .i64 a1, .int .i64 a2]) := by rw [ha]; exact putSel_on (e := (2, 26, .agg #[.string t395, .int .i64 a1, .int .i64 a2])) 2 rfl rfl (hon 2 (by kernel_rfl)) rfl
      replace ha := Aside0.mk ha
      have BK392 := Aside0.mk Q_BK392
      have BK396 := Aside0.mk Q_BK396
      have HB := Aside0.mk Q_HB
      refine Kd.R_lit_step k35 _ 35 ?hg (N := 27) ?hd (xs := ([(⟨t395, a1, a2⟩ : S35)] : List (S35))) (inner := [.string t395, .int .i64 a1, .int .i64 a2]) (ok := fun _ => True) (okp := fun _ => True) ?hr ?hp (fun _ hk => hk) trivial (Below.refl _ _) (Nat.le_refl _) (by simp) ?_; (case hd => rfl); (case hg => rfl); (case hr => first | (go_simp; done) | (go_simp; rfl)); (case hp => exact (Reps.c3 (show Kd.M k35 _ _ _ (⟨t395, a1, a2⟩ : S35) [.string t395, .int .i64 a1, .int .i64 a2] from (k35_mkM _ _ _ (⟨t395, a1, a2⟩ : S35) )) (Reps.none _ _)))
      intro v401 w26 ho27 hb hg_ hnew_
      clear hg_ hnew_
      (first | rw [← Ny400.out] at ho27 | (simp only [Int.reduceToNat] at ho27; rw [← Ny400.out] at ho27))
      have n0_ := Aside0.mk (Kd.R_lower (Kd.R_newB ho27 (g := gb396) (o := .cells #[.string t395, .int .i64 a1, .int .i64 a2] 35 (0, 0)) bK) (below_size bG))
      have n1_ := Aside0.mk (blk_below (g := gb392) (o := .cells #[.int .i64 a0_0, .int .i64 a0_1] 25 (0, 0)) bK hb)
      have n2_ := Aside0.mk (blk_below (g := gb396) (o := .cells #[.string t395, .int .i64 a1, .int .i64 a2] 35 (0, 0)) bK hb)
      have n3_ := Aside0.mk (below_step bG hb)
      have z_HO399 := fun (h0_ : b 1 = true) => (show Kd.R Kd.string 9 w26 w.heap.size (fun _ => True) v398 t397 from by first | exact (Kd.R_below (by (with_reducible repeat (first | apply Kd.R_alloc | apply Kd.R_drewN | apply Kd.R_drew)); exact (Q_HO399 h0_)) hb) | exact Kd.R_mono (Kd.R_below (by (with_reducible repeat (first | apply Kd.R_alloc | apply Kd.R_drewN | apply Kd.R_drew)); exact (Q_HO399 h0_)) hb) (fun _ h_ => by first | trivial | exact h_ | exact h_.1))
      clear BK392
      clear BK396
      clear HB
      have HO402 := n0_
      have BK392 := n1_
      have BK396 := n2_
      have HB := n3_
      clear n0_ n1_ n2_ n3_
      clear hb ho27
      refine hK.out _ _ ⟨v398, v401, v404, (by rw [ha.out]; exact putSel_upk 3 hb_ rfl rfl rfl), bK, bK, bG, z_HO399, fun _ => (by (with_reducible repeat (first | apply Kd.R_alloc | apply Kd.R_drewN | apply Kd.R_drew)); exact Kd.R_mono HO402.out (fun _ hk => by first | exact hk.2 | exact trivial)), fun h0_ => absurd ((hoff 4 (by kernel_rfl)).symm.trans h0_) (by decide)⟩
     refine steps_cons ?_ ?_
     ·rintro b a w' ⟨v398, v401, v404, ha, Q_BK392, Q_BK396, Q_HB, Q_HO399, Q_HO402, Q_HO405⟩ hb_ hon hoff
      refine ⟨_, rfl, fun K hK => ?_⟩
      have e25 : a.tmps[25]? = some (v398) := by rw [ha]; exact putSel_on (e := (1, 25, v398)) 1 rfl rfl (hon 1 (by kernel_rfl)) rfl
      have e27 : a.tmps[27]? = some (v401) := by rw [ha]; exact putSel_on (e := (3, 27, v401)) 3 rfl rfl (hon 3 (by kernel_rfl)) rfl
      replace ha := Aside0.mk ha
      have BK392 := Aside0.mk Q_BK392
      have BK396 := Aside0.mk Q_BK396
      have HB := Aside0.mk Q_HB
      have HO399 := Aside0.mk (Q_HO399 (hon 1 (by kernel_rfl)))
      have HO402 := Aside0.mk (Q_HO402 (hon 3 (by kernel_rfl)))
      obtain ⟨Ao30, co30, eo30⟩ := Kd.R_slice HO399.out
      (first | subst eo30 | (injection eo30 with f1_ f2_ f3_; have f4_ := f1_.symm; have f5_ := f3_.symm; clear f1_ f2_ f3_; subst f4_; subst f5_))
      obtain ⟨Ao31, co31, eo31⟩ := Kd.R_slice HO402.out
      (first | subst eo31 | (injection eo31 with f1_ f2_ f3_; have f4_ := f1_.symm; have f5_ := f3_.symm; clear f1_ f2_ f3_; subst f4_; subst f5_))
      refine goes_ Tryz.func73 (by kernel_rfl) rfl #[.slice Ao30 t397.length co30, .slice Ao31 y400.length co31] (by rfl) rfl rfl (by first | (simp only [List.map_toArray, List.map_cons, List.map_nil, Act.eval, Array.getD_eq_getD_getElem?, Option.getD_some, e25, e27]; done) | (simp only [List.map_toArray, List.map_cons, List.map_nil, Act.eval, Array.getD_eq_getD_getElem?, Option.getD_some, e25, e27]; rfl)) ?_
      with_reducible refine (spec_hiFitting.calls kj3 _ _ t397 _ _ y400 t403 _ ?side1 ?side2 ?side3 ?side4 A18.out).mono ?_
      (case side1 => repeat (first | exact (Kd.R_reads' HO399.out).2.2 | (with_reducible refine Kd.C_alloc ?_ _) | (with_reducible refine Kd.C_drewN ?_ _) | (with_reducible refine Kd.C_drew ?_)))
      (case side2 => exact (Kd.R_reads' HO399.out).2.1)
      (case side3 => repeat (first | exact (Kd.R_reads' HO402.out).2.2 | (with_reducible refine Kd.C_alloc ?_ _) | (with_reducible refine Kd.C_drewN ?_ _) | (with_reducible refine Kd.C_drew ?_)))
      (case side4 => exact (Kd.R_reads' HO402.out).2.1)
      rintro e w32 ⟨v404, rfl, ho0, hb⟩
      refine ⟨_, rfl, ?_⟩
      have n0_ := Aside0.mk (Kd.R_elder' (by (with_reducible repeat (first | apply Kd.R_alloc | apply Kd.R_drewN | apply Kd.R_drew)); exact HO399.out) (Kd.R_base ho0) hb)
      have n1_ := Aside0.mk (Kd.R_below (by (with_reducible repeat (first | apply Kd.R_alloc | apply Kd.R_drewN | apply Kd.R_drew)); exact HO402.out) hb)
      have n2_ := Aside0.mk (Kd.R_lower (Kd.R_new' ho0 (Kd.R_lt (by (with_reducible repeat (first | apply Kd.R_alloc | apply Kd.R_drewN | apply Kd.R_drew)); exact HO399.out))) (below_size bG))
      have n3_ := Aside0.mk (blk_below (g := gb392) (o := .cells #[.int .i64 a0_0, .int .i64 a0_1] 25 (0, 0)) bK hb)
      have n4_ := Aside0.mk (blk_below (g := gb396) (o := .cells #[.string t395, .int .i64 a1, .int .i64 a2] 35 (0, 0)) bK hb)
      have n5_ := Aside0.mk (below_step bG hb)
      clear HO399
      clear HO402
      clear BK392
      clear BK396
      clear HB
      have HO399 := n0_
      have HO402 := n1_
      have HO405 := n2_
      have BK392 := n3_
      have BK396 := n4_
      have HB := n5_
      clear n0_ n1_ n2_ n3_ n4_ n5_
      (try clear hb)
      (try clear hb2)
      (try clear hk)
      (try clear hi)
      (try clear ho0)
      obtain ⟨Ao33, co33, eo33⟩ := Kd.R_slice HO405.out
      (first | subst eo33 | (injection eo33 with f1_ f2_ f3_; have f4_ := f1_.symm; have f5_ := f3_.symm; clear f1_ f2_ f3_; subst f4_; subst f5_))
      refine hK.out _ _ ⟨.slice Ao30 t397.length co30, .slice Ao31 y400.length co31, .slice Ao33 t403.length co33, (by rw [ha.out]; exact putSel_upk 4 hb_ rfl rfl rfl), bK, bK, bG, fun _ => (by (with_reducible repeat (first | apply Kd.R_alloc | apply Kd.R_drewN | apply Kd.R_drew)); exact Kd.R_mono HO399.out (fun _ hk => by first | exact hk.2 | exact trivial)), fun _ => (by (with_reducible repeat (first | apply Kd.R_alloc | apply Kd.R_drewN | apply Kd.R_drew)); exact HO402.out), fun _ => (by (with_reducible repeat (first | apply Kd.R_alloc | apply Kd.R_drewN | apply Kd.R_drew)); exact Kd.R_mono HO405.out (fun _ hk => by first | exact hk.2 | exact trivial))⟩
     refine steps_cons ?_ ?_
     ·rintro b a w' ⟨v398, v401, v404, ha, Q_BK392, Q_BK396, Q_HB, Q_HO399, Q_HO402, Q_HO405⟩ hb_ hon hoff
      refine ⟨_, rfl, fun K hK => ?_⟩
      have e28 : a.tmps[28]? = some (v404) := by rw [ha]; exact putSel_on (e := (4, 28, v404)) 4 rfl rfl (hon 4 (by kernel_rfl)) rfl
      replace ha := Aside0.mk ha
      have BK392 := Aside0.mk Q_BK392
      have BK396 := Aside0.mk Q_BK396
      have HB := Aside0.mk Q_HB
      have HO399 := Aside0.mk (Q_HO399 (hon 1 (by kernel_rfl)))
      have HO402 := Aside0.mk (Q_HO402 (hon 3 (by kernel_rfl)))
      have HO405 := Aside0.mk (Q_HO405 (hon 4 (by kernel_rfl)))
      obtain ⟨Ao5_0, co5_0, eo_⟩ := Kd.R_slice HO405.out
      subst eo_
      refine value_ (w1 := w') (v := .int .i64 (t403.length : Int)) (by rfl) rfl ?_ ?_
      ·go_simp
       (try simp only [i64_w])
       try rfl
      refine hK.out _ _ ⟨v398, v401, .slice Ao5_0 t403.length co5_0, (by rw [ha.out]; exact putSel_upk 5 hb_ rfl rfl rfl), Q_BK392, Q_BK396, Q_HB, Q_HO399, Q_HO402, Q_HO405⟩
     refine steps_cons ?_ ?_
     ·rintro b a w' ⟨v398, v401, v404, ha, Q_BK392, Q_BK396, Q_HB, Q_HO399, Q_HO402, Q_HO405⟩ hb_ hon hoff
      refine ⟨_, rfl, fun K hK => ?_⟩
      have e29 : a.tmps[29]? = some (.int .i64 (t403.length : Int)) := by rw [ha]; exact putSel_on (e := (5, 29, .int .i64 (t403.length : Int))) 5 rfl rfl (hon 5 (by kernel_rfl)) rfl
      replace ha := Aside0.mk ha
      have BK392 := Aside0.mk Q_BK392
      have BK396 := Aside0.mk Q_BK396
      have HB := Aside0.mk Q_HB
      have HO399 := Aside0.mk (Q_HO399 (hon 1 (by kernel_rfl)))
      have HO402 := Aside0.mk (Q_HO402 (hon 3 (by kernel_rfl)))
      have HO405 := Aside0.mk (Q_HO405 (hon 4 (by kernel_rfl)))
      refine value_ (w1 := w') (v := .int .i64 (t403.length : Int)) (by rfl) rfl ?_ ?_
      ·go_simp
       (try simp only [i64_w])
       try rfl
      refine hK.out _ _ ⟨v398, v401, v404, (by rw [ha.out]; exact putSel_upk 6 hb_ rfl rfl rfl), Q_BK392, Q_BK396, Q_HB, Q_HO399, Q_HO402, Q_HO405⟩
     refine steps_cons ?_ ?_
     ·rintro b a w' ⟨v398, v401, v404, ha, Q_BK392, Q_BK396, Q_HB, Q_HO399, Q_HO402, Q_HO405⟩ hb_ hon hoff
      refine ⟨_, rfl, fun K hK => ?_⟩
      replace ha := Aside0.mk ha
      have BK392 := Aside0.mk Q_BK392
      have BK396 := Aside0.mk Q_BK396
      have HB := Aside0.mk Q_HB
      have HO399 := Aside0.mk (Q_HO399 (hon 1 (by kernel_rfl)))
      have HO402 := Aside0.mk (Q_HO402 (hon 3 (by kernel_rfl)))
      have HO405 := Aside0.mk (Q_HO405 (hon 4 (by kernel_rfl)))
      refine value_ (w1 := w') (v := .bool true) (by rfl) rfl ?_ ?_
      ·go_simp
       (try simp only [i64_w])
       try rfl
      refine hK.out _ _ ⟨v398, v401, v404, (by rw [ha.out]; exact putSel_upk 7 hb_ rfl rfl rfl), Q_BK392, Q_BK396, Q_HB, Q_HO399, Q_HO402, Q_HO405⟩
     exact steps_nil
    rintro b a w33 hall ⟨v398, v401, v404, ha, Q_BK392, Q_BK396, Q_HB, Q_HO399, Q_HO402, Q_HO405⟩
    clear BK392 BK396 HB
    have hb0_ := hall 0 (by kernel_rfl)
    have hb1_ := hall 1 (by kernel_rfl)
    have hb2_ := hall 2 (by kernel_rfl)
    have hb3_ := hall 3 (by kernel_rfl)
    have hb4_ := hall 4 (by kernel_rfl)
    have hb5_ := hall 5 (by kernel_rfl)
    have hb6_ := hall 6 (by kernel_rfl)
    have hb7_ := hall 7 (by kernel_rfl)
    subst ha
    simp only [putSel, hb0_, hb1_, hb2_, hb3_, hb4_, hb5_, hb6_, hb7_, if_true, Act.put, List.setIfInBounds_toArray, List.set_cons_zero, List.set_cons_succ]
    have BK392 := Aside0.mk Q_BK392
    clear Q_BK392
    have BK396 := Aside0.mk Q_BK396
    clear Q_BK396
    have HB := Aside0.mk Q_HB
    clear Q_HB
    have HO399 := Aside0.mk (Q_HO399 hb1_)
    clear Q_HO399
    have HO402 := Aside0.mk (Q_HO402 hb3_)
    clear Q_HO402
    have HO405 := Aside0.mk (Q_HO405 hb4_)
    clear Q_HO405
    clear hall hb0_ hb1_ hb2_ hb3_ hb4_ hb5_ hb6_ hb7_
    obtain ⟨Ao34, co34, eo34⟩ := Kd.R_slice HO405.out
    (first | subst eo34 | (injection eo34 with f1_ f2_ f3_; have f4_ := f1_.symm; have f5_ := f3_.symm; clear f1_ f2_ f3_; subst f4_; subst f5_))
    try go_wp2
    go_ret2
    exact ⟨by first | rfl | (simp [errW_none, errW_some] <;> rfl) | (simp [*, errW_none, errW_some] <;> rfl), bG⟩

end Go.Proofs.YtcpnmiempaofdaaGreat.C
