-- Printed by hp.py, a program of this session: a machine's side of laws, out of the translation; Lean checks it.
import Derived.Test.YthpmpkmdjpaemaaOx0
import Derived.Test.YthpmpkmdjpaemaaOx13
namespace Go.Proofs.Ythpmpkmdjpaemaa.O
open Go.RowKit Go.Proofs.YthpmpkmdjpaemaaW.PrintWords Go.Proofs.YthpmpkmdjpaemaaW.PrintLast Go.Proofs.YthpmpkmdjpaemaaW.PrintMore
attribute [local go_sem] max2_int min2_int max_two min_two max_three min_three max_four min_four   -- for this text's walks alone
set_option linter.unusedVariables false
set_option linter.unusedSimpArgs false

/-! ### spec_NextCodes: function 63 -/
mutual
def spec_NextCodes.l0 : Nat → ByteArray → List ByteArray → Int → Int → Int → Option (List ByteArray × Bool)
 | 0, _, _, _, _, _ => none
 | k + 1, x1, x6, x7, x338000, x338001 => if x7 < x338000 then ((some (([1, (-1)] : List Int) : List Int)).bind fun y339 => (spec_NextCodes.l1 k x1 x6 x7 y339 (y339.length : Int) 0 x338000 x338001)) else (some (x6, true))
def spec_NextCodes.l1 : Nat → ByteArray → List ByteArray → Int → List Int → Int → Int → Int → Int → Option (List ByteArray × Bool)
 | 0, _, _, _, _, _, _, _, _ => none
 | k + 1, x1, x6, x7, x22, x23, x24, x338000, x338001 => if x24 < x23 then (if 0 ≤ x24 then (if x24 < (x22.length : Int) then ((spec_whMake.f k x338000 x338001 x1 x7 (rd x22 x24)).bind fun t343 => (spec_NextCodes.l2 k x1 x6 x7 t343 0 x22 x23 x24 x338000 x338001)) else (none)) else (none)) else (spec_NextCodes.l0 k x1 x6 (wrap64 (x7 + 1)) x338000 x338001)
def spec_NextCodes.l2 : Nat → ByteArray → List ByteArray → Int → ByteArray → Int → List Int → Int → Int → Int → Int → Option (List ByteArray × Bool)
 | 0, _, _, _, _, _, _, _, _, _, _ => none
 | k + 1, x1, x6, x7, x10, x11, x22, x23, x24, x338000, x338001 => if x11 < (x6.length : Int) then (if 0 ≤ x11 then (if (Op.bytesLess ((rdOf ByteArray.empty x6 x11).toList) x10.toList) = true then (spec_NextCodes.l2 k x1 x6 x7 x10 (wrap64 (x11 + 1)) x22 x23 x24 x338000 x338001) else (if x11 = (x6.length : Int) then ((some (([] : List ByteArray) : List ByteArray)).bind fun y345 => (if x11 ≤ (x6.length : Int) then ((some (x6.take (x11 : Int).toNat : List ByteArray)).bind fun y348 => (if y345.length + y348.length < 8796093022208 then ((some (y345 ++ y348 : List ByteArray)).bind fun y352 => ((some (([x10] : List ByteArray) : List ByteArray)).bind fun y355 => (if y352.length + y355.length < 8796093022208 then ((some (y352 ++ y355 : List ByteArray)).bind fun y358 => ((some (x6.drop (x11 : Int).toNat : List ByteArray)).bind fun y361 => (if y358.length + y361.length < 8796093022208 then (spec_NextCodes.l1 k x1 (y358 ++ y361) x7 x22 x23 (wrap64 (x24 + 1)) x338000 x338001) else (none)))) else (none)))) else (none))) else (none))) else (if (rdOf ByteArray.empty x6 x11).toList = x10.toList then (spec_NextCodes.l1 k x1 x6 x7 x22 x23 (wrap64 (x24 + 1)) x338000 x338001) else ((some (([] : List ByteArray) : List ByteArray)).bind fun y369 => (if x11 ≤ (x6.length : Int) then ((some (x6.take (x11 : Int).toNat : List ByteArray)).bind fun y372 => (if y369.length + y372.length < 8796093022208 then ((some (y369 ++ y372 : List ByteArray)).bind fun y376 => ((some (([x10] : List ByteArray) : List ByteArray)).bind fun y379 => (if y376.length + y379.length < 8796093022208 then ((some (y376 ++ y379 : List ByteArray)).bind fun y382 => ((some (x6.drop (x11 : Int).toNat : List ByteArray)).bind fun y385 => (if y382.length + y385.length < 8796093022208 then (spec_NextCodes.l1 k x1 (y382 ++ y385) x7 x22 x23 (wrap64 (x24 + 1)) x338000 x338001) else (none)))) else (none)))) else (none))) else (none)))))) else (none)) else (if x11 = (x6.length : Int) then ((some (([] : List ByteArray) : List ByteArray)).bind fun y392 => (if 0 ≤ x11 then (if x11 ≤ (x6.length : Int) then ((some (x6.take (x11 : Int).toNat : List ByteArray)).bind fun y395 => (if y392.length + y395.length < 8796093022208 then ((some (y392 ++ y395 : List ByteArray)).bind fun y399 => ((some (([x10] : List ByteArray) : List ByteArray)).bind fun y402 => (if y399.length + y402.length < 8796093022208 then ((some (y399 ++ y402 : List ByteArray)).bind fun y405 => ((some (x6.drop (x11 : Int).toNat : List ByteArray)).bind fun y408 => (if y405.length + y408.length < 8796093022208 then (spec_NextCodes.l1 k x1 (y405 ++ y408) x7 x22 x23 (wrap64 (x24 + 1)) x338000 x338001) else (none)))) else (none)))) else (none))) else (none)) else (none))) else (if 0 ≤ x11 then (none) else (none)))
end
def spec_NextCodes.f (k : Nat) (a0_0 : Int) (a0_1 : Int) (a1 : ByteArray) : Option (List ByteArray × Bool) := (spec_whAsked.f k a0_0 a0_1 a1).bind fun t338 => (if t338 = true then (spec_NextCodes.l0 k a1 ([] : List ByteArray) 0 a0_0 a0_1) else (some (([] : List ByteArray), false)))
theorem spec_NextCodes.mono_l : ∀ k, (∀ y0 y1 y2 y3 y4, LeO (spec_NextCodes.l0 k y0 y1 y2 y3 y4) (spec_NextCodes.l0 (k + 1) y0 y1 y2 y3 y4)) ∧ (∀ y0 y1 y2 y3 y4 y5 y6 y7, LeO (spec_NextCodes.l1 k y0 y1 y2 y3 y4 y5 y6 y7) (spec_NextCodes.l1 (k + 1) y0 y1 y2 y3 y4 y5 y6 y7)) ∧ (∀ y0 y1 y2 y3 y4 y5 y6 y7 y8 y9, LeO (spec_NextCodes.l2 k y0 y1 y2 y3 y4 y5 y6 y7 y8 y9) (spec_NextCodes.l2 (k + 1) y0 y1 y2 y3 y4 y5 y6 y7 y8 y9))
 | 0 => ⟨fun _ _ _ _ _ r h => by simp [spec_NextCodes.l0] at h, fun _ _ _ _ _ _ _ _ r h => by simp [spec_NextCodes.l1] at h, fun _ _ _ _ _ _ _ _ _ _ r h => by simp [spec_NextCodes.l2] at h⟩
 | k + 1 => by
  obtain ⟨ih0, ih1, ih2⟩ := spec_NextCodes.mono_l k
  refine ⟨?_, ?_, ?_⟩
  intro y0 y1 y2 y3 y4; unfold spec_NextCodes.l0; rotate_left
  intro y0 y1 y2 y3 y4 y5 y6 y7; unfold spec_NextCodes.l1; rotate_left
  intro y0 y1 y2 y3 y4 y5 y6 y7 y8 y9; unfold spec_NextCodes.l2; rotate_left
  all_goals repeat' first
  | (with_reducible first | exact ih0 _ _ _ _ _ | exact ih1 _ _ _ _ _ _ _ _ | exact ih2 _ _ _ _ _ _ _ _ _ _ | exact spec_whAsked.mono _ _ _ _ | exact spec_whMake.mono _ _ _ _ _ _ | exact LeO.refl _ | exact LeO.none _ | refine LeO.ite ?_ ?_ | refine LeO.bind ?_ (fun _ => ?_))
  | exact ih0 _ _ _ _ _
  | exact ih1 _ _ _ _ _ _ _ _
  | exact ih2 _ _ _ _ _ _ _ _ _ _
  | exact spec_whAsked.mono _ _ _ _
  | exact spec_whMake.mono _ _ _ _ _ _
  | exact LeO.none _
  | refine LeO.ite ?_ ?_
  | refine LeO.bind ?_ (fun _ => ?_)
theorem spec_NextCodes.mono : ∀ a0 a1 a2 k, LeO (spec_NextCodes.f k a0 a1 a2) (spec_NextCodes.f (k + 1) a0 a1 a2) := by
 intro a0 a1 a2 k
 obtain ⟨ih0, ih1, ih2⟩ := spec_NextCodes.mono_l k
 unfold spec_NextCodes.f
 repeat' first
   | (with_reducible first | exact ih0 _ _ _ _ _ | exact ih1 _ _ _ _ _ _ _ _ | exact ih2 _ _ _ _ _ _ _ _ _ _ | exact spec_whAsked.mono _ _ _ _ | exact spec_whMake.mono _ _ _ _ _ _ | exact LeO.refl _ | exact LeO.none _ | refine LeO.ite ?_ ?_ | refine LeO.bind ?_ (fun _ => ?_))
   | exact ih0 _ _ _ _ _
   | exact ih1 _ _ _ _ _ _ _ _
   | exact ih2 _ _ _ _ _ _ _ _ _ _
   | exact spec_whAsked.mono _ _ _ _
   | exact spec_whMake.mono _ _ _ _ _ _
   | exact LeO.none _
   | refine LeO.ite ?_ ?_
   | refine LeO.bind ?_ (fun _ => ?_)
def spec_NextCodes.T15 : Bool × List (List Nat × List Nat) := (true, [([], []), ([], []), ([], []), ([1, 2], [1, 2]), ([0, 3], [0, 3]), ([], []), ([5], [5]), ([4, 6, 4], [4, 6]), ([], []), ([], []), ([8, 9], [8, 9]), ([7, 10, 7], [7, 10]), ([11, 11, 0, 1, 2, 3, 4, 5, 6, 7, 8, 9, 10, 11], [1, 8, 11])])
def spec_NextCodes.B15 : List Nat := [0, 0, 0, 6, 15, 0, 32, 127, 0, 0, 768, 2047, 4095]
theorem spec_NextCodes.tab15 : rtab .any (opsOf Try.f63 15) = spec_NextCodes.T15 := by kernel_rfl
theorem spec_NextCodes.bits15 : waitsOk spec_NextCodes.T15.2 spec_NextCodes.B15 = true := by kernel_rfl
set_option maxHeartbeats 8000000 in
set_option maxRecDepth 100000 in
theorem spec_NextCodes.calls (k : Nat) (a0_0 : Int) (a0_1 : Int) (a1 : ByteArray) (r1 : List ByteArray) (r2 : Bool) (w : World) (h : spec_NextCodes.f k a0_0 a0_1 a1 = some (r1, r2)) :
  Calls Try.prog 63 #[.agg #[.int .i64 a0_0, .int .i64 a0_1], .string a1] w fun e w' => ∃ v0_ : Value, e = .returned (.tuple #[v0_, .bool r2]) ∧ Kd.R Kd.string 9 w' w.heap.size (fun _ => True) v0_ r1 ∧ Below w.heap.size w w' := by
 have hu23 := Try.underlying23
 have hu46 := Try.underlying46
 have HB := Aside0.mk (Below.refl w.heap.size w)
 have H := h
 unfold spec_NextCodes.f at H
 clear h
 replace H := Option.bind_eq_some_iff.mp H
 obtain ⟨t338, A30, H⟩ := H
 (try dsimp only at H)
 have A3 := Aside0.mk A30
 clear A30
 by_cases c4 : t338 = true
 ·subst c4
  replace H := zt H
  have H' := Aside0.mk H
  clear H
  go_enter Try.func63, Try.ntmps63
  go_wp2_with (first | ((with_reducible refine gate_dst (N := 2) rfl ?_); refine box_event ?hg (N := 2) ?hd (cs := #[.int .i64 a0_0, .int .i64 a0_1]) (t := 23) ?hr ?_; (case hd => rfl); (case hg => rfl); (case hr => first | (go_simp; done) | (go_simp; rfl)); intro gb337 hg w5 hbox hb; have BK337 := Aside0.mk (hbox); have GW337 : Aside0 (w.heap.size ≤ gb337) := gW hg; have GE337 := GW337; replace HB := Aside0.mk (below_step bB hb); clear hb hbox hg; have hcz6_0 := cZ BK337 0 (.int .i64 a0_0); have hcz6_1 := cZ BK337 1 (.int .i64 a0_1); have hfz6_0 := blk_frozen BK337.out 0; have hfz6_1 := blk_frozen BK337.out 1) | ((with_reducible refine gate_callee (f := 71) rfl ?_); refine goesL_ (some 14) rfl rfl Try.func71 (by kernel_rfl) rfl #[.agg #[.int .i64 a0_0, .int .i64 a0_1], .string a1] rfl lM ?_; (with_reducible refine (spec_whAsked.calls k a0_0 a0_1 a1 true _ A3.out).mono ?_); rintro e w7 ⟨rfl, hb⟩; refine ⟨_, rfl, ?_⟩; replace BK337 := bW BK337 hb; replace HB := Aside0.mk (below_step bG hb); (try clear hb)))
  go_loopg [6, 7] k (fun kq v6 v7 w' => ∃ (x6_1 : List ByteArray) (x7_1 : Int), v7 = .int .i64 x7_1 ∧ Aside0 (spec_NextCodes.l0 kq a1 x6_1 x7_1 a0_0 a0_1 = some (r1, r2)) ∧ Aside0 (kq ≤ k) ∧ Aside0 (Kd.R Kd.string 9 w' w.heap.size (fun _ => True) v6 x6_1) ∧ Aside0 (w'.heap[gb337]? = some (.cells #[.int .i64 a0_0, .int .i64 a0_1] 23 (0, 0))) ∧ Aside0 (Below w.heap.size w w'))
  case atStart => exact ⟨(([] : List ByteArray)), (0), fR, H', ⟨Nat.le_refl _⟩, ⟨by first | exact Kd.R_nil _ _ _ _ _ | exact Kd.N_nil _ _ _ _ _ | exact Kd.V_nil _ _ _ _ _ | exact Kd.Q_nil _ _ _ _ _ | exact Kd.S_nil _ _ _ _ _⟩, ⟨bK⟩, ⟨bG⟩⟩
  case round =>
   clear H'
   try clear p2
   try clear c4
   try clear c6
   try clear c7
   try clear hcz6_0
   try clear hcz6_1
   try clear hfz6_0
   try clear hfz6_1
   obtain ⟨x6_1, x7_1, rfl, HA, HK1, HO_6, BK337, HB⟩ := hrel
   cases gk with
   | zero => exact absurd HA.out (by simp [spec_NextCodes.l0])
   | succ k1 =>
    have H := HA.out
    clear HA
    simp only [spec_NextCodes.l0] at H
    by_cases c8 : x7_1 < a0_0
    ·rw [if_pos c8] at H
     have c8b0 : decide (x7_1 < a0_0) = true := decide_eq_true c8
     clear c8
     obtain ⟨y339, hy339⟩ : ∃ y_ : List Int, y_ = (([1, (-1)] : List Int)) := ⟨_, rfl⟩
     replace H : (spec_NextCodes.l1 k1 a1 x6_1 x7_1 y339 (y339.length : Int) 0 a0_0 a0_1) = some (r1, r2) := hZ hy339 H
     have Ny339 := Aside0.mk hy339
     clear hy339
     have H' := Aside0.mk H
     clear H
     have hcz9_0 := cZ BK337 0 (.int .i64 a0_0)
     have hcz9_1 := cZ BK337 1 (.int .i64 a0_1)
     have hfz9_0 := blk_frozen BK337.out 0
     have hfz9_1 := blk_frozen BK337.out 1
     go_wp2_with (first | ((with_reducible refine gate_dst (N := 22) rfl ?_); refine Kd.R_lit (Kd.int .i64) _ 3 ?hg (N := 22) ?hd (xs := ([1, (-1)] : List Int)) (inner := [.int .i64 1, .int .i64 (-1)]) (ok := fun _ => True) (okp := fun _ => True) ?hr ?hp (fun _ hk => hk) trivial (Below.refl _ _) (Nat.le_refl _) (by simp) ?_; (case hd => rfl); (case hg => rfl); (case hr => first | (go_simp; done) | (go_simp; rfl)); (case hp => exact (Reps.one (show Kd.M (Kd.int .i64) _ _ _ 1 [.int .i64 1] from rfl) (Reps.one (show Kd.M (Kd.int .i64) _ _ _ (-1) [.int .i64 (-1)] from rfl) (Reps.none _ _)))); intro v340 w10 ho11 hb hg_ hnew_; clear hg_ hnew_; (first | rw [← Ny339.out] at ho11 | (simp only [Int.reduceToNat] at ho11; rw [← Ny339.out] at ho11)); replace HO_6 := Aside0.mk (Kd.R_below (kR HO_6) hb); have HO341 := Aside0.mk (Kd.R_lower ho11 (below_size bG)); replace BK337 := bW BK337 hb; replace HB := Aside0.mk (below_step bG hb); clear hb ho11; obtain ⟨Ao12, co12, eo12⟩ := Kd.R_slice HO341.out; subst eo12))
     go_loopg [6, 24] k1 (fun kq v6 v24 w' => ∃ (x6_2 : List ByteArray) (x24_2 : Int), v24 = .int .i64 x24_2 ∧ Aside0 (spec_NextCodes.l1 kq a1 x6_2 x7_1 y339 (y339.length : Int) x24_2 a0_0 a0_1 = some (r1, r2)) ∧ Aside0 (kq ≤ k1) ∧ Aside0 (Kd.R Kd.string 9 w' w.heap.size (fun _ => True) v6 x6_2) ∧ Aside0 (Kd.R (Kd.int .i64) 3 w' w.heap.size (fun _ => True) (.slice Ao12 y339.length co12) y339) ∧ Aside0 (w'.heap[gb337]? = some (.cells #[.int .i64 a0_0, .int .i64 a0_1] 23 (0, 0))) ∧ Aside0 (Below w.heap.size w w'))
     case atStart => exact ⟨(x6_1), (0), fR, H', ⟨Nat.le_refl _⟩, ⟨kR HO_6⟩, ⟨kR HO341⟩, ⟨bK⟩, ⟨bG⟩⟩
     case round =>
      clear H'
      try clear p2
      try clear c4
      try clear c6
      try clear c7
      try clear c8
      try clear c8b0
      try clear hcz6_0
      try clear hcz6_1
      try clear hcz9_0
      try clear hcz9_1
      try clear hfz6_0
      try clear hfz6_1
      try clear hfz9_0
      try clear hfz9_1
      try clear p2
      obtain ⟨x6_2, x24_2, rfl, HA, HK2, HO_6, HO_22, BK337, HB⟩ := hrel
      cases gk with
      | zero => exact absurd HA.out (by simp [spec_NextCodes.l1])
      | succ k2 =>
       have H := HA.out
       clear HA
       simp only [spec_NextCodes.l1] at H
       by_cases c13 : x24_2 < (y339.length : Int)
       ·rw [if_pos c13] at H
        have c13b0 : decide (x24_2 < (y339.length : Int)) = true := decide_eq_true c13
        clear c13
        replace H := nz H; obtain ⟨c14, H⟩ := H
        have c14b0 : decide (0 ≤ x24_2) = true := decide_eq_true c14
        clear c14
        replace H := nz H; obtain ⟨c15, H⟩ := H
        have c15b0 : decide (x24_2 < (y339.length : Int)) = true := decide_eq_true c15
        clear c15
        replace H := Option.bind_eq_some_iff.mp H
        obtain ⟨t343, A160, H⟩ := H
        (try dsimp only at H)
        have A16 := Aside0.mk A160
        clear A160
        have H' := Aside0.mk H
        clear H
        have p342 : 0 ≤ (x24_2 : Int) := oD
        have q342 : x24_2 < (y339.length : Int) := oD
        obtain ⟨ad342, e342, hx342_0⟩ := Kd.at_int (Kd.R_reads' HO_22.out).2.2 x24_2 p342 q342
        cases e342
        replace p342 := eq_true p342
        replace q342 := eq_true q342
        have hcz17_0 := cZ BK337 0 (.int .i64 a0_0)
        have hcz17_1 := cZ BK337 1 (.int .i64 a0_1)
        have hfz17_0 := blk_frozen BK337.out 0
        have hfz17_1 := blk_frozen BK337.out 1
        go_wp2_with (first | ((with_reducible refine gate_callee (f := 72) rfl ?_); refine goesL_ (some 33) rfl rfl Try.func72 (by kernel_rfl) rfl #[.agg #[.int .i64 a0_0, .int .i64 a0_1], .string a1, .agg #[.int .i64 x7_1, .int .i64 (rd y339 x24_2)]] rfl lM ?_; (with_reducible refine (spec_whMake.calls k2 a0_0 a0_1 a1 x7_1 (rd y339 x24_2) t343 _ A16.out).mono ?_); rintro e w18 ⟨rfl, hb⟩; refine ⟨_, rfl, ?_⟩; replace HO_6 := Aside0.mk (Kd.R_below (kR HO_6) hb); replace HO_22 := Aside0.mk (Kd.R_below (kR HO_22) hb); replace BK337 := bW BK337 hb; replace HB := Aside0.mk (below_step bG hb); (try clear hb)))
        go_loopg [11] k2 (fun kq v11 w' => ∃ (x11_3 : Int), v11 = .int .i64 x11_3 ∧ Aside0 (spec_NextCodes.l2 kq a1 x6_2 x7_1 t343 x11_3 y339 (y339.length : Int) x24_2 a0_0 a0_1 = some (r1, r2)) ∧ Aside0 (kq ≤ k2) ∧ Aside0 (Kd.R Kd.string 9 w' w.heap.size (fun _ => True) u6 x6_2) ∧ Aside0 (Kd.R (Kd.int .i64) 3 w' w.heap.size (fun _ => True) (.slice (some ad342) y339.length co12) y339) ∧ Aside0 (w'.heap[gb337]? = some (.cells #[.int .i64 a0_0, .int .i64 a0_1] 23 (0, 0))) ∧ Aside0 (Below w.heap.size w w'))
        case atStart => exact ⟨(0), fR, H', ⟨Nat.le_refl _⟩, ⟨kR HO_6⟩, ⟨kR HO_22⟩, ⟨bK⟩, ⟨bG⟩⟩
        case round =>
         clear H'
         try clear c1
         try clear p2
         try clear p3
         try clear q3
         try clear hx3
         try clear c4
         try clear c6
         try clear c7
         try clear c8
         try clear c8b0
         try clear c13
         try clear c13b0
         try clear c14
         try clear c14b0
         try clear c15
         try clear c15b0
         try clear hcz17_0
         try clear hcz17_1
         try clear hcz6_0
         try clear hcz6_1
         try clear hcz9_0
         try clear hcz9_1
         try clear hfz17_0
         try clear hfz17_1
         try clear hfz6_0
         try clear hfz6_1
         try clear hfz9_0
         try clear hfz9_1
         try clear hx342_0
         try clear p2
         try clear p342
         try clear q342
         obtain ⟨x11_3, rfl, HA, HK3, HO_6, HO_22, BK337, HB⟩ := hrel
         cases gk with
         | zero => exact absurd HA.out (by simp [spec_NextCodes.l2])
         | succ k3 =>
          have H := HA.out
          clear HA
          simp only [spec_NextCodes.l2] at H
          by_cases c19 : x11_3 < (x6_2.length : Int)
          ·rw [if_pos c19] at H
           have c19b0 : decide (x11_3 < (x6_2.length : Int)) = true := decide_eq_true c19
           clear c19
           replace H := nz H; obtain ⟨c20, H⟩ := H
           have c20b0 : decide (0 ≤ x11_3) = true := decide_eq_true c20
           clear c20
           by_cases c21 : (Op.bytesLess ((rdOf ByteArray.empty x6_2 x11_3).toList) t343.toList) = true
           ·rw [if_pos c21] at H
            have c21b0 : (Op.bytesLess ((rdOf ByteArray.empty x6_2 x11_3).toList) t343.toList) = true := c21
            clear c21
            have H' := Aside0.mk H
            clear H
            obtain ⟨Ao22, co22, eo22⟩ := Kd.R_slice HO_6.out
            subst eo22
            have p344 : 0 ≤ (x11_3 : Int) := oD
            have q344 : x11_3 < (x6_2.length : Int) := oD
            obtain ⟨ad344, e344, hx344_0⟩ := Kd.at_string (Kd.R_reads' HO_6.out).2.2 x11_3 p344 q344
            cases e344
            replace p344 := eq_true p344
            replace q344 := eq_true q344
            go_wp2
            go_roundg k3
            case measure => have := HK1.out; have := HK2.out; have := HK3.out; omega
            case rel => exact ⟨(wrap64 (x11_3 + 1)), fR, H', ⟨by have := HK1.out; have := HK2.out; have := HK3.out; omega⟩, ⟨kR HO_6⟩, ⟨kR HO_22⟩, ⟨bK⟩, ⟨bG⟩⟩
           ·rw [if_neg c21] at H
            have c21b0 : (Op.bytesLess ((rdOf ByteArray.empty x6_2 x11_3).toList) t343.toList) = false := by simpa using c21
            clear c21
            by_cases c23 : x11_3 = (x6_2.length : Int)
            ·rw [if_pos c23] at H
             have c23b0 : (x11_3 == (x6_2.length : Int)) = true := beq_iff_eq.mpr c23
             have c23b1 : (x11_3 != (x6_2.length : Int)) = false := bne_eq_false_iff_eq.mpr c23
             clear c23
             obtain ⟨y345, hy345⟩ : ∃ y_ : List ByteArray, y_ = (([] : List ByteArray)) := ⟨_, rfl⟩
             replace H : (if x11_3 ≤ (x6_2.length : Int) then ((some (x6_2.take (x11_3 : Int).toNat : List ByteArray)).bind fun y348 => (if y345.length + y348.length < 8796093022208 then ((some (y345 ++ y348 : List ByteArray)).bind fun y352 => ((some (([t343] : List ByteArray) : List ByteArray)).bind fun y355 => (if y352.length + y355.length < 8796093022208 then ((some (y352 ++ y355 : List ByteArray)).bind fun y358 => ((some (x6_2.drop (x11_3 : Int).toNat : List ByteArray)).bind fun y361 => (if y358.length + y361.length < 8796093022208 then (spec_NextCodes.l1 k3 a1 (y358 ++ y361) x7_1 y339 (y339.length : Int) (wrap64 (x24_2 + 1)) a0_0 a0_1) else (none)))) else (none)))) else (none))) else (none)) = some (r1, r2) := hZ hy345 H
             have Ny345 := Aside0.mk hy345
             clear hy345
             have c24b0 := eq_true (oD : 0 ≤ x11_3)
             replace H := nz H; obtain ⟨c25, H⟩ := H
             have c25b0 := eq_true c25
             have c25b1 : decide (x11_3 ≤ (x6_2.length : Int)) = true := decide_eq_true c25
             clear c25
             obtain ⟨y348, hy348⟩ : ∃ y_ : List ByteArray, y_ = (x6_2.take (x11_3 : Int).toNat) := ⟨_, rfl⟩
             replace H : (if y345.length + y348.length < 8796093022208 then ((some (y345 ++ y348 : List ByteArray)).bind fun y352 => ((some (([t343] : List ByteArray) : List ByteArray)).bind fun y355 => (if y352.length + y355.length < 8796093022208 then ((some (y352 ++ y355 : List ByteArray)).bind fun y358 => ((some (x6_2.drop (x11_3 : Int).toNat : List ByteArray)).bind fun y361 => (if y358.length + y361.length < 8796093022208 then (spec_NextCodes.l1 k3 a1 (y358 ++ y361) x7_1 y339 (y339.length : Int) (wrap64 (x24_2 + 1)) a0_0 a0_1) else (none)))) else (none)))) else (none)) = some (r1, r2) := hZ hy348 H
             have Ny348 := Aside0.mk hy348
             clear hy348
             replace H := nz H; obtain ⟨c26, H⟩ := H
             have LMc26 := Aside0.mk c26
             clear c26
             obtain ⟨y352, hy352⟩ : ∃ y_ : List ByteArray, y_ = (y345 ++ y348) := ⟨_, rfl⟩
             replace H : ((some (([t343] : List ByteArray) : List ByteArray)).bind fun y355 => (if y352.length + y355.length < 8796093022208 then ((some (y352 ++ y355 : List ByteArray)).bind fun y358 => ((some (x6_2.drop (x11_3 : Int).toNat : List ByteArray)).bind fun y361 => (if y358.length + y361.length < 8796093022208 then (spec_NextCodes.l1 k3 a1 (y358 ++ y361) x7_1 y339 (y339.length : Int) (wrap64 (x24_2 + 1)) a0_0 a0_1) else (none)))) else (none))) = some (r1, r2) := hZ hy352 H
             have Ny352 := Aside0.mk hy352
             clear hy352
             obtain ⟨y355, hy355⟩ : ∃ y_ : List ByteArray, y_ = (([t343] : List ByteArray)) := ⟨_, rfl⟩
             replace H : (if y352.length + y355.length < 8796093022208 then ((some (y352 ++ y355 : List ByteArray)).bind fun y358 => ((some (x6_2.drop (x11_3 : Int).toNat : List ByteArray)).bind fun y361 => (if y358.length + y361.length < 8796093022208 then (spec_NextCodes.l1 k3 a1 (y358 ++ y361) x7_1 y339 (y339.length : Int) (wrap64 (x24_2 + 1)) a0_0 a0_1) else (none)))) else (none)) = some (r1, r2) := hZ hy355 H
             have Ny355 := Aside0.mk hy355
             clear hy355
             replace H := nz H; obtain ⟨c27, H⟩ := H
             have LMc27 := Aside0.mk c27
             clear c27
             obtain ⟨y358, hy358⟩ : ∃ y_ : List ByteArray, y_ = (y352 ++ y355) := ⟨_, rfl⟩
             replace H : ((some (x6_2.drop (x11_3 : Int).toNat : List ByteArray)).bind fun y361 => (if y358.length + y361.length < 8796093022208 then (spec_NextCodes.l1 k3 a1 (y358 ++ y361) x7_1 y339 (y339.length : Int) (wrap64 (x24_2 + 1)) a0_0 a0_1) else (none))) = some (r1, r2) := hZ hy358 H
             have Ny358 := Aside0.mk hy358
             clear hy358
             have c28b0 := eq_true (oD : 0 ≤ x11_3)
             have c29b0 := eq_true (oD : x11_3 ≤ (x6_2.length : Int))
             obtain ⟨y361, hy361⟩ : ∃ y_ : List ByteArray, y_ = (x6_2.drop (x11_3 : Int).toNat) := ⟨_, rfl⟩
             replace H : (if y358.length + y361.length < 8796093022208 then (spec_NextCodes.l1 k3 a1 (y358 ++ y361) x7_1 y339 (y339.length : Int) (wrap64 (x24_2 + 1)) a0_0 a0_1) else (none)) = some (r1, r2) := hZ hy361 H
             have Ny361 := Aside0.mk hy361
             clear hy361
             replace H := nz H; obtain ⟨c30, H⟩ := H
             have LMc30 := Aside0.mk c30
             clear c30
             obtain ⟨y365, hy365⟩ : ∃ y_ : List ByteArray, y_ = (y358 ++ y361) := ⟨_, rfl⟩
             replace H : (spec_NextCodes.l1 k3 a1 y365 x7_1 y339 (y339.length : Int) (wrap64 (x24_2 + 1)) a0_0 a0_1) = some (r1, r2) := hZ hy365 H
             have Ny365 := Aside0.mk hy365
             clear hy365
             have H' := Aside0.mk H
             clear H
             obtain ⟨Ao31, co31, eo31⟩ := Kd.R_slice HO_6.out
             subst eo31
             have p344 : 0 ≤ (x11_3 : Int) := oD
             have q344 : x11_3 < (x6_2.length : Int) := oD
             obtain ⟨ad344, e344, hx344_0⟩ := Kd.at_string (Kd.R_reads' HO_6.out).2.2 x11_3 p344 q344
             cases e344
             replace p344 := eq_true p344
             replace q344 := eq_true q344
             try go_wp2
             have n0_ := Aside0.mk (Kd.R_drew HO_6.out)
             have n1_ := Aside0.mk (Kd.R_drew HO_22.out)
             have n2_ := Aside0.mk (blk_drew BK337.out)
             have n3_ := Aside0.mk (below_drew1 HB.out)
             clear HO_6
             clear HO_22
             clear BK337
             clear HB
             have HO_6 := n0_
             have HO_22 := n1_
             have BK337 := n2_
             have HB := n3_
             clear n0_ n1_ n2_ n3_
             have q33 : (x11_3 : Int) ≤ ((x6_2.length : Int) : Int) := oD
             obtain ⟨i033, hi033, _, hsz33, _⟩ := info_parts info9
             have hroom33 : x6_2.length ≤ co31 := (Kd.R_reads' HO_6.out).2.1
             have hC33 : Kd.C Kd.string _ (some ad344) x6_2.length x6_2 := (Kd.R_reads' HO_6.out).2.2
             have hcut33 := cut_to (P := Try.prog) 24 9 .i64 Try.underlying24 hi033 (some ad344) x6_2.length co31 x11_3 (oD) q33 hroom33
             have hr33 := Kd.C_take (m := (x11_3 : Int).toNat) hC33 (by omega)
             have hy33 : y348.length = (x11_3 : Int).toNat := (by rw [Ny348.out, List.length_take]; omega)
             rw [← Ny348.out] at hr33
             rw [← hy33] at hcut33
             have HR351 := Aside0.mk hr33
             have HC351 := Aside0.mk (show y348.length ≤ co31 from by omega)
             clear hr33 hC33 hroom33 hi033 hsz33
             have KY33 := Aside0.mk hy33
             clear hy33
             have KL33 := Aside0.mk (show (x11_3 : Int).toNat ≤ x6_2.length from by omega)
             replace q33 := eq_true q33
             have q34 : (x11_3 : Int) ≤ ((x6_2.length : Int) : Int) := oD
             obtain ⟨i034, hi034, _, hsz34, _⟩ := info_parts info9
             have hroom34 : x6_2.length ≤ co31 := (Kd.R_reads' HO_6.out).2.1
             have hC34 : Kd.C Kd.string _ (some ad344) x6_2.length x6_2 := (Kd.R_reads' HO_6.out).2.2
             have q034 : (0 : Int) ≤ (x11_3 : Int) := oD
             have hcut34 := cut_from (P := Try.prog) 24 9 .i64 Try.underlying24 hi034 1 hsz34 (some ad344) x6_2.length co31 x11_3 q034 q34
             have hr34 := Kd.C_drop (m := (x11_3 : Int).toNat) (c := co31) hC34 (by omega) hroom34
             obtain ⟨A34, hA34⟩ : ∃ A_, A_ = (if co31 = (x11_3 : Int).toNat then (some ad344) else ((some ad344) : Option Addr).map (·.add ((x11_3 : Int).toNat * 1))) := ⟨_, rfl⟩
             obtain ⟨c34, hc34⟩ : ∃ c1, c1 = co31 - (x11_3 : Int).toNat := ⟨_, rfl⟩
             have hy34 : y361.length = x6_2.length - (x11_3 : Int).toNat := (by rw [Ny361.out, List.length_drop] <;> omega)
             rw [show (x6_2).drop (x11_3 : Int).toNat = y361 from Ny361.out.symm] at hr34
             replace hr34 : Kd.C Kd.string _ A34 y361.length y361 := (by rw [hA34]; exact hr34)
             rw [← hy34, ← hA34, ← hc34] at hcut34
             have HR364 := Aside0.mk hr34
             have HC364 := Aside0.mk (show y361.length ≤ c34 from by rw [hy34, hc34]; exact Nat.sub_le_sub_right hroom34 _)
             clear hr34 hC34 hroom34 hi034 hsz34 hc34
             have KY34 := Aside0.mk hy34
             have KA34 := Aside0.mk hA34
             clear hy34 hA34
             have KL34 := Aside0.mk (show (x11_3 : Int).toNat ≤ x6_2.length from by omega)
             replace q34 := eq_true q34
             refine start_ (n := 13) (S := fun w' => True) (ds := []) #[false, false, false, false, false, false, false, false, false, false, false, false, false] (by kernel_rfl) rfl rfl trivial (fun hHeld => ?_); refine with_tabW spec_NextCodes.tab15 spec_NextCodes.bits15 (fun HT_ HW_ => ?_)
             generalize wr.drew = w32 at HO_6 HO_22 BK337 HB HR351 HR364 hHeld ⊢
             refine pure_ (i := 1) (N := some 61) (v := ?_) (a' := ?_) #[false, true, false, false, false, false, false, false, false, false, false, false, false] rfl rfl (any_of HT_.out (by kernel_rfl)) (fun _ _ _ h => h) (Or.inl ⟨by rfl, ?_⟩) ?_ ?_
             rotate_left
             ·intro w'
              go_simp
              with_reducible rfl
             rotate_left
             ·simp only [Act.put, List.setIfInBounds_toArray, List.set_cons_zero, List.set_cons_succ, i64_w, i32_w]
              rfl
             refine pure_ (i := 2) (N := some 62) (v := ?_) (a' := ?_) #[false, true, true, false, false, false, false, false, false, false, false, false, false] rfl rfl (any_of HT_.out (by kernel_rfl)) (fun _ _ _ h => h) (Or.inl ⟨by rfl, ?_⟩) ?_ ?_
             rotate_left
             ·intro w'
              go_simp
              with_reducible rfl
             rotate_left
             ·simp only [Act.put, List.setIfInBounds_toArray, List.set_cons_zero, List.set_cons_succ, i64_w, i32_w]
              rfl
             refine pure_ (i := 3) (N := some 63) (v := ?_) (a' := ?_) #[false, true, true, true, false, false, false, false, false, false, false, false, false] rfl rfl (any_of HT_.out (by kernel_rfl)) (fun _ _ _ h => h) (Or.inl ⟨by rfl, ?_⟩) ?_ ?_
             rotate_left
             ·intro w'
              go_simp
              with_reducible rfl
             rotate_left
             ·simp only [Act.put, List.setIfInBounds_toArray, List.set_cons_zero, List.set_cons_succ, i64_w, i32_w]
              rfl
             refine pure_ (i := 5) (N := some 65) (v := ?_) (a' := ?_) #[false, true, true, true, false, true, false, false, false, false, false, false, false] rfl rfl (any_of HT_.out (by kernel_rfl)) (fun _ _ _ h => h) (Or.inl ⟨by rfl, ?_⟩) ?_ ?_
             rotate_left
             ·intro w'
              go_simp
              with_reducible rfl
             rotate_left
             ·simp only [Act.put, List.setIfInBounds_toArray, List.set_cons_zero, List.set_cons_succ, i64_w, i32_w]
              rfl
             refine pure_ (i := 8) (N := some 68) (v := ?_) (a' := ?_) #[false, true, true, true, false, true, false, false, true, false, false, false, false] rfl rfl (any_of HT_.out (by kernel_rfl)) (fun _ _ _ h => h) (Or.inl ⟨by rfl, ?_⟩) ?_ ?_
             rotate_left
             ·intro w'
              go_simp
              with_reducible rfl
             rotate_left
             ·simp only [Act.put, List.setIfInBounds_toArray, List.set_cons_zero, List.set_cons_succ, i64_w, i32_w]
              rfl
             refine pure_ (i := 9) (N := some 69) (v := ?_) (a' := ?_) #[false, true, true, true, false, true, false, false, true, true, false, false, false] rfl rfl (any_of HT_.out (by kernel_rfl)) (fun _ _ _ h => h) (Or.inl ⟨by rfl, ?_⟩) ?_ ?_
             rotate_left
             ·intro w'
              go_simp
              with_reducible rfl
             rotate_left
             ·simp only [Act.put, List.setIfInBounds_toArray, List.set_cons_zero, List.set_cons_succ, i64_w, i32_w]
              rfl
             refine pure_ (i := 10) (N := some 70) (v := ?_) (a' := ?_) #[false, true, true, true, false, true, false, false, true, true, true, false, false] rfl rfl (any_of HT_.out (by kernel_rfl)) (fun _ _ _ h => h) (Or.inl ⟨by rfl, ?_⟩) ?_ ?_
             rotate_left
             ·intro w'
              go_simp
              with_reducible rfl
             rotate_left
             ·simp only [Act.put, List.setIfInBounds_toArray, List.set_cons_zero, List.set_cons_succ, i64_w, i32_w]
              rfl
             refine join_ (σ := Value × Value × Value) 3 #[true, true, true, true, true, true, true, false, true, true, true, false, false] (fun s_ => [(60, s_.1), (64, s_.2.1), (66, s_.2.2)]) (fun s_ w' => (Kd.R Kd.string 9 w' w.heap.size (fun k_ => some k_ ≠ (s_.2.2 : Value).ownBlock ∧ some k_ ≠ (.slice (some ad344) x6_2.length co31 : Value).ownBlock) s_.2.1 y352) ∧ (Kd.R Kd.string 9 w' w.heap.size (fun k_ => some k_ ≠ (s_.2.1 : Value).ownBlock ∧ some k_ ≠ (.slice (some ad344) x6_2.length co31 : Value).ownBlock) s_.2.2 y355) ∧ (Kd.R (Kd.int .i64) 3 w' w.heap.size (fun _ => True) (.slice (some ad342) y339.length co12) y339) ∧ (Kd.R Kd.string 9 w' w.heap.size (fun k_ => some k_ ≠ (s_.2.1 : Value).ownBlock ∧ some k_ ≠ (s_.2.2 : Value).ownBlock) (.slice (some ad344) x6_2.length co31) x6_2) ∧ (w'.heap[gb337]? = some (.cells #[.int .i64 a0_0, .int .i64 a0_1] 23 (0, 0))) ∧ (Below w.heap.size w w')) ?_ ?_
             rotate_left
             ·intro hCont
              refine two_ (i := 0) (j := 6) (Ni := some 60) (Nj := some 66) #[true, true, true, true, false, true, false, false, true, true, true, false, false] #[false, true, true, true, false, true, true, false, true, true, true, false, false] rfl rfl rfl rfl (two_of HT_.out (by kernel_rfl)) (by decide) (by decide) (fun K hK => ?_) (fun K hK => ?_)
              ·skip
               refine Kd.R_lit_step Kd.string _ 9 ?hg (N := 60) ?hd (xs := ([] : List ByteArray)) (inner := []) (ok := fun _ => True) (okp := fun _ => True) ?hr ?hp (fun _ hk => hk) trivial (Below.refl _ _) (Nat.le_refl _) (by simp) ?_; (case hd => rfl); (case hg => rfl); (case hr => first | (go_simp; done) | (go_simp; rfl)); (case hp => exact (Reps.none _ _))
               intro v346 w35 ho36 hb hg_ hnew_
               clear hg_ hnew_
               (first | rw [← Ny345.out] at ho36 | (simp only [Int.reduceToNat] at ho36; rw [← Ny345.out] at ho36))
               have n0_ := Aside0.mk (Kd.R_elder' (kR HO_6) (Kd.R_base ho36) hb)
               have n1_ := Aside0.mk (Kd.R_below (kR HO_22) hb)
               have n2_ := Aside0.mk (Kd.R_lower (Kd.R_new' ho36 (Kd.R_lt (kR HO_6))) (below_size bG))
               have n3_ := Aside0.mk (blk_below (g := gb337) (o := .cells #[.int .i64 a0_0, .int .i64 a0_1] 23 (0, 0)) bK hb)
               have n4_ := Aside0.mk (Kd.C_below (by repeat (first | (with_reducible exact HR351.out) | (with_reducible refine Kd.C_alloc ?_ _) | (with_reducible refine Kd.C_drewN ?_ _) | (with_reducible refine Kd.C_drew ?_) | exact HR351.out)) hb)
               have n5_ := Aside0.mk (Kd.C_below (by repeat (first | (with_reducible exact HR364.out) | (with_reducible refine Kd.C_alloc ?_ _) | (with_reducible refine Kd.C_drewN ?_ _) | (with_reducible refine Kd.C_drew ?_) | exact HR364.out)) hb)
               have n6_ := Aside0.mk (below_step bG hb)
               clear HO_6
               clear HO_22
               clear BK337
               clear HR351
               clear HR364
               clear HB
               have HO_6 := n0_
               have HO_22 := n1_
               have HO347 := n2_
               have BK337 := n3_
               have HR351 := n4_
               have HR364 := n5_
               have HB := n6_
               clear n0_ n1_ n2_ n3_ n4_ n5_ n6_
               clear hb ho36
               refine hK.out _ _ trivial (fun hHeld => ?_)
               clear hK K
               refine norm_ (a' := ?_) ?_ ?_
               rotate_left
               ·show Act.put _ (some 60) _ = _
                simp only [Act.put, List.setIfInBounds_toArray, List.set_cons_zero, List.set_cons_succ, i64_w, i32_w]
                rfl
               refine two_ (i := 4) (j := 6) (Ni := some 64) (Nj := some 66) #[true, true, true, true, true, true, false, false, true, true, true, false, false] #[true, true, true, true, false, true, true, false, true, true, true, false, false] rfl rfl rfl rfl (two_of HT_.out (by kernel_rfl)) (by decide) (by decide) (fun K hK => ?_) (fun K hK => ?_)
               ·skip
                refine Kd.R_append_rows_step Kd.string (w0 := w) w.heap.size (by rfl) (.tmp 60) (.tmp 63) 24 9 (.string ⟨#[]⟩) 16 rfl Try.underlying24 info9 rfl (by decide) (by omega) v346 y345 y348 _ _ _ (fun k_ => some k_ ≠ (.slice (some ad344) x6_2.length co31 : Value).ownBlock) (fun _ => False) rfl rfl ?aO ?aR (fun _ _ h => h) (fun _ h => h.elim) ?aF ?aB ?aS ?aL ?_
                (case aR => repeat (first | exact (by repeat (first | (with_reducible exact HR351.out) | (with_reducible refine Kd.C_alloc ?_ _) | (with_reducible refine Kd.C_drewN ?_ _) | (with_reducible refine Kd.C_drew ?_) | exact HR351.out)) | (with_reducible refine Kd.C_alloc ?_ _) | (with_reducible refine Kd.C_drewN ?_ _) | (with_reducible refine Kd.C_drew ?_)))
                (case aB => exact bG)
                (case aF => exact (fun k_ hk => Kd.fresh' (Kd.R_lt (kR HO_6)) k_ hk))
                (case aO => exact (by (with_reducible repeat (first | apply Kd.R_alloc | apply Kd.R_drewN | apply Kd.R_drew)); exact Kd.R_mono HO347.out (fun _ hk => hk.2)))
                (case aS => exact (below_size bG))
                (case aL => have := LMc26.out; omega)
                intro v353 w37 ho hb hg hat
                rw [← Ny352.out] at ho
                have n0_ := Aside0.mk (Kd.R_after (ok := (fun _ => True)) (kR HO_6) hg hat)
                have n1_ := Aside0.mk (Kd.R_over' (kR HO_22) (Kd.R_typed (kR HO347)) (by decide) hg)
                have n2_ := Aside0.mk (blk_grown (g := gb337) (o := .cells #[.int .i64 a0_0, .int .i64 a0_1] 23 (0, 0)) bK hg (Kd.R_ne HO347.out BK337.out (by decide)))
                have n3_ := Aside0.mk (hb)
                have n4_ := Aside0.mk ((show Kd.C Kd.string w37 (some ad344) y348.length y348 from by rw [Ny348.out]; exact Kd.C_take (m := (x11_3 : Int).toNat) ((Kd.R_reads' (Kd.R_after (ok := (fun _ => True)) (kR HO_6) hg hat)).2.2) KL33.out))
                have n5_ := Aside0.mk ((show Kd.C Kd.string w37 A34 y361.length y361 from by rw [Ny361.out, KA34.out]; exact Kd.C_drop (m := (x11_3 : Int).toNat) (c := co31) ((Kd.R_reads' (Kd.R_after (ok := (fun _ => True)) (kR HO_6) hg hat)).2.2) KL34.out ((Kd.R_reads' (Kd.R_after (ok := (fun _ => True)) (kR HO_6) hg hat)).2.1)))
                have n6_ := Aside0.mk (ho)
                clear HO_6
                clear HO_22
                clear BK337
                clear HB
                clear HR351
                clear HR364
                clear HO347
                have HO_6 := n0_
                have HO_22 := n1_
                have BK337 := n2_
                have HB := n3_
                have HR351 := n4_
                have HR364 := n5_
                have HO354 := n6_
                clear n0_ n1_ n2_ n3_ n4_ n5_ n6_
                clear ho hb hg hat
                refine hK.out _ _ trivial (fun hHeld => ?_)
                clear hK K
                refine norm_ (a' := ?_) ?_ ?_
                rotate_left
                ·show Act.put _ (some 64) _ = _
                 simp only [Act.put, List.setIfInBounds_toArray, List.set_cons_zero, List.set_cons_succ, i64_w, i32_w]
                 rfl
                refine one_ (i := 6) (N := some 66) #[true, true, true, true, true, true, true, false, true, true, true, false, false] rfl rfl (one_of HT_.out (by kernel_rfl)) (by decide) (fun K hK => ?_)
                refine Kd.R_lit_step Kd.string _ 9 ?hg (N := 66) ?hd (xs := ([t343] : List ByteArray)) (inner := [.string t343]) (ok := fun _ => True) (okp := fun _ => True) ?hr ?hp (fun _ hk => hk) trivial (Below.refl _ _) (Nat.le_refl _) (by simp) ?_; (case hd => rfl); (case hg => rfl); (case hr => first | (go_simp; done) | (go_simp; rfl)); (case hp => exact (Reps.one (show Kd.M Kd.string _ _ _ t343 [.string t343] from rfl) (Reps.none _ _)))
                intro v356 w38 ho39 hb hg_ hnew_
                clear hg_ hnew_
                (first | rw [← Ny355.out] at ho39 | (simp only [Int.reduceToNat] at ho39; rw [← Ny355.out] at ho39))
                have n0_ := Aside0.mk (Kd.R_elder' (kR HO_6) (Kd.R_base ho39) hb)
                have n1_ := Aside0.mk (Kd.R_below (kR HO_22) hb)
                have n2_ := Aside0.mk (Kd.R_elder' (kR HO354) (Kd.R_base ho39) hb)
                have n3_ := Aside0.mk (Kd.R_lower (Kd.R_new' (Kd.R_new' ho39 (Kd.R_lt (kR HO_6))) (Kd.R_lt (kR HO354))) (below_size bG))
                have n4_ := Aside0.mk (blk_below (g := gb337) (o := .cells #[.int .i64 a0_0, .int .i64 a0_1] 23 (0, 0)) bK hb)
                have n5_ := Aside0.mk (Kd.C_below (by repeat (first | (with_reducible exact HR351.out) | (with_reducible refine Kd.C_alloc ?_ _) | (with_reducible refine Kd.C_drewN ?_ _) | (with_reducible refine Kd.C_drew ?_) | exact HR351.out)) hb)
                have n6_ := Aside0.mk (Kd.C_below (by repeat (first | (with_reducible exact HR364.out) | (with_reducible refine Kd.C_alloc ?_ _) | (with_reducible refine Kd.C_drewN ?_ _) | (with_reducible refine Kd.C_drew ?_) | exact HR364.out)) hb)
                have n7_ := Aside0.mk (below_step bG hb)
                clear HO_6
                clear HO_22
                clear HO354
                clear BK337
                clear HR351
                clear HR364
                clear HB
                have HO_6 := n0_
                have HO_22 := n1_
                have HO354 := n2_
                have HO357 := n3_
                have BK337 := n4_
                have HR351 := n5_
                have HR364 := n6_
                have HB := n7_
                clear n0_ n1_ n2_ n3_ n4_ n5_ n6_ n7_
                clear hb ho39
                refine hK.out _ _ trivial (fun hHeld => ?_)
                clear hK K
                refine norm_ (a' := ?_) ?_ ?_
                rotate_left
                ·show Act.put _ (some 66) _ = _
                 simp only [Act.put, List.setIfInBounds_toArray, List.set_cons_zero, List.set_cons_succ, i64_w, i32_w]
                 rfl
                exact norm_ (by simp only [putAll, Act.put, List.setIfInBounds_toArray, List.set_cons_zero, List.set_cons_succ]) (hCont (v346, v353, v356) _ ⟨(by (with_reducible repeat (first | apply Kd.R_alloc | apply Kd.R_drewN | apply Kd.R_drew)); exact Kd.R_mono HO354.out (fun _ hk => ⟨hk.2, hk.1⟩)), (by (with_reducible repeat (first | apply Kd.R_alloc | apply Kd.R_drewN | apply Kd.R_drew)); exact Kd.R_mono HO357.out (fun _ hk => ⟨hk.2, hk.1.2⟩)), (kR HO_22), (by (with_reducible repeat (first | apply Kd.R_alloc | apply Kd.R_drewN | apply Kd.R_drew)); exact Kd.R_mono HO_6.out (fun _ hk => ⟨hk.1.2, hk.2⟩)), bK, bG⟩)
               ·skip
                refine Kd.R_lit_step Kd.string _ 9 ?hg (N := 66) ?hd (xs := ([t343] : List ByteArray)) (inner := [.string t343]) (ok := fun _ => True) (okp := fun _ => True) ?hr ?hp (fun _ hk => hk) trivial (Below.refl _ _) (Nat.le_refl _) (by simp) ?_; (case hd => rfl); (case hg => rfl); (case hr => first | (go_simp; done) | (go_simp; rfl)); (case hp => exact (Reps.one (show Kd.M Kd.string _ _ _ t343 [.string t343] from rfl) (Reps.none _ _)))
                intro v356 w37 ho38 hb hg_ hnew_
                clear hg_ hnew_
                (first | rw [← Ny355.out] at ho38 | (simp only [Int.reduceToNat] at ho38; rw [← Ny355.out] at ho38))
                have n0_ := Aside0.mk (Kd.R_elder' (kR HO_6) (Kd.R_base ho38) hb)
                have n1_ := Aside0.mk (Kd.R_below (kR HO_22) hb)
                have n2_ := Aside0.mk (Kd.R_elder' (kR HO347) (Kd.R_base ho38) hb)
                have n3_ := Aside0.mk (Kd.R_lower (Kd.R_new' (Kd.R_new' ho38 (Kd.R_lt (kR HO_6))) (Kd.R_lt (kR HO347))) (below_size bG))
                have n4_ := Aside0.mk (blk_below (g := gb337) (o := .cells #[.int .i64 a0_0, .int .i64 a0_1] 23 (0, 0)) bK hb)
                have n5_ := Aside0.mk (Kd.C_below (by repeat (first | (with_reducible exact HR351.out) | (with_reducible refine Kd.C_alloc ?_ _) | (with_reducible refine Kd.C_drewN ?_ _) | (with_reducible refine Kd.C_drew ?_) | exact HR351.out)) hb)
                have n6_ := Aside0.mk (Kd.C_below (by repeat (first | (with_reducible exact HR364.out) | (with_reducible refine Kd.C_alloc ?_ _) | (with_reducible refine Kd.C_drewN ?_ _) | (with_reducible refine Kd.C_drew ?_) | exact HR364.out)) hb)
                have n7_ := Aside0.mk (below_step bG hb)
                clear HO_6
                clear HO_22
                clear HO347
                clear BK337
                clear HR351
                clear HR364
                clear HB
                have HO_6 := n0_
                have HO_22 := n1_
                have HO347 := n2_
                have HO357 := n3_
                have BK337 := n4_
                have HR351 := n5_
                have HR364 := n6_
                have HB := n7_
                clear n0_ n1_ n2_ n3_ n4_ n5_ n6_ n7_
                clear hb ho38
                refine hK.out _ _ trivial (fun hHeld => ?_)
                clear hK K
                refine norm_ (a' := ?_) ?_ ?_
                rotate_left
                ·show Act.put _ (some 66) _ = _
                 simp only [Act.put, List.setIfInBounds_toArray, List.set_cons_zero, List.set_cons_succ, i64_w, i32_w]
                 rfl
                refine one_ (i := 4) (N := some 64) #[true, true, true, true, true, true, true, false, true, true, true, false, false] rfl rfl (one_of HT_.out (by kernel_rfl)) (by decide) (fun K hK => ?_)
                refine Kd.R_append_rows_step Kd.string (w0 := w) w.heap.size (by rfl) (.tmp 60) (.tmp 63) 24 9 (.string ⟨#[]⟩) 16 rfl Try.underlying24 info9 rfl (by decide) (by omega) v346 y345 y348 _ _ _ (fun k_ => some k_ ≠ (.slice (some ad344) x6_2.length co31 : Value).ownBlock ∧ some k_ ≠ (v356 : Value).ownBlock) (fun _ => False) rfl rfl ?aO ?aR (fun _ _ h => h) (fun _ h => h.elim) ?aF ?aB ?aS ?aL ?_
                (case aR => repeat (first | exact (by repeat (first | (with_reducible exact HR351.out) | (with_reducible refine Kd.C_alloc ?_ _) | (with_reducible refine Kd.C_drewN ?_ _) | (with_reducible refine Kd.C_drew ?_) | exact HR351.out)) | (with_reducible refine Kd.C_alloc ?_ _) | (with_reducible refine Kd.C_drewN ?_ _) | (with_reducible refine Kd.C_drew ?_)))
                (case aB => exact bG)
                (case aF => exact (fun k_ hk => ⟨Kd.fresh' (Kd.R_lt (kR HO_6)) k_ hk, Kd.fresh' (Kd.R_lt (kR HO357)) k_ hk⟩))
                (case aO => exact (by (with_reducible repeat (first | apply Kd.R_alloc | apply Kd.R_drewN | apply Kd.R_drew)); exact Kd.R_mono HO347.out (fun _ hk => ⟨hk.1.2, hk.2⟩)))
                (case aS => exact (below_size bG))
                (case aL => have := LMc26.out; omega)
                intro v353 w39 ho hb hg hat
                rw [← Ny352.out] at ho
                have n0_ := Aside0.mk (Kd.R_after (ok := (fun k_ => some k_ ≠ (v356 : Value).ownBlock)) (by (with_reducible repeat (first | apply Kd.R_alloc | apply Kd.R_drewN | apply Kd.R_drew)); exact Kd.R_mono HO_6.out (fun _ hk => ⟨hk.2, hk.1.2⟩)) hg hat)
                have n1_ := Aside0.mk (Kd.R_over' (kR HO_22) (Kd.R_typed (kR HO347)) (by decide) hg)
                have n2_ := Aside0.mk (blk_grown (g := gb337) (o := .cells #[.int .i64 a0_0, .int .i64 a0_1] 23 (0, 0)) bK hg (Kd.R_ne HO347.out BK337.out (by decide)))
                have n3_ := Aside0.mk (Kd.R_after (ok := (fun k_ => some k_ ≠ (.slice (some ad344) x6_2.length co31 : Value).ownBlock)) (by (with_reducible repeat (first | apply Kd.R_alloc | apply Kd.R_drewN | apply Kd.R_drew)); exact Kd.R_mono HO357.out (fun _ hk => ⟨hk.1.2, hk.2⟩)) hg hat)
                have n4_ := Aside0.mk (hb)
                have n5_ := Aside0.mk ((show Kd.C Kd.string w39 (some ad344) y348.length y348 from by rw [Ny348.out]; exact Kd.C_take (m := (x11_3 : Int).toNat) ((Kd.R_reads' (Kd.R_after (ok := (fun k_ => some k_ ≠ (v356 : Value).ownBlock)) (by (with_reducible repeat (first | apply Kd.R_alloc | apply Kd.R_drewN | apply Kd.R_drew)); exact Kd.R_mono HO_6.out (fun _ hk => ⟨hk.2, hk.1.2⟩)) hg hat)).2.2) KL33.out))
                have n6_ := Aside0.mk ((show Kd.C Kd.string w39 A34 y361.length y361 from by rw [Ny361.out, KA34.out]; exact Kd.C_drop (m := (x11_3 : Int).toNat) (c := co31) ((Kd.R_reads' (Kd.R_after (ok := (fun k_ => some k_ ≠ (v356 : Value).ownBlock)) (by (with_reducible repeat (first | apply Kd.R_alloc | apply Kd.R_drewN | apply Kd.R_drew)); exact Kd.R_mono HO_6.out (fun _ hk => ⟨hk.2, hk.1.2⟩)) hg hat)).2.2) KL34.out ((Kd.R_reads' (Kd.R_after (ok := (fun k_ => some k_ ≠ (v356 : Value).ownBlock)) (by (with_reducible repeat (first | apply Kd.R_alloc | apply Kd.R_drewN | apply Kd.R_drew)); exact Kd.R_mono HO_6.out (fun _ hk => ⟨hk.2, hk.1.2⟩)) hg hat)).2.1)))
                have n7_ := Aside0.mk (ho)
                clear HO_6
                clear HO_22
                clear BK337
                clear HO357
                clear HB
                clear HR351
                clear HR364
                clear HO347
                have HO_6 := n0_
                have HO_22 := n1_
                have BK337 := n2_
                have HO357 := n3_
                have HB := n4_
                have HR351 := n5_
                have HR364 := n6_
                have HO354 := n7_
                clear n0_ n1_ n2_ n3_ n4_ n5_ n6_ n7_
                clear ho hb hg hat
                refine hK.out _ _ trivial (fun hHeld => ?_)
                clear hK K
                refine norm_ (a' := ?_) ?_ ?_
                rotate_left
                ·show Act.put _ (some 64) _ = _
                 simp only [Act.put, List.setIfInBounds_toArray, List.set_cons_zero, List.set_cons_succ, i64_w, i32_w]
                 rfl
                exact norm_ (by simp only [putAll, Act.put, List.setIfInBounds_toArray, List.set_cons_zero, List.set_cons_succ]) (hCont (v346, v353, v356) _ ⟨(by (with_reducible repeat (first | apply Kd.R_alloc | apply Kd.R_drewN | apply Kd.R_drew)); exact Kd.R_mono HO354.out (fun _ hk => ⟨hk.2, hk.1⟩)), (by (with_reducible repeat (first | apply Kd.R_alloc | apply Kd.R_drewN | apply Kd.R_drew)); exact Kd.R_mono HO357.out (fun _ hk => ⟨hk.2, hk.1⟩)), (kR HO_22), (by (with_reducible repeat (first | apply Kd.R_alloc | apply Kd.R_drewN | apply Kd.R_drew)); exact Kd.R_mono HO_6.out (fun _ hk => ⟨hk.2, hk.1⟩)), bK, bG⟩)
              ·skip
               refine Kd.R_lit_step Kd.string _ 9 ?hg (N := 66) ?hd (xs := ([t343] : List ByteArray)) (inner := [.string t343]) (ok := fun _ => True) (okp := fun _ => True) ?hr ?hp (fun _ hk => hk) trivial (Below.refl _ _) (Nat.le_refl _) (by simp) ?_; (case hd => rfl); (case hg => rfl); (case hr => first | (go_simp; done) | (go_simp; rfl)); (case hp => exact (Reps.one (show Kd.M Kd.string _ _ _ t343 [.string t343] from rfl) (Reps.none _ _)))
               intro v356 w35 ho36 hb hg_ hnew_
               clear hg_ hnew_
               (first | rw [← Ny355.out] at ho36 | (simp only [Int.reduceToNat] at ho36; rw [← Ny355.out] at ho36))
               have n0_ := Aside0.mk (Kd.R_elder' (kR HO_6) (Kd.R_base ho36) hb)
               have n1_ := Aside0.mk (Kd.R_below (kR HO_22) hb)
               have n2_ := Aside0.mk (Kd.R_lower (Kd.R_new' ho36 (Kd.R_lt (kR HO_6))) (below_size bG))
               have n3_ := Aside0.mk (blk_below (g := gb337) (o := .cells #[.int .i64 a0_0, .int .i64 a0_1] 23 (0, 0)) bK hb)
               have n4_ := Aside0.mk (Kd.C_below (by repeat (first | (with_reducible exact HR351.out) | (with_reducible refine Kd.C_alloc ?_ _) | (with_reducible refine Kd.C_drewN ?_ _) | (with_reducible refine Kd.C_drew ?_) | exact HR351.out)) hb)
               have n5_ := Aside0.mk (Kd.C_below (by repeat (first | (with_reducible exact HR364.out) | (with_reducible refine Kd.C_alloc ?_ _) | (with_reducible refine Kd.C_drewN ?_ _) | (with_reducible refine Kd.C_drew ?_) | exact HR364.out)) hb)
               have n6_ := Aside0.mk (below_step bG hb)
               clear HO_6
               clear HO_22
               clear BK337
               clear HR351
               clear HR364
               clear HB
               have HO_6 := n0_
               have HO_22 := n1_
               have HO357 := n2_
               have BK337 := n3_
               have HR351 := n4_
               have HR364 := n5_
               have HB := n6_
               clear n0_ n1_ n2_ n3_ n4_ n5_ n6_
               clear hb ho36
               refine hK.out _ _ trivial (fun hHeld => ?_)
               clear hK K
               refine norm_ (a' := ?_) ?_ ?_
               rotate_left
               ·show Act.put _ (some 66) _ = _
                simp only [Act.put, List.setIfInBounds_toArray, List.set_cons_zero, List.set_cons_succ, i64_w, i32_w]
                rfl
               refine one_ (i := 0) (N := some 60) #[true, true, true, true, false, true, true, false, true, true, true, false, false] rfl rfl (one_of HT_.out (by kernel_rfl)) (by decide) (fun K hK => ?_)
               refine Kd.R_lit_step Kd.string _ 9 ?hg (N := 60) ?hd (xs := ([] : List ByteArray)) (inner := []) (ok := fun _ => True) (okp := fun _ => True) ?hr ?hp (fun _ hk => hk) trivial (Below.refl _ _) (Nat.le_refl _) (by simp) ?_; (case hd => rfl); (case hg => rfl); (case hr => first | (go_simp; done) | (go_simp; rfl)); (case hp => exact (Reps.none _ _))
               intro v346 w37 ho38 hb hg_ hnew_
               clear hg_ hnew_
               (first | rw [← Ny345.out] at ho38 | (simp only [Int.reduceToNat] at ho38; rw [← Ny345.out] at ho38))
               have n0_ := Aside0.mk (Kd.R_elder' (kR HO_6) (Kd.R_base ho38) hb)
               have n1_ := Aside0.mk (Kd.R_below (kR HO_22) hb)
               have n2_ := Aside0.mk (Kd.R_elder' (kR HO357) (Kd.R_base ho38) hb)
               have n3_ := Aside0.mk (Kd.R_lower (Kd.R_new' (Kd.R_new' ho38 (Kd.R_lt (kR HO_6))) (Kd.R_lt (kR HO357))) (below_size bG))
               have n4_ := Aside0.mk (blk_below (g := gb337) (o := .cells #[.int .i64 a0_0, .int .i64 a0_1] 23 (0, 0)) bK hb)
               have n5_ := Aside0.mk (Kd.C_below (by repeat (first | (with_reducible exact HR351.out) | (with_reducible refine Kd.C_alloc ?_ _) | (with_reducible refine Kd.C_drewN ?_ _) | (with_reducible refine Kd.C_drew ?_) | exact HR351.out)) hb)
               have n6_ := Aside0.mk (Kd.C_below (by repeat (first | (with_reducible exact HR364.out) | (with_reducible refine Kd.C_alloc ?_ _) | (with_reducible refine Kd.C_drewN ?_ _) | (with_reducible refine Kd.C_drew ?_) | exact HR364.out)) hb)
               have n7_ := Aside0.mk (below_step bG hb)
               clear HO_6
               clear HO_22
               clear HO357
               clear BK337
               clear HR351
               clear HR364
               clear HB
               have HO_6 := n0_
               have HO_22 := n1_
               have HO357 := n2_
               have HO347 := n3_
               have BK337 := n4_
               have HR351 := n5_
               have HR364 := n6_
               have HB := n7_
               clear n0_ n1_ n2_ n3_ n4_ n5_ n6_ n7_
               clear hb ho38
               refine hK.out _ _ trivial (fun hHeld => ?_)
               clear hK K
               refine norm_ (a' := ?_) ?_ ?_
               rotate_left
               ·show Act.put _ (some 60) _ = _
                simp only [Act.put, List.setIfInBounds_toArray, List.set_cons_zero, List.set_cons_succ, i64_w, i32_w]
                rfl
               refine one_ (i := 4) (N := some 64) #[true, true, true, true, true, true, true, false, true, true, true, false, false] rfl rfl (one_of HT_.out (by kernel_rfl)) (by decide) (fun K hK => ?_)
               refine Kd.R_append_rows_step Kd.string (w0 := w) w.heap.size (by rfl) (.tmp 60) (.tmp 63) 24 9 (.string ⟨#[]⟩) 16 rfl Try.underlying24 info9 rfl (by decide) (by omega) v346 y345 y348 _ _ _ (fun k_ => some k_ ≠ (.slice (some ad344) x6_2.length co31 : Value).ownBlock ∧ some k_ ≠ (v356 : Value).ownBlock) (fun _ => False) rfl rfl ?aO ?aR (fun _ _ h => h) (fun _ h => h.elim) ?aF ?aB ?aS ?aL ?_
               (case aR => repeat (first | exact (by repeat (first | (with_reducible exact HR351.out) | (with_reducible refine Kd.C_alloc ?_ _) | (with_reducible refine Kd.C_drewN ?_ _) | (with_reducible refine Kd.C_drew ?_) | exact HR351.out)) | (with_reducible refine Kd.C_alloc ?_ _) | (with_reducible refine Kd.C_drewN ?_ _) | (with_reducible refine Kd.C_drew ?_)))
               (case aB => exact bG)
               (case aF => exact (fun k_ hk => ⟨Kd.fresh' (Kd.R_lt (kR HO_6)) k_ hk, Kd.fresh' (Kd.R_lt (kR HO357)) k_ hk⟩))
               (case aO => exact (by (with_reducible repeat (first | apply Kd.R_alloc | apply Kd.R_drewN | apply Kd.R_drew)); exact Kd.R_mono HO347.out (fun _ hk => ⟨hk.1.2, hk.2⟩)))
               (case aS => exact (below_size bG))
               (case aL => have := LMc26.out; omega)
               intro v353 w39 ho hb hg hat
               rw [← Ny352.out] at ho
               have n0_ := Aside0.mk (Kd.R_after (ok := (fun k_ => some k_ ≠ (v356 : Value).ownBlock)) (by (with_reducible repeat (first | apply Kd.R_alloc | apply Kd.R_drewN | apply Kd.R_drew)); exact Kd.R_mono HO_6.out (fun _ hk => ⟨hk.1.2, hk.2⟩)) hg hat)
               have n1_ := Aside0.mk (Kd.R_over' (kR HO_22) (Kd.R_typed (kR HO347)) (by decide) hg)
               have n2_ := Aside0.mk (blk_grown (g := gb337) (o := .cells #[.int .i64 a0_0, .int .i64 a0_1] 23 (0, 0)) bK hg (Kd.R_ne HO347.out BK337.out (by decide)))
               have n3_ := Aside0.mk (Kd.R_after (ok := (fun k_ => some k_ ≠ (.slice (some ad344) x6_2.length co31 : Value).ownBlock)) (by (with_reducible repeat (first | apply Kd.R_alloc | apply Kd.R_drewN | apply Kd.R_drew)); exact Kd.R_mono HO357.out (fun _ hk => ⟨hk.1.2, hk.2⟩)) hg hat)
               have n4_ := Aside0.mk (hb)
               have n5_ := Aside0.mk ((show Kd.C Kd.string w39 (some ad344) y348.length y348 from by rw [Ny348.out]; exact Kd.C_take (m := (x11_3 : Int).toNat) ((Kd.R_reads' (Kd.R_after (ok := (fun k_ => some k_ ≠ (v356 : Value).ownBlock)) (by (with_reducible repeat (first | apply Kd.R_alloc | apply Kd.R_drewN | apply Kd.R_drew)); exact Kd.R_mono HO_6.out (fun _ hk => ⟨hk.1.2, hk.2⟩)) hg hat)).2.2) KL33.out))
               have n6_ := Aside0.mk ((show Kd.C Kd.string w39 A34 y361.length y361 from by rw [Ny361.out, KA34.out]; exact Kd.C_drop (m := (x11_3 : Int).toNat) (c := co31) ((Kd.R_reads' (Kd.R_after (ok := (fun k_ => some k_ ≠ (v356 : Value).ownBlock)) (by (with_reducible repeat (first | apply Kd.R_alloc | apply Kd.R_drewN | apply Kd.R_drew)); exact Kd.R_mono HO_6.out (fun _ hk => ⟨hk.1.2, hk.2⟩)) hg hat)).2.2) KL34.out ((Kd.R_reads' (Kd.R_after (ok := (fun k_ => some k_ ≠ (v356 : Value).ownBlock)) (by (with_reducible repeat (first | apply Kd.R_alloc | apply Kd.R_drewN | apply Kd.R_drew)); exact Kd.R_mono HO_6.out (fun _ hk => ⟨hk.1.2, hk.2⟩)) hg hat)).2.1)))
               have n7_ := Aside0.mk (ho)
               clear HO_6
               clear HO_22
               clear BK337
               clear HO357
               clear HB
               clear HR351
               clear HR364
               clear HO347
               have HO_6 := n0_
               have HO_22 := n1_
               have BK337 := n2_
               have HO357 := n3_
               have HB := n4_
               have HR351 := n5_
               have HR364 := n6_
               have HO354 := n7_
               clear n0_ n1_ n2_ n3_ n4_ n5_ n6_ n7_
               clear ho hb hg hat
               refine hK.out _ _ trivial (fun hHeld => ?_)
               clear hK K
               refine norm_ (a' := ?_) ?_ ?_
               rotate_left
               ·show Act.put _ (some 64) _ = _
                simp only [Act.put, List.setIfInBounds_toArray, List.set_cons_zero, List.set_cons_succ, i64_w, i32_w]
                rfl
               exact norm_ (by simp only [putAll, Act.put, List.setIfInBounds_toArray, List.set_cons_zero, List.set_cons_succ]) (hCont (v346, v353, v356) _ ⟨(by (with_reducible repeat (first | apply Kd.R_alloc | apply Kd.R_drewN | apply Kd.R_drew)); exact Kd.R_mono HO354.out (fun _ hk => ⟨hk.2, hk.1⟩)), (by (with_reducible repeat (first | apply Kd.R_alloc | apply Kd.R_drewN | apply Kd.R_drew)); exact Kd.R_mono HO357.out (fun _ hk => ⟨hk.2, hk.1⟩)), (kR HO_22), (by (with_reducible repeat (first | apply Kd.R_alloc | apply Kd.R_drewN | apply Kd.R_drew)); exact Kd.R_mono HO_6.out (fun _ hk => ⟨hk.2, hk.1⟩)), bK, bG⟩)
             rintro ⟨v346, v353, v356⟩ w40 ⟨h0_, h1_, h2_, h3_, h4_, h5_⟩
             have n0_ : Aside0 (Kd.R Kd.string 9 w40 w.heap.size (fun k_ => some k_ ≠ (v356 : Value).ownBlock ∧ some k_ ≠ (.slice (some ad344) x6_2.length co31 : Value).ownBlock) v353 y352) := ⟨h0_⟩
             have n1_ : Aside0 (Kd.R Kd.string 9 w40 w.heap.size (fun k_ => some k_ ≠ (v353 : Value).ownBlock ∧ some k_ ≠ (.slice (some ad344) x6_2.length co31 : Value).ownBlock) v356 y355) := ⟨h1_⟩
             have n2_ : Aside0 (Kd.R (Kd.int .i64) 3 w40 w.heap.size (fun _ => True) (.slice (some ad342) y339.length co12) y339) := ⟨h2_⟩
             have n3_ : Aside0 (Kd.R Kd.string 9 w40 w.heap.size (fun k_ => some k_ ≠ (v353 : Value).ownBlock ∧ some k_ ≠ (v356 : Value).ownBlock) (.slice (some ad344) x6_2.length co31) x6_2) := ⟨h3_⟩
             have n4_ : Aside0 (w40.heap[gb337]? = some (.cells #[.int .i64 a0_0, .int .i64 a0_1] 23 (0, 0))) := ⟨h4_⟩
             have n5_ : Aside0 (Below w.heap.size w w40) := ⟨h5_⟩
             clear HO_6
             clear HO_22
             clear BK337
             clear HB
             clear h0_ h1_ h2_ h3_ h4_ h5_
             have HO354 := n0_
             have HO357 := n1_
             have HO_22 := n2_
             have HO_6 := n3_
             have BK337 := n4_
             have HB := n5_
             clear n0_ n1_ n2_ n3_ n4_ n5_
             have hHeld := trivial
             have HR351 := Aside0.mk (show Kd.C Kd.string w40 (some ad344) y348.length y348 from by rw [Ny348.out]; exact Kd.C_take (m := (x11_3 : Int).toNat) ((Kd.R_reads' HO_6.out).2.2) KL33.out)
             have HR364 := Aside0.mk (show Kd.C Kd.string w40 A34 y361.length y361 from by rw [Ny361.out, KA34.out]; exact Kd.C_drop (m := (x11_3 : Int).toNat) (c := co31) ((Kd.R_reads' HO_6.out).2.2) KL34.out ((Kd.R_reads' HO_6.out).2.1))
             obtain ⟨Ao42, co42, eo42⟩ := Kd.R_slice HO357.out
             (first | subst eo42 | (injection eo42 with f1_ f2_ f3_; have f4_ := f1_.symm; have f5_ := f3_.symm; clear f1_ f2_ f3_; subst f4_; subst f5_))
             refine norm_ (a' := ?_) ?_ ?_
             rotate_left
             ·simp only [putAll, Act.put, List.setIfInBounds_toArray, List.set_cons_zero, List.set_cons_succ]
              rfl
             refine one_ (i := 7) (N := some 67) #[true, true, true, true, true, true, true, true, true, true, true, false, false] rfl rfl (one_of HT_.out (by kernel_rfl)) (by decide) (fun K hK => ?_)
             refine Kd.R_append_rows_step Kd.string (w0 := w) w.heap.size (by rfl) (.tmp 64) (.tmp 66) 24 9 (.string ⟨#[]⟩) 16 rfl Try.underlying24 info9 rfl (by decide) (by omega) v353 y352 y355 _ _ _ (fun k_ => some k_ ≠ (.slice (some ad344) x6_2.length co31 : Value).ownBlock ∧ some k_ ≠ (.slice Ao42 y355.length co42 : Value).ownBlock) (fun _ => False) rfl rfl ?aO ?aR (fun _ _ h => h) (fun _ h => h.elim) ?aF ?aB ?aS ?aL ?_
             (case aR => exact cS ((Kd.R_reads' HO357.out).2.2))
             (case aB => exact bG)
             (case aF => exact (fun k_ hk => ⟨Kd.fresh' (Kd.R_lt (kR HO_6)) k_ hk, Kd.fresh' (Kd.R_lt (kR HO357)) k_ hk⟩))
             (case aO => exact (by (with_reducible repeat (first | apply Kd.R_alloc | apply Kd.R_drewN | apply Kd.R_drew)); exact Kd.R_mono HO354.out (fun _ hk => ⟨hk.2, hk.1⟩)))
             (case aS => exact (below_size bG))
             (case aL => have := LMc27.out; omega)
             intro v359 w41 ho hb hg hat
             rw [← Ny358.out] at ho
             have n0_ := Aside0.mk (Kd.R_after (ok := (fun k_ => some k_ ≠ (.slice Ao42 y355.length co42 : Value).ownBlock)) (by (with_reducible repeat (first | apply Kd.R_alloc | apply Kd.R_drewN | apply Kd.R_drew)); exact Kd.R_mono HO_6.out (fun _ hk => ⟨hk.2, hk.1⟩)) hg hat)
             have n1_ := Aside0.mk (Kd.R_over' (kR HO_22) (Kd.R_typed (kR HO354)) (by decide) hg)
             have n2_ := Aside0.mk (blk_grown (g := gb337) (o := .cells #[.int .i64 a0_0, .int .i64 a0_1] 23 (0, 0)) bK hg (Kd.R_ne HO354.out BK337.out (by decide)))
             have n3_ := Aside0.mk (Kd.R_after (ok := (fun k_ => some k_ ≠ (.slice (some ad344) x6_2.length co31 : Value).ownBlock)) (by (with_reducible repeat (first | apply Kd.R_alloc | apply Kd.R_drewN | apply Kd.R_drew)); exact Kd.R_mono HO357.out (fun _ hk => ⟨hk.2, hk.1⟩)) hg hat)
             have n4_ := Aside0.mk (hb)
             have n5_ := Aside0.mk ((show Kd.C Kd.string w41 (some ad344) y348.length y348 from by rw [Ny348.out]; exact Kd.C_take (m := (x11_3 : Int).toNat) ((Kd.R_reads' (Kd.R_after (ok := (fun k_ => some k_ ≠ (.slice Ao42 y355.length co42 : Value).ownBlock)) (by (with_reducible repeat (first | apply Kd.R_alloc | apply Kd.R_drewN | apply Kd.R_drew)); exact Kd.R_mono HO_6.out (fun _ hk => ⟨hk.2, hk.1⟩)) hg hat)).2.2) KL33.out))
             have n6_ := Aside0.mk ((show Kd.C Kd.string w41 A34 y361.length y361 from by rw [Ny361.out, KA34.out]; exact Kd.C_drop (m := (x11_3 : Int).toNat) (c := co31) ((Kd.R_reads' (Kd.R_after (ok := (fun k_ => some k_ ≠ (.slice Ao42 y355.length co42 : Value).ownBlock)) (by (with_reducible repeat (first | apply Kd.R_alloc | apply Kd.R_drewN | apply Kd.R_drew)); exact Kd.R_mono HO_6.out (fun _ hk => ⟨hk.2, hk.1⟩)) hg hat)).2.2) KL34.out ((Kd.R_reads' (Kd.R_after (ok := (fun k_ => some k_ ≠ (.slice Ao42 y355.length co42 : Value).ownBlock)) (by (with_reducible repeat (first | apply Kd.R_alloc | apply Kd.R_drewN | apply Kd.R_drew)); exact Kd.R_mono HO_6.out (fun _ hk => ⟨hk.2, hk.1⟩)) hg hat)).2.1)))
             have n7_ := Aside0.mk (ho)
             clear HO_6
             clear HO_22
             clear BK337
             clear HO357
             clear HB
             clear HR351
             clear HR364
             clear HO354
             have HO_6 := n0_
             have HO_22 := n1_
             have BK337 := n2_
             have HO357 := n3_
             have HB := n4_
             have HR351 := n5_
             have HR364 := n6_
             have HO360 := n7_
             clear n0_ n1_ n2_ n3_ n4_ n5_ n6_ n7_
             clear ho hb hg hat
             refine hK.out _ _ trivial (fun hHeld => ?_)
             clear hK K
             refine norm_ (a' := ?_) ?_ ?_
             rotate_left
             ·show Act.put _ (some 67) _ = _
              simp only [Act.put, List.setIfInBounds_toArray, List.set_cons_zero, List.set_cons_succ, i64_w, i32_w]
              rfl
             refine one_ (i := 11) (N := some 71) #[true, true, true, true, true, true, true, true, true, true, true, true, false] rfl rfl (one_of HT_.out (by kernel_rfl)) (by decide) (fun K hK => ?_)
             refine Kd.R_append_rows_step Kd.string (w0 := w) w.heap.size (by rfl) (.tmp 67) (.tmp 70) 24 9 (.string ⟨#[]⟩) 16 rfl Try.underlying24 info9 rfl (by decide) (by omega) v359 y358 y361 _ _ _ (fun k_ => some k_ ≠ (.slice (some ad344) x6_2.length co31 : Value).ownBlock ∧ some k_ ≠ (.slice Ao42 y355.length co42 : Value).ownBlock) (fun _ => False) rfl rfl ?aO ?aR (fun _ _ h => h) (fun _ h => h.elim) ?aF ?aB ?aS ?aL ?_
             (case aR => repeat (first | exact (by repeat (first | (with_reducible exact HR364.out) | (with_reducible refine Kd.C_alloc ?_ _) | (with_reducible refine Kd.C_drewN ?_ _) | (with_reducible refine Kd.C_drew ?_) | exact HR364.out)) | (with_reducible refine Kd.C_alloc ?_ _) | (with_reducible refine Kd.C_drewN ?_ _) | (with_reducible refine Kd.C_drew ?_)))
             (case aB => exact bG)
             (case aF => exact (fun k_ hk => ⟨Kd.fresh' (Kd.R_lt (kR HO_6)) k_ hk, Kd.fresh' (Kd.R_lt (kR HO357)) k_ hk⟩))
             (case aO => exact (kR HO360))
             (case aS => exact (below_size bG))
             (case aL => have := LMc30.out; omega)
             intro v366 w43 ho hb hg hat
             rw [← Ny365.out] at ho
             have n0_ := Aside0.mk (Kd.R_after (ok := (fun k_ => some k_ ≠ (.slice Ao42 y355.length co42 : Value).ownBlock)) (kR HO_6) hg hat)
             have n1_ := Aside0.mk (Kd.R_over' (kR HO_22) (Kd.R_typed (kR HO360)) (by decide) hg)
             have n2_ := Aside0.mk (blk_grown (g := gb337) (o := .cells #[.int .i64 a0_0, .int .i64 a0_1] 23 (0, 0)) bK hg (Kd.R_ne HO360.out BK337.out (by decide)))
             have n3_ := Aside0.mk (Kd.R_after (ok := (fun k_ => some k_ ≠ (.slice (some ad344) x6_2.length co31 : Value).ownBlock)) (kR HO357) hg hat)
             have n4_ := Aside0.mk (hb)
             have n5_ := Aside0.mk ((show Kd.C Kd.string w43 (some ad344) y348.length y348 from by rw [Ny348.out]; exact Kd.C_take (m := (x11_3 : Int).toNat) ((Kd.R_reads' (Kd.R_after (ok := (fun k_ => some k_ ≠ (.slice Ao42 y355.length co42 : Value).ownBlock)) (kR HO_6) hg hat)).2.2) KL33.out))
             have n6_ := Aside0.mk ((show Kd.C Kd.string w43 A34 y361.length y361 from by rw [Ny361.out, KA34.out]; exact Kd.C_drop (m := (x11_3 : Int).toNat) (c := co31) ((Kd.R_reads' (Kd.R_after (ok := (fun k_ => some k_ ≠ (.slice Ao42 y355.length co42 : Value).ownBlock)) (kR HO_6) hg hat)).2.2) KL34.out ((Kd.R_reads' (Kd.R_after (ok := (fun k_ => some k_ ≠ (.slice Ao42 y355.length co42 : Value).ownBlock)) (kR HO_6) hg hat)).2.1)))
             have n7_ := Aside0.mk (ho)
             clear HO_6
             clear HO_22
             clear BK337
             clear HO357
             clear HB
             clear HR351
             clear HR364
             clear HO360
             have HO_6 := n0_
             have HO_22 := n1_
             have BK337 := n2_
             have HO357 := n3_
             have HB := n4_
             have HR351 := n5_
             have HR364 := n6_
             have HO367 := n7_
             clear n0_ n1_ n2_ n3_ n4_ n5_ n6_ n7_
             clear ho hb hg hat
             refine hK.out _ _ trivial (fun hHeld => ?_)
             clear hK K
             refine norm_ (a' := ?_) ?_ ?_
             rotate_left
             ·show Act.put _ (some 71) _ = _
              simp only [Act.put, List.setIfInBounds_toArray, List.set_cons_zero, List.set_cons_succ, i64_w, i32_w]
              rfl
             refine pure_ (i := 12) (N := some 6) (v := ?_) (a' := ?_) #[true, true, true, true, true, true, true, true, true, true, true, true, true] rfl rfl (any_of HT_.out (by kernel_rfl)) (fun _ _ _ h => h) (Or.inl ⟨by rfl, ?_⟩) ?_ ?_
             rotate_left
             ·intro w'
              go_simp
              with_reducible rfl
             rotate_left
             ·simp only [Act.put, List.setIfInBounds_toArray, List.set_cons_zero, List.set_cons_succ, i64_w, i32_w]
              rfl
             refine done_ (done_of HT_.out (by kernel_rfl)) ?_
             try go_wp2
             go_roundg k3
             case measure => have := HK1.out; have := HK2.out; have := HK3.out; omega
             case rel => exact ⟨(y365), (wrap64 (x24_2 + 1)), fR, H', ⟨by have := HK1.out; have := HK2.out; have := HK3.out; omega⟩, ⟨by (with_reducible repeat (first | apply Kd.R_alloc | apply Kd.R_drewN | apply Kd.R_drew)); exact Kd.R_mono HO367.out (fun _ hk => trivial)⟩, ⟨kR HO_22⟩, ⟨bK⟩, ⟨bG⟩⟩
            ·rw [if_neg c23] at H
             have c23b0 : (x11_3 == (x6_2.length : Int)) = false := beq_eq_false_iff_ne.mpr c23
             have c23b1 : (x11_3 != (x6_2.length : Int)) = true := bne_iff_ne.mpr c23
             by_cases c44 : (rdOf ByteArray.empty x6_2 x11_3).toList = t343.toList
             ·rw [if_pos c44] at H
              have c44b0 : ((rdOf ByteArray.empty x6_2 x11_3).toList == t343.toList) = true := beq_iff_eq.mpr c44
              have c44b1 : ((rdOf ByteArray.empty x6_2 x11_3).toList != t343.toList) = false := bne_eq_false_iff_eq.mpr c44
              clear c44
              have H' := Aside0.mk H
              clear H
              obtain ⟨Ao45, co45, eo45⟩ := Kd.R_slice HO_6.out
              subst eo45
              have p344 : 0 ≤ (x11_3 : Int) := oD
              have q344 : x11_3 < (x6_2.length : Int) := oD
              obtain ⟨ad344, e344, hx344_0⟩ := Kd.at_string (Kd.R_reads' HO_6.out).2.2 x11_3 p344 q344
              cases e344
              replace p344 := eq_true p344
              replace q344 := eq_true q344
              have p368 : 0 ≤ (x11_3 : Int) := oD
              have q368 : x11_3 < (x6_2.length : Int) := oD
              obtain ⟨ad368, e368, hx368_0⟩ := Kd.at_string (Kd.R_reads' HO_6.out).2.2 x11_3 p368 q368
              obtain rfl : ad344 = ad368 := (by injection e368)
              replace p368 := eq_true p368
              replace q368 := eq_true q368
              go_wp2
              go_roundg k3
              case measure => have := HK1.out; have := HK2.out; have := HK3.out; omega
              case rel => exact ⟨(x6_2), (wrap64 (x24_2 + 1)), fR, H', ⟨by have := HK1.out; have := HK2.out; have := HK3.out; omega⟩, ⟨kR HO_6⟩, ⟨kR HO_22⟩, ⟨bK⟩, ⟨bG⟩⟩
             ·rw [if_neg c44] at H
              have c44b0 : ((rdOf ByteArray.empty x6_2 x11_3).toList == t343.toList) = false := beq_eq_false_iff_ne.mpr c44
              have c44b1 : ((rdOf ByteArray.empty x6_2 x11_3).toList != t343.toList) = true := bne_iff_ne.mpr c44
              obtain ⟨y369, hy369⟩ : ∃ y_ : List ByteArray, y_ = (([] : List ByteArray)) := ⟨_, rfl⟩
              replace H : (if x11_3 ≤ (x6_2.length : Int) then ((some (x6_2.take (x11_3 : Int).toNat : List ByteArray)).bind fun y372 => (if y369.length + y372.length < 8796093022208 then ((some (y369 ++ y372 : List ByteArray)).bind fun y376 => ((some (([t343] : List ByteArray) : List ByteArray)).bind fun y379 => (if y376.length + y379.length < 8796093022208 then ((some (y376 ++ y379 : List ByteArray)).bind fun y382 => ((some (x6_2.drop (x11_3 : Int).toNat : List ByteArray)).bind fun y385 => (if y382.length + y385.length < 8796093022208 then (spec_NextCodes.l1 k3 a1 (y382 ++ y385) x7_1 y339 (y339.length : Int) (wrap64 (x24_2 + 1)) a0_0 a0_1) else (none)))) else (none)))) else (none))) else (none)) = some (r1, r2) := hZ hy369 H
              have Ny369 := Aside0.mk hy369
              clear hy369
              have c46b0 := eq_true (oD : 0 ≤ x11_3)
              replace H := nz H; obtain ⟨c47, H⟩ := H
              have c47b0 := eq_true c47
              have c47b1 : decide (x11_3 ≤ (x6_2.length : Int)) = true := decide_eq_true c47
              clear c47
              obtain ⟨y372, hy372⟩ : ∃ y_ : List ByteArray, y_ = (x6_2.take (x11_3 : Int).toNat) := ⟨_, rfl⟩
              replace H : (if y369.length + y372.length < 8796093022208 then ((some (y369 ++ y372 : List ByteArray)).bind fun y376 => ((some (([t343] : List ByteArray) : List ByteArray)).bind fun y379 => (if y376.length + y379.length < 8796093022208 then ((some (y376 ++ y379 : List ByteArray)).bind fun y382 => ((some (x6_2.drop (x11_3 : Int).toNat : List ByteArray)).bind fun y385 => (if y382.length + y385.length < 8796093022208 then (spec_NextCodes.l1 k3 a1 (y382 ++ y385) x7_1 y339 (y339.length : Int) (wrap64 (x24_2 + 1)) a0_0 a0_1) else (none)))) else (none)))) else (none)) = some (r1, r2) := hZ hy372 H
              have Ny372 := Aside0.mk hy372
              clear hy372
              replace H := nz H; obtain ⟨c48, H⟩ := H
              have LMc48 := Aside0.mk c48
              clear c48
              obtain ⟨y376, hy376⟩ : ∃ y_ : List ByteArray, y_ = (y369 ++ y372) := ⟨_, rfl⟩
              replace H : ((some (([t343] : List ByteArray) : List ByteArray)).bind fun y379 => (if y376.length + y379.length < 8796093022208 then ((some (y376 ++ y379 : List ByteArray)).bind fun y382 => ((some (x6_2.drop (x11_3 : Int).toNat : List ByteArray)).bind fun y385 => (if y382.length + y385.length < 8796093022208 then (spec_NextCodes.l1 k3 a1 (y382 ++ y385) x7_1 y339 (y339.length : Int) (wrap64 (x24_2 + 1)) a0_0 a0_1) else (none)))) else (none))) = some (r1, r2) := hZ hy376 H
              have Ny376 := Aside0.mk hy376
              clear hy376
              obtain ⟨y379, hy379⟩ : ∃ y_ : List ByteArray, y_ = (([t343] : List ByteArray)) := ⟨_, rfl⟩
              replace H : (if y376.length + y379.length < 8796093022208 then ((some (y376 ++ y379 : List ByteArray)).bind fun y382 => ((some (x6_2.drop (x11_3 : Int).toNat : List ByteArray)).bind fun y385 => (if y382.length + y385.length < 8796093022208 then (spec_NextCodes.l1 k3 a1 (y382 ++ y385) x7_1 y339 (y339.length : Int) (wrap64 (x24_2 + 1)) a0_0 a0_1) else (none)))) else (none)) = some (r1, r2) := hZ hy379 H
              have Ny379 := Aside0.mk hy379
              clear hy379
              replace H := nz H; obtain ⟨c49, H⟩ := H
              have LMc49 := Aside0.mk c49
              clear c49
              obtain ⟨y382, hy382⟩ : ∃ y_ : List ByteArray, y_ = (y376 ++ y379) := ⟨_, rfl⟩
              replace H : ((some (x6_2.drop (x11_3 : Int).toNat : List ByteArray)).bind fun y385 => (if y382.length + y385.length < 8796093022208 then (spec_NextCodes.l1 k3 a1 (y382 ++ y385) x7_1 y339 (y339.length : Int) (wrap64 (x24_2 + 1)) a0_0 a0_1) else (none))) = some (r1, r2) := hZ hy382 H
              have Ny382 := Aside0.mk hy382
              clear hy382
              have c50b0 := eq_true (oD : 0 ≤ x11_3)
              have c51b0 := eq_true (oD : x11_3 ≤ (x6_2.length : Int))
              obtain ⟨y385, hy385⟩ : ∃ y_ : List ByteArray, y_ = (x6_2.drop (x11_3 : Int).toNat) := ⟨_, rfl⟩
              replace H : (if y382.length + y385.length < 8796093022208 then (spec_NextCodes.l1 k3 a1 (y382 ++ y385) x7_1 y339 (y339.length : Int) (wrap64 (x24_2 + 1)) a0_0 a0_1) else (none)) = some (r1, r2) := hZ hy385 H
              have Ny385 := Aside0.mk hy385
              clear hy385
              replace H := nz H; obtain ⟨c52, H⟩ := H
              have LMc52 := Aside0.mk c52
              clear c52
              obtain ⟨y389, hy389⟩ : ∃ y_ : List ByteArray, y_ = (y382 ++ y385) := ⟨_, rfl⟩
              replace H : (spec_NextCodes.l1 k3 a1 y389 x7_1 y339 (y339.length : Int) (wrap64 (x24_2 + 1)) a0_0 a0_1) = some (r1, r2) := hZ hy389 H
              have Ny389 := Aside0.mk hy389
              clear hy389
              have H' := Aside0.mk H
              clear H
              obtain ⟨Ao53, co53, eo53⟩ := Kd.R_slice HO_6.out
              subst eo53
              have p344 : 0 ≤ (x11_3 : Int) := oD
              have q344 : x11_3 < (x6_2.length : Int) := oD
              obtain ⟨ad344, e344, hx344_0⟩ := Kd.at_string (Kd.R_reads' HO_6.out).2.2 x11_3 p344 q344
              cases e344
              replace p344 := eq_true p344
              replace q344 := eq_true q344
              have p368 : 0 ≤ (x11_3 : Int) := oD
              have q368 : x11_3 < (x6_2.length : Int) := oD
              obtain ⟨ad368, e368, hx368_0⟩ := Kd.at_string (Kd.R_reads' HO_6.out).2.2 x11_3 p368 q368
              obtain rfl : ad344 = ad368 := (by injection e368)
              replace p368 := eq_true p368
              replace q368 := eq_true q368
              try go_wp2
              have n0_ := Aside0.mk (Kd.R_drew HO_6.out)
              have n1_ := Aside0.mk (Kd.R_drew HO_22.out)
              have n2_ := Aside0.mk (blk_drew BK337.out)
              have n3_ := Aside0.mk (below_drew1 HB.out)
              clear HO_6
              clear HO_22
              clear BK337
              clear HB
              have HO_6 := n0_
              have HO_22 := n1_
              have BK337 := n2_
              have HB := n3_
              clear n0_ n1_ n2_ n3_
              have q55 : (x11_3 : Int) ≤ ((x6_2.length : Int) : Int) := oD
              obtain ⟨i055, hi055, _, hsz55, _⟩ := info_parts info9
              have hroom55 : x6_2.length ≤ co53 := (Kd.R_reads' HO_6.out).2.1
              have hC55 : Kd.C Kd.string _ (some ad344) x6_2.length x6_2 := (Kd.R_reads' HO_6.out).2.2
              have hcut55 := cut_to (P := Try.prog) 24 9 .i64 Try.underlying24 hi055 (some ad344) x6_2.length co53 x11_3 (oD) q55 hroom55
              have hr55 := Kd.C_take (m := (x11_3 : Int).toNat) hC55 (by omega)
              have hy55 : y372.length = (x11_3 : Int).toNat := (by rw [Ny372.out, List.length_take]; omega)
              rw [← Ny372.out] at hr55
              rw [← hy55] at hcut55
              have HR375 := Aside0.mk hr55
              have HC375 := Aside0.mk (show y372.length ≤ co53 from by omega)
              clear hr55 hC55 hroom55 hi055 hsz55
              have KY55 := Aside0.mk hy55
              clear hy55
              have KL55 := Aside0.mk (show (x11_3 : Int).toNat ≤ x6_2.length from by omega)
              replace q55 := eq_true q55
              have q56 : (x11_3 : Int) ≤ ((x6_2.length : Int) : Int) := oD
              obtain ⟨i056, hi056, _, hsz56, _⟩ := info_parts info9
              have hroom56 : x6_2.length ≤ co53 := (Kd.R_reads' HO_6.out).2.1
              have hC56 : Kd.C Kd.string _ (some ad344) x6_2.length x6_2 := (Kd.R_reads' HO_6.out).2.2
              have q056 : (0 : Int) ≤ (x11_3 : Int) := oD
              have hcut56 := cut_from (P := Try.prog) 24 9 .i64 Try.underlying24 hi056 1 hsz56 (some ad344) x6_2.length co53 x11_3 q056 q56
              have hr56 := Kd.C_drop (m := (x11_3 : Int).toNat) (c := co53) hC56 (by omega) hroom56
              obtain ⟨A56, hA56⟩ : ∃ A_, A_ = (if co53 = (x11_3 : Int).toNat then (some ad344) else ((some ad344) : Option Addr).map (·.add ((x11_3 : Int).toNat * 1))) := ⟨_, rfl⟩
              obtain ⟨c56, hc56⟩ : ∃ c1, c1 = co53 - (x11_3 : Int).toNat := ⟨_, rfl⟩
              have hy56 : y385.length = x6_2.length - (x11_3 : Int).toNat := (by rw [Ny385.out, List.length_drop] <;> omega)
              rw [show (x6_2).drop (x11_3 : Int).toNat = y385 from Ny385.out.symm] at hr56
              replace hr56 : Kd.C Kd.string _ A56 y385.length y385 := (by rw [hA56]; exact hr56)
              rw [← hy56, ← hA56, ← hc56] at hcut56
              have HR388 := Aside0.mk hr56
              have HC388 := Aside0.mk (show y385.length ≤ c56 from by rw [hy56, hc56]; exact Nat.sub_le_sub_right hroom56 _)
              clear hr56 hC56 hroom56 hi056 hsz56 hc56
              have KY56 := Aside0.mk hy56
              have KA56 := Aside0.mk hA56
              clear hy56 hA56
              have KL56 := Aside0.mk (show (x11_3 : Int).toNat ≤ x6_2.length from by omega)
              replace q56 := eq_true q56
              refine start_ (n := 13) (S := fun w' => True) (ds := []) #[false, false, false, false, false, false, false, false, false, false, false, false, false] (by kernel_rfl) rfl rfl trivial (fun hHeld => ?_); refine with_tabW spec_NextCodes.tab15 spec_NextCodes.bits15 (fun HT_ HW_ => ?_)
              generalize wr.drew = w54 at HO_6 HO_22 BK337 HB HR375 HR388 hHeld ⊢
              refine pure_ (i := 1) (N := some 61) (v := ?_) (a' := ?_) #[false, true, false, false, false, false, false, false, false, false, false, false, false] rfl rfl (any_of HT_.out (by kernel_rfl)) (fun _ _ _ h => h) (Or.inl ⟨by rfl, ?_⟩) ?_ ?_
              rotate_left
              ·intro w'
               go_simp
               with_reducible rfl
              rotate_left
              ·simp only [Act.put, List.setIfInBounds_toArray, List.set_cons_zero, List.set_cons_succ, i64_w, i32_w]
               rfl
              refine pure_ (i := 2) (N := some 62) (v := ?_) (a' := ?_) #[false, true, true, false, false, false, false, false, false, false, false, false, false] rfl rfl (any_of HT_.out (by kernel_rfl)) (fun _ _ _ h => h) (Or.inl ⟨by rfl, ?_⟩) ?_ ?_
              rotate_left
              ·intro w'
               go_simp
               with_reducible rfl
              rotate_left
              ·simp only [Act.put, List.setIfInBounds_toArray, List.set_cons_zero, List.set_cons_succ, i64_w, i32_w]
               rfl
              refine pure_ (i := 3) (N := some 63) (v := ?_) (a' := ?_) #[false, true, true, true, false, false, false, false, false, false, false, false, false] rfl rfl (any_of HT_.out (by kernel_rfl)) (fun _ _ _ h => h) (Or.inl ⟨by rfl, ?_⟩) ?_ ?_
              rotate_left
              ·intro w'
               go_simp
               with_reducible rfl
              rotate_left
              ·simp only [Act.put, List.setIfInBounds_toArray, List.set_cons_zero, List.set_cons_succ, i64_w, i32_w]
               rfl
              refine pure_ (i := 5) (N := some 65) (v := ?_) (a' := ?_) #[false, true, true, true, false, true, false, false, false, false, false, false, false] rfl rfl (any_of HT_.out (by kernel_rfl)) (fun _ _ _ h => h) (Or.inl ⟨by rfl, ?_⟩) ?_ ?_
              rotate_left
              ·intro w'
               go_simp
               with_reducible rfl
              rotate_left
              ·simp only [Act.put, List.setIfInBounds_toArray, List.set_cons_zero, List.set_cons_succ, i64_w, i32_w]
               rfl
              refine pure_ (i := 8) (N := some 68) (v := ?_) (a' := ?_) #[false, true, true, true, false, true, false, false, true, false, false, false, false] rfl rfl (any_of HT_.out (by kernel_rfl)) (fun _ _ _ h => h) (Or.inl ⟨by rfl, ?_⟩) ?_ ?_
              rotate_left
              ·intro w'
               go_simp
               with_reducible rfl
              rotate_left
              ·simp only [Act.put, List.setIfInBounds_toArray, List.set_cons_zero, List.set_cons_succ, i64_w, i32_w]
               rfl
              refine pure_ (i := 9) (N := some 69) (v := ?_) (a' := ?_) #[false, true, true, true, false, true, false, false, true, true, false, false, false] rfl rfl (any_of HT_.out (by kernel_rfl)) (fun _ _ _ h => h) (Or.inl ⟨by rfl, ?_⟩) ?_ ?_
              rotate_left
              ·intro w'
               go_simp
               with_reducible rfl
              rotate_left
              ·simp only [Act.put, List.setIfInBounds_toArray, List.set_cons_zero, List.set_cons_succ, i64_w, i32_w]
               rfl
              refine pure_ (i := 10) (N := some 70) (v := ?_) (a' := ?_) #[false, true, true, true, false, true, false, false, true, true, true, false, false] rfl rfl (any_of HT_.out (by kernel_rfl)) (fun _ _ _ h => h) (Or.inl ⟨by rfl, ?_⟩) ?_ ?_
              rotate_left
              ·intro w'
               go_simp
               with_reducible rfl
              rotate_left
              ·simp only [Act.put, List.setIfInBounds_toArray, List.set_cons_zero, List.set_cons_succ, i64_w, i32_w]
               rfl
              refine join_ (σ := Value × Value × Value) 3 #[true, true, true, true, true, true, true, false, true, true, true, false, false] (fun s_ => [(60, s_.1), (64, s_.2.1), (66, s_.2.2)]) (fun s_ w' => (Kd.R Kd.string 9 w' w.heap.size (fun k_ => some k_ ≠ (s_.2.2 : Value).ownBlock ∧ some k_ ≠ (.slice (some ad344) x6_2.length co53 : Value).ownBlock) s_.2.1 y376) ∧ (Kd.R Kd.string 9 w' w.heap.size (fun k_ => some k_ ≠ (s_.2.1 : Value).ownBlock ∧ some k_ ≠ (.slice (some ad344) x6_2.length co53 : Value).ownBlock) s_.2.2 y379) ∧ (Kd.R (Kd.int .i64) 3 w' w.heap.size (fun _ => True) (.slice (some ad342) y339.length co12) y339) ∧ (Kd.R Kd.string 9 w' w.heap.size (fun k_ => some k_ ≠ (s_.2.1 : Value).ownBlock ∧ some k_ ≠ (s_.2.2 : Value).ownBlock) (.slice (some ad344) x6_2.length co53) x6_2) ∧ (w'.heap[gb337]? = some (.cells #[.int .i64 a0_0, .int .i64 a0_1] 23 (0, 0))) ∧ (Below w.heap.size w w')) ?_ ?_
              rotate_left
              ·intro hCont
               refine two_ (i := 0) (j := 6) (Ni := some 60) (Nj := some 66) #[true, true, true, true, false, true, false, false, true, true, true, false, false] #[false, true, true, true, false, true, true, false, true, true, true, false, false] rfl rfl rfl rfl (two_of HT_.out (by kernel_rfl)) (by decide) (by decide) (fun K hK => ?_) (fun K hK => ?_)
               ·skip
                refine Kd.R_lit_step Kd.string _ 9 ?hg (N := 60) ?hd (xs := ([] : List ByteArray)) (inner := []) (ok := fun _ => True) (okp := fun _ => True) ?hr ?hp (fun _ hk => hk) trivial (Below.refl _ _) (Nat.le_refl _) (by simp) ?_; (case hd => rfl); (case hg => rfl); (case hr => first | (go_simp; done) | (go_simp; rfl)); (case hp => exact (Reps.none _ _))
                intro v370 w57 ho58 hb hg_ hnew_
                clear hg_ hnew_
                (first | rw [← Ny369.out] at ho58 | (simp only [Int.reduceToNat] at ho58; rw [← Ny369.out] at ho58))
                have n0_ := Aside0.mk (Kd.R_elder' (kR HO_6) (Kd.R_base ho58) hb)
                have n1_ := Aside0.mk (Kd.R_below (kR HO_22) hb)
                have n2_ := Aside0.mk (Kd.R_lower (Kd.R_new' ho58 (Kd.R_lt (kR HO_6))) (below_size bG))
                have n3_ := Aside0.mk (blk_below (g := gb337) (o := .cells #[.int .i64 a0_0, .int .i64 a0_1] 23 (0, 0)) bK hb)
                have n4_ := Aside0.mk (Kd.C_below (by repeat (first | (with_reducible exact HR375.out) | (with_reducible refine Kd.C_alloc ?_ _) | (with_reducible refine Kd.C_drewN ?_ _) | (with_reducible refine Kd.C_drew ?_) | exact HR375.out)) hb)
                have n5_ := Aside0.mk (Kd.C_below (by repeat (first | (with_reducible exact HR388.out) | (with_reducible refine Kd.C_alloc ?_ _) | (with_reducible refine Kd.C_drewN ?_ _) | (with_reducible refine Kd.C_drew ?_) | exact HR388.out)) hb)
                have n6_ := Aside0.mk (below_step bG hb)
                clear HO_6
                clear HO_22
                clear BK337
                clear HR375
                clear HR388
                clear HB
                have HO_6 := n0_
                have HO_22 := n1_
                have HO371 := n2_
                have BK337 := n3_
                have HR375 := n4_
                have HR388 := n5_
                have HB := n6_
                clear n0_ n1_ n2_ n3_ n4_ n5_ n6_
                clear hb ho58
                refine hK.out _ _ trivial (fun hHeld => ?_)
                clear hK K
                refine norm_ (a' := ?_) ?_ ?_
                rotate_left
                ·show Act.put _ (some 60) _ = _
                 simp only [Act.put, List.setIfInBounds_toArray, List.set_cons_zero, List.set_cons_succ, i64_w, i32_w]
                 rfl
                refine two_ (i := 4) (j := 6) (Ni := some 64) (Nj := some 66) #[true, true, true, true, true, true, false, false, true, true, true, false, false] #[true, true, true, true, false, true, true, false, true, true, true, false, false] rfl rfl rfl rfl (two_of HT_.out (by kernel_rfl)) (by decide) (by decide) (fun K hK => ?_) (fun K hK => ?_)
                ·skip
                 refine Kd.R_append_rows_step Kd.string (w0 := w) w.heap.size (by rfl) (.tmp 60) (.tmp 63) 24 9 (.string ⟨#[]⟩) 16 rfl Try.underlying24 info9 rfl (by decide) (by omega) v370 y369 y372 _ _ _ (fun k_ => some k_ ≠ (.slice (some ad344) x6_2.length co53 : Value).ownBlock) (fun _ => False) rfl rfl ?aO ?aR (fun _ _ h => h) (fun _ h => h.elim) ?aF ?aB ?aS ?aL ?_
                 (case aR => repeat (first | exact (by repeat (first | (with_reducible exact HR375.out) | (with_reducible refine Kd.C_alloc ?_ _) | (with_reducible refine Kd.C_drewN ?_ _) | (with_reducible refine Kd.C_drew ?_) | exact HR375.out)) | (with_reducible refine Kd.C_alloc ?_ _) | (with_reducible refine Kd.C_drewN ?_ _) | (with_reducible refine Kd.C_drew ?_)))
                 (case aB => exact bG)
                 (case aF => exact (fun k_ hk => Kd.fresh' (Kd.R_lt (kR HO_6)) k_ hk))
                 (case aO => exact (by (with_reducible repeat (first | apply Kd.R_alloc | apply Kd.R_drewN | apply Kd.R_drew)); exact Kd.R_mono HO371.out (fun _ hk => hk.2)))
                 (case aS => exact (below_size bG))
                 (case aL => have := LMc48.out; omega)
                 intro v377 w59 ho hb hg hat
                 rw [← Ny376.out] at ho
                 have n0_ := Aside0.mk (Kd.R_after (ok := (fun _ => True)) (kR HO_6) hg hat)
                 have n1_ := Aside0.mk (Kd.R_over' (kR HO_22) (Kd.R_typed (kR HO371)) (by decide) hg)
                 have n2_ := Aside0.mk (blk_grown (g := gb337) (o := .cells #[.int .i64 a0_0, .int .i64 a0_1] 23 (0, 0)) bK hg (Kd.R_ne HO371.out BK337.out (by decide)))
                 have n3_ := Aside0.mk (hb)
                 have n4_ := Aside0.mk ((show Kd.C Kd.string w59 (some ad344) y372.length y372 from by rw [Ny372.out]; exact Kd.C_take (m := (x11_3 : Int).toNat) ((Kd.R_reads' (Kd.R_after (ok := (fun _ => True)) (kR HO_6) hg hat)).2.2) KL55.out))
                 have n5_ := Aside0.mk ((show Kd.C Kd.string w59 A56 y385.length y385 from by rw [Ny385.out, KA56.out]; exact Kd.C_drop (m := (x11_3 : Int).toNat) (c := co53) ((Kd.R_reads' (Kd.R_after (ok := (fun _ => True)) (kR HO_6) hg hat)).2.2) KL56.out ((Kd.R_reads' (Kd.R_after (ok := (fun _ => True)) (kR HO_6) hg hat)).2.1)))
                 have n6_ := Aside0.mk (ho)
                 clear HO_6
                 clear HO_22
                 clear BK337
                 clear HB
                 clear HR375
                 clear HR388
                 clear HO371
                 have HO_6 := n0_
                 have HO_22 := n1_
                 have BK337 := n2_
                 have HB := n3_
                 have HR375 := n4_
                 have HR388 := n5_
                 have HO378 := n6_
                 clear n0_ n1_ n2_ n3_ n4_ n5_ n6_
                 clear ho hb hg hat
                 refine hK.out _ _ trivial (fun hHeld => ?_)
                 clear hK K
                 refine norm_ (a' := ?_) ?_ ?_
                 rotate_left
                 ·show Act.put _ (some 64) _ = _
                  simp only [Act.put, List.setIfInBounds_toArray, List.set_cons_zero, List.set_cons_succ, i64_w, i32_w]
                  rfl
                 refine one_ (i := 6) (N := some 66) #[true, true, true, true, true, true, true, false, true, true, true, false, false] rfl rfl (one_of HT_.out (by kernel_rfl)) (by decide) (fun K hK => ?_)
                 refine Kd.R_lit_step Kd.string _ 9 ?hg (N := 66) ?hd (xs := ([t343] : List ByteArray)) (inner := [.string t343]) (ok := fun _ => True) (okp := fun _ => True) ?hr ?hp (fun _ hk => hk) trivial (Below.refl _ _) (Nat.le_refl _) (by simp) ?_; (case hd => rfl); (case hg => rfl); (case hr => first | (go_simp; done) | (go_simp; rfl)); (case hp => exact (Reps.one (show Kd.M Kd.string _ _ _ t343 [.string t343] from rfl) (Reps.none _ _)))
                 intro v380 w60 ho61 hb hg_ hnew_
                 clear hg_ hnew_
                 (first | rw [← Ny379.out] at ho61 | (simp only [Int.reduceToNat] at ho61; rw [← Ny379.out] at ho61))
                 have n0_ := Aside0.mk (Kd.R_elder' (kR HO_6) (Kd.R_base ho61) hb)
                 have n1_ := Aside0.mk (Kd.R_below (kR HO_22) hb)
                 have n2_ := Aside0.mk (Kd.R_elder' (kR HO378) (Kd.R_base ho61) hb)
                 have n3_ := Aside0.mk (Kd.R_lower (Kd.R_new' (Kd.R_new' ho61 (Kd.R_lt (kR HO_6))) (Kd.R_lt (kR HO378))) (below_size bG))
                 have n4_ := Aside0.mk (blk_below (g := gb337) (o := .cells #[.int .i64 a0_0, .int .i64 a0_1] 23 (0, 0)) bK hb)
                 have n5_ := Aside0.mk (Kd.C_below (by repeat (first | (with_reducible exact HR375.out) | (with_reducible refine Kd.C_alloc ?_ _) | (with_reducible refine Kd.C_drewN ?_ _) | (with_reducible refine Kd.C_drew ?_) | exact HR375.out)) hb)
                 have n6_ := Aside0.mk (Kd.C_below (by repeat (first | (with_reducible exact HR388.out) | (with_reducible refine Kd.C_alloc ?_ _) | (with_reducible refine Kd.C_drewN ?_ _) | (with_reducible refine Kd.C_drew ?_) | exact HR388.out)) hb)
                 have n7_ := Aside0.mk (below_step bG hb)
                 clear HO_6
                 clear HO_22
                 clear HO378
                 clear BK337
                 clear HR375
                 clear HR388
                 clear HB
                 have HO_6 := n0_
                 have HO_22 := n1_
                 have HO378 := n2_
                 have HO381 := n3_
                 have BK337 := n4_
                 have HR375 := n5_
                 have HR388 := n6_
                 have HB := n7_
                 clear n0_ n1_ n2_ n3_ n4_ n5_ n6_ n7_
                 clear hb ho61
                 refine hK.out _ _ trivial (fun hHeld => ?_)
                 clear hK K
                 refine norm_ (a' := ?_) ?_ ?_
                 rotate_left
                 ·show Act.put _ (some 66) _ = _
                  simp only [Act.put, List.setIfInBounds_toArray, List.set_cons_zero, List.set_cons_succ, i64_w, i32_w]
                  rfl
                 exact norm_ (by simp only [putAll, Act.put, List.setIfInBounds_toArray, List.set_cons_zero, List.set_cons_succ]) (hCont (v370, v377, v380) _ ⟨(by (with_reducible repeat (first | apply Kd.R_alloc | apply Kd.R_drewN | apply Kd.R_drew)); exact Kd.R_mono HO378.out (fun _ hk => ⟨hk.2, hk.1⟩)), (by (with_reducible repeat (first | apply Kd.R_alloc | apply Kd.R_drewN | apply Kd.R_drew)); exact Kd.R_mono HO381.out (fun _ hk => ⟨hk.2, hk.1.2⟩)), (kR HO_22), (by (with_reducible repeat (first | apply Kd.R_alloc | apply Kd.R_drewN | apply Kd.R_drew)); exact Kd.R_mono HO_6.out (fun _ hk => ⟨hk.1.2, hk.2⟩)), bK, bG⟩)
                ·skip
                 refine Kd.R_lit_step Kd.string _ 9 ?hg (N := 66) ?hd (xs := ([t343] : List ByteArray)) (inner := [.string t343]) (ok := fun _ => True) (okp := fun _ => True) ?hr ?hp (fun _ hk => hk) trivial (Below.refl _ _) (Nat.le_refl _) (by simp) ?_; (case hd => rfl); (case hg => rfl); (case hr => first | (go_simp; done) | (go_simp; rfl)); (case hp => exact (Reps.one (show Kd.M Kd.string _ _ _ t343 [.string t343] from rfl) (Reps.none _ _)))
                 intro v380 w59 ho60 hb hg_ hnew_
                 clear hg_ hnew_
                 (first | rw [← Ny379.out] at ho60 | (simp only [Int.reduceToNat] at ho60; rw [← Ny379.out] at ho60))
                 have n0_ := Aside0.mk (Kd.R_elder' (kR HO_6) (Kd.R_base ho60) hb)
                 have n1_ := Aside0.mk (Kd.R_below (kR HO_22) hb)
                 have n2_ := Aside0.mk (Kd.R_elder' (kR HO371) (Kd.R_base ho60) hb)
                 have n3_ := Aside0.mk (Kd.R_lower (Kd.R_new' (Kd.R_new' ho60 (Kd.R_lt (kR HO_6))) (Kd.R_lt (kR HO371))) (below_size bG))
                 have n4_ := Aside0.mk (blk_below (g := gb337) (o := .cells #[.int .i64 a0_0, .int .i64 a0_1] 23 (0, 0)) bK hb)
                 have n5_ := Aside0.mk (Kd.C_below (by repeat (first | (with_reducible exact HR375.out) | (with_reducible refine Kd.C_alloc ?_ _) | (with_reducible refine Kd.C_drewN ?_ _) | (with_reducible refine Kd.C_drew ?_) | exact HR375.out)) hb)
                 have n6_ := Aside0.mk (Kd.C_below (by repeat (first | (with_reducible exact HR388.out) | (with_reducible refine Kd.C_alloc ?_ _) | (with_reducible refine Kd.C_drewN ?_ _) | (with_reducible refine Kd.C_drew ?_) | exact HR388.out)) hb)
                 have n7_ := Aside0.mk (below_step bG hb)
                 clear HO_6
                 clear HO_22
                 clear HO371
                 clear BK337
                 clear HR375
                 clear HR388
                 clear HB
                 have HO_6 := n0_
                 have HO_22 := n1_
                 have HO371 := n2_
                 have HO381 := n3_
                 have BK337 := n4_
                 have HR375 := n5_
                 have HR388 := n6_
                 have HB := n7_
                 clear n0_ n1_ n2_ n3_ n4_ n5_ n6_ n7_
                 clear hb ho60
                 refine hK.out _ _ trivial (fun hHeld => ?_)
                 clear hK K
                 refine norm_ (a' := ?_) ?_ ?_
                 rotate_left
                 ·show Act.put _ (some 66) _ = _
                  simp only [Act.put, List.setIfInBounds_toArray, List.set_cons_zero, List.set_cons_succ, i64_w, i32_w]
                  rfl
                 refine one_ (i := 4) (N := some 64) #[true, true, true, true, true, true, true, false, true, true, true, false, false] rfl rfl (one_of HT_.out (by kernel_rfl)) (by decide) (fun K hK => ?_)
                 refine Kd.R_append_rows_step Kd.string (w0 := w) w.heap.size (by rfl) (.tmp 60) (.tmp 63) 24 9 (.string ⟨#[]⟩) 16 rfl Try.underlying24 info9 rfl (by decide) (by omega) v370 y369 y372 _ _ _ (fun k_ => some k_ ≠ (.slice (some ad344) x6_2.length co53 : Value).ownBlock ∧ some k_ ≠ (v380 : Value).ownBlock) (fun _ => False) rfl rfl ?aO ?aR (fun _ _ h => h) (fun _ h => h.elim) ?aF ?aB ?aS ?aL ?_
                 (case aR => repeat (first | exact (by repeat (first | (with_reducible exact HR375.out) | (with_reducible refine Kd.C_alloc ?_ _) | (with_reducible refine Kd.C_drewN ?_ _) | (with_reducible refine Kd.C_drew ?_) | exact HR375.out)) | (with_reducible refine Kd.C_alloc ?_ _) | (with_reducible refine Kd.C_drewN ?_ _) | (with_reducible refine Kd.C_drew ?_)))
                 (case aB => exact bG)
                 (case aF => exact (fun k_ hk => ⟨Kd.fresh' (Kd.R_lt (kR HO_6)) k_ hk, Kd.fresh' (Kd.R_lt (kR HO381)) k_ hk⟩))
                 (case aO => exact (by (with_reducible repeat (first | apply Kd.R_alloc | apply Kd.R_drewN | apply Kd.R_drew)); exact Kd.R_mono HO371.out (fun _ hk => ⟨hk.1.2, hk.2⟩)))
                 (case aS => exact (below_size bG))
                 (case aL => have := LMc48.out; omega)
                 intro v377 w61 ho hb hg hat
                 rw [← Ny376.out] at ho
                 have n0_ := Aside0.mk (Kd.R_after (ok := (fun k_ => some k_ ≠ (v380 : Value).ownBlock)) (by (with_reducible repeat (first | apply Kd.R_alloc | apply Kd.R_drewN | apply Kd.R_drew)); exact Kd.R_mono HO_6.out (fun _ hk => ⟨hk.2, hk.1.2⟩)) hg hat)
                 have n1_ := Aside0.mk (Kd.R_over' (kR HO_22) (Kd.R_typed (kR HO371)) (by decide) hg)
                 have n2_ := Aside0.mk (blk_grown (g := gb337) (o := .cells #[.int .i64 a0_0, .int .i64 a0_1] 23 (0, 0)) bK hg (Kd.R_ne HO371.out BK337.out (by decide)))
                 have n3_ := Aside0.mk (Kd.R_after (ok := (fun k_ => some k_ ≠ (.slice (some ad344) x6_2.length co53 : Value).ownBlock)) (by (with_reducible repeat (first | apply Kd.R_alloc | apply Kd.R_drewN | apply Kd.R_drew)); exact Kd.R_mono HO381.out (fun _ hk => ⟨hk.1.2, hk.2⟩)) hg hat)
                 have n4_ := Aside0.mk (hb)
                 have n5_ := Aside0.mk ((show Kd.C Kd.string w61 (some ad344) y372.length y372 from by rw [Ny372.out]; exact Kd.C_take (m := (x11_3 : Int).toNat) ((Kd.R_reads' (Kd.R_after (ok := (fun k_ => some k_ ≠ (v380 : Value).ownBlock)) (by (with_reducible repeat (first | apply Kd.R_alloc | apply Kd.R_drewN | apply Kd.R_drew)); exact Kd.R_mono HO_6.out (fun _ hk => ⟨hk.2, hk.1.2⟩)) hg hat)).2.2) KL55.out))
                 have n6_ := Aside0.mk ((show Kd.C Kd.string w61 A56 y385.length y385 from by rw [Ny385.out, KA56.out]; exact Kd.C_drop (m := (x11_3 : Int).toNat) (c := co53) ((Kd.R_reads' (Kd.R_after (ok := (fun k_ => some k_ ≠ (v380 : Value).ownBlock)) (by (with_reducible repeat (first | apply Kd.R_alloc | apply Kd.R_drewN | apply Kd.R_drew)); exact Kd.R_mono HO_6.out (fun _ hk => ⟨hk.2, hk.1.2⟩)) hg hat)).2.2) KL56.out ((Kd.R_reads' (Kd.R_after (ok := (fun k_ => some k_ ≠ (v380 : Value).ownBlock)) (by (with_reducible repeat (first | apply Kd.R_alloc | apply Kd.R_drewN | apply Kd.R_drew)); exact Kd.R_mono HO_6.out (fun _ hk => ⟨hk.2, hk.1.2⟩)) hg hat)).2.1)))
                 have n7_ := Aside0.mk (ho)
                 clear HO_6
                 clear HO_22
                 clear BK337
                 clear HO381
                 clear HB
                 clear HR375
                 clear HR388
                 clear HO371
                 have HO_6 := n0_
                 have HO_22 := n1_
                 have BK337 := n2_
                 have HO381 := n3_
                 have HB := n4_
                 have HR375 := n5_
                 have HR388 := n6_
                 have HO378 := n7_
                 clear n0_ n1_ n2_ n3_ n4_ n5_ n6_ n7_
                 clear ho hb hg hat
                 refine hK.out _ _ trivial (fun hHeld => ?_)
                 clear hK K
                 refine norm_ (a' := ?_) ?_ ?_
                 rotate_left
                 ·show Act.put _ (some 64) _ = _
                  simp only [Act.put, List.setIfInBounds_toArray, List.set_cons_zero, List.set_cons_succ, i64_w, i32_w]
                  rfl
                 exact norm_ (by simp only [putAll, Act.put, List.setIfInBounds_toArray, List.set_cons_zero, List.set_cons_succ]) (hCont (v370, v377, v380) _ ⟨(by (with_reducible repeat (first | apply Kd.R_alloc | apply Kd.R_drewN | apply Kd.R_drew)); exact Kd.R_mono HO378.out (fun _ hk => ⟨hk.2, hk.1⟩)), (by (with_reducible repeat (first | apply Kd.R_alloc | apply Kd.R_drewN | apply Kd.R_drew)); exact Kd.R_mono HO381.out (fun _ hk => ⟨hk.2, hk.1⟩)), (kR HO_22), (by (with_reducible repeat (first | apply Kd.R_alloc | apply Kd.R_drewN | apply Kd.R_drew)); exact Kd.R_mono HO_6.out (fun _ hk => ⟨hk.2, hk.1⟩)), bK, bG⟩)
               ·skip
                refine Kd.R_lit_step Kd.string _ 9 ?hg (N := 66) ?hd (xs := ([t343] : List ByteArray)) (inner := [.string t343]) (ok := fun _ => True) (okp := fun _ => True) ?hr ?hp (fun _ hk => hk) trivial (Below.refl _ _) (Nat.le_refl _) (by simp) ?_; (case hd => rfl); (case hg => rfl); (case hr => first | (go_simp; done) | (go_simp; rfl)); (case hp => exact (Reps.one (show Kd.M Kd.string _ _ _ t343 [.string t343] from rfl) (Reps.none _ _)))
                intro v380 w57 ho58 hb hg_ hnew_
                clear hg_ hnew_
                (first | rw [← Ny379.out] at ho58 | (simp only [Int.reduceToNat] at ho58; rw [← Ny379.out] at ho58))
                have n0_ := Aside0.mk (Kd.R_elder' (kR HO_6) (Kd.R_base ho58) hb)
                have n1_ := Aside0.mk (Kd.R_below (kR HO_22) hb)
                have n2_ := Aside0.mk (Kd.R_lower (Kd.R_new' ho58 (Kd.R_lt (kR HO_6))) (below_size bG))
                have n3_ := Aside0.mk (blk_below (g := gb337) (o := .cells #[.int .i64 a0_0, .int .i64 a0_1] 23 (0, 0)) bK hb)
                have n4_ := Aside0.mk (Kd.C_below (by repeat (first | (with_reducible exact HR375.out) | (with_reducible refine Kd.C_alloc ?_ _) | (with_reducible refine Kd.C_drewN ?_ _) | (with_reducible refine Kd.C_drew ?_) | exact HR375.out)) hb)
                have n5_ := Aside0.mk (Kd.C_below (by repeat (first | (with_reducible exact HR388.out) | (with_reducible refine Kd.C_alloc ?_ _) | (with_reducible refine Kd.C_drewN ?_ _) | (with_reducible refine Kd.C_drew ?_) | exact HR388.out)) hb)
                have n6_ := Aside0.mk (below_step bG hb)
                clear HO_6
                clear HO_22
                clear BK337
                clear HR375
                clear HR388
                clear HB
                have HO_6 := n0_
                have HO_22 := n1_
                have HO381 := n2_
                have BK337 := n3_
                have HR375 := n4_
                have HR388 := n5_
                have HB := n6_
                clear n0_ n1_ n2_ n3_ n4_ n5_ n6_
                clear hb ho58
                refine hK.out _ _ trivial (fun hHeld => ?_)
                clear hK K
                refine norm_ (a' := ?_) ?_ ?_
                rotate_left
                ·show Act.put _ (some 66) _ = _
                 simp only [Act.put, List.setIfInBounds_toArray, List.set_cons_zero, List.set_cons_succ, i64_w, i32_w]
                 rfl
                refine one_ (i := 0) (N := some 60) #[true, true, true, true, false, true, true, false, true, true, true, false, false] rfl rfl (one_of HT_.out (by kernel_rfl)) (by decide) (fun K hK => ?_)
                refine Kd.R_lit_step Kd.string _ 9 ?hg (N := 60) ?hd (xs := ([] : List ByteArray)) (inner := []) (ok := fun _ => True) (okp := fun _ => True) ?hr ?hp (fun _ hk => hk) trivial (Below.refl _ _) (Nat.le_refl _) (by simp) ?_; (case hd => rfl); (case hg => rfl); (case hr => first | (go_simp; done) | (go_simp; rfl)); (case hp => exact (Reps.none _ _))
                intro v370 w59 ho60 hb hg_ hnew_
                clear hg_ hnew_
                (first | rw [← Ny369.out] at ho60 | (simp only [Int.reduceToNat] at ho60; rw [← Ny369.out] at ho60))
                have n0_ := Aside0.mk (Kd.R_elder' (kR HO_6) (Kd.R_base ho60) hb)
                have n1_ := Aside0.mk (Kd.R_below (kR HO_22) hb)
                have n2_ := Aside0.mk (Kd.R_elder' (kR HO381) (Kd.R_base ho60) hb)
                have n3_ := Aside0.mk (Kd.R_lower (Kd.R_new' (Kd.R_new' ho60 (Kd.R_lt (kR HO_6))) (Kd.R_lt (kR HO381))) (below_size bG))
                have n4_ := Aside0.mk (blk_below (g := gb337) (o := .cells #[.int .i64 a0_0, .int .i64 a0_1] 23 (0, 0)) bK hb)
                have n5_ := Aside0.mk (Kd.C_below (by repeat (first | (with_reducible exact HR375.out) | (with_reducible refine Kd.C_alloc ?_ _) | (with_reducible refine Kd.C_drewN ?_ _) | (with_reducible refine Kd.C_drew ?_) | exact HR375.out)) hb)
                have n6_ := Aside0.mk (Kd.C_below (by repeat (first | (with_reducible exact HR388.out) | (with_reducible refine Kd.C_alloc ?_ _) | (with_reducible refine Kd.C_drewN ?_ _) | (with_reducible refine Kd.C_drew ?_) | exact HR388.out)) hb)
                have n7_ := Aside0.mk (below_step bG hb)
                clear HO_6
                clear HO_22
                clear HO381
                clear BK337
                clear HR375
                clear HR388
                clear HB
                have HO_6 := n0_
                have HO_22 := n1_
                have HO381 := n2_
                have HO371 := n3_
                have BK337 := n4_
                have HR375 := n5_
                have HR388 := n6_
                have HB := n7_
                clear n0_ n1_ n2_ n3_ n4_ n5_ n6_ n7_
                clear hb ho60
                refine hK.out _ _ trivial (fun hHeld => ?_)
                clear hK K
                refine norm_ (a' := ?_) ?_ ?_
                rotate_left
                ·show Act.put _ (some 60) _ = _
                 simp only [Act.put, List.setIfInBounds_toArray, List.set_cons_zero, List.set_cons_succ, i64_w, i32_w]
                 rfl
                refine one_ (i := 4) (N := some 64) #[true, true, true, true, true, true, true, false, true, true, true, false, false] rfl rfl (one_of HT_.out (by kernel_rfl)) (by decide) (fun K hK => ?_)
                refine Kd.R_append_rows_step Kd.string (w0 := w) w.heap.size (by rfl) (.tmp 60) (.tmp 63) 24 9 (.string ⟨#[]⟩) 16 rfl Try.underlying24 info9 rfl (by decide) (by omega) v370 y369 y372 _ _ _ (fun k_ => some k_ ≠ (.slice (some ad344) x6_2.length co53 : Value).ownBlock ∧ some k_ ≠ (v380 : Value).ownBlock) (fun _ => False) rfl rfl ?aO ?aR (fun _ _ h => h) (fun _ h => h.elim) ?aF ?aB ?aS ?aL ?_
                (case aR => repeat (first | exact (by repeat (first | (with_reducible exact HR375.out) | (with_reducible refine Kd.C_alloc ?_ _) | (with_reducible refine Kd.C_drewN ?_ _) | (with_reducible refine Kd.C_drew ?_) | exact HR375.out)) | (with_reducible refine Kd.C_alloc ?_ _) | (with_reducible refine Kd.C_drewN ?_ _) | (with_reducible refine Kd.C_drew ?_)))
                (case aB => exact bG)
                (case aF => exact (fun k_ hk => ⟨Kd.fresh' (Kd.R_lt (kR HO_6)) k_ hk, Kd.fresh' (Kd.R_lt (kR HO381)) k_ hk⟩))
                (case aO => exact (by (with_reducible repeat (first | apply Kd.R_alloc | apply Kd.R_drewN | apply Kd.R_drew)); exact Kd.R_mono HO371.out (fun _ hk => ⟨hk.1.2, hk.2⟩)))
                (case aS => exact (below_size bG))
                (case aL => have := LMc48.out; omega)
                intro v377 w61 ho hb hg hat
                rw [← Ny376.out] at ho
                have n0_ := Aside0.mk (Kd.R_after (ok := (fun k_ => some k_ ≠ (v380 : Value).ownBlock)) (by (with_reducible repeat (first | apply Kd.R_alloc | apply Kd.R_drewN | apply Kd.R_drew)); exact Kd.R_mono HO_6.out (fun _ hk => ⟨hk.1.2, hk.2⟩)) hg hat)
                have n1_ := Aside0.mk (Kd.R_over' (kR HO_22) (Kd.R_typed (kR HO371)) (by decide) hg)
                have n2_ := Aside0.mk (blk_grown (g := gb337) (o := .cells #[.int .i64 a0_0, .int .i64 a0_1] 23 (0, 0)) bK hg (Kd.R_ne HO371.out BK337.out (by decide)))
                have n3_ := Aside0.mk (Kd.R_after (ok := (fun k_ => some k_ ≠ (.slice (some ad344) x6_2.length co53 : Value).ownBlock)) (by (with_reducible repeat (first | apply Kd.R_alloc | apply Kd.R_drewN | apply Kd.R_drew)); exact Kd.R_mono HO381.out (fun _ hk => ⟨hk.1.2, hk.2⟩)) hg hat)
                have n4_ := Aside0.mk (hb)
                have n5_ := Aside0.mk ((show Kd.C Kd.string w61 (some ad344) y372.length y372 from by rw [Ny372.out]; exact Kd.C_take (m := (x11_3 : Int).toNat) ((Kd.R_reads' (Kd.R_after (ok := (fun k_ => some k_ ≠ (v380 : Value).ownBlock)) (by (with_reducible repeat (first | apply Kd.R_alloc | apply Kd.R_drewN | apply Kd.R_drew)); exact Kd.R_mono HO_6.out (fun _ hk => ⟨hk.1.2, hk.2⟩)) hg hat)).2.2) KL55.out))
                have n6_ := Aside0.mk ((show Kd.C Kd.string w61 A56 y385.length y385 from by rw [Ny385.out, KA56.out]; exact Kd.C_drop (m := (x11_3 : Int).toNat) (c := co53) ((Kd.R_reads' (Kd.R_after (ok := (fun k_ => some k_ ≠ (v380 : Value).ownBlock)) (by (with_reducible repeat (first | apply Kd.R_alloc | apply Kd.R_drewN | apply Kd.R_drew)); exact Kd.R_mono HO_6.out (fun _ hk => ⟨hk.1.2, hk.2⟩)) hg hat)).2.2) KL56.out ((Kd.R_reads' (Kd.R_after (ok := (fun k_ => some k_ ≠ (v380 : Value).ownBlock)) (by (with_reducible repeat (first | apply Kd.R_alloc | apply Kd.R_drewN | apply Kd.R_drew)); exact Kd.R_mono HO_6.out (fun _ hk => ⟨hk.1.2, hk.2⟩)) hg hat)).2.1)))
                have n7_ := Aside0.mk (ho)
                clear HO_6
                clear HO_22
                clear BK337
                clear HO381
                clear HB
                clear HR375
                clear HR388
                clear HO371
                have HO_6 := n0_
                have HO_22 := n1_
                have BK337 := n2_
                have HO381 := n3_
                have HB := n4_
                have HR375 := n5_
                have HR388 := n6_
                have HO378 := n7_
                clear n0_ n1_ n2_ n3_ n4_ n5_ n6_ n7_
                clear ho hb hg hat
                refine hK.out _ _ trivial (fun hHeld => ?_)
                clear hK K
                refine norm_ (a' := ?_) ?_ ?_
                rotate_left
                ·show Act.put _ (some 64) _ = _
                 simp only [Act.put, List.setIfInBounds_toArray, List.set_cons_zero, List.set_cons_succ, i64_w, i32_w]
                 rfl
                exact norm_ (by simp only [putAll, Act.put, List.setIfInBounds_toArray, List.set_cons_zero, List.set_cons_succ]) (hCont (v370, v377, v380) _ ⟨(by (with_reducible repeat (first | apply Kd.R_alloc | apply Kd.R_drewN | apply Kd.R_drew)); exact Kd.R_mono HO378.out (fun _ hk => ⟨hk.2, hk.1⟩)), (by (with_reducible repeat (first | apply Kd.R_alloc | apply Kd.R_drewN | apply Kd.R_drew)); exact Kd.R_mono HO381.out (fun _ hk => ⟨hk.2, hk.1⟩)), (kR HO_22), (by (with_reducible repeat (first | apply Kd.R_alloc | apply Kd.R_drewN | apply Kd.R_drew)); exact Kd.R_mono HO_6.out (fun _ hk => ⟨hk.2, hk.1⟩)), bK, bG⟩)
              rintro ⟨v370, v377, v380⟩ w62 ⟨h0_, h1_, h2_, h3_, h4_, h5_⟩
              have n0_ : Aside0 (Kd.R Kd.string 9 w62 w.heap.size (fun k_ => some k_ ≠ (v380 : Value).ownBlock ∧ some k_ ≠ (.slice (some ad344) x6_2.length co53 : Value).ownBlock) v377 y376) := ⟨h0_⟩
              have n1_ : Aside0 (Kd.R Kd.string 9 w62 w.heap.size (fun k_ => some k_ ≠ (v377 : Value).ownBlock ∧ some k_ ≠ (.slice (some ad344) x6_2.length co53 : Value).ownBlock) v380 y379) := ⟨h1_⟩
              have n2_ : Aside0 (Kd.R (Kd.int .i64) 3 w62 w.heap.size (fun _ => True) (.slice (some ad342) y339.length co12) y339) := ⟨h2_⟩
              have n3_ : Aside0 (Kd.R Kd.string 9 w62 w.heap.size (fun k_ => some k_ ≠ (v377 : Value).ownBlock ∧ some k_ ≠ (v380 : Value).ownBlock) (.slice (some ad344) x6_2.length co53) x6_2) := ⟨h3_⟩
              have n4_ : Aside0 (w62.heap[gb337]? = some (.cells #[.int .i64 a0_0, .int .i64 a0_1] 23 (0, 0))) := ⟨h4_⟩
              have n5_ : Aside0 (Below w.heap.size w w62) := ⟨h5_⟩
              clear HO_6
              clear HO_22
              clear BK337
              clear HB
              clear h0_ h1_ h2_ h3_ h4_ h5_
              have HO378 := n0_
              have HO381 := n1_
              have HO_22 := n2_
              have HO_6 := n3_
              have BK337 := n4_
              have HB := n5_
              clear n0_ n1_ n2_ n3_ n4_ n5_
              have hHeld := trivial
              have HR375 := Aside0.mk (show Kd.C Kd.string w62 (some ad344) y372.length y372 from by rw [Ny372.out]; exact Kd.C_take (m := (x11_3 : Int).toNat) ((Kd.R_reads' HO_6.out).2.2) KL55.out)
              have HR388 := Aside0.mk (show Kd.C Kd.string w62 A56 y385.length y385 from by rw [Ny385.out, KA56.out]; exact Kd.C_drop (m := (x11_3 : Int).toNat) (c := co53) ((Kd.R_reads' HO_6.out).2.2) KL56.out ((Kd.R_reads' HO_6.out).2.1))
              obtain ⟨Ao64, co64, eo64⟩ := Kd.R_slice HO381.out
              (first | subst eo64 | (injection eo64 with f1_ f2_ f3_; have f4_ := f1_.symm; have f5_ := f3_.symm; clear f1_ f2_ f3_; subst f4_; subst f5_))
              refine norm_ (a' := ?_) ?_ ?_
              rotate_left
              ·simp only [putAll, Act.put, List.setIfInBounds_toArray, List.set_cons_zero, List.set_cons_succ]
               rfl
              refine one_ (i := 7) (N := some 67) #[true, true, true, true, true, true, true, true, true, true, true, false, false] rfl rfl (one_of HT_.out (by kernel_rfl)) (by decide) (fun K hK => ?_)
              refine Kd.R_append_rows_step Kd.string (w0 := w) w.heap.size (by rfl) (.tmp 64) (.tmp 66) 24 9 (.string ⟨#[]⟩) 16 rfl Try.underlying24 info9 rfl (by decide) (by omega) v377 y376 y379 _ _ _ (fun k_ => some k_ ≠ (.slice (some ad344) x6_2.length co53 : Value).ownBlock ∧ some k_ ≠ (.slice Ao64 y379.length co64 : Value).ownBlock) (fun _ => False) rfl rfl ?aO ?aR (fun _ _ h => h) (fun _ h => h.elim) ?aF ?aB ?aS ?aL ?_
              (case aR => exact cS ((Kd.R_reads' HO381.out).2.2))
              (case aB => exact bG)
              (case aF => exact (fun k_ hk => ⟨Kd.fresh' (Kd.R_lt (kR HO_6)) k_ hk, Kd.fresh' (Kd.R_lt (kR HO381)) k_ hk⟩))
              (case aO => exact (by (with_reducible repeat (first | apply Kd.R_alloc | apply Kd.R_drewN | apply Kd.R_drew)); exact Kd.R_mono HO378.out (fun _ hk => ⟨hk.2, hk.1⟩)))
              (case aS => exact (below_size bG))
              (case aL => have := LMc49.out; omega)
              intro v383 w63 ho hb hg hat
              rw [← Ny382.out] at ho
              have n0_ := Aside0.mk (Kd.R_after (ok := (fun k_ => some k_ ≠ (.slice Ao64 y379.length co64 : Value).ownBlock)) (by (with_reducible repeat (first | apply Kd.R_alloc | apply Kd.R_drewN | apply Kd.R_drew)); exact Kd.R_mono HO_6.out (fun _ hk => ⟨hk.2, hk.1⟩)) hg hat)
              have n1_ := Aside0.mk (Kd.R_over' (kR HO_22) (Kd.R_typed (kR HO378)) (by decide) hg)
              have n2_ := Aside0.mk (blk_grown (g := gb337) (o := .cells #[.int .i64 a0_0, .int .i64 a0_1] 23 (0, 0)) bK hg (Kd.R_ne HO378.out BK337.out (by decide)))
              have n3_ := Aside0.mk (Kd.R_after (ok := (fun k_ => some k_ ≠ (.slice (some ad344) x6_2.length co53 : Value).ownBlock)) (by (with_reducible repeat (first | apply Kd.R_alloc | apply Kd.R_drewN | apply Kd.R_drew)); exact Kd.R_mono HO381.out (fun _ hk => ⟨hk.2, hk.1⟩)) hg hat)
              have n4_ := Aside0.mk (hb)
              have n5_ := Aside0.mk ((show Kd.C Kd.string w63 (some ad344) y372.length y372 from by rw [Ny372.out]; exact Kd.C_take (m := (x11_3 : Int).toNat) ((Kd.R_reads' (Kd.R_after (ok := (fun k_ => some k_ ≠ (.slice Ao64 y379.length co64 : Value).ownBlock)) (by (with_reducible repeat (first | apply Kd.R_alloc | apply Kd.R_drewN | apply Kd.R_drew)); exact Kd.R_mono HO_6.out (fun _ hk => ⟨hk.2, hk.1⟩)) hg hat)).2.2) KL55.out))
              have n6_ := Aside0.mk ((show Kd.C Kd.string w63 A56 y385.length y385 from by rw [Ny385.out, KA56.out]; exact Kd.C_drop (m := (x11_3 : Int).toNat) (c := co53) ((Kd.R_reads' (Kd.R_after (ok := (fun k_ => some k_ ≠ (.slice Ao64 y379.length co64 : Value).ownBlock)) (by (with_reducible repeat (first | apply Kd.R_alloc | apply Kd.R_drewN | apply Kd.R_drew)); exact Kd.R_mono HO_6.out (fun _ hk => ⟨hk.2, hk.1⟩)) hg hat)).2.2) KL56.out ((Kd.R_reads' (Kd.R_after (ok := (fun k_ => some k_ ≠ (.slice Ao64 y379.length co64 : Value).ownBlock)) (by (with_reducible repeat (first | apply Kd.R_alloc | apply Kd.R_drewN | apply Kd.R_drew)); exact Kd.R_mono HO_6.out (fun _ hk => ⟨hk.2, hk.1⟩)) hg hat)).2.1)))
              have n7_ := Aside0.mk (ho)
              clear HO_6
              clear HO_22
              clear BK337
              clear HO381
              clear HB
              clear HR375
              clear HR388
              clear HO378
              have HO_6 := n0_
              have HO_22 := n1_
              have BK337 := n2_
              have HO381 := n3_
              have HB := n4_
              have HR375 := n5_
              have HR388 := n6_
              have HO384 := n7_
              clear n0_ n1_ n2_ n3_ n4_ n5_ n6_ n7_
              clear ho hb hg hat
              refine hK.out _ _ trivial (fun hHeld => ?_)
              clear hK K
              refine norm_ (a' := ?_) ?_ ?_
              rotate_left
              ·show Act.put _ (some 67) _ = _
               simp only [Act.put, List.setIfInBounds_toArray, List.set_cons_zero, List.set_cons_succ, i64_w, i32_w]
               rfl
              refine one_ (i := 11) (N := some 71) #[true, true, true, true, true, true, true, true, true, true, true, true, false] rfl rfl (one_of HT_.out (by kernel_rfl)) (by decide) (fun K hK => ?_)
              refine Kd.R_append_rows_step Kd.string (w0 := w) w.heap.size (by rfl) (.tmp 67) (.tmp 70) 24 9 (.string ⟨#[]⟩) 16 rfl Try.underlying24 info9 rfl (by decide) (by omega) v383 y382 y385 _ _ _ (fun k_ => some k_ ≠ (.slice (some ad344) x6_2.length co53 : Value).ownBlock ∧ some k_ ≠ (.slice Ao64 y379.length co64 : Value).ownBlock) (fun _ => False) rfl rfl ?aO ?aR (fun _ _ h => h) (fun _ h => h.elim) ?aF ?aB ?aS ?aL ?_
              (case aR => repeat (first | exact (by repeat (first | (with_reducible exact HR388.out) | (with_reducible refine Kd.C_alloc ?_ _) | (with_reducible refine Kd.C_drewN ?_ _) | (with_reducible refine Kd.C_drew ?_) | exact HR388.out)) | (with_reducible refine Kd.C_alloc ?_ _) | (with_reducible refine Kd.C_drewN ?_ _) | (with_reducible refine Kd.C_drew ?_)))
              (case aB => exact bG)
              (case aF => exact (fun k_ hk => ⟨Kd.fresh' (Kd.R_lt (kR HO_6)) k_ hk, Kd.fresh' (Kd.R_lt (kR HO381)) k_ hk⟩))
              (case aO => exact (kR HO384))
              (case aS => exact (below_size bG))
              (case aL => have := LMc52.out; omega)
              intro v390 w65 ho hb hg hat
              rw [← Ny389.out] at ho
              have n0_ := Aside0.mk (Kd.R_after (ok := (fun k_ => some k_ ≠ (.slice Ao64 y379.length co64 : Value).ownBlock)) (kR HO_6) hg hat)
              have n1_ := Aside0.mk (Kd.R_over' (kR HO_22) (Kd.R_typed (kR HO384)) (by decide) hg)
              have n2_ := Aside0.mk (blk_grown (g := gb337) (o := .cells #[.int .i64 a0_0, .int .i64 a0_1] 23 (0, 0)) bK hg (Kd.R_ne HO384.out BK337.out (by decide)))
              have n3_ := Aside0.mk (Kd.R_after (ok := (fun k_ => some k_ ≠ (.slice (some ad344) x6_2.length co53 : Value).ownBlock)) (kR HO381) hg hat)
              have n4_ := Aside0.mk (hb)
              have n5_ := Aside0.mk ((show Kd.C Kd.string w65 (some ad344) y372.length y372 from by rw [Ny372.out]; exact Kd.C_take (m := (x11_3 : Int).toNat) ((Kd.R_reads' (Kd.R_after (ok := (fun k_ => some k_ ≠ (.slice Ao64 y379.length co64 : Value).ownBlock)) (kR HO_6) hg hat)).2.2) KL55.out))
              have n6_ := Aside0.mk ((show Kd.C Kd.string w65 A56 y385.length y385 from by rw [Ny385.out, KA56.out]; exact Kd.C_drop (m := (x11_3 : Int).toNat) (c := co53) ((Kd.R_reads' (Kd.R_after (ok := (fun k_ => some k_ ≠ (.slice Ao64 y379.length co64 : Value).ownBlock)) (kR HO_6) hg hat)).2.2) KL56.out ((Kd.R_reads' (Kd.R_after (ok := (fun k_ => some k_ ≠ (.slice Ao64 y379.length co64 : Value).ownBlock)) (kR HO_6) hg hat)).2.1)))
              have n7_ := Aside0.mk (ho)
              clear HO_6
              clear HO_22
              clear BK337
              clear HO381
              clear HB
              clear HR375
              clear HR388
              clear HO384
              have HO_6 := n0_
              have HO_22 := n1_
              have BK337 := n2_
              have HO381 := n3_
              have HB := n4_
              have HR375 := n5_
              have HR388 := n6_
              have HO391 := n7_
              clear n0_ n1_ n2_ n3_ n4_ n5_ n6_ n7_
              clear ho hb hg hat
              refine hK.out _ _ trivial (fun hHeld => ?_)
              clear hK K
              refine norm_ (a' := ?_) ?_ ?_
              rotate_left
              ·show Act.put _ (some 71) _ = _
               simp only [Act.put, List.setIfInBounds_toArray, List.set_cons_zero, List.set_cons_succ, i64_w, i32_w]
               rfl
              refine pure_ (i := 12) (N := some 6) (v := ?_) (a' := ?_) #[true, true, true, true, true, true, true, true, true, true, true, true, true] rfl rfl (any_of HT_.out (by kernel_rfl)) (fun _ _ _ h => h) (Or.inl ⟨by rfl, ?_⟩) ?_ ?_
              rotate_left
              ·intro w'
               go_simp
               with_reducible rfl
              rotate_left
              ·simp only [Act.put, List.setIfInBounds_toArray, List.set_cons_zero, List.set_cons_succ, i64_w, i32_w]
               rfl
              refine done_ (done_of HT_.out (by kernel_rfl)) ?_
              try go_wp2
              go_roundg k3
              case measure => have := HK1.out; have := HK2.out; have := HK3.out; omega
              case rel => exact ⟨(y389), (wrap64 (x24_2 + 1)), fR, H', ⟨by have := HK1.out; have := HK2.out; have := HK3.out; omega⟩, ⟨by (with_reducible repeat (first | apply Kd.R_alloc | apply Kd.R_drewN | apply Kd.R_drew)); exact Kd.R_mono HO391.out (fun _ hk => trivial)⟩, ⟨kR HO_22⟩, ⟨bK⟩, ⟨bG⟩⟩
          ·rw [if_neg c19] at H
           have c19b0 : decide (x11_3 < (x6_2.length : Int)) = false := decide_eq_false c19
           clear c19
           by_cases c66 : x11_3 = (x6_2.length : Int)
           ·rw [if_pos c66] at H
            have c66b0 : (x11_3 == (x6_2.length : Int)) = true := beq_iff_eq.mpr c66
            have c66b1 : (x11_3 != (x6_2.length : Int)) = false := bne_eq_false_iff_eq.mpr c66
            clear c66
            obtain ⟨y392, hy392⟩ : ∃ y_ : List ByteArray, y_ = (([] : List ByteArray)) := ⟨_, rfl⟩
            replace H : (if 0 ≤ x11_3 then (if x11_3 ≤ (x6_2.length : Int) then ((some (x6_2.take (x11_3 : Int).toNat : List ByteArray)).bind fun y395 => (if y392.length + y395.length < 8796093022208 then ((some (y392 ++ y395 : List ByteArray)).bind fun y399 => ((some (([t343] : List ByteArray) : List ByteArray)).bind fun y402 => (if y399.length + y402.length < 8796093022208 then ((some (y399 ++ y402 : List ByteArray)).bind fun y405 => ((some (x6_2.drop (x11_3 : Int).toNat : List ByteArray)).bind fun y408 => (if y405.length + y408.length < 8796093022208 then (spec_NextCodes.l1 k3 a1 (y405 ++ y408) x7_1 y339 (y339.length : Int) (wrap64 (x24_2 + 1)) a0_0 a0_1) else (none)))) else (none)))) else (none))) else (none)) else (none)) = some (r1, r2) := hZ hy392 H
            have Ny392 := Aside0.mk hy392
            clear hy392
            replace H := nz H; obtain ⟨c67, H⟩ := H
            have c67b0 := eq_true c67
            have c67b1 : decide (0 ≤ x11_3) = true := decide_eq_true c67
            clear c67
            replace H := nz H; obtain ⟨c68, H⟩ := H
            have c68b0 := eq_true c68
            have c68b1 : decide (x11_3 ≤ (x6_2.length : Int)) = true := decide_eq_true c68
            clear c68
            obtain ⟨y395, hy395⟩ : ∃ y_ : List ByteArray, y_ = (x6_2.take (x11_3 : Int).toNat) := ⟨_, rfl⟩
            replace H : (if y392.length + y395.length < 8796093022208 then ((some (y392 ++ y395 : List ByteArray)).bind fun y399 => ((some (([t343] : List ByteArray) : List ByteArray)).bind fun y402 => (if y399.length + y402.length < 8796093022208 then ((some (y399 ++ y402 : List ByteArray)).bind fun y405 => ((some (x6_2.drop (x11_3 : Int).toNat : List ByteArray)).bind fun y408 => (if y405.length + y408.length < 8796093022208 then (spec_NextCodes.l1 k3 a1 (y405 ++ y408) x7_1 y339 (y339.length : Int) (wrap64 (x24_2 + 1)) a0_0 a0_1) else (none)))) else (none)))) else (none)) = some (r1, r2) := hZ hy395 H
            have Ny395 := Aside0.mk hy395
            clear hy395
            replace H := nz H; obtain ⟨c69, H⟩ := H
            have LMc69 := Aside0.mk c69
            clear c69
            obtain ⟨y399, hy399⟩ : ∃ y_ : List ByteArray, y_ = (y392 ++ y395) := ⟨_, rfl⟩
            replace H : ((some (([t343] : List ByteArray) : List ByteArray)).bind fun y402 => (if y399.length + y402.length < 8796093022208 then ((some (y399 ++ y402 : List ByteArray)).bind fun y405 => ((some (x6_2.drop (x11_3 : Int).toNat : List ByteArray)).bind fun y408 => (if y405.length + y408.length < 8796093022208 then (spec_NextCodes.l1 k3 a1 (y405 ++ y408) x7_1 y339 (y339.length : Int) (wrap64 (x24_2 + 1)) a0_0 a0_1) else (none)))) else (none))) = some (r1, r2) := hZ hy399 H
            have Ny399 := Aside0.mk hy399
            clear hy399
            obtain ⟨y402, hy402⟩ : ∃ y_ : List ByteArray, y_ = (([t343] : List ByteArray)) := ⟨_, rfl⟩
            replace H : (if y399.length + y402.length < 8796093022208 then ((some (y399 ++ y402 : List ByteArray)).bind fun y405 => ((some (x6_2.drop (x11_3 : Int).toNat : List ByteArray)).bind fun y408 => (if y405.length + y408.length < 8796093022208 then (spec_NextCodes.l1 k3 a1 (y405 ++ y408) x7_1 y339 (y339.length : Int) (wrap64 (x24_2 + 1)) a0_0 a0_1) else (none)))) else (none)) = some (r1, r2) := hZ hy402 H
            have Ny402 := Aside0.mk hy402
            clear hy402
            replace H := nz H; obtain ⟨c70, H⟩ := H
            have LMc70 := Aside0.mk c70
            clear c70
            obtain ⟨y405, hy405⟩ : ∃ y_ : List ByteArray, y_ = (y399 ++ y402) := ⟨_, rfl⟩
            replace H : ((some (x6_2.drop (x11_3 : Int).toNat : List ByteArray)).bind fun y408 => (if y405.length + y408.length < 8796093022208 then (spec_NextCodes.l1 k3 a1 (y405 ++ y408) x7_1 y339 (y339.length : Int) (wrap64 (x24_2 + 1)) a0_0 a0_1) else (none))) = some (r1, r2) := hZ hy405 H
            have Ny405 := Aside0.mk hy405
            clear hy405
            have c71b0 := eq_true (oD : 0 ≤ x11_3)
            have c72b0 := eq_true (oD : x11_3 ≤ (x6_2.length : Int))
            obtain ⟨y408, hy408⟩ : ∃ y_ : List ByteArray, y_ = (x6_2.drop (x11_3 : Int).toNat) := ⟨_, rfl⟩
            replace H : (if y405.length + y408.length < 8796093022208 then (spec_NextCodes.l1 k3 a1 (y405 ++ y408) x7_1 y339 (y339.length : Int) (wrap64 (x24_2 + 1)) a0_0 a0_1) else (none)) = some (r1, r2) := hZ hy408 H
            have Ny408 := Aside0.mk hy408
            clear hy408
            replace H := nz H; obtain ⟨c73, H⟩ := H
            have LMc73 := Aside0.mk c73
            clear c73
            obtain ⟨y412, hy412⟩ : ∃ y_ : List ByteArray, y_ = (y405 ++ y408) := ⟨_, rfl⟩
            replace H : (spec_NextCodes.l1 k3 a1 y412 x7_1 y339 (y339.length : Int) (wrap64 (x24_2 + 1)) a0_0 a0_1) = some (r1, r2) := hZ hy412 H
            have Ny412 := Aside0.mk hy412
            clear hy412
            have H' := Aside0.mk H
            clear H
            obtain ⟨Ao74, co74, eo74⟩ := Kd.R_slice HO_6.out
            subst eo74
            try go_wp2
            have n0_ := Aside0.mk (Kd.R_drew HO_6.out)
            have n1_ := Aside0.mk (Kd.R_drew HO_22.out)
            have n2_ := Aside0.mk (blk_drew BK337.out)
            have n3_ := Aside0.mk (below_drew1 HB.out)
            clear HO_6
            clear HO_22
            clear BK337
            clear HB
            have HO_6 := n0_
            have HO_22 := n1_
            have BK337 := n2_
            have HB := n3_
            clear n0_ n1_ n2_ n3_
            have q76 : (x11_3 : Int) ≤ ((x6_2.length : Int) : Int) := oD
            obtain ⟨i076, hi076, _, hsz76, _⟩ := info_parts info9
            have hroom76 : x6_2.length ≤ co74 := (Kd.R_reads' HO_6.out).2.1
            have hC76 : Kd.C Kd.string _ Ao74 x6_2.length x6_2 := (Kd.R_reads' HO_6.out).2.2
            have hcut76 := cut_to (P := Try.prog) 24 9 .i64 Try.underlying24 hi076 Ao74 x6_2.length co74 x11_3 (oD) q76 hroom76
            have hr76 := Kd.C_take (m := (x11_3 : Int).toNat) hC76 (by omega)
            have hy76 : y395.length = (x11_3 : Int).toNat := (by rw [Ny395.out, List.length_take]; omega)
            rw [← Ny395.out] at hr76
            rw [← hy76] at hcut76
            have HR398 := Aside0.mk hr76
            have HC398 := Aside0.mk (show y395.length ≤ co74 from by omega)
            clear hr76 hC76 hroom76 hi076 hsz76
            have KY76 := Aside0.mk hy76
            clear hy76
            have KL76 := Aside0.mk (show (x11_3 : Int).toNat ≤ x6_2.length from by omega)
            replace q76 := eq_true q76
            have q77 : (x11_3 : Int) ≤ ((x6_2.length : Int) : Int) := oD
            obtain ⟨i077, hi077, _, hsz77, _⟩ := info_parts info9
            have hroom77 : x6_2.length ≤ co74 := (Kd.R_reads' HO_6.out).2.1
            have hC77 : Kd.C Kd.string _ Ao74 x6_2.length x6_2 := (Kd.R_reads' HO_6.out).2.2
            have q077 : (0 : Int) ≤ (x11_3 : Int) := oD
            have hcut77 := cut_from (P := Try.prog) 24 9 .i64 Try.underlying24 hi077 1 hsz77 Ao74 x6_2.length co74 x11_3 q077 q77
            have hr77 := Kd.C_drop (m := (x11_3 : Int).toNat) (c := co74) hC77 (by omega) hroom77
            obtain ⟨A77, hA77⟩ : ∃ A_, A_ = (if co74 = (x11_3 : Int).toNat then Ao74 else (Ao74 : Option Addr).map (·.add ((x11_3 : Int).toNat * 1))) := ⟨_, rfl⟩
            obtain ⟨c77, hc77⟩ : ∃ c1, c1 = co74 - (x11_3 : Int).toNat := ⟨_, rfl⟩
            have hy77 : y408.length = x6_2.length - (x11_3 : Int).toNat := (by rw [Ny408.out, List.length_drop] <;> omega)
            rw [show (x6_2).drop (x11_3 : Int).toNat = y408 from Ny408.out.symm] at hr77
            replace hr77 : Kd.C Kd.string _ A77 y408.length y408 := (by rw [hA77]; exact hr77)
            rw [← hy77, ← hA77, ← hc77] at hcut77
            have HR411 := Aside0.mk hr77
            have HC411 := Aside0.mk (show y408.length ≤ c77 from by rw [hy77, hc77]; exact Nat.sub_le_sub_right hroom77 _)
            clear hr77 hC77 hroom77 hi077 hsz77 hc77
            have KY77 := Aside0.mk hy77
            have KA77 := Aside0.mk hA77
            clear hy77 hA77
            have KL77 := Aside0.mk (show (x11_3 : Int).toNat ≤ x6_2.length from by omega)
            replace q77 := eq_true q77
            refine start_ (n := 13) (S := fun w' => True) (ds := []) #[false, false, false, false, false, false, false, false, false, false, false, false, false] (by kernel_rfl) rfl rfl trivial (fun hHeld => ?_); refine with_tabW spec_NextCodes.tab15 spec_NextCodes.bits15 (fun HT_ HW_ => ?_)
            generalize wr.drew = w75 at HO_6 HO_22 BK337 HB HR398 HR411 hHeld ⊢
            refine pure_ (i := 1) (N := some 61) (v := ?_) (a' := ?_) #[false, true, false, false, false, false, false, false, false, false, false, false, false] rfl rfl (any_of HT_.out (by kernel_rfl)) (fun _ _ _ h => h) (Or.inl ⟨by rfl, ?_⟩) ?_ ?_
            rotate_left
            ·intro w'
             go_simp
             with_reducible rfl
            rotate_left
            ·simp only [Act.put, List.setIfInBounds_toArray, List.set_cons_zero, List.set_cons_succ, i64_w, i32_w]
             rfl
            refine pure_ (i := 2) (N := some 62) (v := ?_) (a' := ?_) #[false, true, true, false, false, false, false, false, false, false, false, false, false] rfl rfl (any_of HT_.out (by kernel_rfl)) (fun _ _ _ h => h) (Or.inl ⟨by rfl, ?_⟩) ?_ ?_
            rotate_left
            ·intro w'
             go_simp
             with_reducible rfl
            rotate_left
            ·simp only [Act.put, List.setIfInBounds_toArray, List.set_cons_zero, List.set_cons_succ, i64_w, i32_w]
             rfl
            refine pure_ (i := 3) (N := some 63) (v := ?_) (a' := ?_) #[false, true, true, true, false, false, false, false, false, false, false, false, false] rfl rfl (any_of HT_.out (by kernel_rfl)) (fun _ _ _ h => h) (Or.inl ⟨by rfl, ?_⟩) ?_ ?_
            rotate_left
            ·intro w'
             go_simp
             with_reducible rfl
            rotate_left
            ·simp only [Act.put, List.setIfInBounds_toArray, List.set_cons_zero, List.set_cons_succ, i64_w, i32_w]
             rfl
            refine pure_ (i := 5) (N := some 65) (v := ?_) (a' := ?_) #[false, true, true, true, false, true, false, false, false, false, false, false, false] rfl rfl (any_of HT_.out (by kernel_rfl)) (fun _ _ _ h => h) (Or.inl ⟨by rfl, ?_⟩) ?_ ?_
            rotate_left
            ·intro w'
             go_simp
             with_reducible rfl
            rotate_left
            ·simp only [Act.put, List.setIfInBounds_toArray, List.set_cons_zero, List.set_cons_succ, i64_w, i32_w]
             rfl
            refine pure_ (i := 8) (N := some 68) (v := ?_) (a' := ?_) #[false, true, true, true, false, true, false, false, true, false, false, false, false] rfl rfl (any_of HT_.out (by kernel_rfl)) (fun _ _ _ h => h) (Or.inl ⟨by rfl, ?_⟩) ?_ ?_
            rotate_left
            ·intro w'
             go_simp
             with_reducible rfl
            rotate_left
            ·simp only [Act.put, List.setIfInBounds_toArray, List.set_cons_zero, List.set_cons_succ, i64_w, i32_w]
             rfl
            refine pure_ (i := 9) (N := some 69) (v := ?_) (a' := ?_) #[false, true, true, true, false, true, false, false, true, true, false, false, false] rfl rfl (any_of HT_.out (by kernel_rfl)) (fun _ _ _ h => h) (Or.inl ⟨by rfl, ?_⟩) ?_ ?_
            rotate_left
            ·intro w'
             go_simp
             with_reducible rfl
            rotate_left
            ·simp only [Act.put, List.setIfInBounds_toArray, List.set_cons_zero, List.set_cons_succ, i64_w, i32_w]
             rfl
            refine pure_ (i := 10) (N := some 70) (v := ?_) (a' := ?_) #[false, true, true, true, false, true, false, false, true, true, true, false, false] rfl rfl (any_of HT_.out (by kernel_rfl)) (fun _ _ _ h => h) (Or.inl ⟨by rfl, ?_⟩) ?_ ?_
            rotate_left
            ·intro w'
             go_simp
             with_reducible rfl
            rotate_left
            ·simp only [Act.put, List.setIfInBounds_toArray, List.set_cons_zero, List.set_cons_succ, i64_w, i32_w]
             rfl
            refine join_ (σ := Value × Value × Value) 3 #[true, true, true, true, true, true, true, false, true, true, true, false, false] (fun s_ => [(60, s_.1), (64, s_.2.1), (66, s_.2.2)]) (fun s_ w' => (Kd.R Kd.string 9 w' w.heap.size (fun k_ => some k_ ≠ (s_.2.2 : Value).ownBlock ∧ some k_ ≠ (.slice Ao74 x6_2.length co74 : Value).ownBlock) s_.2.1 y399) ∧ (Kd.R Kd.string 9 w' w.heap.size (fun k_ => some k_ ≠ (s_.2.1 : Value).ownBlock ∧ some k_ ≠ (.slice Ao74 x6_2.length co74 : Value).ownBlock) s_.2.2 y402) ∧ (Kd.R (Kd.int .i64) 3 w' w.heap.size (fun _ => True) (.slice (some ad342) y339.length co12) y339) ∧ (Kd.R Kd.string 9 w' w.heap.size (fun k_ => some k_ ≠ (s_.2.1 : Value).ownBlock ∧ some k_ ≠ (s_.2.2 : Value).ownBlock) (.slice Ao74 x6_2.length co74) x6_2) ∧ (w'.heap[gb337]? = some (.cells #[.int .i64 a0_0, .int .i64 a0_1] 23 (0, 0))) ∧ (Below w.heap.size w w')) ?_ ?_
            rotate_left
            ·intro hCont
             refine two_ (i := 0) (j := 6) (Ni := some 60) (Nj := some 66) #[true, true, true, true, false, true, false, false, true, true, true, false, false] #[false, true, true, true, false, true, true, false, true, true, true, false, false] rfl rfl rfl rfl (two_of HT_.out (by kernel_rfl)) (by decide) (by decide) (fun K hK => ?_) (fun K hK => ?_)
             ·skip
              refine Kd.R_lit_step Kd.string _ 9 ?hg (N := 60) ?hd (xs := ([] : List ByteArray)) (inner := []) (ok := fun _ => True) (okp := fun _ => True) ?hr ?hp (fun _ hk => hk) trivial (Below.refl _ _) (Nat.le_refl _) (by simp) ?_; (case hd => rfl); (case hg => rfl); (case hr => first | (go_simp; done) | (go_simp; rfl)); (case hp => exact (Reps.none _ _))
              intro v393 w78 ho79 hb hg_ hnew_
              clear hg_ hnew_
              (first | rw [← Ny392.out] at ho79 | (simp only [Int.reduceToNat] at ho79; rw [← Ny392.out] at ho79))
              have n0_ := Aside0.mk (Kd.R_elder' (kR HO_6) (Kd.R_base ho79) hb)
              have n1_ := Aside0.mk (Kd.R_below (kR HO_22) hb)
              have n2_ := Aside0.mk (Kd.R_lower (Kd.R_new' ho79 (Kd.R_lt (kR HO_6))) (below_size bG))
              have n3_ := Aside0.mk (blk_below (g := gb337) (o := .cells #[.int .i64 a0_0, .int .i64 a0_1] 23 (0, 0)) bK hb)
              have n4_ := Aside0.mk (Kd.C_below (by repeat (first | (with_reducible exact HR398.out) | (with_reducible refine Kd.C_alloc ?_ _) | (with_reducible refine Kd.C_drewN ?_ _) | (with_reducible refine Kd.C_drew ?_) | exact HR398.out)) hb)
              have n5_ := Aside0.mk (Kd.C_below (by repeat (first | (with_reducible exact HR411.out) | (with_reducible refine Kd.C_alloc ?_ _) | (with_reducible refine Kd.C_drewN ?_ _) | (with_reducible refine Kd.C_drew ?_) | exact HR411.out)) hb)
              have n6_ := Aside0.mk (below_step bG hb)
              clear HO_6
              clear HO_22
              clear BK337
              clear HR398
              clear HR411
              clear HB
              have HO_6 := n0_
              have HO_22 := n1_
              have HO394 := n2_
              have BK337 := n3_
              have HR398 := n4_
              have HR411 := n5_
              have HB := n6_
              clear n0_ n1_ n2_ n3_ n4_ n5_ n6_
              clear hb ho79
              refine hK.out _ _ trivial (fun hHeld => ?_)
              clear hK K
              refine norm_ (a' := ?_) ?_ ?_
              rotate_left
              ·show Act.put _ (some 60) _ = _
               simp only [Act.put, List.setIfInBounds_toArray, List.set_cons_zero, List.set_cons_succ, i64_w, i32_w]
               rfl
              refine two_ (i := 4) (j := 6) (Ni := some 64) (Nj := some 66) #[true, true, true, true, true, true, false, false, true, true, true, false, false] #[true, true, true, true, false, true, true, false, true, true, true, false, false] rfl rfl rfl rfl (two_of HT_.out (by kernel_rfl)) (by decide) (by decide) (fun K hK => ?_) (fun K hK => ?_)
              ·skip
               refine Kd.R_append_rows_step Kd.string (w0 := w) w.heap.size (by rfl) (.tmp 60) (.tmp 63) 24 9 (.string ⟨#[]⟩) 16 rfl Try.underlying24 info9 rfl (by decide) (by omega) v393 y392 y395 _ _ _ (fun k_ => some k_ ≠ (.slice Ao74 x6_2.length co74 : Value).ownBlock) (fun _ => False) rfl rfl ?aO ?aR (fun _ _ h => h) (fun _ h => h.elim) ?aF ?aB ?aS ?aL ?_
               (case aR => repeat (first | exact (by repeat (first | (with_reducible exact HR398.out) | (with_reducible refine Kd.C_alloc ?_ _) | (with_reducible refine Kd.C_drewN ?_ _) | (with_reducible refine Kd.C_drew ?_) | exact HR398.out)) | (with_reducible refine Kd.C_alloc ?_ _) | (with_reducible refine Kd.C_drewN ?_ _) | (with_reducible refine Kd.C_drew ?_)))
               (case aB => exact bG)
               (case aF => exact (fun k_ hk => Kd.fresh' (Kd.R_lt (kR HO_6)) k_ hk))
               (case aO => exact (by (with_reducible repeat (first | apply Kd.R_alloc | apply Kd.R_drewN | apply Kd.R_drew)); exact Kd.R_mono HO394.out (fun _ hk => hk.2)))
               (case aS => exact (below_size bG))
               (case aL => have := LMc69.out; omega)
               intro v400 w80 ho hb hg hat
               rw [← Ny399.out] at ho
               have n0_ := Aside0.mk (Kd.R_after (ok := (fun _ => True)) (kR HO_6) hg hat)
               have n1_ := Aside0.mk (Kd.R_over' (kR HO_22) (Kd.R_typed (kR HO394)) (by decide) hg)
               have n2_ := Aside0.mk (blk_grown (g := gb337) (o := .cells #[.int .i64 a0_0, .int .i64 a0_1] 23 (0, 0)) bK hg (Kd.R_ne HO394.out BK337.out (by decide)))
               have n3_ := Aside0.mk (hb)
               have n4_ := Aside0.mk ((show Kd.C Kd.string w80 Ao74 y395.length y395 from by rw [Ny395.out]; exact Kd.C_take (m := (x11_3 : Int).toNat) ((Kd.R_reads' (Kd.R_after (ok := (fun _ => True)) (kR HO_6) hg hat)).2.2) KL76.out))
               have n5_ := Aside0.mk ((show Kd.C Kd.string w80 A77 y408.length y408 from by rw [Ny408.out, KA77.out]; exact Kd.C_drop (m := (x11_3 : Int).toNat) (c := co74) ((Kd.R_reads' (Kd.R_after (ok := (fun _ => True)) (kR HO_6) hg hat)).2.2) KL77.out ((Kd.R_reads' (Kd.R_after (ok := (fun _ => True)) (kR HO_6) hg hat)).2.1)))
               have n6_ := Aside0.mk (ho)
               clear HO_6
               clear HO_22
               clear BK337
               clear HB
               clear HR398
               clear HR411
               clear HO394
               have HO_6 := n0_
               have HO_22 := n1_
               have BK337 := n2_
               have HB := n3_
               have HR398 := n4_
               have HR411 := n5_
               have HO401 := n6_
               clear n0_ n1_ n2_ n3_ n4_ n5_ n6_
               clear ho hb hg hat
               refine hK.out _ _ trivial (fun hHeld => ?_)
               clear hK K
               refine norm_ (a' := ?_) ?_ ?_
               rotate_left
               ·show Act.put _ (some 64) _ = _
                simp only [Act.put, List.setIfInBounds_toArray, List.set_cons_zero, List.set_cons_succ, i64_w, i32_w]
                rfl
               refine one_ (i := 6) (N := some 66) #[true, true, true, true, true, true, true, false, true, true, true, false, false] rfl rfl (one_of HT_.out (by kernel_rfl)) (by decide) (fun K hK => ?_)
               refine Kd.R_lit_step Kd.string _ 9 ?hg (N := 66) ?hd (xs := ([t343] : List ByteArray)) (inner := [.string t343]) (ok := fun _ => True) (okp := fun _ => True) ?hr ?hp (fun _ hk => hk) trivial (Below.refl _ _) (Nat.le_refl _) (by simp) ?_; (case hd => rfl); (case hg => rfl); (case hr => first | (go_simp; done) | (go_simp; rfl)); (case hp => exact (Reps.one (show Kd.M Kd.string _ _ _ t343 [.string t343] from rfl) (Reps.none _ _)))
               intro v403 w81 ho82 hb hg_ hnew_
               clear hg_ hnew_
               (first | rw [← Ny402.out] at ho82 | (simp only [Int.reduceToNat] at ho82; rw [← Ny402.out] at ho82))
               have n0_ := Aside0.mk (Kd.R_elder' (kR HO_6) (Kd.R_base ho82) hb)
               have n1_ := Aside0.mk (Kd.R_below (kR HO_22) hb)
               have n2_ := Aside0.mk (Kd.R_elder' (kR HO401) (Kd.R_base ho82) hb)
               have n3_ := Aside0.mk (Kd.R_lower (Kd.R_new' (Kd.R_new' ho82 (Kd.R_lt (kR HO_6))) (Kd.R_lt (kR HO401))) (below_size bG))
               have n4_ := Aside0.mk (blk_below (g := gb337) (o := .cells #[.int .i64 a0_0, .int .i64 a0_1] 23 (0, 0)) bK hb)
               have n5_ := Aside0.mk (Kd.C_below (by repeat (first | (with_reducible exact HR398.out) | (with_reducible refine Kd.C_alloc ?_ _) | (with_reducible refine Kd.C_drewN ?_ _) | (with_reducible refine Kd.C_drew ?_) | exact HR398.out)) hb)
               have n6_ := Aside0.mk (Kd.C_below (by repeat (first | (with_reducible exact HR411.out) | (with_reducible refine Kd.C_alloc ?_ _) | (with_reducible refine Kd.C_drewN ?_ _) | (with_reducible refine Kd.C_drew ?_) | exact HR411.out)) hb)
               have n7_ := Aside0.mk (below_step bG hb)
               clear HO_6
               clear HO_22
               clear HO401
               clear BK337
               clear HR398
               clear HR411
               clear HB
               have HO_6 := n0_
               have HO_22 := n1_
               have HO401 := n2_
               have HO404 := n3_
               have BK337 := n4_
               have HR398 := n5_
               have HR411 := n6_
               have HB := n7_
               clear n0_ n1_ n2_ n3_ n4_ n5_ n6_ n7_
               clear hb ho82
               refine hK.out _ _ trivial (fun hHeld => ?_)
               clear hK K
               refine norm_ (a' := ?_) ?_ ?_
               rotate_left
               ·show Act.put _ (some 66) _ = _
                simp only [Act.put, List.setIfInBounds_toArray, List.set_cons_zero, List.set_cons_succ, i64_w, i32_w]
                rfl
               exact norm_ (by simp only [putAll, Act.put, List.setIfInBounds_toArray, List.set_cons_zero, List.set_cons_succ]) (hCont (v393, v400, v403) _ ⟨(by (with_reducible repeat (first | apply Kd.R_alloc | apply Kd.R_drewN | apply Kd.R_drew)); exact Kd.R_mono HO401.out (fun _ hk => ⟨hk.2, hk.1⟩)), (by (with_reducible repeat (first | apply Kd.R_alloc | apply Kd.R_drewN | apply Kd.R_drew)); exact Kd.R_mono HO404.out (fun _ hk => ⟨hk.2, hk.1.2⟩)), (kR HO_22), (by (with_reducible repeat (first | apply Kd.R_alloc | apply Kd.R_drewN | apply Kd.R_drew)); exact Kd.R_mono HO_6.out (fun _ hk => ⟨hk.1.2, hk.2⟩)), bK, bG⟩)
              ·skip
               refine Kd.R_lit_step Kd.string _ 9 ?hg (N := 66) ?hd (xs := ([t343] : List ByteArray)) (inner := [.string t343]) (ok := fun _ => True) (okp := fun _ => True) ?hr ?hp (fun _ hk => hk) trivial (Below.refl _ _) (Nat.le_refl _) (by simp) ?_; (case hd => rfl); (case hg => rfl); (case hr => first | (go_simp; done) | (go_simp; rfl)); (case hp => exact (Reps.one (show Kd.M Kd.string _ _ _ t343 [.string t343] from rfl) (Reps.none _ _)))
               intro v403 w80 ho81 hb hg_ hnew_
               clear hg_ hnew_
               (first | rw [← Ny402.out] at ho81 | (simp only [Int.reduceToNat] at ho81; rw [← Ny402.out] at ho81))
               have n0_ := Aside0.mk (Kd.R_elder' (kR HO_6) (Kd.R_base ho81) hb)
               have n1_ := Aside0.mk (Kd.R_below (kR HO_22) hb)
               have n2_ := Aside0.mk (Kd.R_elder' (kR HO394) (Kd.R_base ho81) hb)
               have n3_ := Aside0.mk (Kd.R_lower (Kd.R_new' (Kd.R_new' ho81 (Kd.R_lt (kR HO_6))) (Kd.R_lt (kR HO394))) (below_size bG))
               have n4_ := Aside0.mk (blk_below (g := gb337) (o := .cells #[.int .i64 a0_0, .int .i64 a0_1] 23 (0, 0)) bK hb)
               have n5_ := Aside0.mk (Kd.C_below (by repeat (first | (with_reducible exact HR398.out) | (with_reducible refine Kd.C_alloc ?_ _) | (with_reducible refine Kd.C_drewN ?_ _) | (with_reducible refine Kd.C_drew ?_) | exact HR398.out)) hb)
               have n6_ := Aside0.mk (Kd.C_below (by repeat (first | (with_reducible exact HR411.out) | (with_reducible refine Kd.C_alloc ?_ _) | (with_reducible refine Kd.C_drewN ?_ _) | (with_reducible refine Kd.C_drew ?_) | exact HR411.out)) hb)
               have n7_ := Aside0.mk (below_step bG hb)
               clear HO_6
               clear HO_22
               clear HO394
               clear BK337
               clear HR398
               clear HR411
               clear HB
               have HO_6 := n0_
               have HO_22 := n1_
               have HO394 := n2_
               have HO404 := n3_
               have BK337 := n4_
               have HR398 := n5_
               have HR411 := n6_
               have HB := n7_
               clear n0_ n1_ n2_ n3_ n4_ n5_ n6_ n7_
               clear hb ho81
               refine hK.out _ _ trivial (fun hHeld => ?_)
               clear hK K
               refine norm_ (a' := ?_) ?_ ?_
               rotate_left
               ·show Act.put _ (some 66) _ = _
                simp only [Act.put, List.setIfInBounds_toArray, List.set_cons_zero, List.set_cons_succ, i64_w, i32_w]
                rfl
               refine one_ (i := 4) (N := some 64) #[true, true, true, true, true, true, true, false, true, true, true, false, false] rfl rfl (one_of HT_.out (by kernel_rfl)) (by decide) (fun K hK => ?_)
               refine Kd.R_append_rows_step Kd.string (w0 := w) w.heap.size (by rfl) (.tmp 60) (.tmp 63) 24 9 (.string ⟨#[]⟩) 16 rfl Try.underlying24 info9 rfl (by decide) (by omega) v393 y392 y395 _ _ _ (fun k_ => some k_ ≠ (.slice Ao74 x6_2.length co74 : Value).ownBlock ∧ some k_ ≠ (v403 : Value).ownBlock) (fun _ => False) rfl rfl ?aO ?aR (fun _ _ h => h) (fun _ h => h.elim) ?aF ?aB ?aS ?aL ?_
               (case aR => repeat (first | exact (by repeat (first | (with_reducible exact HR398.out) | (with_reducible refine Kd.C_alloc ?_ _) | (with_reducible refine Kd.C_drewN ?_ _) | (with_reducible refine Kd.C_drew ?_) | exact HR398.out)) | (with_reducible refine Kd.C_alloc ?_ _) | (with_reducible refine Kd.C_drewN ?_ _) | (with_reducible refine Kd.C_drew ?_)))
               (case aB => exact bG)
               (case aF => exact (fun k_ hk => ⟨Kd.fresh' (Kd.R_lt (kR HO_6)) k_ hk, Kd.fresh' (Kd.R_lt (kR HO404)) k_ hk⟩))
               (case aO => exact (by (with_reducible repeat (first | apply Kd.R_alloc | apply Kd.R_drewN | apply Kd.R_drew)); exact Kd.R_mono HO394.out (fun _ hk => ⟨hk.1.2, hk.2⟩)))
               (case aS => exact (below_size bG))
               (case aL => have := LMc69.out; omega)
               intro v400 w82 ho hb hg hat
               rw [← Ny399.out] at ho
               have n0_ := Aside0.mk (Kd.R_after (ok := (fun k_ => some k_ ≠ (v403 : Value).ownBlock)) (by (with_reducible repeat (first | apply Kd.R_alloc | apply Kd.R_drewN | apply Kd.R_drew)); exact Kd.R_mono HO_6.out (fun _ hk => ⟨hk.2, hk.1.2⟩)) hg hat)
               have n1_ := Aside0.mk (Kd.R_over' (kR HO_22) (Kd.R_typed (kR HO394)) (by decide) hg)
               have n2_ := Aside0.mk (blk_grown (g := gb337) (o := .cells #[.int .i64 a0_0, .int .i64 a0_1] 23 (0, 0)) bK hg (Kd.R_ne HO394.out BK337.out (by decide)))
               have n3_ := Aside0.mk (Kd.R_after (ok := (fun k_ => some k_ ≠ (.slice Ao74 x6_2.length co74 : Value).ownBlock)) (by (with_reducible repeat (first | apply Kd.R_alloc | apply Kd.R_drewN | apply Kd.R_drew)); exact Kd.R_mono HO404.out (fun _ hk => ⟨hk.1.2, hk.2⟩)) hg hat)
               have n4_ := Aside0.mk (hb)
               have n5_ := Aside0.mk ((show Kd.C Kd.string w82 Ao74 y395.length y395 from by rw [Ny395.out]; exact Kd.C_take (m := (x11_3 : Int).toNat) ((Kd.R_reads' (Kd.R_after (ok := (fun k_ => some k_ ≠ (v403 : Value).ownBlock)) (by (with_reducible repeat (first | apply Kd.R_alloc | apply Kd.R_drewN | apply Kd.R_drew)); exact Kd.R_mono HO_6.out (fun _ hk => ⟨hk.2, hk.1.2⟩)) hg hat)).2.2) KL76.out))
               have n6_ := Aside0.mk ((show Kd.C Kd.string w82 A77 y408.length y408 from by rw [Ny408.out, KA77.out]; exact Kd.C_drop (m := (x11_3 : Int).toNat) (c := co74) ((Kd.R_reads' (Kd.R_after (ok := (fun k_ => some k_ ≠ (v403 : Value).ownBlock)) (by (with_reducible repeat (first | apply Kd.R_alloc | apply Kd.R_drewN | apply Kd.R_drew)); exact Kd.R_mono HO_6.out (fun _ hk => ⟨hk.2, hk.1.2⟩)) hg hat)).2.2) KL77.out ((Kd.R_reads' (Kd.R_after (ok := (fun k_ => some k_ ≠ (v403 : Value).ownBlock)) (by (with_reducible repeat (first | apply Kd.R_alloc | apply Kd.R_drewN | apply Kd.R_drew)); exact Kd.R_mono HO_6.out (fun _ hk => ⟨hk.2, hk.1.2⟩)) hg hat)).2.1)))
               have n7_ := Aside0.mk (ho)
               clear HO_6
               clear HO_22
               clear BK337
               clear HO404
               clear HB
               clear HR398
               clear HR411
               clear HO394
               have HO_6 := n0_
               have HO_22 := n1_
               have BK337 := n2_
               have HO404 := n3_
               have HB := n4_
               have HR398 := n5_
               have HR411 := n6_
               have HO401 := n7_
               clear n0_ n1_ n2_ n3_ n4_ n5_ n6_ n7_
               clear ho hb hg hat
               refine hK.out _ _ trivial (fun hHeld => ?_)
               clear hK K
               refine norm_ (a' := ?_) ?_ ?_
               rotate_left
               ·show Act.put _ (some 64) _ = _
                simp only [Act.put, List.setIfInBounds_toArray, List.set_cons_zero, List.set_cons_succ, i64_w, i32_w]
                rfl
               exact norm_ (by simp only [putAll, Act.put, List.setIfInBounds_toArray, List.set_cons_zero, List.set_cons_succ]) (hCont (v393, v400, v403) _ ⟨(by (with_reducible repeat (first | apply Kd.R_alloc | apply Kd.R_drewN | apply Kd.R_drew)); exact Kd.R_mono HO401.out (fun _ hk => ⟨hk.2, hk.1⟩)), (by (with_reducible repeat (first | apply Kd.R_alloc | apply Kd.R_drewN | apply Kd.R_drew)); exact Kd.R_mono HO404.out (fun _ hk => ⟨hk.2, hk.1⟩)), (kR HO_22), (by (with_reducible repeat (first | apply Kd.R_alloc | apply Kd.R_drewN | apply Kd.R_drew)); exact Kd.R_mono HO_6.out (fun _ hk => ⟨hk.2, hk.1⟩)), bK, bG⟩)
             ·skip
              refine Kd.R_lit_step Kd.string _ 9 ?hg (N := 66) ?hd (xs := ([t343] : List ByteArray)) (inner := [.string t343]) (ok := fun _ => True) (okp := fun _ => True) ?hr ?hp (fun _ hk => hk) trivial (Below.refl _ _) (Nat.le_refl _) (by simp) ?_; (case hd => rfl); (case hg => rfl); (case hr => first | (go_simp; done) | (go_simp; rfl)); (case hp => exact (Reps.one (show Kd.M Kd.string _ _ _ t343 [.string t343] from rfl) (Reps.none _ _)))
              intro v403 w78 ho79 hb hg_ hnew_
              clear hg_ hnew_
              (first | rw [← Ny402.out] at ho79 | (simp only [Int.reduceToNat] at ho79; rw [← Ny402.out] at ho79))
              have n0_ := Aside0.mk (Kd.R_elder' (kR HO_6) (Kd.R_base ho79) hb)
              have n1_ := Aside0.mk (Kd.R_below (kR HO_22) hb)
              have n2_ := Aside0.mk (Kd.R_lower (Kd.R_new' ho79 (Kd.R_lt (kR HO_6))) (below_size bG))
              have n3_ := Aside0.mk (blk_below (g := gb337) (o := .cells #[.int .i64 a0_0, .int .i64 a0_1] 23 (0, 0)) bK hb)
              have n4_ := Aside0.mk (Kd.C_below (by repeat (first | (with_reducible exact HR398.out) | (with_reducible refine Kd.C_alloc ?_ _) | (with_reducible refine Kd.C_drewN ?_ _) | (with_reducible refine Kd.C_drew ?_) | exact HR398.out)) hb)
              have n5_ := Aside0.mk (Kd.C_below (by repeat (first | (with_reducible exact HR411.out) | (with_reducible refine Kd.C_alloc ?_ _) | (with_reducible refine Kd.C_drewN ?_ _) | (with_reducible refine Kd.C_drew ?_) | exact HR411.out)) hb)
              have n6_ := Aside0.mk (below_step bG hb)
              clear HO_6
              clear HO_22
              clear BK337
              clear HR398
              clear HR411
              clear HB
              have HO_6 := n0_
              have HO_22 := n1_
              have HO404 := n2_
              have BK337 := n3_
              have HR398 := n4_
              have HR411 := n5_
              have HB := n6_
              clear n0_ n1_ n2_ n3_ n4_ n5_ n6_
              clear hb ho79
              refine hK.out _ _ trivial (fun hHeld => ?_)
              clear hK K
              refine norm_ (a' := ?_) ?_ ?_
              rotate_left
              ·show Act.put _ (some 66) _ = _
               simp only [Act.put, List.setIfInBounds_toArray, List.set_cons_zero, List.set_cons_succ, i64_w, i32_w]
               rfl
              refine one_ (i := 0) (N := some 60) #[true, true, true, true, false, true, true, false, true, true, true, false, false] rfl rfl (one_of HT_.out (by kernel_rfl)) (by decide) (fun K hK => ?_)
              refine Kd.R_lit_step Kd.string _ 9 ?hg (N := 60) ?hd (xs := ([] : List ByteArray)) (inner := []) (ok := fun _ => True) (okp := fun _ => True) ?hr ?hp (fun _ hk => hk) trivial (Below.refl _ _) (Nat.le_refl _) (by simp) ?_; (case hd => rfl); (case hg => rfl); (case hr => first | (go_simp; done) | (go_simp; rfl)); (case hp => exact (Reps.none _ _))
              intro v393 w80 ho81 hb hg_ hnew_
              clear hg_ hnew_
              (first | rw [← Ny392.out] at ho81 | (simp only [Int.reduceToNat] at ho81; rw [← Ny392.out] at ho81))
              have n0_ := Aside0.mk (Kd.R_elder' (kR HO_6) (Kd.R_base ho81) hb)
              have n1_ := Aside0.mk (Kd.R_below (kR HO_22) hb)
              have n2_ := Aside0.mk (Kd.R_elder' (kR HO404) (Kd.R_base ho81) hb)
              have n3_ := Aside0.mk (Kd.R_lower (Kd.R_new' (Kd.R_new' ho81 (Kd.R_lt (kR HO_6))) (Kd.R_lt (kR HO404))) (below_size bG))
              have n4_ := Aside0.mk (blk_below (g := gb337) (o := .cells #[.int .i64 a0_0, .int .i64 a0_1] 23 (0, 0)) bK hb)
              have n5_ := Aside0.mk (Kd.C_below (by repeat (first | (with_reducible exact HR398.out) | (with_reducible refine Kd.C_alloc ?_ _) | (with_reducible refine Kd.C_drewN ?_ _) | (with_reducible refine Kd.C_drew ?_) | exact HR398.out)) hb)
              have n6_ := Aside0.mk (Kd.C_below (by repeat (first | (with_reducible exact HR411.out) | (with_reducible refine Kd.C_alloc ?_ _) | (with_reducible refine Kd.C_drewN ?_ _) | (with_reducible refine Kd.C_drew ?_) | exact HR411.out)) hb)
              have n7_ := Aside0.mk (below_step bG hb)
              clear HO_6
              clear HO_22
              clear HO404
              clear BK337
              clear HR398
              clear HR411
              clear HB
              have HO_6 := n0_
              have HO_22 := n1_
              have HO404 := n2_
              have HO394 := n3_
              have BK337 := n4_
              have HR398 := n5_
              have HR411 := n6_
              have HB := n7_
              clear n0_ n1_ n2_ n3_ n4_ n5_ n6_ n7_
              clear hb ho81
              refine hK.out _ _ trivial (fun hHeld => ?_)
              clear hK K
              refine norm_ (a' := ?_) ?_ ?_
              rotate_left
              ·show Act.put _ (some 60) _ = _
               simp only [Act.put, List.setIfInBounds_toArray, List.set_cons_zero, List.set_cons_succ, i64_w, i32_w]
               rfl
              refine one_ (i := 4) (N := some 64) #[true, true, true, true, true, true, true, false, true, true, true, false, false] rfl rfl (one_of HT_.out (by kernel_rfl)) (by decide) (fun K hK => ?_)
              refine Kd.R_append_rows_step Kd.string (w0 := w) w.heap.size (by rfl) (.tmp 60) (.tmp 63) 24 9 (.string ⟨#[]⟩) 16 rfl Try.underlying24 info9 rfl (by decide) (by omega) v393 y392 y395 _ _ _ (fun k_ => some k_ ≠ (.slice Ao74 x6_2.length co74 : Value).ownBlock ∧ some k_ ≠ (v403 : Value).ownBlock) (fun _ => False) rfl rfl ?aO ?aR (fun _ _ h => h) (fun _ h => h.elim) ?aF ?aB ?aS ?aL ?_
              (case aR => repeat (first | exact (by repeat (first | (with_reducible exact HR398.out) | (with_reducible refine Kd.C_alloc ?_ _) | (with_reducible refine Kd.C_drewN ?_ _) | (with_reducible refine Kd.C_drew ?_) | exact HR398.out)) | (with_reducible refine Kd.C_alloc ?_ _) | (with_reducible refine Kd.C_drewN ?_ _) | (with_reducible refine Kd.C_drew ?_)))
              (case aB => exact bG)
              (case aF => exact (fun k_ hk => ⟨Kd.fresh' (Kd.R_lt (kR HO_6)) k_ hk, Kd.fresh' (Kd.R_lt (kR HO404)) k_ hk⟩))
              (case aO => exact (by (with_reducible repeat (first | apply Kd.R_alloc | apply Kd.R_drewN | apply Kd.R_drew)); exact Kd.R_mono HO394.out (fun _ hk => ⟨hk.1.2, hk.2⟩)))
              (case aS => exact (below_size bG))
              (case aL => have := LMc69.out; omega)
              intro v400 w82 ho hb hg hat
              rw [← Ny399.out] at ho
              have n0_ := Aside0.mk (Kd.R_after (ok := (fun k_ => some k_ ≠ (v403 : Value).ownBlock)) (by (with_reducible repeat (first | apply Kd.R_alloc | apply Kd.R_drewN | apply Kd.R_drew)); exact Kd.R_mono HO_6.out (fun _ hk => ⟨hk.1.2, hk.2⟩)) hg hat)
              have n1_ := Aside0.mk (Kd.R_over' (kR HO_22) (Kd.R_typed (kR HO394)) (by decide) hg)
              have n2_ := Aside0.mk (blk_grown (g := gb337) (o := .cells #[.int .i64 a0_0, .int .i64 a0_1] 23 (0, 0)) bK hg (Kd.R_ne HO394.out BK337.out (by decide)))
              have n3_ := Aside0.mk (Kd.R_after (ok := (fun k_ => some k_ ≠ (.slice Ao74 x6_2.length co74 : Value).ownBlock)) (by (with_reducible repeat (first | apply Kd.R_alloc | apply Kd.R_drewN | apply Kd.R_drew)); exact Kd.R_mono HO404.out (fun _ hk => ⟨hk.1.2, hk.2⟩)) hg hat)
              have n4_ := Aside0.mk (hb)
              have n5_ := Aside0.mk ((show Kd.C Kd.string w82 Ao74 y395.length y395 from by rw [Ny395.out]; exact Kd.C_take (m := (x11_3 : Int).toNat) ((Kd.R_reads' (Kd.R_after (ok := (fun k_ => some k_ ≠ (v403 : Value).ownBlock)) (by (with_reducible repeat (first | apply Kd.R_alloc | apply Kd.R_drewN | apply Kd.R_drew)); exact Kd.R_mono HO_6.out (fun _ hk => ⟨hk.1.2, hk.2⟩)) hg hat)).2.2) KL76.out))
              have n6_ := Aside0.mk ((show Kd.C Kd.string w82 A77 y408.length y408 from by rw [Ny408.out, KA77.out]; exact Kd.C_drop (m := (x11_3 : Int).toNat) (c := co74) ((Kd.R_reads' (Kd.R_after (ok := (fun k_ => some k_ ≠ (v403 : Value).ownBlock)) (by (with_reducible repeat (first | apply Kd.R_alloc | apply Kd.R_drewN | apply Kd.R_drew)); exact Kd.R_mono HO_6.out (fun _ hk => ⟨hk.1.2, hk.2⟩)) hg hat)).2.2) KL77.out ((Kd.R_reads' (Kd.R_after (ok := (fun k_ => some k_ ≠ (v403 : Value).ownBlock)) (by (with_reducible repeat (first | apply Kd.R_alloc | apply Kd.R_drewN | apply Kd.R_drew)); exact Kd.R_mono HO_6.out (fun _ hk => ⟨hk.1.2, hk.2⟩)) hg hat)).2.1)))
              have n7_ := Aside0.mk (ho)
              clear HO_6
              clear HO_22
              clear BK337
              clear HO404
              clear HB
              clear HR398
              clear HR411
              clear HO394
              have HO_6 := n0_
              have HO_22 := n1_
              have BK337 := n2_
              have HO404 := n3_
              have HB := n4_
              have HR398 := n5_
              have HR411 := n6_
              have HO401 := n7_
              clear n0_ n1_ n2_ n3_ n4_ n5_ n6_ n7_
              clear ho hb hg hat
              refine hK.out _ _ trivial (fun hHeld => ?_)
              clear hK K
              refine norm_ (a' := ?_) ?_ ?_
              rotate_left
              ·show Act.put _ (some 64) _ = _
               simp only [Act.put, List.setIfInBounds_toArray, List.set_cons_zero, List.set_cons_succ, i64_w, i32_w]
               rfl
              exact norm_ (by simp only [putAll, Act.put, List.setIfInBounds_toArray, List.set_cons_zero, List.set_cons_succ]) (hCont (v393, v400, v403) _ ⟨(by (with_reducible repeat (first | apply Kd.R_alloc | apply Kd.R_drewN | apply Kd.R_drew)); exact Kd.R_mono HO401.out (fun _ hk => ⟨hk.2, hk.1⟩)), (by (with_reducible repeat (first | apply Kd.R_alloc | apply Kd.R_drewN | apply Kd.R_drew)); exact Kd.R_mono HO404.out (fun _ hk => ⟨hk.2, hk.1⟩)), (kR HO_22), (by (with_reducible repeat (first | apply Kd.R_alloc | apply Kd.R_drewN | apply Kd.R_drew)); exact Kd.R_mono HO_6.out (fun _ hk => ⟨hk.2, hk.1⟩)), bK, bG⟩)
            rintro ⟨v393, v400, v403⟩ w83 ⟨h0_, h1_, h2_, h3_, h4_, h5_⟩
            have n0_ : Aside0 (Kd.R Kd.string 9 w83 w.heap.size (fun k_ => some k_ ≠ (v403 : Value).ownBlock ∧ some k_ ≠ (.slice Ao74 x6_2.length co74 : Value).ownBlock) v400 y399) := ⟨h0_⟩
            have n1_ : Aside0 (Kd.R Kd.string 9 w83 w.heap.size (fun k_ => some k_ ≠ (v400 : Value).ownBlock ∧ some k_ ≠ (.slice Ao74 x6_2.length co74 : Value).ownBlock) v403 y402) := ⟨h1_⟩
            have n2_ : Aside0 (Kd.R (Kd.int .i64) 3 w83 w.heap.size (fun _ => True) (.slice (some ad342) y339.length co12) y339) := ⟨h2_⟩
            have n3_ : Aside0 (Kd.R Kd.string 9 w83 w.heap.size (fun k_ => some k_ ≠ (v400 : Value).ownBlock ∧ some k_ ≠ (v403 : Value).ownBlock) (.slice Ao74 x6_2.length co74) x6_2) := ⟨h3_⟩
            have n4_ : Aside0 (w83.heap[gb337]? = some (.cells #[.int .i64 a0_0, .int .i64 a0_1] 23 (0, 0))) := ⟨h4_⟩
            have n5_ : Aside0 (Below w.heap.size w w83) := ⟨h5_⟩
            clear HO_6
            clear HO_22
            clear BK337
            clear HB
            clear h0_ h1_ h2_ h3_ h4_ h5_
            have HO401 := n0_
            have HO404 := n1_
            have HO_22 := n2_
            have HO_6 := n3_
            have BK337 := n4_
            have HB := n5_
            clear n0_ n1_ n2_ n3_ n4_ n5_
            have hHeld := trivial
            have HR398 := Aside0.mk (show Kd.C Kd.string w83 Ao74 y395.length y395 from by rw [Ny395.out]; exact Kd.C_take (m := (x11_3 : Int).toNat) ((Kd.R_reads' HO_6.out).2.2) KL76.out)
            have HR411 := Aside0.mk (show Kd.C Kd.string w83 A77 y408.length y408 from by rw [Ny408.out, KA77.out]; exact Kd.C_drop (m := (x11_3 : Int).toNat) (c := co74) ((Kd.R_reads' HO_6.out).2.2) KL77.out ((Kd.R_reads' HO_6.out).2.1))
            obtain ⟨Ao85, co85, eo85⟩ := Kd.R_slice HO404.out
            (first | subst eo85 | (injection eo85 with f1_ f2_ f3_; have f4_ := f1_.symm; have f5_ := f3_.symm; clear f1_ f2_ f3_; subst f4_; subst f5_))
            refine norm_ (a' := ?_) ?_ ?_
            rotate_left
            ·simp only [putAll, Act.put, List.setIfInBounds_toArray, List.set_cons_zero, List.set_cons_succ]
             rfl
            refine one_ (i := 7) (N := some 67) #[true, true, true, true, true, true, true, true, true, true, true, false, false] rfl rfl (one_of HT_.out (by kernel_rfl)) (by decide) (fun K hK => ?_)
            refine Kd.R_append_rows_step Kd.string (w0 := w) w.heap.size (by rfl) (.tmp 64) (.tmp 66) 24 9 (.string ⟨#[]⟩) 16 rfl Try.underlying24 info9 rfl (by decide) (by omega) v400 y399 y402 _ _ _ (fun k_ => some k_ ≠ (.slice Ao74 x6_2.length co74 : Value).ownBlock ∧ some k_ ≠ (.slice Ao85 y402.length co85 : Value).ownBlock) (fun _ => False) rfl rfl ?aO ?aR (fun _ _ h => h) (fun _ h => h.elim) ?aF ?aB ?aS ?aL ?_
            (case aR => exact cS ((Kd.R_reads' HO404.out).2.2))
            (case aB => exact bG)
            (case aF => exact (fun k_ hk => ⟨Kd.fresh' (Kd.R_lt (kR HO_6)) k_ hk, Kd.fresh' (Kd.R_lt (kR HO404)) k_ hk⟩))
            (case aO => exact (by (with_reducible repeat (first | apply Kd.R_alloc | apply Kd.R_drewN | apply Kd.R_drew)); exact Kd.R_mono HO401.out (fun _ hk => ⟨hk.2, hk.1⟩)))
            (case aS => exact (below_size bG))
            (case aL => have := LMc70.out; omega)
            intro v406 w84 ho hb hg hat
            rw [← Ny405.out] at ho
            have n0_ := Aside0.mk (Kd.R_after (ok := (fun k_ => some k_ ≠ (.slice Ao85 y402.length co85 : Value).ownBlock)) (by (with_reducible repeat (first | apply Kd.R_alloc | apply Kd.R_drewN | apply Kd.R_drew)); exact Kd.R_mono HO_6.out (fun _ hk => ⟨hk.2, hk.1⟩)) hg hat)
            have n1_ := Aside0.mk (Kd.R_over' (kR HO_22) (Kd.R_typed (kR HO401)) (by decide) hg)
            have n2_ := Aside0.mk (blk_grown (g := gb337) (o := .cells #[.int .i64 a0_0, .int .i64 a0_1] 23 (0, 0)) bK hg (Kd.R_ne HO401.out BK337.out (by decide)))
            have n3_ := Aside0.mk (Kd.R_after (ok := (fun k_ => some k_ ≠ (.slice Ao74 x6_2.length co74 : Value).ownBlock)) (by (with_reducible repeat (first | apply Kd.R_alloc | apply Kd.R_drewN | apply Kd.R_drew)); exact Kd.R_mono HO404.out (fun _ hk => ⟨hk.2, hk.1⟩)) hg hat)
            have n4_ := Aside0.mk (hb)
            have n5_ := Aside0.mk ((show Kd.C Kd.string w84 Ao74 y395.length y395 from by rw [Ny395.out]; exact Kd.C_take (m := (x11_3 : Int).toNat) ((Kd.R_reads' (Kd.R_after (ok := (fun k_ => some k_ ≠ (.slice Ao85 y402.length co85 : Value).ownBlock)) (by (with_reducible repeat (first | apply Kd.R_alloc | apply Kd.R_drewN | apply Kd.R_drew)); exact Kd.R_mono HO_6.out (fun _ hk => ⟨hk.2, hk.1⟩)) hg hat)).2.2) KL76.out))
            have n6_ := Aside0.mk ((show Kd.C Kd.string w84 A77 y408.length y408 from by rw [Ny408.out, KA77.out]; exact Kd.C_drop (m := (x11_3 : Int).toNat) (c := co74) ((Kd.R_reads' (Kd.R_after (ok := (fun k_ => some k_ ≠ (.slice Ao85 y402.length co85 : Value).ownBlock)) (by (with_reducible repeat (first | apply Kd.R_alloc | apply Kd.R_drewN | apply Kd.R_drew)); exact Kd.R_mono HO_6.out (fun _ hk => ⟨hk.2, hk.1⟩)) hg hat)).2.2) KL77.out ((Kd.R_reads' (Kd.R_after (ok := (fun k_ => some k_ ≠ (.slice Ao85 y402.length co85 : Value).ownBlock)) (by (with_reducible repeat (first | apply Kd.R_alloc | apply Kd.R_drewN | apply Kd.R_drew)); exact Kd.R_mono HO_6.out (fun _ hk => ⟨hk.2, hk.1⟩)) hg hat)).2.1)))
            have n7_ := Aside0.mk (ho)
            clear HO_6
            clear HO_22
            clear BK337
            clear HO404
            clear HB
            clear HR398
            clear HR411
            clear HO401
            have HO_6 := n0_
            have HO_22 := n1_
            have BK337 := n2_
            have HO404 := n3_
            have HB := n4_
            have HR398 := n5_
            have HR411 := n6_
            have HO407 := n7_
            clear n0_ n1_ n2_ n3_ n4_ n5_ n6_ n7_
            clear ho hb hg hat
            refine hK.out _ _ trivial (fun hHeld => ?_)
            clear hK K
            refine norm_ (a' := ?_) ?_ ?_
            rotate_left
            ·show Act.put _ (some 67) _ = _
             simp only [Act.put, List.setIfInBounds_toArray, List.set_cons_zero, List.set_cons_succ, i64_w, i32_w]
             rfl
            refine one_ (i := 11) (N := some 71) #[true, true, true, true, true, true, true, true, true, true, true, true, false] rfl rfl (one_of HT_.out (by kernel_rfl)) (by decide) (fun K hK => ?_)
            refine Kd.R_append_rows_step Kd.string (w0 := w) w.heap.size (by rfl) (.tmp 67) (.tmp 70) 24 9 (.string ⟨#[]⟩) 16 rfl Try.underlying24 info9 rfl (by decide) (by omega) v406 y405 y408 _ _ _ (fun k_ => some k_ ≠ (.slice Ao74 x6_2.length co74 : Value).ownBlock ∧ some k_ ≠ (.slice Ao85 y402.length co85 : Value).ownBlock) (fun _ => False) rfl rfl ?aO ?aR (fun _ _ h => h) (fun _ h => h.elim) ?aF ?aB ?aS ?aL ?_
            (case aR => repeat (first | exact (by repeat (first | (with_reducible exact HR411.out) | (with_reducible refine Kd.C_alloc ?_ _) | (with_reducible refine Kd.C_drewN ?_ _) | (with_reducible refine Kd.C_drew ?_) | exact HR411.out)) | (with_reducible refine Kd.C_alloc ?_ _) | (with_reducible refine Kd.C_drewN ?_ _) | (with_reducible refine Kd.C_drew ?_)))
            (case aB => exact bG)
            (case aF => exact (fun k_ hk => ⟨Kd.fresh' (Kd.R_lt (kR HO_6)) k_ hk, Kd.fresh' (Kd.R_lt (kR HO404)) k_ hk⟩))
            (case aO => exact (kR HO407))
            (case aS => exact (below_size bG))
            (case aL => have := LMc73.out; omega)
            intro v413 w86 ho hb hg hat
            rw [← Ny412.out] at ho
            have n0_ := Aside0.mk (Kd.R_after (ok := (fun k_ => some k_ ≠ (.slice Ao85 y402.length co85 : Value).ownBlock)) (kR HO_6) hg hat)
            have n1_ := Aside0.mk (Kd.R_over' (kR HO_22) (Kd.R_typed (kR HO407)) (by decide) hg)
            have n2_ := Aside0.mk (blk_grown (g := gb337) (o := .cells #[.int .i64 a0_0, .int .i64 a0_1] 23 (0, 0)) bK hg (Kd.R_ne HO407.out BK337.out (by decide)))
            have n3_ := Aside0.mk (Kd.R_after (ok := (fun k_ => some k_ ≠ (.slice Ao74 x6_2.length co74 : Value).ownBlock)) (kR HO404) hg hat)
            have n4_ := Aside0.mk (hb)
            have n5_ := Aside0.mk ((show Kd.C Kd.string w86 Ao74 y395.length y395 from by rw [Ny395.out]; exact Kd.C_take (m := (x11_3 : Int).toNat) ((Kd.R_reads' (Kd.R_after (ok := (fun k_ => some k_ ≠ (.slice Ao85 y402.length co85 : Value).ownBlock)) (kR HO_6) hg hat)).2.2) KL76.out))
            have n6_ := Aside0.mk ((show Kd.C Kd.string w86 A77 y408.length y408 from by rw [Ny408.out, KA77.out]; exact Kd.C_drop (m := (x11_3 : Int).toNat) (c := co74) ((Kd.R_reads' (Kd.R_after (ok := (fun k_ => some k_ ≠ (.slice Ao85 y402.length co85 : Value).ownBlock)) (kR HO_6) hg hat)).2.2) KL77.out ((Kd.R_reads' (Kd.R_after (ok := (fun k_ => some k_ ≠ (.slice Ao85 y402.length co85 : Value).ownBlock)) (kR HO_6) hg hat)).2.1)))
            have n7_ := Aside0.mk (ho)
            clear HO_6
            clear HO_22
            clear BK337
            clear HO404
            clear HB
            clear HR398
            clear HR411
            clear HO407
            have HO_6 := n0_
            have HO_22 := n1_
            have BK337 := n2_
            have HO404 := n3_
            have HB := n4_
            have HR398 := n5_
            have HR411 := n6_
            have HO414 := n7_
            clear n0_ n1_ n2_ n3_ n4_ n5_ n6_ n7_
            clear ho hb hg hat
            refine hK.out _ _ trivial (fun hHeld => ?_)
            clear hK K
            refine norm_ (a' := ?_) ?_ ?_
            rotate_left
            ·show Act.put _ (some 71) _ = _
             simp only [Act.put, List.setIfInBounds_toArray, List.set_cons_zero, List.set_cons_succ, i64_w, i32_w]
             rfl
            refine pure_ (i := 12) (N := some 6) (v := ?_) (a' := ?_) #[true, true, true, true, true, true, true, true, true, true, true, true, true] rfl rfl (any_of HT_.out (by kernel_rfl)) (fun _ _ _ h => h) (Or.inl ⟨by rfl, ?_⟩) ?_ ?_
            rotate_left
            ·intro w'
             go_simp
             with_reducible rfl
            rotate_left
            ·simp only [Act.put, List.setIfInBounds_toArray, List.set_cons_zero, List.set_cons_succ, i64_w, i32_w]
             rfl
            refine done_ (done_of HT_.out (by kernel_rfl)) ?_
            try go_wp2
            go_roundg k3
            case measure => have := HK1.out; have := HK2.out; have := HK3.out; omega
            case rel => exact ⟨(y412), (wrap64 (x24_2 + 1)), fR, H', ⟨by have := HK1.out; have := HK2.out; have := HK3.out; omega⟩, ⟨by (with_reducible repeat (first | apply Kd.R_alloc | apply Kd.R_drewN | apply Kd.R_drew)); exact Kd.R_mono HO414.out (fun _ hk => trivial)⟩, ⟨kR HO_22⟩, ⟨bK⟩, ⟨bG⟩⟩
           ·rw [if_neg c66] at H
            have c66b0 : (x11_3 == (x6_2.length : Int)) = false := beq_eq_false_iff_ne.mpr c66
            have c66b1 : (x11_3 != (x6_2.length : Int)) = true := bne_iff_ne.mpr c66
            replace H := nz H; obtain ⟨c87, H⟩ := H
            exact absurd H (by simp)
       ·rw [if_neg c13] at H
        have c13b0 : decide (x24_2 < (y339.length : Int)) = false := decide_eq_false c13
        clear c13
        have H' := Aside0.mk H
        clear H
        go_wp2
        go_roundg k2
        case measure => have := HK1.out; have := HK2.out; omega
        case rel => exact ⟨(x6_2), (wrap64 (x7_1 + 1)), fR, H', ⟨by have := HK1.out; have := HK2.out; omega⟩, ⟨kR HO_6⟩, ⟨bK⟩, ⟨bG⟩⟩
    ·rw [if_neg c8] at H
     have c8b0 : decide (x7_1 < a0_0) = false := decide_eq_false c8
     clear c8
     simp only [Option.some.injEq, Prod.mk.injEq] at H
     obtain ⟨rfl, rfl⟩ := H
     have hcz88_0 := cZ BK337 0 (.int .i64 a0_0)
     have hcz88_1 := cZ BK337 1 (.int .i64 a0_1)
     have hfz88_0 := blk_frozen BK337.out 0
     have hfz88_1 := blk_frozen BK337.out 1
     go_wp2
     go_ret2
     exact ⟨_, rE, kR HO_6, bG⟩
 ·replace c4 := Bool.eq_false_iff.mpr c4
  subst c4
  replace H := zf H
  simp only [Option.some.injEq, Prod.mk.injEq] at H
  obtain ⟨rfl, rfl⟩ := H
  go_enter Try.func63, Try.ntmps63
  go_wp2_with (first | ((with_reducible refine gate_dst (N := 2) rfl ?_); refine box_event ?hg (N := 2) ?hd (cs := #[.int .i64 a0_0, .int .i64 a0_1]) (t := 23) ?hr ?_; (case hd => rfl); (case hg => rfl); (case hr => first | (go_simp; done) | (go_simp; rfl)); intro gb337 hg w89 hbox hb; have BK337 := Aside0.mk (hbox); have GW337 : Aside0 (w.heap.size ≤ gb337) := gW hg; have GE337 := GW337; replace HB := Aside0.mk (below_step bB hb); clear hb hbox hg; have hcz90_0 := cZ BK337 0 (.int .i64 a0_0); have hcz90_1 := cZ BK337 1 (.int .i64 a0_1); have hfz90_0 := blk_frozen BK337.out 0; have hfz90_1 := blk_frozen BK337.out 1) | ((with_reducible refine gate_callee (f := 71) rfl ?_); refine goesL_ (some 14) rfl rfl Try.func71 (by kernel_rfl) rfl #[.agg #[.int .i64 a0_0, .int .i64 a0_1], .string a1] rfl lM ?_; (with_reducible refine (spec_whAsked.calls k a0_0 a0_1 a1 false _ A3.out).mono ?_); rintro e w91 ⟨rfl, hb⟩; refine ⟨_, rfl, ?_⟩; replace BK337 := bW BK337 hb; replace HB := Aside0.mk (below_step bG hb); (try clear hb)))
  go_ret2
  exact ⟨_, rE, by first | exact Kd.R_nil _ _ _ _ _ | exact Kd.N_nil _ _ _ _ _ | exact Kd.V_nil _ _ _ _ _ | exact Kd.Q_nil _ _ _ _ _ | exact Kd.S_nil _ _ _ _ _, bG⟩

end Go.Proofs.Ythpmpkmdjpaemaa.O
