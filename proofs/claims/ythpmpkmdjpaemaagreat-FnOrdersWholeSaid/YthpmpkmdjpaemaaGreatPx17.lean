-- Printed by hp.py, a program of this session: a machine's side of laws, out of the translation; Lean checks it.
import Derived.Test.YthpmpkmdjpaemaaGreatPx0
import Derived.Test.YthpmpkmdjpaemaaGreatPx16
namespace Go.Proofs.YthpmpkmdjpaemaaGreat.P
open Go.RowKit Go.Proofs.YthpmpkmdjpaemaaGreatW.PrintWords Go.Proofs.YthpmpkmdjpaemaaGreatW.PrintLast Go.Proofs.YthpmpkmdjpaemaaGreatW.PrintMore
attribute [local go_sem] max2_int min2_int max_two min_two max_three min_three max_four min_four   -- for this text's walks alone
set_option linter.unusedVariables false
set_option linter.unusedSimpArgs false

/-! ### spec_NextCodes: function 80 -/
mutual
def spec_NextCodes.l0 : Nat → ByteArray → List ByteArray → Int → Int → Int → Option (List ByteArray × Bool)
 | 0, _, _, _, _, _ => none
 | k + 1, x1, x6, x7, x429000, x429001 => if x7 < x429000 then ((some (([1, (-1)] : List Int) : List Int)).bind fun y430 => (spec_NextCodes.l1 k x1 x6 x7 y430 (y430.length : Int) 0 x429000 x429001)) else (some (x6, true))
def spec_NextCodes.l1 : Nat → ByteArray → List ByteArray → Int → List Int → Int → Int → Int → Int → Option (List ByteArray × Bool)
 | 0, _, _, _, _, _, _, _, _ => none
 | k + 1, x1, x6, x7, x22, x23, x24, x429000, x429001 => if x24 < x23 then (if 0 ≤ x24 then (if x24 < (x22.length : Int) then ((spec_whMake.f k x429000 x429001 x1 x7 (rd x22 x24)).bind fun t434 => (spec_NextCodes.l2 k x1 x6 x7 t434 0 x22 x23 x24 x429000 x429001)) else (none)) else (none)) else (spec_NextCodes.l0 k x1 x6 (wrap64 (x7 + 1)) x429000 x429001)
def spec_NextCodes.l2 : Nat → ByteArray → List ByteArray → Int → ByteArray → Int → List Int → Int → Int → Int → Int → Option (List ByteArray × Bool)
 | 0, _, _, _, _, _, _, _, _, _, _ => none
 | k + 1, x1, x6, x7, x10, x11, x22, x23, x24, x429000, x429001 => if x11 < (x6.length : Int) then (if 0 ≤ x11 then (if (Op.bytesLess ((rdOf ByteArray.empty x6 x11).toList) x10.toList) = true then (spec_NextCodes.l2 k x1 x6 x7 x10 (wrap64 (x11 + 1)) x22 x23 x24 x429000 x429001) else (if x11 = (x6.length : Int) then ((some (([] : List ByteArray) : List ByteArray)).bind fun y436 => (if x11 ≤ (x6.length : Int) then ((some (x6.take (x11 : Int).toNat : List ByteArray)).bind fun y439 => (if y436.length + y439.length < 8796093022208 then ((some (y436 ++ y439 : List ByteArray)).bind fun y443 => ((some (([x10] : List ByteArray) : List ByteArray)).bind fun y446 => (if y443.length + y446.length < 8796093022208 then ((some (y443 ++ y446 : List ByteArray)).bind fun y449 => ((some (x6.drop (x11 : Int).toNat : List ByteArray)).bind fun y452 => (if y449.length + y452.length < 8796093022208 then (spec_NextCodes.l1 k x1 (y449 ++ y452) x7 x22 x23 (wrap64 (x24 + 1)) x429000 x429001) else (none)))) else (none)))) else (none))) else (none))) else (if (rdOf ByteArray.empty x6 x11).toList = x10.toList then (spec_NextCodes.l1 k x1 x6 x7 x22 x23 (wrap64 (x24 + 1)) x429000 x429001) else ((some (([] : List ByteArray) : List ByteArray)).bind fun y460 => (if x11 ≤ (x6.length : Int) then ((some (x6.take (x11 : Int).toNat : List ByteArray)).bind fun y463 => (if y460.length + y463.length < 8796093022208 then ((some (y460 ++ y463 : List ByteArray)).bind fun y467 => ((some (([x10] : List ByteArray) : List ByteArray)).bind fun y470 => (if y467.length + y470.length < 8796093022208 then ((some (y467 ++ y470 : List ByteArray)).bind fun y473 => ((some (x6.drop (x11 : Int).toNat : List ByteArray)).bind fun y476 => (if y473.length + y476.length < 8796093022208 then (spec_NextCodes.l1 k x1 (y473 ++ y476) x7 x22 x23 (wrap64 (x24 + 1)) x429000 x429001) else (none)))) else (none)))) else (none))) else (none)))))) else (none)) else (if x11 = (x6.length : Int) then ((some (([] : List ByteArray) : List ByteArray)).bind fun y483 => (if 0 ≤ x11 then (if x11 ≤ (x6.length : Int) then ((some (x6.take (x11 : Int).toNat : List ByteArray)).bind fun y486 => (if y483.length + y486.length < 8796093022208 then ((some (y483 ++ y486 : List ByteArray)).bind fun y490 => ((some (([x10] : List ByteArray) : List ByteArray)).bind fun y493 => (if y490.length + y493.length < 8796093022208 then ((some (y490 ++ y493 : List ByteArray)).bind fun y496 => ((some (x6.drop (x11 : Int).toNat : List ByteArray)).bind fun y499 => (if y496.length + y499.length < 8796093022208 then (spec_NextCodes.l1 k x1 (y496 ++ y499) x7 x22 x23 (wrap64 (x24 + 1)) x429000 x429001) else (none)))) else (none)))) else (none))) else (none)) else (none))) else (if 0 ≤ x11 then (none) else (none)))
end
def spec_NextCodes.f (k : Nat) (a0_0 : Int) (a0_1 : Int) (a1 : ByteArray) : Option (List ByteArray × Bool) := (spec_whAsked.f k a0_0 a0_1 a1).bind fun t429 => (if t429 = true then (spec_NextCodes.l0 k a1 ([] : List ByteArray) 0 a0_0 a0_1) else (some (([] : List ByteArray), false)))
theorem spec_NextCodes.mono_l : ∀ k, (∀ y0 y1 y2 y3 y4, LeO (spec_NextCodes.l0 k y0 y1 y2 y3 y4) (spec_NextCodes.l0 (k + 1) y0 y1 y2 y3 y4)) ∧ (∀ y0 y1 y2 y3 y4 y5 y6 y7, LeO (spec_NextCodes.l1 k y0 y1 y2 y3 y4 y5 y6 y7) (spec_NextCodes.l1 (k + 1) y0 y1 y2 y3 y4 y5 y6 y7)) ∧ (∀ y0 y1 y2 y3 y4 y5 y6 y7 y8 y9, LeO (spec_NextCodes.l2 k y0 y1 y2 y3 y4 y5 y6 y7 y8 y9) (spec_NextCodes.l2 (k + 1) y0 y1 y2 y3 y4 y5 y6 y7 y8 y9))
 | 0 => ⟨fun _ _ _ _ _ r h => by simp [spec_NextCodes.l0] at h, fun _ _ _ _ _ _ _ _ r h => by simp [spec_NextCodes.l1] at h, fun _ _ _ _ _ _ _ _ _ _ r h => by simp [spec_NextCodes.l2] at h⟩
 | k + 1 => by
  obtain ⟨ih0, ih1, ih2⟩ := spec_NextCodes.mono_l k
  refine ⟨?_, ?_, ?_⟩
  intro y0 y1 y2 y3 y4; unfold spec_NextCodes.l0; rotate_left
  intro y0 y1 y2 y3 y4 y5 y6 y7; unfold spec_NextCodes.l1; rotate_left
  intro y0 y1 y2 y3 y4 y5 y6 y7 y8 y9; unfold spec_NextCodes.l2; rotate_left
  all_goals repeat' first
  | (with_reducible first | exact ih0 _ _ _ _ _ | exact ih1 _ _ _ _ _ _ _ _ | exact ih2 _ _ _ _ _ _ _ _ _ _ | exact spec_whAsked.mono _ _ _ _ | exact spec_whMake.mono _ _ _ _ _ _ | exact LeO.refl _ | exact LeO.none _ | refine LeO.ite ?_ ?_ | refine LeO.bind ?_ (fun _ => ?_))
  | exact ih0 _ _ _ _ _
  | exact ih1 _ _ _ _ _ _ _ _
  | exact ih2 _ _ _ _ _ _ _ _ _ _
  | exact spec_whAsked.mono _ _ _ _
  | exact spec_whMake.mono _ _ _ _ _ _
  | exact LeO.none _
  | refine LeO.ite ?_ ?_
  | refine LeO.bind ?_ (fun _ => ?_)
theorem spec_NextCodes.mono : ∀ a0 a1 a2 k, LeO (spec_NextCodes.f k a0 a1 a2) (spec_NextCodes.f (k + 1) a0 a1 a2) := by
 intro a0 a1 a2 k
 obtain ⟨ih0, ih1, ih2⟩ := spec_NextCodes.mono_l k
 unfold spec_NextCodes.f
 repeat' first
   | (with_reducible first | exact ih0 _ _ _ _ _ | exact ih1 _ _ _ _ _ _ _ _ | exact ih2 _ _ _ _ _ _ _ _ _ _ | exact spec_whAsked.mono _ _ _ _ | exact spec_whMake.mono _ _ _ _ _ _ | exact LeO.refl _ | exact LeO.none _ | refine LeO.ite ?_ ?_ | refine LeO.bind ?_ (fun _ => ?_))
   | exact ih0 _ _ _ _ _
   | exact ih1 _ _ _ _ _ _ _ _
   | exact ih2 _ _ _ _ _ _ _ _ _ _
   | exact spec_whAsked.mono _ _ _ _
   | exact spec_whMake.mono _ _ _ _ _ _
   | exact LeO.none _
   | refine LeO.ite ?_ ?_
   | refine LeO.bind ?_ (fun _ => ?_)
def spec_NextCodes.T15 : Bool × List (List Nat × List Nat) := (true, [([], []), ([], []), ([], []), ([1, 2], [1, 2]), ([0, 3], [0, 3]), ([], []), ([5], [5]), ([4, 6, 4], [4, 6]), ([], []), ([], []), ([8, 9], [8, 9]), ([7, 10, 7], [7, 10]), ([11, 11, 0, 1, 2, 3, 4, 5, 6, 7, 8, 9, 10, 11], [1, 8, 11])])
def spec_NextCodes.B15 : List Nat := [0, 0, 0, 6, 15, 0, 32, 127, 0, 0, 768, 2047, 4095]
theorem spec_NextCodes.tab15 : rtab .any (opsOf Tryz.f80 15) = spec_NextCodes.T15 := by kernel_rfl
theorem spec_NextCodes.bits15 : waitsOk spec_NextCodes.T15.2 spec_NextCodes.B15 = true := by kernel_rfl
set_option maxHeartbeats 8000000 in
set_option maxRecDepth 100000 in
theorem spec_NextCodes.calls (k : Nat) (a0_0 : Int) (a0_1 : Int) (a1 : ByteArray) (r1 : List ByteArray) (r2 : Bool) (w : World) (h : spec_NextCodes.f k a0_0 a0_1 a1 = some (r1, r2)) :
  Calls Tryz.prog 80 #[.agg #[.int .i64 a0_0, .int .i64 a0_1], .string a1] w fun e w' => ∃ v0_ : Value, e = .returned (.tuple #[v0_, .bool r2]) ∧ Kd.R Kd.string 9 w' w.heap.size (fun _ => True) v0_ r1 ∧ Below w.heap.size w w' := by
 have hu25 := Tryz.underlying25
 have hu59 := Tryz.underlying59
 have HB := Aside0.mk (Below.refl w.heap.size w)
 have H := h
 unfold spec_NextCodes.f at H
 clear h
 replace H := Option.bind_eq_some_iff.mp H
 obtain ⟨t429, A30, H⟩ := H
 (try dsimp only at H)
 have A3 := Aside0.mk A30
 clear A30
 by_cases c4 : t429 = true
 ·subst c4
  replace H := zt H
  have H' := Aside0.mk H
  clear H
  go_enter Tryz.func80, Tryz.ntmps80
  go_wp2_with (first | ((with_reducible refine gate_dst (N := 2) rfl ?_); refine box_event ?hg (N := 2) ?hd (cs := #[.int .i64 a0_0, .int .i64 a0_1]) (t := 25) ?hr ?_; (case hd => rfl); (case hg => rfl); (case hr => first | (go_simp; done) | (go_simp; rfl)); intro gb428 hg w5 hbox hb; have BK428 := Aside0.mk (hbox); have GW428 : Aside0 (w.heap.size ≤ gb428) := gW hg; have GE428 := GW428; replace HB := Aside0.mk (below_step bB hb); clear hb hbox hg; have hcz6_0 := cZ BK428 0 (.int .i64 a0_0); have hcz6_1 := cZ BK428 1 (.int .i64 a0_1); have hfz6_0 := blk_frozen BK428.out 0; have hfz6_1 := blk_frozen BK428.out 1) | ((with_reducible refine gate_callee (f := 87) rfl ?_); refine goesL_ (some 14) rfl rfl Tryz.func87 (by kernel_rfl) rfl #[.agg #[.int .i64 a0_0, .int .i64 a0_1], .string a1] rfl lM ?_; (with_reducible refine (spec_whAsked.calls k a0_0 a0_1 a1 true _ A3.out).mono ?_); rintro e w7 ⟨rfl, hb⟩; refine ⟨_, rfl, ?_⟩; replace BK428 := bW BK428 hb; replace HB := Aside0.mk (below_step bG hb); (try clear hb)))
  go_loopg [6, 7] k (fun kq v6 v7 w' => ∃ (x6_1 : List ByteArray) (x7_1 : Int), v7 = .int .i64 x7_1 ∧ Aside0 (spec_NextCodes.l0 kq a1 x6_1 x7_1 a0_0 a0_1 = some (r1, r2)) ∧ Aside0 (kq ≤ k) ∧ Aside0 (Kd.R Kd.string 9 w' w.heap.size (fun _ => True) v6 x6_1) ∧ Aside0 (w'.heap[gb428]? = some (.cells #[.int .i64 a0_0, .int .i64 a0_1] 25 (0, 0))) ∧ Aside0 (Below w.heap.size w w'))
  case atStart => exact ⟨(([] : List ByteArray)), (0), fR, H', ⟨Nat.le_refl _⟩, ⟨by first | exact Kd.R_nil _ _ _ _ _ | exact Kd.N_nil _ _ _ _ _ | exact Kd.V_nil _ _ _ _ _ | exact Kd.Q_nil _ _ _ _ _ | exact Kd.S_nil _ _ _ _ _⟩, ⟨bK⟩, ⟨bG⟩⟩
  case round =>
   clear H'
   try clear p2
   try clear c4
   try clear hcz6_0
   try clear hcz6_1
   try clear hfz6_0
   try clear hfz6_1
   obtain ⟨x6_1, x7_1, rfl, HA, HK1, HO_6, BK428, HB⟩ := hrel
   cases gk with
   | zero => exact absurd HA.out (by simp [spec_NextCodes.l0])
   | succ k1 =>
    have H := HA.out
    clear HA
    simp only [spec_NextCodes.l0] at H
    by_cases c8 : x7_1 < a0_0
    ·rw [if_pos c8] at H
     have c8b0 : decide (x7_1 < a0_0) = true := decide_eq_true c8
     clear c8
     obtain ⟨y430, hy430⟩ : ∃ y_ : List Int, y_ = (([1, (-1)] : List Int)) := ⟨_, rfl⟩
     replace H : (spec_NextCodes.l1 k1 a1 x6_1 x7_1 y430 (y430.length : Int) 0 a0_0 a0_1) = some (r1, r2) := hZ hy430 H
     have Ny430 := Aside0.mk hy430
     clear hy430
     have H' := Aside0.mk H
     clear H
     have hcz9_0 := cZ BK428 0 (.int .i64 a0_0)
     have hcz9_1 := cZ BK428 1 (.int .i64 a0_1)
     have hfz9_0 := blk_frozen BK428.out 0
     have hfz9_1 := blk_frozen BK428.out 1
     go_wp2_with (first | ((with_reducible refine gate_dst (N := 22) rfl ?_); refine Kd.R_lit (Kd.int .i64) _ 3 ?hg (N := 22) ?hd (xs := ([1, (-1)] : List Int)) (inner := [.int .i64 1, .int .i64 (-1)]) (ok := fun _ => True) (okp := fun _ => True) ?hr ?hp (fun _ hk => hk) trivial (Below.refl _ _) (Nat.le_refl _) (by simp) ?_; (case hd => rfl); (case hg => rfl); (case hr => first | (go_simp; done) | (go_simp; rfl)); (case hp => exact (Reps.one (show Kd.M (Kd.int .i64) _ _ _ 1 [.int .i64 1] from rfl) (Reps.one (show Kd.M (Kd.int .i64) _ _ _ (-1) [.int .i64 (-1)] from rfl) (Reps.none _ _)))); intro v431 w10 ho11 hb hg_ hnew_; clear hg_ hnew_; (first | rw [← Ny430.out] at ho11 | (simp only [Int.reduceToNat] at ho11; rw [← Ny430.out] at ho11)); replace HO_6 := Aside0.mk (Kd.R_below (kR HO_6) hb); have HO432 := Aside0.mk (Kd.R_lower ho11 (below_size bG)); replace BK428 := bW BK428 hb; replace HB := Aside0.mk (below_step bG hb); clear hb ho11; obtain ⟨Ao12, co12, eo12⟩ := Kd.R_slice HO432.out; subst eo12))
     go_loopg [6, 24] k1 (fun kq v6 v24 w' => ∃ (x6_2 : List ByteArray) (x24_2 : Int), v24 = .int .i64 x24_2 ∧ Aside0 (spec_NextCodes.l1 kq a1 x6_2 x7_1 y430 (y430.length : Int) x24_2 a0_0 a0_1 = some (r1, r2)) ∧ Aside0 (kq ≤ k1) ∧ Aside0 (Kd.R Kd.string 9 w' w.heap.size (fun _ => True) v6 x6_2) ∧ Aside0 (Kd.R (Kd.int .i64) 3 w' w.heap.size (fun _ => True) (.slice Ao12 y430.length co12) y430) ∧ Aside0 (w'.heap[gb428]? = some (.cells #[.int .i64 a0_0, .int .i64 a0_1] 25 (0, 0))) ∧ Aside0 (Below w.heap.size w w'))
     case atStart => exact ⟨(x6_1), (0), fR, H', ⟨Nat.le_refl _⟩, ⟨kR HO_6⟩, ⟨kR HO432⟩, ⟨bK⟩, ⟨bG⟩⟩
     case round =>
      clear H'
      try clear p2
      try clear c4
      try clear c8
      try clear c8b0
      try clear hcz6_0
      try clear hcz6_1
      try clear hcz9_0
      try clear hcz9_1
      try clear hfz6_0
      try clear hfz6_1
      try clear hfz9_0
      try clear hfz9_1
      try clear p2
      obtain ⟨x6_2, x24_2, rfl, HA, HK2, HO_6, HO_22, BK428, HB⟩ := hrel
      cases gk with
      | zero => exact absurd HA.out (by simp [spec_NextCodes.l1])
      | succ k2 =>
       have H := HA.out
       clear HA
       simp only [spec_NextCodes.l1] at H
       by_cases c13 : x24_2 < (y430.length : Int)
       ·rw [if_pos c13] at H
        have c13b0 : decide (x24_2 < (y430.length : Int)) = true := decide_eq_true c13
        clear c13
        replace H := nz H; obtain ⟨c14, H⟩ := H
        have c14b0 : decide (0 ≤ x24_2) = true := decide_eq_true c14
        clear c14
        replace H := nz H; obtain ⟨c15, H⟩ := H
        have c15b0 : decide (x24_2 < (y430.length : Int)) = true := decide_eq_true c15
        clear c15
        replace H := Option.bind_eq_some_iff.mp H
        obtain ⟨t434, A160, H⟩ := H
        (try dsimp only at H)
        have A16 := Aside0.mk A160
        clear A160
        have H' := Aside0.mk H
        clear H
        have p433 : 0 ≤ (x24_2 : Int) := oD
        have q433 : x24_2 < (y430.length : Int) := oD
        obtain ⟨ad433, e433, hx433_0⟩ := Kd.at_int (Kd.R_reads' HO_22.out).2.2 x24_2 p433 q433
        cases e433
        replace p433 := eq_true p433
        replace q433 := eq_true q433
        have hcz17_0 := cZ BK428 0 (.int .i64 a0_0)
        have hcz17_1 := cZ BK428 1 (.int .i64 a0_1)
        have hfz17_0 := blk_frozen BK428.out 0
        have hfz17_1 := blk_frozen BK428.out 1
        go_wp2_with (first | ((with_reducible refine gate_callee (f := 88) rfl ?_); refine goesL_ (some 33) rfl rfl Tryz.func88 (by kernel_rfl) rfl #[.agg #[.int .i64 a0_0, .int .i64 a0_1], .string a1, .agg #[.int .i64 x7_1, .int .i64 (rd y430 x24_2)]] rfl lM ?_; (with_reducible refine (spec_whMake.calls k2 a0_0 a0_1 a1 x7_1 (rd y430 x24_2) t434 _ A16.out).mono ?_); rintro e w18 ⟨rfl, hb⟩; refine ⟨_, rfl, ?_⟩; replace HO_6 := Aside0.mk (Kd.R_below (kR HO_6) hb); replace HO_22 := Aside0.mk (Kd.R_below (kR HO_22) hb); replace BK428 := bW BK428 hb; replace HB := Aside0.mk (below_step bG hb); (try clear hb)))
        go_loopg [11] k2 (fun kq v11 w' => ∃ (x11_3 : Int), v11 = .int .i64 x11_3 ∧ Aside0 (spec_NextCodes.l2 kq a1 x6_2 x7_1 t434 x11_3 y430 (y430.length : Int) x24_2 a0_0 a0_1 = some (r1, r2)) ∧ Aside0 (kq ≤ k2) ∧ Aside0 (Kd.R Kd.string 9 w' w.heap.size (fun _ => True) u6 x6_2) ∧ Aside0 (Kd.R (Kd.int .i64) 3 w' w.heap.size (fun _ => True) (.slice (some ad433) y430.length co12) y430) ∧ Aside0 (w'.heap[gb428]? = some (.cells #[.int .i64 a0_0, .int .i64 a0_1] 25 (0, 0))) ∧ Aside0 (Below w.heap.size w w'))
        case atStart => exact ⟨(0), fR, H', ⟨Nat.le_refl _⟩, ⟨kR HO_6⟩, ⟨kR HO_22⟩, ⟨bK⟩, ⟨bG⟩⟩
        case round =>
         clear H'
         try clear c1
         try clear p2
         try clear c4
         try clear p4
         try clear q4
         try clear hx4
         try clear c8
         try clear c8b0
         try clear c13
         try clear c13b0
         try clear c14
         try clear c14b0
         try clear c15
         try clear c15b0
         try clear hcz17_0
         try clear hcz17_1
         try clear hcz6_0
         try clear hcz6_1
         try clear hcz9_0
         try clear hcz9_1
         try clear hfz17_0
         try clear hfz17_1
         try clear hfz6_0
         try clear hfz6_1
         try clear hfz9_0
         try clear hfz9_1
         try clear hx433_0
         try clear p2
         try clear p433
         try clear q433
         obtain ⟨x11_3, rfl, HA, HK3, HO_6, HO_22, BK428, HB⟩ := hrel
         cases gk with
         | zero => exact absurd HA.out (by simp [spec_NextCodes.l2])
         | succ k3 =>
          have H := HA.out
          clear HA
          simp only [spec_NextCodes.l2] at H
          by_cases c19 : x11_3 < (x6_2.length : Int)
          ·rw [if_pos c19] at H
           have c19b0 : decide (x11_3 < (x6_2.length : Int)) = true := decide_eq_true c19
           clear c19
           replace H := nz H; obtain ⟨c20, H⟩ := H
           have c20b0 : decide (0 ≤ x11_3) = true := decide_eq_true c20
           clear c20
           by_cases c21 : (Op.bytesLess ((rdOf ByteArray.empty x6_2 x11_3).toList) t434.toList) = true
           ·rw [if_pos c21] at H
            have c21b0 : (Op.bytesLess ((rdOf ByteArray.empty x6_2 x11_3).toList) t434.toList) = true := c21
            clear c21
            have H' := Aside0.mk H
            clear H
            obtain ⟨Ao22, co22, eo22⟩ := Kd.R_slice HO_6.out
            subst eo22
            have p435 : 0 ≤ (x11_3 : Int) := oD
            have q435 : x11_3 < (x6_2.length : Int) := oD
            obtain ⟨ad435, e435, hx435_0⟩ := Kd.at_string (Kd.R_reads' HO_6.out).2.2 x11_3 p435 q435
            cases e435
            replace p435 := eq_true p435
            replace q435 := eq_true q435
            go_wp2
            go_roundg k3
            case measure => have := HK1.out; have := HK2.out; have := HK3.out; omega
            case rel => exact ⟨(wrap64 (x11_3 + 1)), fR, H', ⟨by have := HK1.out; have := HK2.out; have := HK3.out; omega⟩, ⟨kR HO_6⟩, ⟨kR HO_22⟩, ⟨bK⟩, ⟨bG⟩⟩
           ·rw [if_neg c21] at H
            have c21b0 : (Op.bytesLess ((rdOf ByteArray.empty x6_2 x11_3).toList) t434.toList) = false := by simpa using c21
            clear c21
            by_cases c23 : x11_3 = (x6_2.length : Int)
            ·rw [if_pos c23] at H
             have c23b0 : (x11_3 == (x6_2.length : Int)) = true := beq_iff_eq.mpr c23
             have c23b1 : (x11_3 != (x6_2.length : Int)) = false := bne_eq_false_iff_eq.mpr c23
             clear c23
             obtain ⟨y436, hy436⟩ : ∃ y_ : List ByteArray, y_ = (([] : List ByteArray)) := ⟨_, rfl⟩
             replace H : (if x11_3 ≤ (x6_2.length : Int) then ((some (x6_2.take (x11_3 : Int).toNat : List ByteArray)).bind fun y439 => (if y436.length + y439.length < 8796093022208 then ((some (y436 ++ y439 : List ByteArray)).bind fun y443 => ((some (([t434] : List ByteArray) : List ByteArray)).bind fun y446 => (if y443.length + y446.length < 8796093022208 then ((some (y443 ++ y446 : List ByteArray)).bind fun y449 => ((some (x6_2.drop (x11_3 : Int).toNat : List ByteArray)).bind fun y452 => (if y449.length + y452.length < 8796093022208 then (spec_NextCodes.l1 k3 a1 (y449 ++ y452) x7_1 y430 (y430.length : Int) (wrap64 (x24_2 + 1)) a0_0 a0_1) else (none)))) else (none)))) else (none))) else (none)) = some (r1, r2) := hZ hy436 H
             have Ny436 := Aside0.mk hy436
             clear hy436
             have c24b0 := eq_true (oD : 0 ≤ x11_3)
             replace H := nz H; obtain ⟨c25, H⟩ := H
             have c25b0 := eq_true c25
             have c25b1 : decide (x11_3 ≤ (x6_2.length : Int)) = true := decide_eq_true c25
             clear c25
             obtain ⟨y439, hy439⟩ : ∃ y_ : List ByteArray, y_ = (x6_2.take (x11_3 : Int).toNat) := ⟨_, rfl⟩
             replace H : (if y436.length + y439.length < 8796093022208 then ((some (y436 ++ y439 : List ByteArray)).bind fun y443 => ((some (([t434] : List ByteArray) : List ByteArray)).bind fun y446 => (if y443.length + y446.length < 8796093022208 then ((some (y443 ++ y446 : List ByteArray)).bind fun y449 => ((some (x6_2.drop (x11_3 : Int).toNat : List ByteArray)).bind fun y452 => (if y449.length + y452.length < 8796093022208 then (spec_NextCodes.l1 k3 a1 (y449 ++ y452) x7_1 y430 (y430.length : Int) (wrap64 (x24_2 + 1)) a0_0 a0_1) else (none)))) else (none)))) else (none)) = some (r1, r2) := hZ hy439 H
             have Ny439 := Aside0.mk hy439
             clear hy439
             replace H := nz H; obtain ⟨c26, H⟩ := H
             have LMc26 := Aside0.mk c26
             clear c26
             obtain ⟨y443, hy443⟩ : ∃ y_ : List ByteArray, y_ = (y436 ++ y439) := ⟨_, rfl⟩
             replace H : ((some (([t434] : List ByteArray) : List ByteArray)).bind fun y446 => (if y443.length + y446.length < 8796093022208 then ((some (y443 ++ y446 : List ByteArray)).bind fun y449 => ((some (x6_2.drop (x11_3 : Int).toNat : List ByteArray)).bind fun y452 => (if y449.length + y452.length < 8796093022208 then (spec_NextCodes.l1 k3 a1 (y449 ++ y452) x7_1 y430 (y430.length : Int) (wrap64 (x24_2 + 1)) a0_0 a0_1) else (none)))) else (none))) = some (r1, r2) := hZ hy443 H
             have Ny443 := Aside0.mk hy443
             clear hy443
             obtain ⟨y446, hy446⟩ : ∃ y_ : List ByteArray, y_ = (([t434] : List ByteArray)) := ⟨_, rfl⟩
             replace H : (if y443.length + y446.length < 8796093022208 then ((some (y443 ++ y446 : List ByteArray)).bind fun y449 => ((some (x6_2.drop (x11_3 : Int).toNat : List ByteArray)).bind fun y452 => (if y449.length + y452.length < 8796093022208 then (spec_NextCodes.l1 k3 a1 (y449 ++ y452) x7_1 y430 (y430.length : Int) (wrap64 (x24_2 + 1)) a0_0 a0_1) else (none)))) else (none)) = some (r1, r2) := hZ hy446 H
             have Ny446 := Aside0.mk hy446
             clear hy446
             replace H := nz H; obtain ⟨c27, H⟩ := H
             have LMc27 := Aside0.mk c27
             clear c27
             obtain ⟨y449, hy449⟩ : ∃ y_ : List ByteArray, y_ = (y443 ++ y446) := ⟨_, rfl⟩
             replace H : ((some (x6_2.drop (x11_3 : Int).toNat : List ByteArray)).bind fun y452 => (if y449.length + y452.length < 8796093022208 then (spec_NextCodes.l1 k3 a1 (y449 ++ y452) x7_1 y430 (y430.length : Int) (wrap64 (x24_2 + 1)) a0_0 a0_1) else (none))) = some (r1, r2) := hZ hy449 H
             have Ny449 := Aside0.mk hy449
             clear hy449
             have c28b0 := eq_true (oD : 0 ≤ x11_3)
             have c29b0 := eq_true (oD : x11_3 ≤ (x6_2.length : Int))
             obtain ⟨y452, hy452⟩ : ∃ y_ : List ByteArray, y_ = (x6_2.drop (x11_3 : Int).toNat) := ⟨_, rfl⟩
             replace H : (if y449.length + y452.length < 8796093022208 then (spec_NextCodes.l1 k3 a1 (y449 ++ y452) x7_1 y430 (y430.length : Int) (wrap64 (x24_2 + 1)) a0_0 a0_1) else (none)) = some (r1, r2) := hZ hy452 H
             have Ny452 := Aside0.mk hy452
             clear hy452
             replace H := nz H; obtain ⟨c30, H⟩ := H
             have LMc30 := Aside0.mk c30
             clear c30
             obtain ⟨y456, hy456⟩ : ∃ y_ : List ByteArray, y_ = (y449 ++ y452) := ⟨_, rfl⟩
             replace H : (spec_NextCodes.l1 k3 a1 y456 x7_1 y430 (y430.length : Int) (wrap64 (x24_2 + 1)) a0_0 a0_1) = some (r1, r2) := hZ hy456 H
             have Ny456 := Aside0.mk hy456
             clear hy456
             have H' := Aside0.mk H
             clear H
             obtain ⟨Ao31, co31, eo31⟩ := Kd.R_slice HO_6.out
             subst eo31
             have p435 : 0 ≤ (x11_3 : Int) := oD
             have q435 : x11_3 < (x6_2.length : Int) := oD
             obtain ⟨ad435, e435, hx435_0⟩ := Kd.at_string (Kd.R_reads' HO_6.out).2.2 x11_3 p435 q435
             cases e435
             replace p435 := eq_true p435
             replace q435 := eq_true q435
             try go_wp2
             have n0_ := Aside0.mk (Kd.R_drew HO_6.out)
             have n1_ := Aside0.mk (Kd.R_drew HO_22.out)
             have n2_ := Aside0.mk (blk_drew BK428.out)
             have n3_ := Aside0.mk (below_drew1 HB.out)
             clear HO_6
             clear HO_22
             clear BK428
             clear HB
             have HO_6 := n0_
             have HO_22 := n1_
             have BK428 := n2_
             have HB := n3_
             clear n0_ n1_ n2_ n3_
             have q33 : (x11_3 : Int) ≤ ((x6_2.length : Int) : Int) := oD
             obtain ⟨i033, hi033, _, hsz33, _⟩ := info_parts info9
             have hroom33 : x6_2.length ≤ co31 := (Kd.R_reads' HO_6.out).2.1
             have hC33 : Kd.C Kd.string _ (some ad435) x6_2.length x6_2 := (Kd.R_reads' HO_6.out).2.2
             have hcut33 := cut_to (P := Tryz.prog) 26 9 .i64 Tryz.underlying26 hi033 (some ad435) x6_2.length co31 x11_3 (oD) q33 hroom33
             have hr33 := Kd.C_take (m := (x11_3 : Int).toNat) hC33 (by omega)
             have hy33 : y439.length = (x11_3 : Int).toNat := (by rw [Ny439.out, List.length_take]; omega)
             rw [← Ny439.out] at hr33
             rw [← hy33] at hcut33
             have HR442 := Aside0.mk hr33
             have HC442 := Aside0.mk (show y439.length ≤ co31 from by omega)
             clear hr33 hC33 hroom33 hi033 hsz33
             have KY33 := Aside0.mk hy33
             clear hy33
             have KL33 := Aside0.mk (show (x11_3 : Int).toNat ≤ x6_2.length from by omega)
             replace q33 := eq_true q33
             have q34 : (x11_3 : Int) ≤ ((x6_2.length : Int) : Int) := oD
             obtain ⟨i034, hi034, _, hsz34, _⟩ := info_parts info9
             have hroom34 : x6_2.length ≤ co31 := (Kd.R_reads' HO_6.out).2.1
             have hC34 : Kd.C Kd.string _ (some ad435) x6_2.length x6_2 := (Kd.R_reads' HO_6.out).2.2
             have q034 : (0 : Int) ≤ (x11_3 : Int) := oD
             have hcut34 := cut_from (P := Tryz.prog) 26 9 .i64 Tryz.underlying26 hi034 1 hsz34 (some ad435) x6_2.length co31 x11_3 q034 q34
             have hr34 := Kd.C_drop (m := (x11_3 : Int).toNat) (c := co31) hC34 (by omega) hroom34
             obtain ⟨A34, hA34⟩ : ∃ A_, A_ = (if co31 = (x11_3 : Int).toNat then (some ad435) else ((some ad435) : Option Addr).map (·.add ((x11_3 : Int).toNat * 1))) := ⟨_, rfl⟩
             obtain ⟨c34, hc34⟩ : ∃ c1, c1 = co31 - (x11_3 : Int).toNat := ⟨_, rfl⟩
             have hy34 : y452.length = x6_2.length - (x11_3 : Int).toNat := (by rw [Ny452.out, List.length_drop] <;> omega)
             rw [show (x6_2).drop (x11_3 : Int).toNat = y452 from Ny452.out.symm] at hr34
             replace hr34 : Kd.C Kd.string _ A34 y452.length y452 := (by rw [hA34]; exact hr34)
             rw [← hy34, ← hA34, ← hc34] at hcut34
             have HR455 := Aside0.mk hr34
             have HC455 := Aside0.mk (show y452.length ≤ c34 from by rw [hy34, hc34]; exact Nat.sub_le_sub_right hroom34 _)
             clear hr34 hC34 hroom34 hi034 hsz34 hc34
             have KY34 := Aside0.mk hy34
             have KA34 := Aside0.mk hA34
             clear hy34 hA34
             have KL34 := Aside0.mk (show (x11_3 : Int).toNat ≤ x6_2.length from by omega)
             replace q34 := eq_true q34
             refine start_ (n := 13) (S := fun w' => True) (ds := []) #[false, false, false, false, false, false, false, false, false, false, false, false, false] (by kernel_rfl) rfl rfl trivial (fun hHeld => ?_); refine with_tabW spec_NextCodes.tab15 spec_NextCodes.bits15 (fun HT_ HW_ => ?_)
             generalize wr.drew = w32 at HO_6 HO_22 BK428 HB HR442 HR455 hHeld ⊢
             refine pU (i := 1) (N := some 61) ?_
             refine pU (i := 2) (N := some 62) ?_
             refine pU (i := 3) (N := some 63) ?_
             refine pU (i := 5) (N := some 65) ?_
             refine pU (i := 8) (N := some 68) ?_
             refine pU (i := 9) (N := some 69) ?_
             refine pU (i := 10) (N := some 70) ?_
             refine join_ (σ := Value × Value × Value) 3 #[true, true, true, true, true, true, true, false, true, true, true, false, false] (fun s_ => [(60, s_.1), (64, s_.2.1), (66, s_.2.2)]) (fun s_ w' => (Kd.R Kd.string 9 w' w.heap.size (fun k_ => some k_ ≠ (s_.2.2 : Value).ownBlock ∧ some k_ ≠ (.slice (some ad435) x6_2.length co31 : Value).ownBlock) s_.2.1 y443) ∧ (Kd.R Kd.string 9 w' w.heap.size (fun k_ => some k_ ≠ (s_.2.1 : Value).ownBlock ∧ some k_ ≠ (.slice (some ad435) x6_2.length co31 : Value).ownBlock) s_.2.2 y446) ∧ (Kd.R (Kd.int .i64) 3 w' w.heap.size (fun _ => True) (.slice (some ad433) y430.length co12) y430) ∧ (Kd.R Kd.string 9 w' w.heap.size (fun k_ => some k_ ≠ (s_.2.1 : Value).ownBlock ∧ some k_ ≠ (s_.2.2 : Value).ownBlock) (.slice (some ad435) x6_2.length co31) x6_2) ∧ (w'.heap[gb428]? = some (.cells #[.int .i64 a0_0, .int .i64 a0_1] 25 (0, 0))) ∧ (Below w.heap.size w w')) ?_ ?_
             rotate_left
             ·intro hCont
              refine two_ (i := 0) (j := 6) (Ni := some 60) (Nj := some 66) #[true, true, true, true, false, true, false, false, true, true, true, false, false] #[false, true, true, true, false, true, true, false, true, true, true, false, false] rfl rfl rfl rfl (two_of HT_.out (by kernel_rfl)) (by decide) (by decide) (fun K hK => ?_) (fun K hK => ?_)
              ·skip
               refine Kd.R_lit_step Kd.string _ 9 ?hg (N := 60) ?hd (xs := ([] : List ByteArray)) (inner := []) (ok := fun _ => True) (okp := fun _ => True) ?hr ?hp (fun _ hk => hk) trivial (Below.refl _ _) (Nat.le_refl _) (by simp) ?_; (case hd => rfl); (case hg => rfl); (case hr => first | (go_simp; done) | (go_simp; rfl)); (case hp => exact (Reps.none _ _))
               intro v437 w35 ho36 hb hg_ hnew_
               clear hg_ hnew_
               (first | rw [← Ny436.out] at ho36 | (simp only [Int.reduceToNat] at ho36; rw [← Ny436.out] at ho36))
               have n0_ := Aside0.mk (Kd.R_elder' (kR HO_6) (Kd.R_base ho36) hb)
               have n1_ := Aside0.mk (Kd.R_below (kR HO_22) hb)
               have n2_ := Aside0.mk (Kd.R_lower (Kd.R_new' ho36 (Kd.R_lt (kR HO_6))) (below_size bG))
               have n3_ := Aside0.mk (blk_below (g := gb428) (o := .cells #[.int .i64 a0_0, .int .i64 a0_1] 25 (0, 0)) bK hb)
               have n4_ := Aside0.mk (Kd.C_below (by repeat (first | (with_reducible exact HR442.out) | (with_reducible refine Kd.C_alloc ?_ _) | (with_reducible refine Kd.C_drewN ?_ _) | (with_reducible refine Kd.C_drew ?_) | exact HR442.out)) hb)
               have n5_ := Aside0.mk (Kd.C_below (by repeat (first | (with_reducible exact HR455.out) | (with_reducible refine Kd.C_alloc ?_ _) | (with_reducible refine Kd.C_drewN ?_ _) | (with_reducible refine Kd.C_drew ?_) | exact HR455.out)) hb)
               have n6_ := Aside0.mk (below_step bG hb)
               clear HO_6
               clear HO_22
               clear BK428
               clear HR442
               clear HR455
               clear HB
               have HO_6 := n0_
               have HO_22 := n1_
               have HO438 := n2_
               have BK428 := n3_
               have HR442 := n4_
               have HR455 := n5_
               have HB := n6_
               clear n0_ n1_ n2_ n3_ n4_ n5_ n6_
               clear hb ho36
               refine hK.out _ _ trivial (fun hHeld => ?_)
               clear hK K
               refine nU (some 60) ?_
               refine two_ (i := 4) (j := 6) (Ni := some 64) (Nj := some 66) #[true, true, true, true, true, true, false, false, true, true, true, false, false] #[true, true, true, true, false, true, true, false, true, true, true, false, false] rfl rfl rfl rfl (two_of HT_.out (by kernel_rfl)) (by decide) (by decide) (fun K hK => ?_) (fun K hK => ?_)
               ·skip
                refine Kd.R_append_rows_step Kd.string (w0 := w) w.heap.size (by rfl) (.tmp 60) (.tmp 63) 26 9 (.string ⟨#[]⟩) 16 rfl Tryz.underlying26 info9 rfl (by decide) (by omega) v437 y436 y439 _ _ _ (fun k_ => some k_ ≠ (.slice (some ad435) x6_2.length co31 : Value).ownBlock) (fun _ => False) rfl rfl ?aO ?aR (fun _ _ h => h) (fun _ h => h.elim) ?aF ?aB ?aS ?aL ?_
                (case aR => repeat (first | exact (by repeat (first | (with_reducible exact HR442.out) | (with_reducible refine Kd.C_alloc ?_ _) | (with_reducible refine Kd.C_drewN ?_ _) | (with_reducible refine Kd.C_drew ?_) | exact HR442.out)) | (with_reducible refine Kd.C_alloc ?_ _) | (with_reducible refine Kd.C_drewN ?_ _) | (with_reducible refine Kd.C_drew ?_)))
                (case aB => exact bG)
                (case aF => exact (fun k_ hk => Kd.fresh' (Kd.R_lt (kR HO_6)) k_ hk))
                (case aO => exact (by (with_reducible repeat (first | apply Kd.R_alloc | apply Kd.R_drewN | apply Kd.R_drew)); exact Kd.R_mono HO438.out (fun _ hk => hk.2)))
                (case aS => exact (below_size bG))
                (case aL => have := LMc26.out; omega)
                intro v444 w37 ho hb hg hat
                rw [← Ny443.out] at ho
                have n0_ := Aside0.mk (Kd.R_after (ok := (fun _ => True)) (kR HO_6) hg hat)
                have n1_ := Aside0.mk (Kd.R_over' (kR HO_22) (Kd.R_typed (kR HO438)) (by decide) hg)
                have n2_ := Aside0.mk (blk_grown (g := gb428) (o := .cells #[.int .i64 a0_0, .int .i64 a0_1] 25 (0, 0)) bK hg (Kd.R_ne HO438.out BK428.out (by decide)))
                have n3_ := Aside0.mk (hb)
                have n4_ := Aside0.mk ((show Kd.C Kd.string w37 (some ad435) y439.length y439 from by rw [Ny439.out]; exact Kd.C_take (m := (x11_3 : Int).toNat) ((Kd.R_reads' (Kd.R_after (ok := (fun _ => True)) (kR HO_6) hg hat)).2.2) KL33.out))
                have n5_ := Aside0.mk ((show Kd.C Kd.string w37 A34 y452.length y452 from by rw [Ny452.out, KA34.out]; exact Kd.C_drop (m := (x11_3 : Int).toNat) (c := co31) ((Kd.R_reads' (Kd.R_after (ok := (fun _ => True)) (kR HO_6) hg hat)).2.2) KL34.out ((Kd.R_reads' (Kd.R_after (ok := (fun _ => True)) (kR HO_6) hg hat)).2.1)))
                have n6_ := Aside0.mk (ho)
                clear HO_6
                clear HO_22
                clear BK428
                clear HB
                clear HR442
                clear HR455
                clear HO438
                have HO_6 := n0_
                have HO_22 := n1_
                have BK428 := n2_
                have HB := n3_
                have HR442 := n4_
                have HR455 := n5_
                have HO445 := n6_
                clear n0_ n1_ n2_ n3_ n4_ n5_ n6_
                clear ho hb hg hat
                refine hK.out _ _ trivial (fun hHeld => ?_)
                clear hK K
                refine nU (some 64) ?_
                refine oU (i := 6) (N := some 66) (fun K hK => ?_)
                refine Kd.R_lit_step Kd.string _ 9 ?hg (N := 66) ?hd (xs := ([t434] : List ByteArray)) (inner := [.string t434]) (ok := fun _ => True) (okp := fun _ => True) ?hr ?hp (fun _ hk => hk) trivial (Below.refl _ _) (Nat.le_refl _) (by simp) ?_; (case hd => rfl); (case hg => rfl); (case hr => first | (go_simp; done) | (go_simp; rfl)); (case hp => exact (Reps.one (show Kd.M Kd.string _ _ _ t434 [.string t434] from rfl) (Reps.none _ _)))
                intro v447 w38 ho39 hb hg_ hnew_
                clear hg_ hnew_
                (first | rw [← Ny446.out] at ho39 | (simp only [Int.reduceToNat] at ho39; rw [← Ny446.out] at ho39))
                have n0_ := Aside0.mk (Kd.R_elder' (kR HO_6) (Kd.R_base ho39) hb)
                have n1_ := Aside0.mk (Kd.R_below (kR HO_22) hb)
                have n2_ := Aside0.mk (Kd.R_elder' (kR HO445) (Kd.R_base ho39) hb)
                have n3_ := Aside0.mk (Kd.R_lower (Kd.R_new' (Kd.R_new' ho39 (Kd.R_lt (kR HO_6))) (Kd.R_lt (kR HO445))) (below_size bG))
                have n4_ := Aside0.mk (blk_below (g := gb428) (o := .cells #[.int .i64 a0_0, .int .i64 a0_1] 25 (0, 0)) bK hb)
                have n5_ := Aside0.mk (Kd.C_below (by repeat (first | (with_reducible exact HR442.out) | (with_reducible refine Kd.C_alloc ?_ _) | (with_reducible refine Kd.C_drewN ?_ _) | (with_reducible refine Kd.C_drew ?_) | exact HR442.out)) hb)
                have n6_ := Aside0.mk (Kd.C_below (by repeat (first | (with_reducible exact HR455.out) | (with_reducible refine Kd.C_alloc ?_ _) | (with_reducible refine Kd.C_drewN ?_ _) | (with_reducible refine Kd.C_drew ?_) | exact HR455.out)) hb)
                have n7_ := Aside0.mk (below_step bG hb)
                clear HO_6
                clear HO_22
                clear HO445
                clear BK428
                clear HR442
                clear HR455
                clear HB
                have HO_6 := n0_
                have HO_22 := n1_
                have HO445 := n2_
                have HO448 := n3_
                have BK428 := n4_
                have HR442 := n5_
                have HR455 := n6_
                have HB := n7_
                clear n0_ n1_ n2_ n3_ n4_ n5_ n6_ n7_
                clear hb ho39
                refine hK.out _ _ trivial (fun hHeld => ?_)
                clear hK K
                refine nU (some 66) ?_
                exact norm_ (by simp only [putAll, Act.put, List.setIfInBounds_toArray, List.set_cons_zero, List.set_cons_succ]) (hCont (v437, v444, v447) _ ⟨(by (with_reducible repeat (first | apply Kd.R_alloc | apply Kd.R_drewN | apply Kd.R_drew)); exact Kd.R_mono HO445.out (fun _ hk => ⟨hk.2, hk.1⟩)), (by (with_reducible repeat (first | apply Kd.R_alloc | apply Kd.R_drewN | apply Kd.R_drew)); exact Kd.R_mono HO448.out (fun _ hk => ⟨hk.2, hk.1.2⟩)), (kR HO_22), (by (with_reducible repeat (first | apply Kd.R_alloc | apply Kd.R_drewN | apply Kd.R_drew)); exact Kd.R_mono HO_6.out (fun _ hk => ⟨hk.1.2, hk.2⟩)), bK, bG⟩)
               ·skip
                refine Kd.R_lit_step Kd.string _ 9 ?hg (N := 66) ?hd (xs := ([t434] : List ByteArray)) (inner := [.string t434]) (ok := fun _ => True) (okp := fun _ => True) ?hr ?hp (fun _ hk => hk) trivial (Below.refl _ _) (Nat.le_refl _) (by simp) ?_; (case hd => rfl); (case hg => rfl); (case hr => first | (go_simp; done) | (go_simp; rfl)); (case hp => exact (Reps.one (show Kd.M Kd.string _ _ _ t434 [.string t434] from rfl) (Reps.none _ _)))
                intro v447 w37 ho38 hb hg_ hnew_
                clear hg_ hnew_
                (first | rw [← Ny446.out] at ho38 | (simp only [Int.reduceToNat] at ho38; rw [← Ny446.out] at ho38))
                have n0_ := Aside0.mk (Kd.R_elder' (kR HO_6) (Kd.R_base ho38) hb)
                have n1_ := Aside0.mk (Kd.R_below (kR HO_22) hb)
                have n2_ := Aside0.mk (Kd.R_elder' (kR HO438) (Kd.R_base ho38) hb)
                have n3_ := Aside0.mk (Kd.R_lower (Kd.R_new' (Kd.R_new' ho38 (Kd.R_lt (kR HO_6))) (Kd.R_lt (kR HO438))) (below_size bG))
                have n4_ := Aside0.mk (blk_below (g := gb428) (o := .cells #[.int .i64 a0_0, .int .i64 a0_1] 25 (0, 0)) bK hb)
                have n5_ := Aside0.mk (Kd.C_below (by repeat (first | (with_reducible exact HR442.out) | (with_reducible refine Kd.C_alloc ?_ _) | (with_reducible refine Kd.C_drewN ?_ _) | (with_reducible refine Kd.C_drew ?_) | exact HR442.out)) hb)
                have n6_ := Aside0.mk (Kd.C_below (by repeat (first | (with_reducible exact HR455.out) | (with_reducible refine Kd.C_alloc ?_ _) | (with_reducible refine Kd.C_drewN ?_ _) | (with_reducible refine Kd.C_drew ?_) | exact HR455.out)) hb)
                have n7_ := Aside0.mk (below_step bG hb)
                clear HO_6
                clear HO_22
                clear HO438
                clear BK428
                clear HR442
                clear HR455
                clear HB
                have HO_6 := n0_
                have HO_22 := n1_
                have HO438 := n2_
                have HO448 := n3_
                have BK428 := n4_
                have HR442 := n5_
                have HR455 := n6_
                have HB := n7_
                clear n0_ n1_ n2_ n3_ n4_ n5_ n6_ n7_
                clear hb ho38
                refine hK.out _ _ trivial (fun hHeld => ?_)
                clear hK K
                refine nU (some 66) ?_
                refine oU (i := 4) (N := some 64) (fun K hK => ?_)
                refine Kd.R_append_rows_step Kd.string (w0 := w) w.heap.size (by rfl) (.tmp 60) (.tmp 63) 26 9 (.string ⟨#[]⟩) 16 rfl Tryz.underlying26 info9 rfl (by decide) (by omega) v437 y436 y439 _ _ _ (fun k_ => some k_ ≠ (.slice (some ad435) x6_2.length co31 : Value).ownBlock ∧ some k_ ≠ (v447 : Value).ownBlock) (fun _ => False) rfl rfl ?aO ?aR (fun _ _ h => h) (fun _ h => h.elim) ?aF ?aB ?aS ?aL ?_
                (case aR => repeat (first | exact (by repeat (first | (with_reducible exact HR442.out) | (with_reducible refine Kd.C_alloc ?_ _) | (with_reducible refine Kd.C_drewN ?_ _) | (with_reducible refine Kd.C_drew ?_) | exact HR442.out)) | (with_reducible refine Kd.C_alloc ?_ _) | (with_reducible refine Kd.C_drewN ?_ _) | (with_reducible refine Kd.C_drew ?_)))
                (case aB => exact bG)
                (case aF => exact (fun k_ hk => ⟨Kd.fresh' (Kd.R_lt (kR HO_6)) k_ hk, Kd.fresh' (Kd.R_lt (kR HO448)) k_ hk⟩))
                (case aO => exact (by (with_reducible repeat (first | apply Kd.R_alloc | apply Kd.R_drewN | apply Kd.R_drew)); exact Kd.R_mono HO438.out (fun _ hk => ⟨hk.1.2, hk.2⟩)))
                (case aS => exact (below_size bG))
                (case aL => have := LMc26.out; omega)
                intro v444 w39 ho hb hg hat
                rw [← Ny443.out] at ho
                have n0_ := Aside0.mk (Kd.R_after (ok := (fun k_ => some k_ ≠ (v447 : Value).ownBlock)) (by (with_reducible repeat (first | apply Kd.R_alloc | apply Kd.R_drewN | apply Kd.R_drew)); exact Kd.R_mono HO_6.out (fun _ hk => ⟨hk.2, hk.1.2⟩)) hg hat)
                have n1_ := Aside0.mk (Kd.R_over' (kR HO_22) (Kd.R_typed (kR HO438)) (by decide) hg)
                have n2_ := Aside0.mk (blk_grown (g := gb428) (o := .cells #[.int .i64 a0_0, .int .i64 a0_1] 25 (0, 0)) bK hg (Kd.R_ne HO438.out BK428.out (by decide)))
                have n3_ := Aside0.mk (Kd.R_after (ok := (fun k_ => some k_ ≠ (.slice (some ad435) x6_2.length co31 : Value).ownBlock)) (by (with_reducible repeat (first | apply Kd.R_alloc | apply Kd.R_drewN | apply Kd.R_drew)); exact Kd.R_mono HO448.out (fun _ hk => ⟨hk.1.2, hk.2⟩)) hg hat)
                have n4_ := Aside0.mk (hb)
                have n5_ := Aside0.mk ((show Kd.C Kd.string w39 (some ad435) y439.length y439 from by rw [Ny439.out]; exact Kd.C_take (m := (x11_3 : Int).toNat) ((Kd.R_reads' (Kd.R_after (ok := (fun k_ => some k_ ≠ (v447 : Value).ownBlock)) (by (with_reducible repeat (first | apply Kd.R_alloc | apply Kd.R_drewN | apply Kd.R_drew)); exact Kd.R_mono HO_6.out (fun _ hk => ⟨hk.2, hk.1.2⟩)) hg hat)).2.2) KL33.out))
                have n6_ := Aside0.mk ((show Kd.C Kd.string w39 A34 y452.length y452 from by rw [Ny452.out, KA34.out]; exact Kd.C_drop (m := (x11_3 : Int).toNat) (c := co31) ((Kd.R_reads' (Kd.R_after (ok := (fun k_ => some k_ ≠ (v447 : Value).ownBlock)) (by (with_reducible repeat (first | apply Kd.R_alloc | apply Kd.R_drewN | apply Kd.R_drew)); exact Kd.R_mono HO_6.out (fun _ hk => ⟨hk.2, hk.1.2⟩)) hg hat)).2.2) KL34.out ((Kd.R_reads' (Kd.R_after (ok := (fun k_ => some k_ ≠ (v447 : Value).ownBlock)) (by (with_reducible repeat (first | apply Kd.R_alloc | apply Kd.R_drewN | apply Kd.R_drew)); exact Kd.R_mono HO_6.out (fun _ hk => ⟨hk.2, hk.1.2⟩)) hg hat)).2.1)))
                have n7_ := Aside0.mk (ho)
                clear HO_6
                clear HO_22
                clear BK428
                clear HO448
                clear HB
                clear HR442
                clear HR455
                clear HO438
                have HO_6 := n0_
                have HO_22 := n1_
                have BK428 := n2_
                have HO448 := n3_
                have HB := n4_
                have HR442 := n5_
                have HR455 := n6_
                have HO445 := n7_
                clear n0_ n1_ n2_ n3_ n4_ n5_ n6_ n7_
                clear ho hb hg hat
                refine hK.out _ _ trivial (fun hHeld => ?_)
                clear hK K
                refine nU (some 64) ?_
                exact norm_ (by simp only [putAll, Act.put, List.setIfInBounds_toArray, List.set_cons_zero, List.set_cons_succ]) (hCont (v437, v444, v447) _ ⟨(by (with_reducible repeat (first | apply Kd.R_alloc | apply Kd.R_drewN | apply Kd.R_drew)); exact Kd.R_mono HO445.out (fun _ hk => ⟨hk.2, hk.1⟩)), (by (with_reducible repeat (first | apply Kd.R_alloc | apply Kd.R_drewN | apply Kd.R_drew)); exact Kd.R_mono HO448.out (fun _ hk => ⟨hk.2, hk.1⟩)), (kR HO_22), (by (with_reducible repeat (first | apply Kd.R_alloc | apply Kd.R_drewN | apply Kd.R_drew)); exact Kd.R_mono HO_6.out (fun _ hk => ⟨hk.2, hk.1⟩)), bK, bG⟩)
              ·skip
               refine Kd.R_lit_step Kd.string _ 9 ?hg (N := 66) ?hd (xs := ([t434] : List ByteArray)) (inner := [.string t434]) (ok := fun _ => True) (okp := fun _ => True) ?hr ?hp (fun _ hk => hk) trivial (Below.refl _ _) (Nat.le_refl _) (by simp) ?_; (case hd => rfl); (case hg => rfl); (case hr => first | (go_simp; done) | (go_simp; rfl)); (case hp => exact (Reps.one (show Kd.M Kd.string _ _ _ t434 [.string t434] from rfl) (Reps.none _ _)))
               intro v447 w35 ho36 hb hg_ hnew_
               clear hg_ hnew_
               (first | rw [← Ny446.out] at ho36 | (simp only [Int.reduceToNat] at ho36; rw [← Ny446.out] at ho36))
               have n0_ := Aside0.mk (Kd.R_elder' (kR HO_6) (Kd.R_base ho36) hb)
               have n1_ := Aside0.mk (Kd.R_below (kR HO_22) hb)
               have n2_ := Aside0.mk (Kd.R_lower (Kd.R_new' ho36 (Kd.R_lt (kR HO_6))) (below_size bG))
               have n3_ := Aside0.mk (blk_below (g := gb428) (o := .cells #[.int .i64 a0_0, .int .i64 a0_1] 25 (0, 0)) bK hb)
               have n4_ := Aside0.mk (Kd.C_below (by repeat (first | (with_reducible exact HR442.out) | (with_reducible refine Kd.C_alloc ?_ _) | (with_reducible refine Kd.C_drewN ?_ _) | (with_reducible refine Kd.C_drew ?_) | exact HR442.out)) hb)
               have n5_ := Aside0.mk (Kd.C_below (by repeat (first | (with_reducible exact HR455.out) | (with_reducible refine Kd.C_alloc ?_ _) | (with_reducible refine Kd.C_drewN ?_ _) | (with_reducible refine Kd.C_drew ?_) | exact HR455.out)) hb)
               have n6_ := Aside0.mk (below_step bG hb)
               clear HO_6
               clear HO_22
               clear BK428
               clear HR442
               clear HR455
               clear HB
               have HO_6 := n0_
               have HO_22 := n1_
               have HO448 := n2_
               have BK428 := n3_
               have HR442 := n4_
               have HR455 := n5_
               have HB := n6_
               clear n0_ n1_ n2_ n3_ n4_ n5_ n6_
               clear hb ho36
               refine hK.out _ _ trivial (fun hHeld => ?_)
               clear hK K
               refine nU (some 66) ?_
               refine oU (i := 0) (N := some 60) (fun K hK => ?_)
               refine Kd.R_lit_step Kd.string _ 9 ?hg (N := 60) ?hd (xs := ([] : List ByteArray)) (inner := []) (ok := fun _ => True) (okp := fun _ => True) ?hr ?hp (fun _ hk => hk) trivial (Below.refl _ _) (Nat.le_refl _) (by simp) ?_; (case hd => rfl); (case hg => rfl); (case hr => first | (go_simp; done) | (go_simp; rfl)); (case hp => exact (Reps.none _ _))
               intro v437 w37 ho38 hb hg_ hnew_
               clear hg_ hnew_
               (first | rw [← Ny436.out] at ho38 | (simp only [Int.reduceToNat] at ho38; rw [← Ny436.out] at ho38))
               have n0_ := Aside0.mk (Kd.R_elder' (kR HO_6) (Kd.R_base ho38) hb)
               have n1_ := Aside0.mk (Kd.R_below (kR HO_22) hb)
               have n2_ := Aside0.mk (Kd.R_elder' (kR HO448) (Kd.R_base ho38) hb)
               have n3_ := Aside0.mk (Kd.R_lower (Kd.R_new' (Kd.R_new' ho38 (Kd.R_lt (kR HO_6))) (Kd.R_lt (kR HO448))) (below_size bG))
               have n4_ := Aside0.mk (blk_below (g := gb428) (o := .cells #[.int .i64 a0_0, .int .i64 a0_1] 25 (0, 0)) bK hb)
               have n5_ := Aside0.mk (Kd.C_below (by repeat (first | (with_reducible exact HR442.out) | (with_reducible refine Kd.C_alloc ?_ _) | (with_reducible refine Kd.C_drewN ?_ _) | (with_reducible refine Kd.C_drew ?_) | exact HR442.out)) hb)
               have n6_ := Aside0.mk (Kd.C_below (by repeat (first | (with_reducible exact HR455.out) | (with_reducible refine Kd.C_alloc ?_ _) | (with_reducible refine Kd.C_drewN ?_ _) | (with_reducible refine Kd.C_drew ?_) | exact HR455.out)) hb)
               have n7_ := Aside0.mk (below_step bG hb)
               clear HO_6
               clear HO_22
               clear HO448
               clear BK428
               clear HR442
               clear HR455
               clear HB
               have HO_6 := n0_
               have HO_22 := n1_
               have HO448 := n2_
               have HO438 := n3_
               have BK428 := n4_
               have HR442 := n5_
               have HR455 := n6_
               have HB := n7_
               clear n0_ n1_ n2_ n3_ n4_ n5_ n6_ n7_
               clear hb ho38
               refine hK.out _ _ trivial (fun hHeld => ?_)
               clear hK K
               refine nU (some 60) ?_
               refine oU (i := 4) (N := some 64) (fun K hK => ?_)
               refine Kd.R_append_rows_step Kd.string (w0 := w) w.heap.size (by rfl) (.tmp 60) (.tmp 63) 26 9 (.string ⟨#[]⟩) 16 rfl Tryz.underlying26 info9 rfl (by decide) (by omega) v437 y436 y439 _ _ _ (fun k_ => some k_ ≠ (.slice (some ad435) x6_2.length co31 : Value).ownBlock ∧ some k_ ≠ (v447 : Value).ownBlock) (fun _ => False) rfl rfl ?aO ?aR (fun _ _ h => h) (fun _ h => h.elim) ?aF ?aB ?aS ?aL ?_
               (case aR => repeat (first | exact (by repeat (first | (with_reducible exact HR442.out) | (with_reducible refine Kd.C_alloc ?_ _) | (with_reducible refine Kd.C_drewN ?_ _) | (with_reducible refine Kd.C_drew ?_) | exact HR442.out)) | (with_reducible refine Kd.C_alloc ?_ _) | (with_reducible refine Kd.C_drewN ?_ _) | (with_reducible refine Kd.C_drew ?_)))
               (case aB => exact bG)
               (case aF => exact (fun k_ hk => ⟨Kd.fresh' (Kd.R_lt (kR HO_6)) k_ hk, Kd.fresh' (Kd.R_lt (kR HO448)) k_ hk⟩))
               (case aO => exact (by (with_reducible repeat (first | apply Kd.R_alloc | apply Kd.R_drewN | apply Kd.R_drew)); exact Kd.R_mono HO438.out (fun _ hk => ⟨hk.1.2, hk.2⟩)))
               (case aS => exact (below_size bG))
               (case aL => have := LMc26.out; omega)
               intro v444 w39 ho hb hg hat
               rw [← Ny443.out] at ho
               have n0_ := Aside0.mk (Kd.R_after (ok := (fun k_ => some k_ ≠ (v447 : Value).ownBlock)) (by (with_reducible repeat (first | apply Kd.R_alloc | apply Kd.R_drewN | apply Kd.R_drew)); exact Kd.R_mono HO_6.out (fun _ hk => ⟨hk.1.2, hk.2⟩)) hg hat)
               have n1_ := Aside0.mk (Kd.R_over' (kR HO_22) (Kd.R_typed (kR HO438)) (by decide) hg)
               have n2_ := Aside0.mk (blk_grown (g := gb428) (o := .cells #[.int .i64 a0_0, .int .i64 a0_1] 25 (0, 0)) bK hg (Kd.R_ne HO438.out BK428.out (by decide)))
               have n3_ := Aside0.mk (Kd.R_after (ok := (fun k_ => some k_ ≠ (.slice (some ad435) x6_2.length co31 : Value).ownBlock)) (by (with_reducible repeat (first | apply Kd.R_alloc | apply Kd.R_drewN | apply Kd.R_drew)); exact Kd.R_mono HO448.out (fun _ hk => ⟨hk.1.2, hk.2⟩)) hg hat)
               have n4_ := Aside0.mk (hb)
               have n5_ := Aside0.mk ((show Kd.C Kd.string w39 (some ad435) y439.length y439 from by rw [Ny439.out]; exact Kd.C_take (m := (x11_3 : Int).toNat) ((Kd.R_reads' (Kd.R_after (ok := (fun k_ => some k_ ≠ (v447 : Value).ownBlock)) (by (with_reducible repeat (first | apply Kd.R_alloc | apply Kd.R_drewN | apply Kd.R_drew)); exact Kd.R_mono HO_6.out (fun _ hk => ⟨hk.1.2, hk.2⟩)) hg hat)).2.2) KL33.out))
               have n6_ := Aside0.mk ((show Kd.C Kd.string w39 A34 y452.length y452 from by rw [Ny452.out, KA34.out]; exact Kd.C_drop (m := (x11_3 : Int).toNat) (c := co31) ((Kd.R_reads' (Kd.R_after (ok := (fun k_ => some k_ ≠ (v447 : Value).ownBlock)) (by (with_reducible repeat (first | apply Kd.R_alloc | apply Kd.R_drewN | apply Kd.R_drew)); exact Kd.R_mono HO_6.out (fun _ hk => ⟨hk.1.2, hk.2⟩)) hg hat)).2.2) KL34.out ((Kd.R_reads' (Kd.R_after (ok := (fun k_ => some k_ ≠ (v447 : Value).ownBlock)) (by (with_reducible repeat (first | apply Kd.R_alloc | apply Kd.R_drewN | apply Kd.R_drew)); exact Kd.R_mono HO_6.out (fun _ hk => ⟨hk.1.2, hk.2⟩)) hg hat)).2.1)))
               have n7_ := Aside0.mk (ho)
               clear HO_6
               clear HO_22
               clear BK428
               clear HO448
               clear HB
               clear HR442
               clear HR455
               clear HO438
               have HO_6 := n0_
               have HO_22 := n1_
               have BK428 := n2_
               have HO448 := n3_
               have HB := n4_
               have HR442 := n5_
               have HR455 := n6_
               have HO445 := n7_
               clear n0_ n1_ n2_ n3_ n4_ n5_ n6_ n7_
               clear ho hb hg hat
               refine hK.out _ _ trivial (fun hHeld => ?_)
               clear hK K
               refine nU (some 64) ?_
               exact norm_ (by simp only [putAll, Act.put, List.setIfInBounds_toArray, List.set_cons_zero, List.set_cons_succ]) (hCont (v437, v444, v447) _ ⟨(by (with_reducible repeat (first | apply Kd.R_alloc | apply Kd.R_drewN | apply Kd.R_drew)); exact Kd.R_mono HO445.out (fun _ hk => ⟨hk.2, hk.1⟩)), (by (with_reducible repeat (first | apply Kd.R_alloc | apply Kd.R_drewN | apply Kd.R_drew)); exact Kd.R_mono HO448.out (fun _ hk => ⟨hk.2, hk.1⟩)), (kR HO_22), (by (with_reducible repeat (first | apply Kd.R_alloc | apply Kd.R_drewN | apply Kd.R_drew)); exact Kd.R_mono HO_6.out (fun _ hk => ⟨hk.2, hk.1⟩)), bK, bG⟩)
             rintro ⟨v437, v444, v447⟩ w40 ⟨h0_, h1_, h2_, h3_, h4_, h5_⟩
             have n0_ : Aside0 (Kd.R Kd.string 9 w40 w.heap.size (fun k_ => some k_ ≠ (v447 : Value).ownBlock ∧ some k_ ≠ (.slice (some ad435) x6_2.length co31 : Value).ownBlock) v444 y443) := ⟨h0_⟩
             have n1_ : Aside0 (Kd.R Kd.string 9 w40 w.heap.size (fun k_ => some k_ ≠ (v444 : Value).ownBlock ∧ some k_ ≠ (.slice (some ad435) x6_2.length co31 : Value).ownBlock) v447 y446) := ⟨h1_⟩
             have n2_ : Aside0 (Kd.R (Kd.int .i64) 3 w40 w.heap.size (fun _ => True) (.slice (some ad433) y430.length co12) y430) := ⟨h2_⟩
             have n3_ : Aside0 (Kd.R Kd.string 9 w40 w.heap.size (fun k_ => some k_ ≠ (v444 : Value).ownBlock ∧ some k_ ≠ (v447 : Value).ownBlock) (.slice (some ad435) x6_2.length co31) x6_2) := ⟨h3_⟩
             have n4_ : Aside0 (w40.heap[gb428]? = some (.cells #[.int .i64 a0_0, .int .i64 a0_1] 25 (0, 0))) := ⟨h4_⟩
             have n5_ : Aside0 (Below w.heap.size w w40) := ⟨h5_⟩
             clear HO_6
             clear HO_22
             clear BK428
             clear HB
             clear h0_ h1_ h2_ h3_ h4_ h5_
             have HO445 := n0_
             have HO448 := n1_
             have HO_22 := n2_
             have HO_6 := n3_
             have BK428 := n4_
             have HB := n5_
             clear n0_ n1_ n2_ n3_ n4_ n5_
             have hHeld := trivial
             have HR442 := Aside0.mk (show Kd.C Kd.string w40 (some ad435) y439.length y439 from by rw [Ny439.out]; exact Kd.C_take (m := (x11_3 : Int).toNat) ((Kd.R_reads' HO_6.out).2.2) KL33.out)
             have HR455 := Aside0.mk (show Kd.C Kd.string w40 A34 y452.length y452 from by rw [Ny452.out, KA34.out]; exact Kd.C_drop (m := (x11_3 : Int).toNat) (c := co31) ((Kd.R_reads' HO_6.out).2.2) KL34.out ((Kd.R_reads' HO_6.out).2.1))
             obtain ⟨Ao42, co42, eo42⟩ := Kd.R_slice HO448.out
             (first | subst eo42 | (injection eo42 with f1_ f2_ f3_; have f4_ := f1_.symm; have f5_ := f3_.symm; clear f1_ f2_ f3_; subst f4_; subst f5_))
             refine nV ?_
             refine oU (i := 7) (N := some 67) (fun K hK => ?_)
             refine Kd.R_append_rows_step Kd.string (w0 := w) w.heap.size (by rfl) (.tmp 64) (.tmp 66) 26 9 (.string ⟨#[]⟩) 16 rfl Tryz.underlying26 info9 rfl (by decide) (by omega) v444 y443 y446 _ _ _ (fun k_ => some k_ ≠ (.slice (some ad435) x6_2.length co31 : Value).ownBlock ∧ some k_ ≠ (.slice Ao42 y446.length co42 : Value).ownBlock) (fun _ => False) rfl rfl ?aO ?aR (fun _ _ h => h) (fun _ h => h.elim) ?aF ?aB ?aS ?aL ?_
             (case aR => exact cS ((Kd.R_reads' HO448.out).2.2))
             (case aB => exact bG)
             (case aF => exact (fun k_ hk => ⟨Kd.fresh' (Kd.R_lt (kR HO_6)) k_ hk, Kd.fresh' (Kd.R_lt (kR HO448)) k_ hk⟩))
             (case aO => exact (by (with_reducible repeat (first | apply Kd.R_alloc | apply Kd.R_drewN | apply Kd.R_drew)); exact Kd.R_mono HO445.out (fun _ hk => ⟨hk.2, hk.1⟩)))
             (case aS => exact (below_size bG))
             (case aL => have := LMc27.out; omega)
             intro v450 w41 ho hb hg hat
             rw [← Ny449.out] at ho
             have n0_ := Aside0.mk (Kd.R_after (ok := (fun k_ => some k_ ≠ (.slice Ao42 y446.length co42 : Value).ownBlock)) (by (with_reducible repeat (first | apply Kd.R_alloc | apply Kd.R_drewN | apply Kd.R_drew)); exact Kd.R_mono HO_6.out (fun _ hk => ⟨hk.2, hk.1⟩)) hg hat)
             have n1_ := Aside0.mk (Kd.R_over' (kR HO_22) (Kd.R_typed (kR HO445)) (by decide) hg)
             have n2_ := Aside0.mk (blk_grown (g := gb428) (o := .cells #[.int .i64 a0_0, .int .i64 a0_1] 25 (0, 0)) bK hg (Kd.R_ne HO445.out BK428.out (by decide)))
             have n3_ := Aside0.mk (Kd.R_after (ok := (fun k_ => some k_ ≠ (.slice (some ad435) x6_2.length co31 : Value).ownBlock)) (by (with_reducible repeat (first | apply Kd.R_alloc | apply Kd.R_drewN | apply Kd.R_drew)); exact Kd.R_mono HO448.out (fun _ hk => ⟨hk.2, hk.1⟩)) hg hat)
             have n4_ := Aside0.mk (hb)
             have n5_ := Aside0.mk ((show Kd.C Kd.string w41 (some ad435) y439.length y439 from by rw [Ny439.out]; exact Kd.C_take (m := (x11_3 : Int).toNat) ((Kd.R_reads' (Kd.R_after (ok := (fun k_ => some k_ ≠ (.slice Ao42 y446.length co42 : Value).ownBlock)) (by (with_reducible repeat (first | apply Kd.R_alloc | apply Kd.R_drewN | apply Kd.R_drew)); exact Kd.R_mono HO_6.out (fun _ hk => ⟨hk.2, hk.1⟩)) hg hat)).2.2) KL33.out))
             have n6_ := Aside0.mk ((show Kd.C Kd.string w41 A34 y452.length y452 from by rw [Ny452.out, KA34.out]; exact Kd.C_drop (m := (x11_3 : Int).toNat) (c := co31) ((Kd.R_reads' (Kd.R_after (ok := (fun k_ => some k_ ≠ (.slice Ao42 y446.length co42 : Value).ownBlock)) (by (with_reducible repeat (first | apply Kd.R_alloc | apply Kd.R_drewN | apply Kd.R_drew)); exact Kd.R_mono HO_6.out (fun _ hk => ⟨hk.2, hk.1⟩)) hg hat)).2.2) KL34.out ((Kd.R_reads' (Kd.R_after (ok := (fun k_ => some k_ ≠ (.slice Ao42 y446.length co42 : Value).ownBlock)) (by (with_reducible repeat (first | apply Kd.R_alloc | apply Kd.R_drewN | apply Kd.R_drew)); exact Kd.R_mono HO_6.out (fun _ hk => ⟨hk.2, hk.1⟩)) hg hat)).2.1)))
             have n7_ := Aside0.mk (ho)
             clear HO_6
             clear HO_22
             clear BK428
             clear HO448
             clear HB
             clear HR442
             clear HR455
             clear HO445
             have HO_6 := n0_
             have HO_22 := n1_
             have BK428 := n2_
             have HO448 := n3_
             have HB := n4_
             have HR442 := n5_
             have HR455 := n6_
             have HO451 := n7_
             clear n0_ n1_ n2_ n3_ n4_ n5_ n6_ n7_
             clear ho hb hg hat
             refine hK.out _ _ trivial (fun hHeld => ?_)
             clear hK K
             refine nU (some 67) ?_
             refine oU (i := 11) (N := some 71) (fun K hK => ?_)
             refine Kd.R_append_rows_step Kd.string (w0 := w) w.heap.size (by rfl) (.tmp 67) (.tmp 70) 26 9 (.string ⟨#[]⟩) 16 rfl Tryz.underlying26 info9 rfl (by decide) (by omega) v450 y449 y452 _ _ _ (fun k_ => some k_ ≠ (.slice (some ad435) x6_2.length co31 : Value).ownBlock ∧ some k_ ≠ (.slice Ao42 y446.length co42 : Value).ownBlock) (fun _ => False) rfl rfl ?aO ?aR (fun _ _ h => h) (fun _ h => h.elim) ?aF ?aB ?aS ?aL ?_
             (case aR => repeat (first | exact (by repeat (first | (with_reducible exact HR455.out) | (with_reducible refine Kd.C_alloc ?_ _) | (with_reducible refine Kd.C_drewN ?_ _) | (with_reducible refine Kd.C_drew ?_) | exact HR455.out)) | (with_reducible refine Kd.C_alloc ?_ _) | (with_reducible refine Kd.C_drewN ?_ _) | (with_reducible refine Kd.C_drew ?_)))
             (case aB => exact bG)
             (case aF => exact (fun k_ hk => ⟨Kd.fresh' (Kd.R_lt (kR HO_6)) k_ hk, Kd.fresh' (Kd.R_lt (kR HO448)) k_ hk⟩))
             (case aO => exact (kR HO451))
             (case aS => exact (below_size bG))
             (case aL => have := LMc30.out; omega)
             intro v457 w43 ho hb hg hat
             rw [← Ny456.out] at ho
             have n0_ := Aside0.mk (Kd.R_after (ok := (fun k_ => some k_ ≠ (.slice Ao42 y446.length co42 : Value).ownBlock)) (kR HO_6) hg hat)
             have n1_ := Aside0.mk (Kd.R_over' (kR HO_22) (Kd.R_typed (kR HO451)) (by decide) hg)
             have n2_ := Aside0.mk (blk_grown (g := gb428) (o := .cells #[.int .i64 a0_0, .int .i64 a0_1] 25 (0, 0)) bK hg (Kd.R_ne HO451.out BK428.out (by decide)))
             have n3_ := Aside0.mk (Kd.R_after (ok := (fun k_ => some k_ ≠ (.slice (some ad435) x6_2.length co31 : Value).ownBlock)) (kR HO448) hg hat)
             have n4_ := Aside0.mk (hb)
             have n5_ := Aside0.mk ((show Kd.C Kd.string w43 (some ad435) y439.length y439 from by rw [Ny439.out]; exact Kd.C_take (m := (x11_3 : Int).toNat) ((Kd.R_reads' (Kd.R_after (ok := (fun k_ => some k_ ≠ (.slice Ao42 y446.length co42 : Value).ownBlock)) (kR HO_6) hg hat)).2.2) KL33.out))
             have n6_ := Aside0.mk ((show Kd.C Kd.string w43 A34 y452.length y452 from by rw [Ny452.out, KA34.out]; exact Kd.C_drop (m := (x11_3 : Int).toNat) (c := co31) ((Kd.R_reads' (Kd.R_after (ok := (fun k_ => some k_ ≠ (.slice Ao42 y446.length co42 : Value).ownBlock)) (kR HO_6) hg hat)).2.2) KL34.out ((Kd.R_reads' (Kd.R_after (ok := (fun k_ => some k_ ≠ (.slice Ao42 y446.length co42 : Value).ownBlock)) (kR HO_6) hg hat)).2.1)))
             have n7_ := Aside0.mk (ho)
             clear HO_6
             clear HO_22
             clear BK428
             clear HO448
             clear HB
             clear HR442
             clear HR455
             clear HO451
             have HO_6 := n0_
             have HO_22 := n1_
             have BK428 := n2_
             have HO448 := n3_
             have HB := n4_
             have HR442 := n5_
             have HR455 := n6_
             have HO458 := n7_
             clear n0_ n1_ n2_ n3_ n4_ n5_ n6_ n7_
             clear ho hb hg hat
             refine hK.out _ _ trivial (fun hHeld => ?_)
             clear hK K
             refine nU (some 71) ?_
             refine pU (i := 12) (N := some 6) ?_
             refine done_ (done_of HT_.out (by kernel_rfl)) ?_
             try go_wp2
             go_roundg k3
             case measure => have := HK1.out; have := HK2.out; have := HK3.out; omega
             case rel => exact ⟨(y456), (wrap64 (x24_2 + 1)), fR, H', ⟨by have := HK1.out; have := HK2.out; have := HK3.out; omega⟩, ⟨by (with_reducible repeat (first | apply Kd.R_alloc | apply Kd.R_drewN | apply Kd.R_drew)); exact Kd.R_mono HO458.out (fun _ hk => trivial)⟩, ⟨kR HO_22⟩, ⟨bK⟩, ⟨bG⟩⟩
            ·rw [if_neg c23] at H
             have c23b0 : (x11_3 == (x6_2.length : Int)) = false := beq_eq_false_iff_ne.mpr c23
             have c23b1 : (x11_3 != (x6_2.length : Int)) = true := bne_iff_ne.mpr c23
             by_cases c44 : (rdOf ByteArray.empty x6_2 x11_3).toList = t434.toList
             ·rw [if_pos c44] at H
              have c44b0 : ((rdOf ByteArray.empty x6_2 x11_3).toList == t434.toList) = true := beq_iff_eq.mpr c44
              have c44b1 : ((rdOf ByteArray.empty x6_2 x11_3).toList != t434.toList) = false := bne_eq_false_iff_eq.mpr c44
              clear c44
              have H' := Aside0.mk H
              clear H
              obtain ⟨Ao45, co45, eo45⟩ := Kd.R_slice HO_6.out
              subst eo45
              have p435 : 0 ≤ (x11_3 : Int) := oD
              have q435 : x11_3 < (x6_2.length : Int) := oD
              obtain ⟨ad435, e435, hx435_0⟩ := Kd.at_string (Kd.R_reads' HO_6.out).2.2 x11_3 p435 q435
              cases e435
              replace p435 := eq_true p435
              replace q435 := eq_true q435
              have p459 : 0 ≤ (x11_3 : Int) := oD
              have q459 : x11_3 < (x6_2.length : Int) := oD
              obtain ⟨ad459, e459, hx459_0⟩ := Kd.at_string (Kd.R_reads' HO_6.out).2.2 x11_3 p459 q459
              obtain rfl : ad435 = ad459 := (by injection e459)
              replace p459 := eq_true p459
              replace q459 := eq_true q459
              go_wp2
              go_roundg k3
              case measure => have := HK1.out; have := HK2.out; have := HK3.out; omega
              case rel => exact ⟨(x6_2), (wrap64 (x24_2 + 1)), fR, H', ⟨by have := HK1.out; have := HK2.out; have := HK3.out; omega⟩, ⟨kR HO_6⟩, ⟨kR HO_22⟩, ⟨bK⟩, ⟨bG⟩⟩
             ·rw [if_neg c44] at H
              have c44b0 : ((rdOf ByteArray.empty x6_2 x11_3).toList == t434.toList) = false := beq_eq_false_iff_ne.mpr c44
              have c44b1 : ((rdOf ByteArray.empty x6_2 x11_3).toList != t434.toList) = true := bne_iff_ne.mpr c44
              obtain ⟨y460, hy460⟩ : ∃ y_ : List ByteArray, y_ = (([] : List ByteArray)) := ⟨_, rfl⟩
              replace H : (if x11_3 ≤ (x6_2.length : Int) then ((some (x6_2.take (x11_3 : Int).toNat : List ByteArray)).bind fun y463 => (if y460.length + y463.length < 8796093022208 then ((some (y460 ++ y463 : List ByteArray)).bind fun y467 => ((some (([t434] : List ByteArray) : List ByteArray)).bind fun y470 => (if y467.length + y470.length < 8796093022208 then ((some (y467 ++ y470 : List ByteArray)).bind fun y473 => ((some (x6_2.drop (x11_3 : Int).toNat : List ByteArray)).bind fun y476 => (if y473.length + y476.length < 8796093022208 then (spec_NextCodes.l1 k3 a1 (y473 ++ y476) x7_1 y430 (y430.length : Int) (wrap64 (x24_2 + 1)) a0_0 a0_1) else (none)))) else (none)))) else (none))) else (none)) = some (r1, r2) := hZ hy460 H
              have Ny460 := Aside0.mk hy460
              clear hy460
              have c46b0 := eq_true (oD : 0 ≤ x11_3)
              replace H := nz H; obtain ⟨c47, H⟩ := H
              have c47b0 := eq_true c47
              have c47b1 : decide (x11_3 ≤ (x6_2.length : Int)) = true := decide_eq_true c47
              clear c47
              obtain ⟨y463, hy463⟩ : ∃ y_ : List ByteArray, y_ = (x6_2.take (x11_3 : Int).toNat) := ⟨_, rfl⟩
              replace H : (if y460.length + y463.length < 8796093022208 then ((some (y460 ++ y463 : List ByteArray)).bind fun y467 => ((some (([t434] : List ByteArray) : List ByteArray)).bind fun y470 => (if y467.length + y470.length < 8796093022208 then ((some (y467 ++ y470 : List ByteArray)).bind fun y473 => ((some (x6_2.drop (x11_3 : Int).toNat : List ByteArray)).bind fun y476 => (if y473.length + y476.length < 8796093022208 then (spec_NextCodes.l1 k3 a1 (y473 ++ y476) x7_1 y430 (y430.length : Int) (wrap64 (x24_2 + 1)) a0_0 a0_1) else (none)))) else (none)))) else (none)) = some (r1, r2) := hZ hy463 H
              have Ny463 := Aside0.mk hy463
              clear hy463
              replace H := nz H; obtain ⟨c48, H⟩ := H
              have LMc48 := Aside0.mk c48
              clear c48
              obtain ⟨y467, hy467⟩ : ∃ y_ : List ByteArray, y_ = (y460 ++ y463) := ⟨_, rfl⟩
              replace H : ((some (([t434] : List ByteArray) : List ByteArray)).bind fun y470 => (if y467.length + y470.length < 8796093022208 then ((some (y467 ++ y470 : List ByteArray)).bind fun y473 => ((some (x6_2.drop (x11_3 : Int).toNat : List ByteArray)).bind fun y476 => (if y473.length + y476.length < 8796093022208 then (spec_NextCodes.l1 k3 a1 (y473 ++ y476) x7_1 y430 (y430.length : Int) (wrap64 (x24_2 + 1)) a0_0 a0_1) else (none)))) else (none))) = some (r1, r2) := hZ hy467 H
              have Ny467 := Aside0.mk hy467
              clear hy467
              obtain ⟨y470, hy470⟩ : ∃ y_ : List ByteArray, y_ = (([t434] : List ByteArray)) := ⟨_, rfl⟩
              replace H : (if y467.length + y470.length < 8796093022208 then ((some (y467 ++ y470 : List ByteArray)).bind fun y473 => ((some (x6_2.drop (x11_3 : Int).toNat : List ByteArray)).bind fun y476 => (if y473.length + y476.length < 8796093022208 then (spec_NextCodes.l1 k3 a1 (y473 ++ y476) x7_1 y430 (y430.length : Int) (wrap64 (x24_2 + 1)) a0_0 a0_1) else (none)))) else (none)) = some (r1, r2) := hZ hy470 H
              have Ny470 := Aside0.mk hy470
              clear hy470
              replace H := nz H; obtain ⟨c49, H⟩ := H
              have LMc49 := Aside0.mk c49
              clear c49
              obtain ⟨y473, hy473⟩ : ∃ y_ : List ByteArray, y_ = (y467 ++ y470) := ⟨_, rfl⟩
              replace H : ((some (x6_2.drop (x11_3 : Int).toNat : List ByteArray)).bind fun y476 => (if y473.length + y476.length < 8796093022208 then (spec_NextCodes.l1 k3 a1 (y473 ++ y476) x7_1 y430 (y430.length : Int) (wrap64 (x24_2 + 1)) a0_0 a0_1) else (none))) = some (r1, r2) := hZ hy473 H
              have Ny473 := Aside0.mk hy473
              clear hy473
              have c50b0 := eq_true (oD : 0 ≤ x11_3)
              have c51b0 := eq_true (oD : x11_3 ≤ (x6_2.length : Int))
              obtain ⟨y476, hy476⟩ : ∃ y_ : List ByteArray, y_ = (x6_2.drop (x11_3 : Int).toNat) := ⟨_, rfl⟩
              replace H : (if y473.length + y476.length < 8796093022208 then (spec_NextCodes.l1 k3 a1 (y473 ++ y476) x7_1 y430 (y430.length : Int) (wrap64 (x24_2 + 1)) a0_0 a0_1) else (none)) = some (r1, r2) := hZ hy476 H
              have Ny476 := Aside0.mk hy476
              clear hy476
              replace H := nz H; obtain ⟨c52, H⟩ := H
              have LMc52 := Aside0.mk c52
              clear c52
              obtain ⟨y480, hy480⟩ : ∃ y_ : List ByteArray, y_ = (y473 ++ y476) := ⟨_, rfl⟩
              replace H : (spec_NextCodes.l1 k3 a1 y480 x7_1 y430 (y430.length : Int) (wrap64 (x24_2 + 1)) a0_0 a0_1) = some (r1, r2) := hZ hy480 H
              have Ny480 := Aside0.mk hy480
              clear hy480
              have H' := Aside0.mk H
              clear H
              obtain ⟨Ao53, co53, eo53⟩ := Kd.R_slice HO_6.out
              subst eo53
              have p435 : 0 ≤ (x11_3 : Int) := oD
              have q435 : x11_3 < (x6_2.length : Int) := oD
              obtain ⟨ad435, e435, hx435_0⟩ := Kd.at_string (Kd.R_reads' HO_6.out).2.2 x11_3 p435 q435
              cases e435
              replace p435 := eq_true p435
              replace q435 := eq_true q435
              have p459 : 0 ≤ (x11_3 : Int) := oD
              have q459 : x11_3 < (x6_2.length : Int) := oD
              obtain ⟨ad459, e459, hx459_0⟩ := Kd.at_string (Kd.R_reads' HO_6.out).2.2 x11_3 p459 q459
              obtain rfl : ad435 = ad459 := (by injection e459)
              replace p459 := eq_true p459
              replace q459 := eq_true q459
              try go_wp2
              have n0_ := Aside0.mk (Kd.R_drew HO_6.out)
              have n1_ := Aside0.mk (Kd.R_drew HO_22.out)
              have n2_ := Aside0.mk (blk_drew BK428.out)
              have n3_ := Aside0.mk (below_drew1 HB.out)
              clear HO_6
              clear HO_22
              clear BK428
              clear HB
              have HO_6 := n0_
              have HO_22 := n1_
              have BK428 := n2_
              have HB := n3_
              clear n0_ n1_ n2_ n3_
              have q55 : (x11_3 : Int) ≤ ((x6_2.length : Int) : Int) := oD
              obtain ⟨i055, hi055, _, hsz55, _⟩ := info_parts info9
              have hroom55 : x6_2.length ≤ co53 := (Kd.R_reads' HO_6.out).2.1
              have hC55 : Kd.C Kd.string _ (some ad435) x6_2.length x6_2 := (Kd.R_reads' HO_6.out).2.2
              have hcut55 := cut_to (P := Tryz.prog) 26 9 .i64 Tryz.underlying26 hi055 (some ad435) x6_2.length co53 x11_3 (oD) q55 hroom55
              have hr55 := Kd.C_take (m := (x11_3 : Int).toNat) hC55 (by omega)
              have hy55 : y463.length = (x11_3 : Int).toNat := (by rw [Ny463.out, List.length_take]; omega)
              rw [← Ny463.out] at hr55
              rw [← hy55] at hcut55
              have HR466 := Aside0.mk hr55
              have HC466 := Aside0.mk (show y463.length ≤ co53 from by omega)
              clear hr55 hC55 hroom55 hi055 hsz55
              have KY55 := Aside0.mk hy55
              clear hy55
              have KL55 := Aside0.mk (show (x11_3 : Int).toNat ≤ x6_2.length from by omega)
              replace q55 := eq_true q55
              have q56 : (x11_3 : Int) ≤ ((x6_2.length : Int) : Int) := oD
              obtain ⟨i056, hi056, _, hsz56, _⟩ := info_parts info9
              have hroom56 : x6_2.length ≤ co53 := (Kd.R_reads' HO_6.out).2.1
              have hC56 : Kd.C Kd.string _ (some ad435) x6_2.length x6_2 := (Kd.R_reads' HO_6.out).2.2
              have q056 : (0 : Int) ≤ (x11_3 : Int) := oD
              have hcut56 := cut_from (P := Tryz.prog) 26 9 .i64 Tryz.underlying26 hi056 1 hsz56 (some ad435) x6_2.length co53 x11_3 q056 q56
              have hr56 := Kd.C_drop (m := (x11_3 : Int).toNat) (c := co53) hC56 (by omega) hroom56
              obtain ⟨A56, hA56⟩ : ∃ A_, A_ = (if co53 = (x11_3 : Int).toNat then (some ad435) else ((some ad435) : Option Addr).map (·.add ((x11_3 : Int).toNat * 1))) := ⟨_, rfl⟩
              obtain ⟨c56, hc56⟩ : ∃ c1, c1 = co53 - (x11_3 : Int).toNat := ⟨_, rfl⟩
              have hy56 : y476.length = x6_2.length - (x11_3 : Int).toNat := (by rw [Ny476.out, List.length_drop] <;> omega)
              rw [show (x6_2).drop (x11_3 : Int).toNat = y476 from Ny476.out.symm] at hr56
              replace hr56 : Kd.C Kd.string _ A56 y476.length y476 := (by rw [hA56]; exact hr56)
              rw [← hy56, ← hA56, ← hc56] at hcut56
              have HR479 := Aside0.mk hr56
              have HC479 := Aside0.mk (show y476.length ≤ c56 from by rw [hy56, hc56]; exact Nat.sub_le_sub_right hroom56 _)
              clear hr56 hC56 hroom56 hi056 hsz56 hc56
              have KY56 := Aside0.mk hy56
              have KA56 := Aside0.mk hA56
              clear hy56 hA56
              have KL56 := Aside0.mk (show (x11_3 : Int).toNat ≤ x6_2.length from by omega)
              replace q56 := eq_true q56
              refine start_ (n := 13) (S := fun w' => True) (ds := []) #[false, false, false, false, false, false, false, false, false, false, false, false, false] (by kernel_rfl) rfl rfl trivial (fun hHeld => ?_); refine with_tabW spec_NextCodes.tab15 spec_NextCodes.bits15 (fun HT_ HW_ => ?_)
              generalize wr.drew = w54 at HO_6 HO_22 BK428 HB HR466 HR479 hHeld ⊢
              refine pU (i := 1) (N := some 61) ?_
              refine pU (i := 2) (N := some 62) ?_
              refine pU (i := 3) (N := some 63) ?_
              refine pU (i := 5) (N := some 65) ?_
              refine pU (i := 8) (N := some 68) ?_
              refine pU (i := 9) (N := some 69) ?_
              refine pU (i := 10) (N := some 70) ?_
              refine join_ (σ := Value × Value × Value) 3 #[true, true, true, true, true, true, true, false, true, true, true, false, false] (fun s_ => [(60, s_.1), (64, s_.2.1), (66, s_.2.2)]) (fun s_ w' => (Kd.R Kd.string 9 w' w.heap.size (fun k_ => some k_ ≠ (s_.2.2 : Value).ownBlock ∧ some k_ ≠ (.slice (some ad435) x6_2.length co53 : Value).ownBlock) s_.2.1 y467) ∧ (Kd.R Kd.string 9 w' w.heap.size (fun k_ => some k_ ≠ (s_.2.1 : Value).ownBlock ∧ some k_ ≠ (.slice (some ad435) x6_2.length co53 : Value).ownBlock) s_.2.2 y470) ∧ (Kd.R (Kd.int .i64) 3 w' w.heap.size (fun _ => True) (.slice (some ad433) y430.length co12) y430) ∧ (Kd.R Kd.string 9 w' w.heap.size (fun k_ => some k_ ≠ (s_.2.1 : Value).ownBlock ∧ some k_ ≠ (s_.2.2 : Value).ownBlock) (.slice (some ad435) x6_2.length co53) x6_2) ∧ (w'.heap[gb428]? = some (.cells #[.int .i64 a0_0, .int .i64 a0_1] 25 (0, 0))) ∧ (Below w.heap.size w w')) ?_ ?_
              rotate_left
              ·intro hCont
               refine two_ (i := 0) (j := 6) (Ni := some 60) (Nj := some 66) #[true, true, true, true, false, true, false, false, true, true, true, false, false] #[false, true, true, true, false, true, true, false, true, true, true, false, false] rfl rfl rfl rfl (two_of HT_.out (by kernel_rfl)) (by decide) (by decide) (fun K hK => ?_) (fun K hK => ?_)
               ·skip
                refine Kd.R_lit_step Kd.string _ 9 ?hg (N := 60) ?hd (xs := ([] : List ByteArray)) (inner := []) (ok := fun _ => True) (okp := fun _ => True) ?hr ?hp (fun _ hk => hk) trivial (Below.refl _ _) (Nat.le_refl _) (by simp) ?_; (case hd => rfl); (case hg => rfl); (case hr => first | (go_simp; done) | (go_simp; rfl)); (case hp => exact (Reps.none _ _))
                intro v461 w57 ho58 hb hg_ hnew_
                clear hg_ hnew_
                (first | rw [← Ny460.out] at ho58 | (simp only [Int.reduceToNat] at ho58; rw [← Ny460.out] at ho58))
                have n0_ := Aside0.mk (Kd.R_elder' (kR HO_6) (Kd.R_base ho58) hb)
                have n1_ := Aside0.mk (Kd.R_below (kR HO_22) hb)
                have n2_ := Aside0.mk (Kd.R_lower (Kd.R_new' ho58 (Kd.R_lt (kR HO_6))) (below_size bG))
                have n3_ := Aside0.mk (blk_below (g := gb428) (o := .cells #[.int .i64 a0_0, .int .i64 a0_1] 25 (0, 0)) bK hb)
                have n4_ := Aside0.mk (Kd.C_below (by repeat (first | (with_reducible exact HR466.out) | (with_reducible refine Kd.C_alloc ?_ _) | (with_reducible refine Kd.C_drewN ?_ _) | (with_reducible refine Kd.C_drew ?_) | exact HR466.out)) hb)
                have n5_ := Aside0.mk (Kd.C_below (by repeat (first | (with_reducible exact HR479.out) | (with_reducible refine Kd.C_alloc ?_ _) | (with_reducible refine Kd.C_drewN ?_ _) | (with_reducible refine Kd.C_drew ?_) | exact HR479.out)) hb)
                have n6_ := Aside0.mk (below_step bG hb)
                clear HO_6
                clear HO_22
                clear BK428
                clear HR466
                clear HR479
                clear HB
                have HO_6 := n0_
                have HO_22 := n1_
                have HO462 := n2_
                have BK428 := n3_
                have HR466 := n4_
                have HR479 := n5_
                have HB := n6_
                clear n0_ n1_ n2_ n3_ n4_ n5_ n6_
                clear hb ho58
                refine hK.out _ _ trivial (fun hHeld => ?_)
                clear hK K
                refine nU (some 60) ?_
                refine two_ (i := 4) (j := 6) (Ni := some 64) (Nj := some 66) #[true, true, true, true, true, true, false, false, true, true, true, false, false] #[true, true, true, true, false, true, true, false, true, true, true, false, false] rfl rfl rfl rfl (two_of HT_.out (by kernel_rfl)) (by decide) (by decide) (fun K hK => ?_) (fun K hK => ?_)
                ·skip
                 refine Kd.R_append_rows_step Kd.string (w0 := w) w.heap.size (by rfl) (.tmp 60) (.tmp 63) 26 9 (.string ⟨#[]⟩) 16 rfl Tryz.underlying26 info9 rfl (by decide) (by omega) v461 y460 y463 _ _ _ (fun k_ => some k_ ≠ (.slice (some ad435) x6_2.length co53 : Value).ownBlock) (fun _ => False) rfl rfl ?aO ?aR (fun _ _ h => h) (fun _ h => h.elim) ?aF ?aB ?aS ?aL ?_
                 (case aR => repeat (first | exact (by repeat (first | (with_reducible exact HR466.out) | (with_reducible refine Kd.C_alloc ?_ _) | (with_reducible refine Kd.C_drewN ?_ _) | (with_reducible refine Kd.C_drew ?_) | exact HR466.out)) | (with_reducible refine Kd.C_alloc ?_ _) | (with_reducible refine Kd.C_drewN ?_ _) | (with_reducible refine Kd.C_drew ?_)))
                 (case aB => exact bG)
                 (case aF => exact (fun k_ hk => Kd.fresh' (Kd.R_lt (kR HO_6)) k_ hk))
                 (case aO => exact (by (with_reducible repeat (first | apply Kd.R_alloc | apply Kd.R_drewN | apply Kd.R_drew)); exact Kd.R_mono HO462.out (fun _ hk => hk.2)))
                 (case aS => exact (below_size bG))
                 (case aL => have := LMc48.out; omega)
                 intro v468 w59 ho hb hg hat
                 rw [← Ny467.out] at ho
                 have n0_ := Aside0.mk (Kd.R_after (ok := (fun _ => True)) (kR HO_6) hg hat)
                 have n1_ := Aside0.mk (Kd.R_over' (kR HO_22) (Kd.R_typed (kR HO462)) (by decide) hg)
                 have n2_ := Aside0.mk (blk_grown (g := gb428) (o := .cells #[.int .i64 a0_0, .int .i64 a0_1] 25 (0, 0)) bK hg (Kd.R_ne HO462.out BK428.out (by decide)))
                 have n3_ := Aside0.mk (hb)
                 have n4_ := Aside0.mk ((show Kd.C Kd.string w59 (some ad435) y463.length y463 from by rw [Ny463.out]; exact Kd.C_take (m := (x11_3 : Int).toNat) ((Kd.R_reads' (Kd.R_after (ok := (fun _ => True)) (kR HO_6) hg hat)).2.2) KL55.out))
                 have n5_ := Aside0.mk ((show Kd.C Kd.string w59 A56 y476.length y476 from by rw [Ny476.out, KA56.out]; exact Kd.C_drop (m := (x11_3 : Int).toNat) (c := co53) ((Kd.R_reads' (Kd.R_after (ok := (fun _ => True)) (kR HO_6) hg hat)).2.2) KL56.out ((Kd.R_reads' (Kd.R_after (ok := (fun _ => True)) (kR HO_6) hg hat)).2.1)))
                 have n6_ := Aside0.mk (ho)
                 clear HO_6
                 clear HO_22
                 clear BK428
                 clear HB
                 clear HR466
                 clear HR479
                 clear HO462
                 have HO_6 := n0_
                 have HO_22 := n1_
                 have BK428 := n2_
                 have HB := n3_
                 have HR466 := n4_
                 have HR479 := n5_
                 have HO469 := n6_
                 clear n0_ n1_ n2_ n3_ n4_ n5_ n6_
                 clear ho hb hg hat
                 refine hK.out _ _ trivial (fun hHeld => ?_)
                 clear hK K
                 refine nU (some 64) ?_
                 refine oU (i := 6) (N := some 66) (fun K hK => ?_)
                 refine Kd.R_lit_step Kd.string _ 9 ?hg (N := 66) ?hd (xs := ([t434] : List ByteArray)) (inner := [.string t434]) (ok := fun _ => True) (okp := fun _ => True) ?hr ?hp (fun _ hk => hk) trivial (Below.refl _ _) (Nat.le_refl _) (by simp) ?_; (case hd => rfl); (case hg => rfl); (case hr => first | (go_simp; done) | (go_simp; rfl)); (case hp => exact (Reps.one (show Kd.M Kd.string _ _ _ t434 [.string t434] from rfl) (Reps.none _ _)))
                 intro v471 w60 ho61 hb hg_ hnew_
                 clear hg_ hnew_
                 (first | rw [← Ny470.out] at ho61 | (simp only [Int.reduceToNat] at ho61; rw [← Ny470.out] at ho61))
                 have n0_ := Aside0.mk (Kd.R_elder' (kR HO_6) (Kd.R_base ho61) hb)
                 have n1_ := Aside0.mk (Kd.R_below (kR HO_22) hb)
                 have n2_ := Aside0.mk (Kd.R_elder' (kR HO469) (Kd.R_base ho61) hb)
                 have n3_ := Aside0.mk (Kd.R_lower (Kd.R_new' (Kd.R_new' ho61 (Kd.R_lt (kR HO_6))) (Kd.R_lt (kR HO469))) (below_size bG))
                 have n4_ := Aside0.mk (blk_below (g := gb428) (o := .cells #[.int .i64 a0_0, .int .i64 a0_1] 25 (0, 0)) bK hb)
                 have n5_ := Aside0.mk (Kd.C_below (by repeat (first | (with_reducible exact HR466.out) | (with_reducible refine Kd.C_alloc ?_ _) | (with_reducible refine Kd.C_drewN ?_ _) | (with_reducible refine Kd.C_drew ?_) | exact HR466.out)) hb)
                 have n6_ := Aside0.mk (Kd.C_below (by repeat (first | (with_reducible exact HR479.out) | (with_reducible refine Kd.C_alloc ?_ _) | (with_reducible refine Kd.C_drewN ?_ _) | (with_reducible refine Kd.C_drew ?_) | exact HR479.out)) hb)
                 have n7_ := Aside0.mk (below_step bG hb)
                 clear HO_6
                 clear HO_22
                 clear HO469
                 clear BK428
                 clear HR466
                 clear HR479
                 clear HB
                 have HO_6 := n0_
                 have HO_22 := n1_
                 have HO469 := n2_
                 have HO472 := n3_
                 have BK428 := n4_
                 have HR466 := n5_
                 have HR479 := n6_
                 have HB := n7_
                 clear n0_ n1_ n2_ n3_ n4_ n5_ n6_ n7_
                 clear hb ho61
                 refine hK.out _ _ trivial (fun hHeld => ?_)
                 clear hK K
                 refine nU (some 66) ?_
                 exact norm_ (by simp only [putAll, Act.put, List.setIfInBounds_toArray, List.set_cons_zero, List.set_cons_succ]) (hCont (v461, v468, v471) _ ⟨(by (with_reducible repeat (first | apply Kd.R_alloc | apply Kd.R_drewN | apply Kd.R_drew)); exact Kd.R_mono HO469.out (fun _ hk => ⟨hk.2, hk.1⟩)), (by (with_reducible repeat (first | apply Kd.R_alloc | apply Kd.R_drewN | apply Kd.R_drew)); exact Kd.R_mono HO472.out (fun _ hk => ⟨hk.2, hk.1.2⟩)), (kR HO_22), (by (with_reducible repeat (first | apply Kd.R_alloc | apply Kd.R_drewN | apply Kd.R_drew)); exact Kd.R_mono HO_6.out (fun _ hk => ⟨hk.1.2, hk.2⟩)), bK, bG⟩)
                ·skip
                 refine Kd.R_lit_step Kd.string _ 9 ?hg (N := 66) ?hd (xs := ([t434] : List ByteArray)) (inner := [.string t434]) (ok := fun _ => True) (okp := fun _ => True) ?hr ?hp (fun _ hk => hk) trivial (Below.refl _ _) (Nat.le_refl _) (by simp) ?_; (case hd => rfl); (case hg => rfl); (case hr => first | (go_simp; done) | (go_simp; rfl)); (case hp => exact (Reps.one (show Kd.M Kd.string _ _ _ t434 [.string t434] from rfl) (Reps.none _ _)))
                 intro v471 w59 ho60 hb hg_ hnew_
                 clear hg_ hnew_
                 (first | rw [← Ny470.out] at ho60 | (simp only [Int.reduceToNat] at ho60; rw [← Ny470.out] at ho60))
                 have n0_ := Aside0.mk (Kd.R_elder' (kR HO_6) (Kd.R_base ho60) hb)
                 have n1_ := Aside0.mk (Kd.R_below (kR HO_22) hb)
                 have n2_ := Aside0.mk (Kd.R_elder' (kR HO462) (Kd.R_base ho60) hb)
                 have n3_ := Aside0.mk (Kd.R_lower (Kd.R_new' (Kd.R_new' ho60 (Kd.R_lt (kR HO_6))) (Kd.R_lt (kR HO462))) (below_size bG))
                 have n4_ := Aside0.mk (blk_below (g := gb428) (o := .cells #[.int .i64 a0_0, .int .i64 a0_1] 25 (0, 0)) bK hb)
                 have n5_ := Aside0.mk (Kd.C_below (by repeat (first | (with_reducible exact HR466.out) | (with_reducible refine Kd.C_alloc ?_ _) | (with_reducible refine Kd.C_drewN ?_ _) | (with_reducible refine Kd.C_drew ?_) | exact HR466.out)) hb)
                 have n6_ := Aside0.mk (Kd.C_below (by repeat (first | (with_reducible exact HR479.out) | (with_reducible refine Kd.C_alloc ?_ _) | (with_reducible refine Kd.C_drewN ?_ _) | (with_reducible refine Kd.C_drew ?_) | exact HR479.out)) hb)
                 have n7_ := Aside0.mk (below_step bG hb)
                 clear HO_6
                 clear HO_22
                 clear HO462
                 clear BK428
                 clear HR466
                 clear HR479
                 clear HB
                 have HO_6 := n0_
                 have HO_22 := n1_
                 have HO462 := n2_
                 have HO472 := n3_
                 have BK428 := n4_
                 have HR466 := n5_
                 have HR479 := n6_
                 have HB := n7_
                 clear n0_ n1_ n2_ n3_ n4_ n5_ n6_ n7_
                 clear hb ho60
                 refine hK.out _ _ trivial (fun hHeld => ?_)
                 clear hK K
                 refine nU (some 66) ?_
                 refine oU (i := 4) (N := some 64) (fun K hK => ?_)
                 refine Kd.R_append_rows_step Kd.string (w0 := w) w.heap.size (by rfl) (.tmp 60) (.tmp 63) 26 9 (.string ⟨#[]⟩) 16 rfl Tryz.underlying26 info9 rfl (by decide) (by omega) v461 y460 y463 _ _ _ (fun k_ => some k_ ≠ (.slice (some ad435) x6_2.length co53 : Value).ownBlock ∧ some k_ ≠ (v471 : Value).ownBlock) (fun _ => False) rfl rfl ?aO ?aR (fun _ _ h => h) (fun _ h => h.elim) ?aF ?aB ?aS ?aL ?_
                 (case aR => repeat (first | exact (by repeat (first | (with_reducible exact HR466.out) | (with_reducible refine Kd.C_alloc ?_ _) | (with_reducible refine Kd.C_drewN ?_ _) | (with_reducible refine Kd.C_drew ?_) | exact HR466.out)) | (with_reducible refine Kd.C_alloc ?_ _) | (with_reducible refine Kd.C_drewN ?_ _) | (with_reducible refine Kd.C_drew ?_)))
                 (case aB => exact bG)
                 (case aF => exact (fun k_ hk => ⟨Kd.fresh' (Kd.R_lt (kR HO_6)) k_ hk, Kd.fresh' (Kd.R_lt (kR HO472)) k_ hk⟩))
                 (case aO => exact (by (with_reducible repeat (first | apply Kd.R_alloc | apply Kd.R_drewN | apply Kd.R_drew)); exact Kd.R_mono HO462.out (fun _ hk => ⟨hk.1.2, hk.2⟩)))
                 (case aS => exact (below_size bG))
                 (case aL => have := LMc48.out; omega)
                 intro v468 w61 ho hb hg hat
                 rw [← Ny467.out] at ho
                 have n0_ := Aside0.mk (Kd.R_after (ok := (fun k_ => some k_ ≠ (v471 : Value).ownBlock)) (by (with_reducible repeat (first | apply Kd.R_alloc | apply Kd.R_drewN | apply Kd.R_drew)); exact Kd.R_mono HO_6.out (fun _ hk => ⟨hk.2, hk.1.2⟩)) hg hat)
                 have n1_ := Aside0.mk (Kd.R_over' (kR HO_22) (Kd.R_typed (kR HO462)) (by decide) hg)
                 have n2_ := Aside0.mk (blk_grown (g := gb428) (o := .cells #[.int .i64 a0_0, .int .i64 a0_1] 25 (0, 0)) bK hg (Kd.R_ne HO462.out BK428.out (by decide)))
                 have n3_ := Aside0.mk (Kd.R_after (ok := (fun k_ => some k_ ≠ (.slice (some ad435) x6_2.length co53 : Value).ownBlock)) (by (with_reducible repeat (first | apply Kd.R_alloc | apply Kd.R_drewN | apply Kd.R_drew)); exact Kd.R_mono HO472.out (fun _ hk => ⟨hk.1.2, hk.2⟩)) hg hat)
                 have n4_ := Aside0.mk (hb)
                 have n5_ := Aside0.mk ((show Kd.C Kd.string w61 (some ad435) y463.length y463 from by rw [Ny463.out]; exact Kd.C_take (m := (x11_3 : Int).toNat) ((Kd.R_reads' (Kd.R_after (ok := (fun k_ => some k_ ≠ (v471 : Value).ownBlock)) (by (with_reducible repeat (first | apply Kd.R_alloc | apply Kd.R_drewN | apply Kd.R_drew)); exact Kd.R_mono HO_6.out (fun _ hk => ⟨hk.2, hk.1.2⟩)) hg hat)).2.2) KL55.out))
                 have n6_ := Aside0.mk ((show Kd.C Kd.string w61 A56 y476.length y476 from by rw [Ny476.out, KA56.out]; exact Kd.C_drop (m := (x11_3 : Int).toNat) (c := co53) ((Kd.R_reads' (Kd.R_after (ok := (fun k_ => some k_ ≠ (v471 : Value).ownBlock)) (by (with_reducible repeat (first | apply Kd.R_alloc | apply Kd.R_drewN | apply Kd.R_drew)); exact Kd.R_mono HO_6.out (fun _ hk => ⟨hk.2, hk.1.2⟩)) hg hat)).2.2) KL56.out ((Kd.R_reads' (Kd.R_after (ok := (fun k_ => some k_ ≠ (v471 : Value).ownBlock)) (by (with_reducible repeat (first | apply Kd.R_alloc | apply Kd.R_drewN | apply Kd.R_drew)); exact Kd.R_mono HO_6.out (fun _ hk => ⟨hk.2, hk.1.2⟩)) hg hat)).2.1)))
                 have n7_ := Aside0.mk (ho)
                 clear HO_6
                 clear HO_22
                 clear BK428
                 clear HO472
                 clear HB
                 clear HR466
                 clear HR479
                 clear HO462
                 have HO_6 := n0_
                 have HO_22 := n1_
                 have BK428 := n2_
                 have HO472 := n3_
                 have HB := n4_
                 have HR466 := n5_
                 have HR479 := n6_
                 have HO469 := n7_
                 clear n0_ n1_ n2_ n3_ n4_ n5_ n6_ n7_
                 clear ho hb hg hat
                 refine hK.out _ _ trivial (fun hHeld => ?_)
                 clear hK K
                 refine nU (some 64) ?_
                 exact norm_ (by simp only [putAll, Act.put, List.setIfInBounds_toArray, List.set_cons_zero, List.set_cons_succ]) (hCont (v461, v468, v471) _ ⟨(by (with_reducible repeat (first | apply Kd.R_alloc | apply Kd.R_drewN | apply Kd.R_drew)); exact Kd.R_mono HO469.out (fun _ hk => ⟨hk.2, hk.1⟩)), (by (with_reducible repeat (first | apply Kd.R_alloc | apply Kd.R_drewN | apply Kd.R_drew)); exact Kd.R_mono HO472.out (fun _ hk => ⟨hk.2, hk.1⟩)), (kR HO_22), (by (with_reducible repeat (first | apply Kd.R_alloc | apply Kd.R_drewN | apply Kd.R_drew)); exact Kd.R_mono HO_6.out (fun _ hk => ⟨hk.2, hk.1⟩)), bK, bG⟩)
               ·skip
                refine Kd.R_lit_step Kd.string _ 9 ?hg (N := 66) ?hd (xs := ([t434] : List ByteArray)) (inner := [.string t434]) (ok := fun _ => True) (okp := fun _ => True) ?hr ?hp (fun _ hk => hk) trivial (Below.refl _ _) (Nat.le_refl _) (by simp) ?_; (case hd => rfl); (case hg => rfl); (case hr => first | (go_simp; done) | (go_simp; rfl)); (case hp => exact (Reps.one (show Kd.M Kd.string _ _ _ t434 [.string t434] from rfl) (Reps.none _ _)))
                intro v471 w57 ho58 hb hg_ hnew_
                clear hg_ hnew_
                (first | rw [← Ny470.out] at ho58 | (simp only [Int.reduceToNat] at ho58; rw [← Ny470.out] at ho58))
                have n0_ := Aside0.mk (Kd.R_elder' (kR HO_6) (Kd.R_base ho58) hb)
                have n1_ := Aside0.mk (Kd.R_below (kR HO_22) hb)
                have n2_ := Aside0.mk (Kd.R_lower (Kd.R_new' ho58 (Kd.R_lt (kR HO_6))) (below_size bG))
                have n3_ := Aside0.mk (blk_below (g := gb428) (o := .cells #[.int .i64 a0_0, .int .i64 a0_1] 25 (0, 0)) bK hb)
                have n4_ := Aside0.mk (Kd.C_below (by repeat (first | (with_reducible exact HR466.out) | (with_reducible refine Kd.C_alloc ?_ _) | (with_reducible refine Kd.C_drewN ?_ _) | (with_reducible refine Kd.C_drew ?_) | exact HR466.out)) hb)
                have n5_ := Aside0.mk (Kd.C_below (by repeat (first | (with_reducible exact HR479.out) | (with_reducible refine Kd.C_alloc ?_ _) | (with_reducible refine Kd.C_drewN ?_ _) | (with_reducible refine Kd.C_drew ?_) | exact HR479.out)) hb)
                have n6_ := Aside0.mk (below_step bG hb)
                clear HO_6
                clear HO_22
                clear BK428
                clear HR466
                clear HR479
                clear HB
                have HO_6 := n0_
                have HO_22 := n1_
                have HO472 := n2_
                have BK428 := n3_
                have HR466 := n4_
                have HR479 := n5_
                have HB := n6_
                clear n0_ n1_ n2_ n3_ n4_ n5_ n6_
                clear hb ho58
                refine hK.out _ _ trivial (fun hHeld => ?_)
                clear hK K
                refine nU (some 66) ?_
                refine oU (i := 0) (N := some 60) (fun K hK => ?_)
                refine Kd.R_lit_step Kd.string _ 9 ?hg (N := 60) ?hd (xs := ([] : List ByteArray)) (inner := []) (ok := fun _ => True) (okp := fun _ => True) ?hr ?hp (fun _ hk => hk) trivial (Below.refl _ _) (Nat.le_refl _) (by simp) ?_; (case hd => rfl); (case hg => rfl); (case hr => first | (go_simp; done) | (go_simp; rfl)); (case hp => exact (Reps.none _ _))
                intro v461 w59 ho60 hb hg_ hnew_
                clear hg_ hnew_
                (first | rw [← Ny460.out] at ho60 | (simp only [Int.reduceToNat] at ho60; rw [← Ny460.out] at ho60))
                have n0_ := Aside0.mk (Kd.R_elder' (kR HO_6) (Kd.R_base ho60) hb)
                have n1_ := Aside0.mk (Kd.R_below (kR HO_22) hb)
                have n2_ := Aside0.mk (Kd.R_elder' (kR HO472) (Kd.R_base ho60) hb)
                have n3_ := Aside0.mk (Kd.R_lower (Kd.R_new' (Kd.R_new' ho60 (Kd.R_lt (kR HO_6))) (Kd.R_lt (kR HO472))) (below_size bG))
                have n4_ := Aside0.mk (blk_below (g := gb428) (o := .cells #[.int .i64 a0_0, .int .i64 a0_1] 25 (0, 0)) bK hb)
                have n5_ := Aside0.mk (Kd.C_below (by repeat (first | (with_reducible exact HR466.out) | (with_reducible refine Kd.C_alloc ?_ _) | (with_reducible refine Kd.C_drewN ?_ _) | (with_reducible refine Kd.C_drew ?_) | exact HR466.out)) hb)
                have n6_ := Aside0.mk (Kd.C_below (by repeat (first | (with_reducible exact HR479.out) | (with_reducible refine Kd.C_alloc ?_ _) | (with_reducible refine Kd.C_drewN ?_ _) | (with_reducible refine Kd.C_drew ?_) | exact HR479.out)) hb)
                have n7_ := Aside0.mk (below_step bG hb)
                clear HO_6
                clear HO_22
                clear HO472
                clear BK428
                clear HR466
                clear HR479
                clear HB
                have HO_6 := n0_
                have HO_22 := n1_
                have HO472 := n2_
                have HO462 := n3_
                have BK428 := n4_
                have HR466 := n5_
                have HR479 := n6_
                have HB := n7_
                clear n0_ n1_ n2_ n3_ n4_ n5_ n6_ n7_
                clear hb ho60
                refine hK.out _ _ trivial (fun hHeld => ?_)
                clear hK K
                refine nU (some 60) ?_
                refine oU (i := 4) (N := some 64) (fun K hK => ?_)
                refine Kd.R_append_rows_step Kd.string (w0 := w) w.heap.size (by rfl) (.tmp 60) (.tmp 63) 26 9 (.string ⟨#[]⟩) 16 rfl Tryz.underlying26 info9 rfl (by decide) (by omega) v461 y460 y463 _ _ _ (fun k_ => some k_ ≠ (.slice (some ad435) x6_2.length co53 : Value).ownBlock ∧ some k_ ≠ (v471 : Value).ownBlock) (fun _ => False) rfl rfl ?aO ?aR (fun _ _ h => h) (fun _ h => h.elim) ?aF ?aB ?aS ?aL ?_
                (case aR => repeat (first | exact (by repeat (first | (with_reducible exact HR466.out) | (with_reducible refine Kd.C_alloc ?_ _) | (with_reducible refine Kd.C_drewN ?_ _) | (with_reducible refine Kd.C_drew ?_) | exact HR466.out)) | (with_reducible refine Kd.C_alloc ?_ _) | (with_reducible refine Kd.C_drewN ?_ _) | (with_reducible refine Kd.C_drew ?_)))
                (case aB => exact bG)
                (case aF => exact (fun k_ hk => ⟨Kd.fresh' (Kd.R_lt (kR HO_6)) k_ hk, Kd.fresh' (Kd.R_lt (kR HO472)) k_ hk⟩))
                (case aO => exact (by (with_reducible repeat (first | apply Kd.R_alloc | apply Kd.R_drewN | apply Kd.R_drew)); exact Kd.R_mono HO462.out (fun _ hk => ⟨hk.1.2, hk.2⟩)))
                (case aS => exact (below_size bG))
                (case aL => have := LMc48.out; omega)
                intro v468 w61 ho hb hg hat
                rw [← Ny467.out] at ho
                have n0_ := Aside0.mk (Kd.R_after (ok := (fun k_ => some k_ ≠ (v471 : Value).ownBlock)) (by (with_reducible repeat (first | apply Kd.R_alloc | apply Kd.R_drewN | apply Kd.R_drew)); exact Kd.R_mono HO_6.out (fun _ hk => ⟨hk.1.2, hk.2⟩)) hg hat)
                have n1_ := Aside0.mk (Kd.R_over' (kR HO_22) (Kd.R_typed (kR HO462)) (by decide) hg)
                have n2_ := Aside0.mk (blk_grown (g := gb428) (o := .cells #[.int .i64 a0_0, .int .i64 a0_1] 25 (0, 0)) bK hg (Kd.R_ne HO462.out BK428.out (by decide)))
                have n3_ := Aside0.mk (Kd.R_after (ok := (fun k_ => some k_ ≠ (.slice (some ad435) x6_2.length co53 : Value).ownBlock)) (by (with_reducible repeat (first | apply Kd.R_alloc | apply Kd.R_drewN | apply Kd.R_drew)); exact Kd.R_mono HO472.out (fun _ hk => ⟨hk.1.2, hk.2⟩)) hg hat)
                have n4_ := Aside0.mk (hb)
                have n5_ := Aside0.mk ((show Kd.C Kd.string w61 (some ad435) y463.length y463 from by rw [Ny463.out]; exact Kd.C_take (m := (x11_3 : Int).toNat) ((Kd.R_reads' (Kd.R_after (ok := (fun k_ => some k_ ≠ (v471 : Value).ownBlock)) (by (with_reducible repeat (first | apply Kd.R_alloc | apply Kd.R_drewN | apply Kd.R_drew)); exact Kd.R_mono HO_6.out (fun _ hk => ⟨hk.1.2, hk.2⟩)) hg hat)).2.2) KL55.out))
                have n6_ := Aside0.mk ((show Kd.C Kd.string w61 A56 y476.length y476 from by rw [Ny476.out, KA56.out]; exact Kd.C_drop (m := (x11_3 : Int).toNat) (c := co53) ((Kd.R_reads' (Kd.R_after (ok := (fun k_ => some k_ ≠ (v471 : Value).ownBlock)) (by (with_reducible repeat (first | apply Kd.R_alloc | apply Kd.R_drewN | apply Kd.R_drew)); exact Kd.R_mono HO_6.out (fun _ hk => ⟨hk.1.2, hk.2⟩)) hg hat)).2.2) KL56.out ((Kd.R_reads' (Kd.R_after (ok := (fun k_ => some k_ ≠ (v471 : Value).ownBlock)) (by (with_reducible repeat (first | apply Kd.R_alloc | apply Kd.R_drewN | apply Kd.R_drew)); exact Kd.R_mono HO_6.out (fun _ hk => ⟨hk.1.2, hk.2⟩)) hg hat)).2.1)))
                have n7_ := Aside0.mk (ho)
                clear HO_6
                clear HO_22
                clear BK428
                clear HO472
                clear HB
                clear HR466
                clear HR479
                clear HO462
                have HO_6 := n0_
                have HO_22 := n1_
                have BK428 := n2_
                have HO472 := n3_
                have HB := n4_
                have HR466 := n5_
                have HR479 := n6_
                have HO469 := n7_
                clear n0_ n1_ n2_ n3_ n4_ n5_ n6_ n7_
                clear ho hb hg hat
                refine hK.out _ _ trivial (fun hHeld => ?_)
                clear hK K
                refine nU (some 64) ?_
                exact norm_ (by simp only [putAll, Act.put, List.setIfInBounds_toArray, List.set_cons_zero, List.set_cons_succ]) (hCont (v461, v468, v471) _ ⟨(by (with_reducible repeat (first | apply Kd.R_alloc | apply Kd.R_drewN | apply Kd.R_drew)); exact Kd.R_mono HO469.out (fun _ hk => ⟨hk.2, hk.1⟩)), (by (with_reducible repeat (first | apply Kd.R_alloc | apply Kd.R_drewN | apply Kd.R_drew)); exact Kd.R_mono HO472.out (fun _ hk => ⟨hk.2, hk.1⟩)), (kR HO_22), (by (with_reducible repeat (first | apply Kd.R_alloc | apply Kd.R_drewN | apply Kd.R_drew)); exact Kd.R_mono HO_6.out (fun _ hk => ⟨hk.2, hk.1⟩)), bK, bG⟩)
              rintro ⟨v461, v468, v471⟩ w62 ⟨h0_, h1_, h2_, h3_, h4_, h5_⟩
              have n0_ : Aside0 (Kd.R Kd.string 9 w62 w.heap.size (fun k_ => some k_ ≠ (v471 : Value).ownBlock ∧ some k_ ≠ (.slice (some ad435) x6_2.length co53 : Value).ownBlock) v468 y467) := ⟨h0_⟩
              have n1_ : Aside0 (Kd.R Kd.string 9 w62 w.heap.size (fun k_ => some k_ ≠ (v468 : Value).ownBlock ∧ some k_ ≠ (.slice (some ad435) x6_2.length co53 : Value).ownBlock) v471 y470) := ⟨h1_⟩
              have n2_ : Aside0 (Kd.R (Kd.int .i64) 3 w62 w.heap.size (fun _ => True) (.slice (some ad433) y430.length co12) y430) := ⟨h2_⟩
              have n3_ : Aside0 (Kd.R Kd.string 9 w62 w.heap.size (fun k_ => some k_ ≠ (v468 : Value).ownBlock ∧ some k_ ≠ (v471 : Value).ownBlock) (.slice (some ad435) x6_2.length co53) x6_2) := ⟨h3_⟩
              have n4_ : Aside0 (w62.heap[gb428]? = some (.cells #[.int .i64 a0_0, .int .i64 a0_1] 25 (0, 0))) := ⟨h4_⟩
              have n5_ : Aside0 (Below w.heap.size w w62) := ⟨h5_⟩
              clear HO_6
              clear HO_22
              clear BK428
              clear HB
              clear h0_ h1_ h2_ h3_ h4_ h5_
              have HO469 := n0_
              have HO472 := n1_
              have HO_22 := n2_
              have HO_6 := n3_
              have BK428 := n4_
              have HB := n5_
              clear n0_ n1_ n2_ n3_ n4_ n5_
              have hHeld := trivial
              have HR466 := Aside0.mk (show Kd.C Kd.string w62 (some ad435) y463.length y463 from by rw [Ny463.out]; exact Kd.C_take (m := (x11_3 : Int).toNat) ((Kd.R_reads' HO_6.out).2.2) KL55.out)
              have HR479 := Aside0.mk (show Kd.C Kd.string w62 A56 y476.length y476 from by rw [Ny476.out, KA56.out]; exact Kd.C_drop (m := (x11_3 : Int).toNat) (c := co53) ((Kd.R_reads' HO_6.out).2.2) KL56.out ((Kd.R_reads' HO_6.out).2.1))
              obtain ⟨Ao64, co64, eo64⟩ := Kd.R_slice HO472.out
              (first | subst eo64 | (injection eo64 with f1_ f2_ f3_; have f4_ := f1_.symm; have f5_ := f3_.symm; clear f1_ f2_ f3_; subst f4_; subst f5_))
              refine nV ?_
              refine oU (i := 7) (N := some 67) (fun K hK => ?_)
              refine Kd.R_append_rows_step Kd.string (w0 := w) w.heap.size (by rfl) (.tmp 64) (.tmp 66) 26 9 (.string ⟨#[]⟩) 16 rfl Tryz.underlying26 info9 rfl (by decide) (by omega) v468 y467 y470 _ _ _ (fun k_ => some k_ ≠ (.slice (some ad435) x6_2.length co53 : Value).ownBlock ∧ some k_ ≠ (.slice Ao64 y470.length co64 : Value).ownBlock) (fun _ => False) rfl rfl ?aO ?aR (fun _ _ h => h) (fun _ h => h.elim) ?aF ?aB ?aS ?aL ?_
              (case aR => exact cS ((Kd.R_reads' HO472.out).2.2))
              (case aB => exact bG)
              (case aF => exact (fun k_ hk => ⟨Kd.fresh' (Kd.R_lt (kR HO_6)) k_ hk, Kd.fresh' (Kd.R_lt (kR HO472)) k_ hk⟩))
              (case aO => exact (by (with_reducible repeat (first | apply Kd.R_alloc | apply Kd.R_drewN | apply Kd.R_drew)); exact Kd.R_mono HO469.out (fun _ hk => ⟨hk.2, hk.1⟩)))
              (case aS => exact (below_size bG))
              (case aL => have := LMc49.out; omega)
              intro v474 w63 ho hb hg hat
              rw [← Ny473.out] at ho
              have n0_ := Aside0.mk (Kd.R_after (ok := (fun k_ => some k_ ≠ (.slice Ao64 y470.length co64 : Value).ownBlock)) (by (with_reducible repeat (first | apply Kd.R_alloc | apply Kd.R_drewN | apply Kd.R_drew)); exact Kd.R_mono HO_6.out (fun _ hk => ⟨hk.2, hk.1⟩)) hg hat)
              have n1_ := Aside0.mk (Kd.R_over' (kR HO_22) (Kd.R_typed (kR HO469)) (by decide) hg)
              have n2_ := Aside0.mk (blk_grown (g := gb428) (o := .cells #[.int .i64 a0_0, .int .i64 a0_1] 25 (0, 0)) bK hg (Kd.R_ne HO469.out BK428.out (by decide)))
              have n3_ := Aside0.mk (Kd.R_after (ok := (fun k_ => some k_ ≠ (.slice (some ad435) x6_2.length co53 : Value).ownBlock)) (by (with_reducible repeat (first | apply Kd.R_alloc | apply Kd.R_drewN | apply Kd.R_drew)); exact Kd.R_mono HO472.out (fun _ hk => ⟨hk.2, hk.1⟩)) hg hat)
              have n4_ := Aside0.mk (hb)
              have n5_ := Aside0.mk ((show Kd.C Kd.string w63 (some ad435) y463.length y463 from by rw [Ny463.out]; exact Kd.C_take (m := (x11_3 : Int).toNat) ((Kd.R_reads' (Kd.R_after (ok := (fun k_ => some k_ ≠ (.slice Ao64 y470.length co64 : Value).ownBlock)) (by (with_reducible repeat (first | apply Kd.R_alloc | apply Kd.R_drewN | apply Kd.R_drew)); exact Kd.R_mono HO_6.out (fun _ hk => ⟨hk.2, hk.1⟩)) hg hat)).2.2) KL55.out))
              have n6_ := Aside0.mk ((show Kd.C Kd.string w63 A56 y476.length y476 from by rw [Ny476.out, KA56.out]; exact Kd.C_drop (m := (x11_3 : Int).toNat) (c := co53) ((Kd.R_reads' (Kd.R_after (ok := (fun k_ => some k_ ≠ (.slice Ao64 y470.length co64 : Value).ownBlock)) (by (with_reducible repeat (first | apply Kd.R_alloc | apply Kd.R_drewN | apply Kd.R_drew)); exact Kd.R_mono HO_6.out (fun _ hk => ⟨hk.2, hk.1⟩)) hg hat)).2.2) KL56.out ((Kd.R_reads' (Kd.R_after (ok := (fun k_ => some k_ ≠ (.slice Ao64 y470.length co64 : Value).ownBlock)) (by (with_reducible repeat (first | apply Kd.R_alloc | apply Kd.R_drewN | apply Kd.R_drew)); exact Kd.R_mono HO_6.out (fun _ hk => ⟨hk.2, hk.1⟩)) hg hat)).2.1)))
              have n7_ := Aside0.mk (ho)
              clear HO_6
              clear HO_22
              clear BK428
              clear HO472
              clear HB
              clear HR466
              clear HR479
              clear HO469
              have HO_6 := n0_
              have HO_22 := n1_
              have BK428 := n2_
              have HO472 := n3_
              have HB := n4_
              have HR466 := n5_
              have HR479 := n6_
              have HO475 := n7_
              clear n0_ n1_ n2_ n3_ n4_ n5_ n6_ n7_
              clear ho hb hg hat
              refine hK.out _ _ trivial (fun hHeld => ?_)
              clear hK K
              refine nU (some 67) ?_
              refine oU (i := 11) (N := some 71) (fun K hK => ?_)
              refine Kd.R_append_rows_step Kd.string (w0 := w) w.heap.size (by rfl) (.tmp 67) (.tmp 70) 26 9 (.string ⟨#[]⟩) 16 rfl Tryz.underlying26 info9 rfl (by decide) (by omega) v474 y473 y476 _ _ _ (fun k_ => some k_ ≠ (.slice (some ad435) x6_2.length co53 : Value).ownBlock ∧ some k_ ≠ (.slice Ao64 y470.length co64 : Value).ownBlock) (fun _ => False) rfl rfl ?aO ?aR (fun _ _ h => h) (fun _ h => h.elim) ?aF ?aB ?aS ?aL ?_
              (case aR => repeat (first | exact (by repeat (first | (with_reducible exact HR479.out) | (with_reducible refine Kd.C_alloc ?_ _) | (with_reducible refine Kd.C_drewN ?_ _) | (with_reducible refine Kd.C_drew ?_) | exact HR479.out)) | (with_reducible refine Kd.C_alloc ?_ _) | (with_reducible refine Kd.C_drewN ?_ _) | (with_reducible refine Kd.C_drew ?_)))
              (case aB => exact bG)
              (case aF => exact (fun k_ hk => ⟨Kd.fresh' (Kd.R_lt (kR HO_6)) k_ hk, Kd.fresh' (Kd.R_lt (kR HO472)) k_ hk⟩))
              (case aO => exact (kR HO475))
              (case aS => exact (below_size bG))
              (case aL => have := LMc52.out; omega)
              intro v481 w65 ho hb hg hat
              rw [← Ny480.out] at ho
              have n0_ := Aside0.mk (Kd.R_after (ok := (fun k_ => some k_ ≠ (.slice Ao64 y470.length co64 : Value).ownBlock)) (kR HO_6) hg hat)
              have n1_ := Aside0.mk (Kd.R_over' (kR HO_22) (Kd.R_typed (kR HO475)) (by decide) hg)
              have n2_ := Aside0.mk (blk_grown (g := gb428) (o := .cells #[.int .i64 a0_0, .int .i64 a0_1] 25 (0, 0)) bK hg (Kd.R_ne HO475.out BK428.out (by decide)))
              have n3_ := Aside0.mk (Kd.R_after (ok := (fun k_ => some k_ ≠ (.slice (some ad435) x6_2.length co53 : Value).ownBlock)) (kR HO472) hg hat)
              have n4_ := Aside0.mk (hb)
              have n5_ := Aside0.mk ((show Kd.C Kd.string w65 (some ad435) y463.length y463 from by rw [Ny463.out]; exact Kd.C_take (m := (x11_3 : Int).toNat) ((Kd.R_reads' (Kd.R_after (ok := (fun k_ => some k_ ≠ (.slice Ao64 y470.length co64 : Value).ownBlock)) (kR HO_6) hg hat)).2.2) KL55.out))
              have n6_ := Aside0.mk ((show Kd.C Kd.string w65 A56 y476.length y476 from by rw [Ny476.out, KA56.out]; exact Kd.C_drop (m := (x11_3 : Int).toNat) (c := co53) ((Kd.R_reads' (Kd.R_after (ok := (fun k_ => some k_ ≠ (.slice Ao64 y470.length co64 : Value).ownBlock)) (kR HO_6) hg hat)).2.2) KL56.out ((Kd.R_reads' (Kd.R_after (ok := (fun k_ => some k_ ≠ (.slice Ao64 y470.length co64 : Value).ownBlock)) (kR HO_6) hg hat)).2.1)))
              have n7_ := Aside0.mk (ho)
              clear HO_6
              clear HO_22
              clear BK428
              clear HO472
              clear HB
              clear HR466
              clear HR479
              clear HO475
              have HO_6 := n0_
              have HO_22 := n1_
              have BK428 := n2_
              have HO472 := n3_
              have HB := n4_
              have HR466 := n5_
              have HR479 := n6_
              have HO482 := n7_
              clear n0_ n1_ n2_ n3_ n4_ n5_ n6_ n7_
              clear ho hb hg hat
              refine hK.out _ _ trivial (fun hHeld => ?_)
              clear hK K
              refine nU (some 71) ?_
              refine pU (i := 12) (N := some 6) ?_
              refine done_ (done_of HT_.out (by kernel_rfl)) ?_
              try go_wp2
              go_roundg k3
              case measure => have := HK1.out; have := HK2.out; have := HK3.out; omega
              case rel => exact ⟨(y480), (wrap64 (x24_2 + 1)), fR, H', ⟨by have := HK1.out; have := HK2.out; have := HK3.out; omega⟩, ⟨by (with_reducible repeat (first | apply Kd.R_alloc | apply Kd.R_drewN | apply Kd.R_drew)); exact Kd.R_mono HO482.out (fun _ hk => trivial)⟩, ⟨kR HO_22⟩, ⟨bK⟩, ⟨bG⟩⟩
          ·rw [if_neg c19] at H
           have c19b0 : decide (x11_3 < (x6_2.length : Int)) = false := decide_eq_false c19
           clear c19
           by_cases c66 : x11_3 = (x6_2.length : Int)
           ·rw [if_pos c66] at H
            have c66b0 : (x11_3 == (x6_2.length : Int)) = true := beq_iff_eq.mpr c66
            have c66b1 : (x11_3 != (x6_2.length : Int)) = false := bne_eq_false_iff_eq.mpr c66
            clear c66
            obtain ⟨y483, hy483⟩ : ∃ y_ : List ByteArray, y_ = (([] : List ByteArray)) := ⟨_, rfl⟩
            replace H : (if 0 ≤ x11_3 then (if x11_3 ≤ (x6_2.length : Int) then ((some (x6_2.take (x11_3 : Int).toNat : List ByteArray)).bind fun y486 => (if y483.length + y486.length < 8796093022208 then ((some (y483 ++ y486 : List ByteArray)).bind fun y490 => ((some (([t434] : List ByteArray) : List ByteArray)).bind fun y493 => (if y490.length + y493.length < 8796093022208 then ((some (y490 ++ y493 : List ByteArray)).bind fun y496 => ((some (x6_2.drop (x11_3 : Int).toNat : List ByteArray)).bind fun y499 => (if y496.length + y499.length < 8796093022208 then (spec_NextCodes.l1 k3 a1 (y496 ++ y499) x7_1 y430 (y430.length : Int) (wrap64 (x24_2 + 1)) a0_0 a0_1) else (none)))) else (none)))) else (none))) else (none)) else (none)) = some (r1, r2) := hZ hy483 H
            have Ny483 := Aside0.mk hy483
            clear hy483
            replace H := nz H; obtain ⟨c67, H⟩ := H
            have c67b0 := eq_true c67
            have c67b1 : decide (0 ≤ x11_3) = true := decide_eq_true c67
            clear c67
            replace H := nz H; obtain ⟨c68, H⟩ := H
            have c68b0 := eq_true c68
            have c68b1 : decide (x11_3 ≤ (x6_2.length : Int)) = true := decide_eq_true c68
            clear c68
            obtain ⟨y486, hy486⟩ : ∃ y_ : List ByteArray, y_ = (x6_2.take (x11_3 : Int).toNat) := ⟨_, rfl⟩
            replace H : (if y483.length + y486.length < 8796093022208 then ((some (y483 ++ y486 : List ByteArray)).bind fun y490 => ((some (([t434] : List ByteArray) : List ByteArray)).bind fun y493 => (if y490.length + y493.length < 8796093022208 then ((some (y490 ++ y493 : List ByteArray)).bind fun y496 => ((some (x6_2.drop (x11_3 : Int).toNat : List ByteArray)).bind fun y499 => (if y496.length + y499.length < 8796093022208 then (spec_NextCodes.l1 k3 a1 (y496 ++ y499) x7_1 y430 (y430.length : Int) (wrap64 (x24_2 + 1)) a0_0 a0_1) else (none)))) else (none)))) else (none)) = some (r1, r2) := hZ hy486 H
            have Ny486 := Aside0.mk hy486
            clear hy486
            replace H := nz H; obtain ⟨c69, H⟩ := H
            have LMc69 := Aside0.mk c69
            clear c69
            obtain ⟨y490, hy490⟩ : ∃ y_ : List ByteArray, y_ = (y483 ++ y486) := ⟨_, rfl⟩
            replace H : ((some (([t434] : List ByteArray) : List ByteArray)).bind fun y493 => (if y490.length + y493.length < 8796093022208 then ((some (y490 ++ y493 : List ByteArray)).bind fun y496 => ((some (x6_2.drop (x11_3 : Int).toNat : List ByteArray)).bind fun y499 => (if y496.length + y499.length < 8796093022208 then (spec_NextCodes.l1 k3 a1 (y496 ++ y499) x7_1 y430 (y430.length : Int) (wrap64 (x24_2 + 1)) a0_0 a0_1) else (none)))) else (none))) = some (r1, r2) := hZ hy490 H
            have Ny490 := Aside0.mk hy490
            clear hy490
            obtain ⟨y493, hy493⟩ : ∃ y_ : List ByteArray, y_ = (([t434] : List ByteArray)) := ⟨_, rfl⟩
            replace H : (if y490.length + y493.length < 8796093022208 then ((some (y490 ++ y493 : List ByteArray)).bind fun y496 => ((some (x6_2.drop (x11_3 : Int).toNat : List ByteArray)).bind fun y499 => (if y496.length + y499.length < 8796093022208 then (spec_NextCodes.l1 k3 a1 (y496 ++ y499) x7_1 y430 (y430.length : Int) (wrap64 (x24_2 + 1)) a0_0 a0_1) else (none)))) else (none)) = some (r1, r2) := hZ hy493 H
            have Ny493 := Aside0.mk hy493
            clear hy493
            replace H := nz H; obtain ⟨c70, H⟩ := H
            have LMc70 := Aside0.mk c70
            clear c70
            obtain ⟨y496, hy496⟩ : ∃ y_ : List ByteArray, y_ = (y490 ++ y493) := ⟨_, rfl⟩
            replace H : ((some (x6_2.drop (x11_3 : Int).toNat : List ByteArray)).bind fun y499 => (if y496.length + y499.length < 8796093022208 then (spec_NextCodes.l1 k3 a1 (y496 ++ y499) x7_1 y430 (y430.length : Int) (wrap64 (x24_2 + 1)) a0_0 a0_1) else (none))) = some (r1, r2) := hZ hy496 H
            have Ny496 := Aside0.mk hy496
            clear hy496
            have c71b0 := eq_true (oD : 0 ≤ x11_3)
            have c72b0 := eq_true (oD : x11_3 ≤ (x6_2.length : Int))
            obtain ⟨y499, hy499⟩ : ∃ y_ : List ByteArray, y_ = (x6_2.drop (x11_3 : Int).toNat) := ⟨_, rfl⟩
            replace H : (if y496.length + y499.length < 8796093022208 then (spec_NextCodes.l1 k3 a1 (y496 ++ y499) x7_1 y430 (y430.length : Int) (wrap64 (x24_2 + 1)) a0_0 a0_1) else (none)) = some (r1, r2) := hZ hy499 H
            have Ny499 := Aside0.mk hy499
            clear hy499
            replace H := nz H; obtain ⟨c73, H⟩ := H
            have LMc73 := Aside0.mk c73
            clear c73
            obtain ⟨y503, hy503⟩ : ∃ y_ : List ByteArray, y_ = (y496 ++ y499) := ⟨_, rfl⟩
            replace H : (spec_NextCodes.l1 k3 a1 y503 x7_1 y430 (y430.length : Int) (wrap64 (x24_2 + 1)) a0_0 a0_1) = some (r1, r2) := hZ hy503 H
            have Ny503 := Aside0.mk hy503
            clear hy503
            have H' := Aside0.mk H
            clear H
            obtain ⟨Ao74, co74, eo74⟩ := Kd.R_slice HO_6.out
            subst eo74
            try go_wp2
            have n0_ := Aside0.mk (Kd.R_drew HO_6.out)
            have n1_ := Aside0.mk (Kd.R_drew HO_22.out)
            have n2_ := Aside0.mk (blk_drew BK428.out)
            have n3_ := Aside0.mk (below_drew1 HB.out)
            clear HO_6
            clear HO_22
            clear BK428
            clear HB
            have HO_6 := n0_
            have HO_22 := n1_
            have BK428 := n2_
            have HB := n3_
            clear n0_ n1_ n2_ n3_
            have q76 : (x11_3 : Int) ≤ ((x6_2.length : Int) : Int) := oD
            obtain ⟨i076, hi076, _, hsz76, _⟩ := info_parts info9
            have hroom76 : x6_2.length ≤ co74 := (Kd.R_reads' HO_6.out).2.1
            have hC76 : Kd.C Kd.string _ Ao74 x6_2.length x6_2 := (Kd.R_reads' HO_6.out).2.2
            have hcut76 := cut_to (P := Tryz.prog) 26 9 .i64 Tryz.underlying26 hi076 Ao74 x6_2.length co74 x11_3 (oD) q76 hroom76
            have hr76 := Kd.C_take (m := (x11_3 : Int).toNat) hC76 (by omega)
            have hy76 : y486.length = (x11_3 : Int).toNat := (by rw [Ny486.out, List.length_take]; omega)
            rw [← Ny486.out] at hr76
            rw [← hy76] at hcut76
            have HR489 := Aside0.mk hr76
            have HC489 := Aside0.mk (show y486.length ≤ co74 from by omega)
            clear hr76 hC76 hroom76 hi076 hsz76
            have KY76 := Aside0.mk hy76
            clear hy76
            have KL76 := Aside0.mk (show (x11_3 : Int).toNat ≤ x6_2.length from by omega)
            replace q76 := eq_true q76
            have q77 : (x11_3 : Int) ≤ ((x6_2.length : Int) : Int) := oD
            obtain ⟨i077, hi077, _, hsz77, _⟩ := info_parts info9
            have hroom77 : x6_2.length ≤ co74 := (Kd.R_reads' HO_6.out).2.1
            have hC77 : Kd.C Kd.string _ Ao74 x6_2.length x6_2 := (Kd.R_reads' HO_6.out).2.2
            have q077 : (0 : Int) ≤ (x11_3 : Int) := oD
            have hcut77 := cut_from (P := Tryz.prog) 26 9 .i64 Tryz.underlying26 hi077 1 hsz77 Ao74 x6_2.length co74 x11_3 q077 q77
            have hr77 := Kd.C_drop (m := (x11_3 : Int).toNat) (c := co74) hC77 (by omega) hroom77
            obtain ⟨A77, hA77⟩ : ∃ A_, A_ = (if co74 = (x11_3 : Int).toNat then Ao74 else (Ao74 : Option Addr).map (·.add ((x11_3 : Int).toNat * 1))) := ⟨_, rfl⟩
            obtain ⟨c77, hc77⟩ : ∃ c1, c1 = co74 - (x11_3 : Int).toNat := ⟨_, rfl⟩
            have hy77 : y499.length = x6_2.length - (x11_3 : Int).toNat := (by rw [Ny499.out, List.length_drop] <;> omega)
            rw [show (x6_2).drop (x11_3 : Int).toNat = y499 from Ny499.out.symm] at hr77
            replace hr77 : Kd.C Kd.string _ A77 y499.length y499 := (by rw [hA77]; exact hr77)
            rw [← hy77, ← hA77, ← hc77] at hcut77
            have HR502 := Aside0.mk hr77
            have HC502 := Aside0.mk (show y499.length ≤ c77 from by rw [hy77, hc77]; exact Nat.sub_le_sub_right hroom77 _)
            clear hr77 hC77 hroom77 hi077 hsz77 hc77
            have KY77 := Aside0.mk hy77
            have KA77 := Aside0.mk hA77
            clear hy77 hA77
            have KL77 := Aside0.mk (show (x11_3 : Int).toNat ≤ x6_2.length from by omega)
            replace q77 := eq_true q77
            refine start_ (n := 13) (S := fun w' => True) (ds := []) #[false, false, false, false, false, false, false, false, false, false, false, false, false] (by kernel_rfl) rfl rfl trivial (fun hHeld => ?_); refine with_tabW spec_NextCodes.tab15 spec_NextCodes.bits15 (fun HT_ HW_ => ?_)
            generalize wr.drew = w75 at HO_6 HO_22 BK428 HB HR489 HR502 hHeld ⊢
            refine pU (i := 1) (N := some 61) ?_
            refine pU (i := 2) (N := some 62) ?_
            refine pU (i := 3) (N := some 63) ?_
            refine pU (i := 5) (N := some 65) ?_
            refine pU (i := 8) (N := some 68) ?_
            refine pU (i := 9) (N := some 69) ?_
            refine pU (i := 10) (N := some 70) ?_
            refine join_ (σ := Value × Value × Value) 3 #[true, true, true, true, true, true, true, false, true, true, true, false, false] (fun s_ => [(60, s_.1), (64, s_.2.1), (66, s_.2.2)]) (fun s_ w' => (Kd.R Kd.string 9 w' w.heap.size (fun k_ => some k_ ≠ (s_.2.2 : Value).ownBlock ∧ some k_ ≠ (.slice Ao74 x6_2.length co74 : Value).ownBlock) s_.2.1 y490) ∧ (Kd.R Kd.string 9 w' w.heap.size (fun k_ => some k_ ≠ (s_.2.1 : Value).ownBlock ∧ some k_ ≠ (.slice Ao74 x6_2.length co74 : Value).ownBlock) s_.2.2 y493) ∧ (Kd.R (Kd.int .i64) 3 w' w.heap.size (fun _ => True) (.slice (some ad433) y430.length co12) y430) ∧ (Kd.R Kd.string 9 w' w.heap.size (fun k_ => some k_ ≠ (s_.2.1 : Value).ownBlock ∧ some k_ ≠ (s_.2.2 : Value).ownBlock) (.slice Ao74 x6_2.length co74) x6_2) ∧ (w'.heap[gb428]? = some (.cells #[.int .i64 a0_0, .int .i64 a0_1] 25 (0, 0))) ∧ (Below w.heap.size w w')) ?_ ?_
            rotate_left
            ·intro hCont
             refine two_ (i := 0) (j := 6) (Ni := some 60) (Nj := some 66) #[true, true, true, true, false, true, false, false, true, true, true, false, false] #[false, true, true, true, false, true, true, false, true, true, true, false, false] rfl rfl rfl rfl (two_of HT_.out (by kernel_rfl)) (by decide) (by decide) (fun K hK => ?_) (fun K hK => ?_)
             ·skip
              refine Kd.R_lit_step Kd.string _ 9 ?hg (N := 60) ?hd (xs := ([] : List ByteArray)) (inner := []) (ok := fun _ => True) (okp := fun _ => True) ?hr ?hp (fun _ hk => hk) trivial (Below.refl _ _) (Nat.le_refl _) (by simp) ?_; (case hd => rfl); (case hg => rfl); (case hr => first | (go_simp; done) | (go_simp; rfl)); (case hp => exact (Reps.none _ _))
              intro v484 w78 ho79 hb hg_ hnew_
              clear hg_ hnew_
              (first | rw [← Ny483.out] at ho79 | (simp only [Int.reduceToNat] at ho79; rw [← Ny483.out] at ho79))
              have n0_ := Aside0.mk (Kd.R_elder' (kR HO_6) (Kd.R_base ho79) hb)
              have n1_ := Aside0.mk (Kd.R_below (kR HO_22) hb)
              have n2_ := Aside0.mk (Kd.R_lower (Kd.R_new' ho79 (Kd.R_lt (kR HO_6))) (below_size bG))
              have n3_ := Aside0.mk (blk_below (g := gb428) (o := .cells #[.int .i64 a0_0, .int .i64 a0_1] 25 (0, 0)) bK hb)
              have n4_ := Aside0.mk (Kd.C_below (by repeat (first | (with_reducible exact HR489.out) | (with_reducible refine Kd.C_alloc ?_ _) | (with_reducible refine Kd.C_drewN ?_ _) | (with_reducible refine Kd.C_drew ?_) | exact HR489.out)) hb)
              have n5_ := Aside0.mk (Kd.C_below (by repeat (first | (with_reducible exact HR502.out) | (with_reducible refine Kd.C_alloc ?_ _) | (with_reducible refine Kd.C_drewN ?_ _) | (with_reducible refine Kd.C_drew ?_) | exact HR502.out)) hb)
              have n6_ := Aside0.mk (below_step bG hb)
              clear HO_6
              clear HO_22
              clear BK428
              clear HR489
              clear HR502
              clear HB
              have HO_6 := n0_
              have HO_22 := n1_
              have HO485 := n2_
              have BK428 := n3_
              have HR489 := n4_
              have HR502 := n5_
              have HB := n6_
              clear n0_ n1_ n2_ n3_ n4_ n5_ n6_
              clear hb ho79
              refine hK.out _ _ trivial (fun hHeld => ?_)
              clear hK K
              refine nU (some 60) ?_
              refine two_ (i := 4) (j := 6) (Ni := some 64) (Nj := some 66) #[true, true, true, true, true, true, false, false, true, true, true, false, false] #[true, true, true, true, false, true, true, false, true, true, true, false, false] rfl rfl rfl rfl (two_of HT_.out (by kernel_rfl)) (by decide) (by decide) (fun K hK => ?_) (fun K hK => ?_)
              ·skip
               refine Kd.R_append_rows_step Kd.string (w0 := w) w.heap.size (by rfl) (.tmp 60) (.tmp 63) 26 9 (.string ⟨#[]⟩) 16 rfl Tryz.underlying26 info9 rfl (by decide) (by omega) v484 y483 y486 _ _ _ (fun k_ => some k_ ≠ (.slice Ao74 x6_2.length co74 : Value).ownBlock) (fun _ => False) rfl rfl ?aO ?aR (fun _ _ h => h) (fun _ h => h.elim) ?aF ?aB ?aS ?aL ?_
               (case aR => repeat (first | exact (by repeat (first | (with_reducible exact HR489.out) | (with_reducible refine Kd.C_alloc ?_ _) | (with_reducible refine Kd.C_drewN ?_ _) | (with_reducible refine Kd.C_drew ?_) | exact HR489.out)) | (with_reducible refine Kd.C_alloc ?_ _) | (with_reducible refine Kd.C_drewN ?_ _) | (with_reducible refine Kd.C_drew ?_)))
               (case aB => exact bG)
               (case aF => exact (fun k_ hk => Kd.fresh' (Kd.R_lt (kR HO_6)) k_ hk))
               (case aO => exact (by (with_reducible repeat (first | apply Kd.R_alloc | apply Kd.R_drewN | apply Kd.R_drew)); exact Kd.R_mono HO485.out (fun _ hk => hk.2)))
               (case aS => exact (below_size bG))
               (case aL => have := LMc69.out; omega)
               intro v491 w80 ho hb hg hat
               rw [← Ny490.out] at ho
               have n0_ := Aside0.mk (Kd.R_after (ok := (fun _ => True)) (kR HO_6) hg hat)
               have n1_ := Aside0.mk (Kd.R_over' (kR HO_22) (Kd.R_typed (kR HO485)) (by decide) hg)
               have n2_ := Aside0.mk (blk_grown (g := gb428) (o := .cells #[.int .i64 a0_0, .int .i64 a0_1] 25 (0, 0)) bK hg (Kd.R_ne HO485.out BK428.out (by decide)))
               have n3_ := Aside0.mk (hb)
               have n4_ := Aside0.mk ((show Kd.C Kd.string w80 Ao74 y486.length y486 from by rw [Ny486.out]; exact Kd.C_take (m := (x11_3 : Int).toNat) ((Kd.R_reads' (Kd.R_after (ok := (fun _ => True)) (kR HO_6) hg hat)).2.2) KL76.out))
               have n5_ := Aside0.mk ((show Kd.C Kd.string w80 A77 y499.length y499 from by rw [Ny499.out, KA77.out]; exact Kd.C_drop (m := (x11_3 : Int).toNat) (c := co74) ((Kd.R_reads' (Kd.R_after (ok := (fun _ => True)) (kR HO_6) hg hat)).2.2) KL77.out ((Kd.R_reads' (Kd.R_after (ok := (fun _ => True)) (kR HO_6) hg hat)).2.1)))
               have n6_ := Aside0.mk (ho)
               clear HO_6
               clear HO_22
               clear BK428
               clear HB
               clear HR489
               clear HR502
               clear HO485
               have HO_6 := n0_
               have HO_22 := n1_
               have BK428 := n2_
               have HB := n3_
               have HR489 := n4_
               have HR502 := n5_
               have HO492 := n6_
               clear n0_ n1_ n2_ n3_ n4_ n5_ n6_
               clear ho hb hg hat
               refine hK.out _ _ trivial (fun hHeld => ?_)
               clear hK K
               refine nU (some 64) ?_
               refine oU (i := 6) (N := some 66) (fun K hK => ?_)
               refine Kd.R_lit_step Kd.string _ 9 ?hg (N := 66) ?hd (xs := ([t434] : List ByteArray)) (inner := [.string t434]) (ok := fun _ => True) (okp := fun _ => True) ?hr ?hp (fun _ hk => hk) trivial (Below.refl _ _) (Nat.le_refl _) (by simp) ?_; (case hd => rfl); (case hg => rfl); (case hr => first | (go_simp; done) | (go_simp; rfl)); (case hp => exact (Reps.one (show Kd.M Kd.string _ _ _ t434 [.string t434] from rfl) (Reps.none _ _)))
               intro v494 w81 ho82 hb hg_ hnew_
               clear hg_ hnew_
               (first | rw [← Ny493.out] at ho82 | (simp only [Int.reduceToNat] at ho82; rw [← Ny493.out] at ho82))
               have n0_ := Aside0.mk (Kd.R_elder' (kR HO_6) (Kd.R_base ho82) hb)
               have n1_ := Aside0.mk (Kd.R_below (kR HO_22) hb)
               have n2_ := Aside0.mk (Kd.R_elder' (kR HO492) (Kd.R_base ho82) hb)
               have n3_ := Aside0.mk (Kd.R_lower (Kd.R_new' (Kd.R_new' ho82 (Kd.R_lt (kR HO_6))) (Kd.R_lt (kR HO492))) (below_size bG))
               have n4_ := Aside0.mk (blk_below (g := gb428) (o := .cells #[.int .i64 a0_0, .int .i64 a0_1] 25 (0, 0)) bK hb)
               have n5_ := Aside0.mk (Kd.C_below (by repeat (first | (with_reducible exact HR489.out) | (with_reducible refine Kd.C_alloc ?_ _) | (with_reducible refine Kd.C_drewN ?_ _) | (with_reducible refine Kd.C_drew ?_) | exact HR489.out)) hb)
               have n6_ := Aside0.mk (Kd.C_below (by repeat (first | (with_reducible exact HR502.out) | (with_reducible refine Kd.C_alloc ?_ _) | (with_reducible refine Kd.C_drewN ?_ _) | (with_reducible refine Kd.C_drew ?_) | exact HR502.out)) hb)
               have n7_ := Aside0.mk (below_step bG hb)
               clear HO_6
               clear HO_22
               clear HO492
               clear BK428
               clear HR489
               clear HR502
               clear HB
               have HO_6 := n0_
               have HO_22 := n1_
               have HO492 := n2_
               have HO495 := n3_
               have BK428 := n4_
               have HR489 := n5_
               have HR502 := n6_
               have HB := n7_
               clear n0_ n1_ n2_ n3_ n4_ n5_ n6_ n7_
               clear hb ho82
               refine hK.out _ _ trivial (fun hHeld => ?_)
               clear hK K
               refine nU (some 66) ?_
               exact norm_ (by simp only [putAll, Act.put, List.setIfInBounds_toArray, List.set_cons_zero, List.set_cons_succ]) (hCont (v484, v491, v494) _ ⟨(by (with_reducible repeat (first | apply Kd.R_alloc | apply Kd.R_drewN | apply Kd.R_drew)); exact Kd.R_mono HO492.out (fun _ hk => ⟨hk.2, hk.1⟩)), (by (with_reducible repeat (first | apply Kd.R_alloc | apply Kd.R_drewN | apply Kd.R_drew)); exact Kd.R_mono HO495.out (fun _ hk => ⟨hk.2, hk.1.2⟩)), (kR HO_22), (by (with_reducible repeat (first | apply Kd.R_alloc | apply Kd.R_drewN | apply Kd.R_drew)); exact Kd.R_mono HO_6.out (fun _ hk => ⟨hk.1.2, hk.2⟩)), bK, bG⟩)
              ·skip
               refine Kd.R_lit_step Kd.string _ 9 ?hg (N := 66) ?hd (xs := ([t434] : List ByteArray)) (inner := [.string t434]) (ok := fun _ => True) (okp := fun _ => True) ?hr ?hp (fun _ hk => hk) trivial (Below.refl _ _) (Nat.le_refl _) (by simp) ?_; (case hd => rfl); (case hg => rfl); (case hr => first | (go_simp; done) | (go_simp; rfl)); (case hp => exact (Reps.one (show Kd.M Kd.string _ _ _ t434 [.string t434] from rfl) (Reps.none _ _)))
               intro v494 w80 ho81 hb hg_ hnew_
               clear hg_ hnew_
               (first | rw [← Ny493.out] at ho81 | (simp only [Int.reduceToNat] at ho81; rw [← Ny493.out] at ho81))
               have n0_ := Aside0.mk (Kd.R_elder' (kR HO_6) (Kd.R_base ho81) hb)
               have n1_ := Aside0.mk (Kd.R_below (kR HO_22) hb)
               have n2_ := Aside0.mk (Kd.R_elder' (kR HO485) (Kd.R_base ho81) hb)
               have n3_ := Aside0.mk (Kd.R_lower (Kd.R_new' (Kd.R_new' ho81 (Kd.R_lt (kR HO_6))) (Kd.R_lt (kR HO485))) (below_size bG))
               have n4_ := Aside0.mk (blk_below (g := gb428) (o := .cells #[.int .i64 a0_0, .int .i64 a0_1] 25 (0, 0)) bK hb)
               have n5_ := Aside0.mk (Kd.C_below (by repeat (first | (with_reducible exact HR489.out) | (with_reducible refine Kd.C_alloc ?_ _) | (with_reducible refine Kd.C_drewN ?_ _) | (with_reducible refine Kd.C_drew ?_) | exact HR489.out)) hb)
               have n6_ := Aside0.mk (Kd.C_below (by repeat (first | (with_reducible exact HR502.out) | (with_reducible refine Kd.C_alloc ?_ _) | (with_reducible refine Kd.C_drewN ?_ _) | (with_reducible refine Kd.C_drew ?_) | exact HR502.out)) hb)
               have n7_ := Aside0.mk (below_step bG hb)
               clear HO_6
               clear HO_22
               clear HO485
               clear BK428
               clear HR489
               clear HR502
               clear HB
               have HO_6 := n0_
               have HO_22 := n1_
               have HO485 := n2_
               have HO495 := n3_
               have BK428 := n4_
               have HR489 := n5_
               have HR502 := n6_
               have HB := n7_
               clear n0_ n1_ n2_ n3_ n4_ n5_ n6_ n7_
               clear hb ho81
               refine hK.out _ _ trivial (fun hHeld => ?_)
               clear hK K
               refine nU (some 66) ?_
               refine oU (i := 4) (N := some 64) (fun K hK => ?_)
               refine Kd.R_append_rows_step Kd.string (w0 := w) w.heap.size (by rfl) (.tmp 60) (.tmp 63) 26 9 (.string ⟨#[]⟩) 16 rfl Tryz.underlying26 info9 rfl (by decide) (by omega) v484 y483 y486 _ _ _ (fun k_ => some k_ ≠ (.slice Ao74 x6_2.length co74 : Value).ownBlock ∧ some k_ ≠ (v494 : Value).ownBlock) (fun _ => False) rfl rfl ?aO ?aR (fun _ _ h => h) (fun _ h => h.elim) ?aF ?aB ?aS ?aL ?_
               (case aR => repeat (first | exact (by repeat (first | (with_reducible exact HR489.out) | (with_reducible refine Kd.C_alloc ?_ _) | (with_reducible refine Kd.C_drewN ?_ _) | (with_reducible refine Kd.C_drew ?_) | exact HR489.out)) | (with_reducible refine Kd.C_alloc ?_ _) | (with_reducible refine Kd.C_drewN ?_ _) | (with_reducible refine Kd.C_drew ?_)))
               (case aB => exact bG)
               (case aF => exact (fun k_ hk => ⟨Kd.fresh' (Kd.R_lt (kR HO_6)) k_ hk, Kd.fresh' (Kd.R_lt (kR HO495)) k_ hk⟩))
               (case aO => exact (by (with_reducible repeat (first | apply Kd.R_alloc | apply Kd.R_drewN | apply Kd.R_drew)); exact Kd.R_mono HO485.out (fun _ hk => ⟨hk.1.2, hk.2⟩)))
               (case aS => exact (below_size bG))
               (case aL => have := LMc69.out; omega)
               intro v491 w82 ho hb hg hat
               rw [← Ny490.out] at ho
               have n0_ := Aside0.mk (Kd.R_after (ok := (fun k_ => some k_ ≠ (v494 : Value).ownBlock)) (by (with_reducible repeat (first | apply Kd.R_alloc | apply Kd.R_drewN | apply Kd.R_drew)); exact Kd.R_mono HO_6.out (fun _ hk => ⟨hk.2, hk.1.2⟩)) hg hat)
               have n1_ := Aside0.mk (Kd.R_over' (kR HO_22) (Kd.R_typed (kR HO485)) (by decide) hg)
               have n2_ := Aside0.mk (blk_grown (g := gb428) (o := .cells #[.int .i64 a0_0, .int .i64 a0_1] 25 (0, 0)) bK hg (Kd.R_ne HO485.out BK428.out (by decide)))
               have n3_ := Aside0.mk (Kd.R_after (ok := (fun k_ => some k_ ≠ (.slice Ao74 x6_2.length co74 : Value).ownBlock)) (by (with_reducible repeat (first | apply Kd.R_alloc | apply Kd.R_drewN | apply Kd.R_drew)); exact Kd.R_mono HO495.out (fun _ hk => ⟨hk.1.2, hk.2⟩)) hg hat)
               have n4_ := Aside0.mk (hb)
               have n5_ := Aside0.mk ((show Kd.C Kd.string w82 Ao74 y486.length y486 from by rw [Ny486.out]; exact Kd.C_take (m := (x11_3 : Int).toNat) ((Kd.R_reads' (Kd.R_after (ok := (fun k_ => some k_ ≠ (v494 : Value).ownBlock)) (by (with_reducible repeat (first | apply Kd.R_alloc | apply Kd.R_drewN | apply Kd.R_drew)); exact Kd.R_mono HO_6.out (fun _ hk => ⟨hk.2, hk.1.2⟩)) hg hat)).2.2) KL76.out))
               have n6_ := Aside0.mk ((show Kd.C Kd.string w82 A77 y499.length y499 from by rw [Ny499.out, KA77.out]; exact Kd.C_drop (m := (x11_3 : Int).toNat) (c := co74) ((Kd.R_reads' (Kd.R_after (ok := (fun k_ => some k_ ≠ (v494 : Value).ownBlock)) (by (with_reducible repeat (first | apply Kd.R_alloc | apply Kd.R_drewN | apply Kd.R_drew)); exact Kd.R_mono HO_6.out (fun _ hk => ⟨hk.2, hk.1.2⟩)) hg hat)).2.2) KL77.out ((Kd.R_reads' (Kd.R_after (ok := (fun k_ => some k_ ≠ (v494 : Value).ownBlock)) (by (with_reducible repeat (first | apply Kd.R_alloc | apply Kd.R_drewN | apply Kd.R_drew)); exact Kd.R_mono HO_6.out (fun _ hk => ⟨hk.2, hk.1.2⟩)) hg hat)).2.1)))
               have n7_ := Aside0.mk (ho)
               clear HO_6
               clear HO_22
               clear BK428
               clear HO495
               clear HB
               clear HR489
               clear HR502
               clear HO485
               have HO_6 := n0_
               have HO_22 := n1_
               have BK428 := n2_
               have HO495 := n3_
               have HB := n4_
               have HR489 := n5_
               have HR502 := n6_
               have HO492 := n7_
               clear n0_ n1_ n2_ n3_ n4_ n5_ n6_ n7_
               clear ho hb hg hat
               refine hK.out _ _ trivial (fun hHeld => ?_)
               clear hK K
               refine nU (some 64) ?_
               exact norm_ (by simp only [putAll, Act.put, List.setIfInBounds_toArray, List.set_cons_zero, List.set_cons_succ]) (hCont (v484, v491, v494) _ ⟨(by (with_reducible repeat (first | apply Kd.R_alloc | apply Kd.R_drewN | apply Kd.R_drew)); exact Kd.R_mono HO492.out (fun _ hk => ⟨hk.2, hk.1⟩)), (by (with_reducible repeat (first | apply Kd.R_alloc | apply Kd.R_drewN | apply Kd.R_drew)); exact Kd.R_mono HO495.out (fun _ hk => ⟨hk.2, hk.1⟩)), (kR HO_22), (by (with_reducible repeat (first | apply Kd.R_alloc | apply Kd.R_drewN | apply Kd.R_drew)); exact Kd.R_mono HO_6.out (fun _ hk => ⟨hk.2, hk.1⟩)), bK, bG⟩)
             ·skip
              refine Kd.R_lit_step Kd.string _ 9 ?hg (N := 66) ?hd (xs := ([t434] : List ByteArray)) (inner := [.string t434]) (ok := fun _ => True) (okp := fun _ => True) ?hr ?hp (fun _ hk => hk) trivial (Below.refl _ _) (Nat.le_refl _) (by simp) ?_; (case hd => rfl); (case hg => rfl); (case hr => first | (go_simp; done) | (go_simp; rfl)); (case hp => exact (Reps.one (show Kd.M Kd.string _ _ _ t434 [.string t434] from rfl) (Reps.none _ _)))
              intro v494 w78 ho79 hb hg_ hnew_
              clear hg_ hnew_
              (first | rw [← Ny493.out] at ho79 | (simp only [Int.reduceToNat] at ho79; rw [← Ny493.out] at ho79))
              have n0_ := Aside0.mk (Kd.R_elder' (kR HO_6) (Kd.R_base ho79) hb)
              have n1_ := Aside0.mk (Kd.R_below (kR HO_22) hb)
              have n2_ := Aside0.mk (Kd.R_lower (Kd.R_new' ho79 (Kd.R_lt (kR HO_6))) (below_size bG))
              have n3_ := Aside0.mk (blk_below (g := gb428) (o := .cells #[.int .i64 a0_0, .int .i64 a0_1] 25 (0, 0)) bK hb)
              have n4_ := Aside0.mk (Kd.C_below (by repeat (first | (with_reducible exact HR489.out) | (with_reducible refine Kd.C_alloc ?_ _) | (with_reducible refine Kd.C_drewN ?_ _) | (with_reducible refine Kd.C_drew ?_) | exact HR489.out)) hb)
              have n5_ := Aside0.mk (Kd.C_below (by repeat (first | (with_reducible exact HR502.out) | (with_reducible refine Kd.C_alloc ?_ _) | (with_reducible refine Kd.C_drewN ?_ _) | (with_reducible refine Kd.C_drew ?_) | exact HR502.out)) hb)
              have n6_ := Aside0.mk (below_step bG hb)
              clear HO_6
              clear HO_22
              clear BK428
              clear HR489
              clear HR502
              clear HB
              have HO_6 := n0_
              have HO_22 := n1_
              have HO495 := n2_
              have BK428 := n3_
              have HR489 := n4_
              have HR502 := n5_
              have HB := n6_
              clear n0_ n1_ n2_ n3_ n4_ n5_ n6_
              clear hb ho79
              refine hK.out _ _ trivial (fun hHeld => ?_)
              clear hK K
              refine nU (some 66) ?_
              refine oU (i := 0) (N := some 60) (fun K hK => ?_)
              refine Kd.R_lit_step Kd.string _ 9 ?hg (N := 60) ?hd (xs := ([] : List ByteArray)) (inner := []) (ok := fun _ => True) (okp := fun _ => True) ?hr ?hp (fun _ hk => hk) trivial (Below.refl _ _) (Nat.le_refl _) (by simp) ?_; (case hd => rfl); (case hg => rfl); (case hr => first | (go_simp; done) | (go_simp; rfl)); (case hp => exact (Reps.none _ _))
              intro v484 w80 ho81 hb hg_ hnew_
              clear hg_ hnew_
              (first | rw [← Ny483.out] at ho81 | (simp only [Int.reduceToNat] at ho81; rw [← Ny483.out] at ho81))
              have n0_ := Aside0.mk (Kd.R_elder' (kR HO_6) (Kd.R_base ho81) hb)
              have n1_ := Aside0.mk (Kd.R_below (kR HO_22) hb)
              have n2_ := Aside0.mk (Kd.R_elder' (kR HO495) (Kd.R_base ho81) hb)
              have n3_ := Aside0.mk (Kd.R_lower (Kd.R_new' (Kd.R_new' ho81 (Kd.R_lt (kR HO_6))) (Kd.R_lt (kR HO495))) (below_size bG))
              have n4_ := Aside0.mk (blk_below (g := gb428) (o := .cells #[.int .i64 a0_0, .int .i64 a0_1] 25 (0, 0)) bK hb)
              have n5_ := Aside0.mk (Kd.C_below (by repeat (first | (with_reducible exact HR489.out) | (with_reducible refine Kd.C_alloc ?_ _) | (with_reducible refine Kd.C_drewN ?_ _) | (with_reducible refine Kd.C_drew ?_) | exact HR489.out)) hb)
              have n6_ := Aside0.mk (Kd.C_below (by repeat (first | (with_reducible exact HR502.out) | (with_reducible refine Kd.C_alloc ?_ _) | (with_reducible refine Kd.C_drewN ?_ _) | (with_reducible refine Kd.C_drew ?_) | exact HR502.out)) hb)
              have n7_ := Aside0.mk (below_step bG hb)
              clear HO_6
              clear HO_22
              clear HO495
              clear BK428
              clear HR489
              clear HR502
              clear HB
              have HO_6 := n0_
              have HO_22 := n1_
              have HO495 := n2_
              have HO485 := n3_
              have BK428 := n4_
              have HR489 := n5_
              have HR502 := n6_
              have HB := n7_
              clear n0_ n1_ n2_ n3_ n4_ n5_ n6_ n7_
              clear hb ho81
              refine hK.out _ _ trivial (fun hHeld => ?_)
              clear hK K
              refine nU (some 60) ?_
              refine oU (i := 4) (N := some 64) (fun K hK => ?_)
              refine Kd.R_append_rows_step Kd.string (w0 := w) w.heap.size (by rfl) (.tmp 60) (.tmp 63) 26 9 (.string ⟨#[]⟩) 16 rfl Tryz.underlying26 info9 rfl (by decide) (by omega) v484 y483 y486 _ _ _ (fun k_ => some k_ ≠ (.slice Ao74 x6_2.length co74 : Value).ownBlock ∧ some k_ ≠ (v494 : Value).ownBlock) (fun _ => False) rfl rfl ?aO ?aR (fun _ _ h => h) (fun _ h => h.elim) ?aF ?aB ?aS ?aL ?_
              (case aR => repeat (first | exact (by repeat (first | (with_reducible exact HR489.out) | (with_reducible refine Kd.C_alloc ?_ _) | (with_reducible refine Kd.C_drewN ?_ _) | (with_reducible refine Kd.C_drew ?_) | exact HR489.out)) | (with_reducible refine Kd.C_alloc ?_ _) | (with_reducible refine Kd.C_drewN ?_ _) | (with_reducible refine Kd.C_drew ?_)))
              (case aB => exact bG)
              (case aF => exact (fun k_ hk => ⟨Kd.fresh' (Kd.R_lt (kR HO_6)) k_ hk, Kd.fresh' (Kd.R_lt (kR HO495)) k_ hk⟩))
              (case aO => exact (by (with_reducible repeat (first | apply Kd.R_alloc | apply Kd.R_drewN | apply Kd.R_drew)); exact Kd.R_mono HO485.out (fun _ hk => ⟨hk.1.2, hk.2⟩)))
              (case aS => exact (below_size bG))
              (case aL => have := LMc69.out; omega)
              intro v491 w82 ho hb hg hat
              rw [← Ny490.out] at ho
              have n0_ := Aside0.mk (Kd.R_after (ok := (fun k_ => some k_ ≠ (v494 : Value).ownBlock)) (by (with_reducible repeat (first | apply Kd.R_alloc | apply Kd.R_drewN | apply Kd.R_drew)); exact Kd.R_mono HO_6.out (fun _ hk => ⟨hk.1.2, hk.2⟩)) hg hat)
              have n1_ := Aside0.mk (Kd.R_over' (kR HO_22) (Kd.R_typed (kR HO485)) (by decide) hg)
              have n2_ := Aside0.mk (blk_grown (g := gb428) (o := .cells #[.int .i64 a0_0, .int .i64 a0_1] 25 (0, 0)) bK hg (Kd.R_ne HO485.out BK428.out (by decide)))
              have n3_ := Aside0.mk (Kd.R_after (ok := (fun k_ => some k_ ≠ (.slice Ao74 x6_2.length co74 : Value).ownBlock)) (by (with_reducible repeat (first | apply Kd.R_alloc | apply Kd.R_drewN | apply Kd.R_drew)); exact Kd.R_mono HO495.out (fun _ hk => ⟨hk.1.2, hk.2⟩)) hg hat)
              have n4_ := Aside0.mk (hb)
              have n5_ := Aside0.mk ((show Kd.C Kd.string w82 Ao74 y486.length y486 from by rw [Ny486.out]; exact Kd.C_take (m := (x11_3 : Int).toNat) ((Kd.R_reads' (Kd.R_after (ok := (fun k_ => some k_ ≠ (v494 : Value).ownBlock)) (by (with_reducible repeat (first | apply Kd.R_alloc | apply Kd.R_drewN | apply Kd.R_drew)); exact Kd.R_mono HO_6.out (fun _ hk => ⟨hk.1.2, hk.2⟩)) hg hat)).2.2) KL76.out))
              have n6_ := Aside0.mk ((show Kd.C Kd.string w82 A77 y499.length y499 from by rw [Ny499.out, KA77.out]; exact Kd.C_drop (m := (x11_3 : Int).toNat) (c := co74) ((Kd.R_reads' (Kd.R_after (ok := (fun k_ => some k_ ≠ (v494 : Value).ownBlock)) (by (with_reducible repeat (first | apply Kd.R_alloc | apply Kd.R_drewN | apply Kd.R_drew)); exact Kd.R_mono HO_6.out (fun _ hk => ⟨hk.1.2, hk.2⟩)) hg hat)).2.2) KL77.out ((Kd.R_reads' (Kd.R_after (ok := (fun k_ => some k_ ≠ (v494 : Value).ownBlock)) (by (with_reducible repeat (first | apply Kd.R_alloc | apply Kd.R_drewN | apply Kd.R_drew)); exact Kd.R_mono HO_6.out (fun _ hk => ⟨hk.1.2, hk.2⟩)) hg hat)).2.1)))
              have n7_ := Aside0.mk (ho)
              clear HO_6
              clear HO_22
              clear BK428
              clear HO495
              clear HB
              clear HR489
              clear HR502
              clear HO485
              have HO_6 := n0_
              have HO_22 := n1_
              have BK428 := n2_
              have HO495 := n3_
              have HB := n4_
              have HR489 := n5_
              have HR502 := n6_
              have HO492 := n7_
              clear n0_ n1_ n2_ n3_ n4_ n5_ n6_ n7_
              clear ho hb hg hat
              refine hK.out _ _ trivial (fun hHeld => ?_)
              clear hK K
              refine nU (some 64) ?_
              exact norm_ (by simp only [putAll, Act.put, List.setIfInBounds_toArray, List.set_cons_zero, List.set_cons_succ]) (hCont (v484, v491, v494) _ ⟨(by (with_reducible repeat (first | apply Kd.R_alloc | apply Kd.R_drewN | apply Kd.R_drew)); exact Kd.R_mono HO492.out (fun _ hk => ⟨hk.2, hk.1⟩)), (by (with_reducible repeat (first | apply Kd.R_alloc | apply Kd.R_drewN | apply Kd.R_drew)); exact Kd.R_mono HO495.out (fun _ hk => ⟨hk.2, hk.1⟩)), (kR HO_22), (by (with_reducible repeat (first | apply Kd.R_alloc | apply Kd.R_drewN | apply Kd.R_drew)); exact Kd.R_mono HO_6.out (fun _ hk => ⟨hk.2, hk.1⟩)), bK, bG⟩)
            rintro ⟨v484, v491, v494⟩ w83 ⟨h0_, h1_, h2_, h3_, h4_, h5_⟩
            have n0_ : Aside0 (Kd.R Kd.string 9 w83 w.heap.size (fun k_ => some k_ ≠ (v494 : Value).ownBlock ∧ some k_ ≠ (.slice Ao74 x6_2.length co74 : Value).ownBlock) v491 y490) := ⟨h0_⟩
            have n1_ : Aside0 (Kd.R Kd.string 9 w83 w.heap.size (fun k_ => some k_ ≠ (v491 : Value).ownBlock ∧ some k_ ≠ (.slice Ao74 x6_2.length co74 : Value).ownBlock) v494 y493) := ⟨h1_⟩
            have n2_ : Aside0 (Kd.R (Kd.int .i64) 3 w83 w.heap.size (fun _ => True) (.slice (some ad433) y430.length co12) y430) := ⟨h2_⟩
            have n3_ : Aside0 (Kd.R Kd.string 9 w83 w.heap.size (fun k_ => some k_ ≠ (v491 : Value).ownBlock ∧ some k_ ≠ (v494 : Value).ownBlock) (.slice Ao74 x6_2.length co74) x6_2) := ⟨h3_⟩
            have n4_ : Aside0 (w83.heap[gb428]? = some (.cells #[.int .i64 a0_0, .int .i64 a0_1] 25 (0, 0))) := ⟨h4_⟩
            have n5_ : Aside0 (Below w.heap.size w w83) := ⟨h5_⟩
            clear HO_6
            clear HO_22
            clear BK428
            clear HB
            clear h0_ h1_ h2_ h3_ h4_ h5_
            have HO492 := n0_
            have HO495 := n1_
            have HO_22 := n2_
            have HO_6 := n3_
            have BK428 := n4_
            have HB := n5_
            clear n0_ n1_ n2_ n3_ n4_ n5_
            have hHeld := trivial
            have HR489 := Aside0.mk (show Kd.C Kd.string w83 Ao74 y486.length y486 from by rw [Ny486.out]; exact Kd.C_take (m := (x11_3 : Int).toNat) ((Kd.R_reads' HO_6.out).2.2) KL76.out)
            have HR502 := Aside0.mk (show Kd.C Kd.string w83 A77 y499.length y499 from by rw [Ny499.out, KA77.out]; exact Kd.C_drop (m := (x11_3 : Int).toNat) (c := co74) ((Kd.R_reads' HO_6.out).2.2) KL77.out ((Kd.R_reads' HO_6.out).2.1))
            obtain ⟨Ao85, co85, eo85⟩ := Kd.R_slice HO495.out
            (first | subst eo85 | (injection eo85 with f1_ f2_ f3_; have f4_ := f1_.symm; have f5_ := f3_.symm; clear f1_ f2_ f3_; subst f4_; subst f5_))
            refine nV ?_
            refine oU (i := 7) (N := some 67) (fun K hK => ?_)
            refine Kd.R_append_rows_step Kd.string (w0 := w) w.heap.size (by rfl) (.tmp 64) (.tmp 66) 26 9 (.string ⟨#[]⟩) 16 rfl Tryz.underlying26 info9 rfl (by decide) (by omega) v491 y490 y493 _ _ _ (fun k_ => some k_ ≠ (.slice Ao74 x6_2.length co74 : Value).ownBlock ∧ some k_ ≠ (.slice Ao85 y493.length co85 : Value).ownBlock) (fun _ => False) rfl rfl ?aO ?aR (fun _ _ h => h) (fun _ h => h.elim) ?aF ?aB ?aS ?aL ?_
            (case aR => exact cS ((Kd.R_reads' HO495.out).2.2))
            (case aB => exact bG)
            (case aF => exact (fun k_ hk => ⟨Kd.fresh' (Kd.R_lt (kR HO_6)) k_ hk, Kd.fresh' (Kd.R_lt (kR HO495)) k_ hk⟩))
            (case aO => exact (by (with_reducible repeat (first | apply Kd.R_alloc | apply Kd.R_drewN | apply Kd.R_drew)); exact Kd.R_mono HO492.out (fun _ hk => ⟨hk.2, hk.1⟩)))
            (case aS => exact (below_size bG))
            (case aL => have := LMc70.out; omega)
            intro v497 w84 ho hb hg hat
            rw [← Ny496.out] at ho
            have n0_ := Aside0.mk (Kd.R_after (ok := (fun k_ => some k_ ≠ (.slice Ao85 y493.length co85 : Value).ownBlock)) (by (with_reducible repeat (first | apply Kd.R_alloc | apply Kd.R_drewN | apply Kd.R_drew)); exact Kd.R_mono HO_6.out (fun _ hk => ⟨hk.2, hk.1⟩)) hg hat)
            have n1_ := Aside0.mk (Kd.R_over' (kR HO_22) (Kd.R_typed (kR HO492)) (by decide) hg)
            have n2_ := Aside0.mk (blk_grown (g := gb428) (o := .cells #[.int .i64 a0_0, .int .i64 a0_1] 25 (0, 0)) bK hg (Kd.R_ne HO492.out BK428.out (by decide)))
            have n3_ := Aside0.mk (Kd.R_after (ok := (fun k_ => some k_ ≠ (.slice Ao74 x6_2.length co74 : Value).ownBlock)) (by (with_reducible repeat (first | apply Kd.R_alloc | apply Kd.R_drewN | apply Kd.R_drew)); exact Kd.R_mono HO495.out (fun _ hk => ⟨hk.2, hk.1⟩)) hg hat)
            have n4_ := Aside0.mk (hb)
            have n5_ := Aside0.mk ((show Kd.C Kd.string w84 Ao74 y486.length y486 from by rw [Ny486.out]; exact Kd.C_take (m := (x11_3 : Int).toNat) ((Kd.R_reads' (Kd.R_after (ok := (fun k_ => some k_ ≠ (.slice Ao85 y493.length co85 : Value).ownBlock)) (by (with_reducible repeat (first | apply Kd.R_alloc | apply Kd.R_drewN | apply Kd.R_drew)); exact Kd.R_mono HO_6.out (fun _ hk => ⟨hk.2, hk.1⟩)) hg hat)).2.2) KL76.out))
            have n6_ := Aside0.mk ((show Kd.C Kd.string w84 A77 y499.length y499 from by rw [Ny499.out, KA77.out]; exact Kd.C_drop (m := (x11_3 : Int).toNat) (c := co74) ((Kd.R_reads' (Kd.R_after (ok := (fun k_ => some k_ ≠ (.slice Ao85 y493.length co85 : Value).ownBlock)) (by (with_reducible repeat (first | apply Kd.R_alloc | apply Kd.R_drewN | apply Kd.R_drew)); exact Kd.R_mono HO_6.out (fun _ hk => ⟨hk.2, hk.1⟩)) hg hat)).2.2) KL77.out ((Kd.R_reads' (Kd.R_after (ok := (fun k_ => some k_ ≠ (.slice Ao85 y493.length co85 : Value).ownBlock)) (by (with_reducible repeat (first | apply Kd.R_alloc | apply Kd.R_drewN | apply Kd.R_drew)); exact Kd.R_mono HO_6.out (fun _ hk => ⟨hk.2, hk.1⟩)) hg hat)).2.1)))
            have n7_ := Aside0.mk (ho)
            clear HO_6
            clear HO_22
            clear BK428
            clear HO495
            clear HB
            clear HR489
            clear HR502
            clear HO492
            have HO_6 := n0_
            have HO_22 := n1_
            have BK428 := n2_
            have HO495 := n3_
            have HB := n4_
            have HR489 := n5_
            have HR502 := n6_
            have HO498 := n7_
            clear n0_ n1_ n2_ n3_ n4_ n5_ n6_ n7_
            clear ho hb hg hat
            refine hK.out _ _ trivial (fun hHeld => ?_)
            clear hK K
            refine nU (some 67) ?_
            refine oU (i := 11) (N := some 71) (fun K hK => ?_)
            refine Kd.R_append_rows_step Kd.string (w0 := w) w.heap.size (by rfl) (.tmp 67) (.tmp 70) 26 9 (.string ⟨#[]⟩) 16 rfl Tryz.underlying26 info9 rfl (by decide) (by omega) v497 y496 y499 _ _ _ (fun k_ => some k_ ≠ (.slice Ao74 x6_2.length co74 : Value).ownBlock ∧ some k_ ≠ (.slice Ao85 y493.length co85 : Value).ownBlock) (fun _ => False) rfl rfl ?aO ?aR (fun _ _ h => h) (fun _ h => h.elim) ?aF ?aB ?aS ?aL ?_
            (case aR => repeat (first | exact (by repeat (first | (with_reducible exact HR502.out) | (with_reducible refine Kd.C_alloc ?_ _) | (with_reducible refine Kd.C_drewN ?_ _) | (with_reducible refine Kd.C_drew ?_) | exact HR502.out)) | (with_reducible refine Kd.C_alloc ?_ _) | (with_reducible refine Kd.C_drewN ?_ _) | (with_reducible refine Kd.C_drew ?_)))
            (case aB => exact bG)
            (case aF => exact (fun k_ hk => ⟨Kd.fresh' (Kd.R_lt (kR HO_6)) k_ hk, Kd.fresh' (Kd.R_lt (kR HO495)) k_ hk⟩))
            (case aO => exact (kR HO498))
            (case aS => exact (below_size bG))
            (case aL => have := LMc73.out; omega)
            intro v504 w86 ho hb hg hat
            rw [← Ny503.out] at ho
            have n0_ := Aside0.mk (Kd.R_after (ok := (fun k_ => some k_ ≠ (.slice Ao85 y493.length co85 : Value).ownBlock)) (kR HO_6) hg hat)
            have n1_ := Aside0.mk (Kd.R_over' (kR HO_22) (Kd.R_typed (kR HO498)) (by decide) hg)
            have n2_ := Aside0.mk (blk_grown (g := gb428) (o := .cells #[.int .i64 a0_0, .int .i64 a0_1] 25 (0, 0)) bK hg (Kd.R_ne HO498.out BK428.out (by decide)))
            have n3_ := Aside0.mk (Kd.R_after (ok := (fun k_ => some k_ ≠ (.slice Ao74 x6_2.length co74 : Value).ownBlock)) (kR HO495) hg hat)
            have n4_ := Aside0.mk (hb)
            have n5_ := Aside0.mk ((show Kd.C Kd.string w86 Ao74 y486.length y486 from by rw [Ny486.out]; exact Kd.C_take (m := (x11_3 : Int).toNat) ((Kd.R_reads' (Kd.R_after (ok := (fun k_ => some k_ ≠ (.slice Ao85 y493.length co85 : Value).ownBlock)) (kR HO_6) hg hat)).2.2) KL76.out))
            have n6_ := Aside0.mk ((show Kd.C Kd.string w86 A77 y499.length y499 from by rw [Ny499.out, KA77.out]; exact Kd.C_drop (m := (x11_3 : Int).toNat) (c := co74) ((Kd.R_reads' (Kd.R_after (ok := (fun k_ => some k_ ≠ (.slice Ao85 y493.length co85 : Value).ownBlock)) (kR HO_6) hg hat)).2.2) KL77.out ((Kd.R_reads' (Kd.R_after (ok := (fun k_ => some k_ ≠ (.slice Ao85 y493.length co85 : Value).ownBlock)) (kR HO_6) hg hat)).2.1)))
            have n7_ := Aside0.mk (ho)
            clear HO_6
            clear HO_22
            clear BK428
            clear HO495
            clear HB
            clear HR489
            clear HR502
            clear HO498
            have HO_6 := n0_
            have HO_22 := n1_
            have BK428 := n2_
            have HO495 := n3_
            have HB := n4_
            have HR489 := n5_
            have HR502 := n6_
            have HO505 := n7_
            clear n0_ n1_ n2_ n3_ n4_ n5_ n6_ n7_
            clear ho hb hg hat
            refine hK.out _ _ trivial (fun hHeld => ?_)
            clear hK K
            refine nU (some 71) ?_
            refine pU (i := 12) (N := some 6) ?_
            refine done_ (done_of HT_.out (by kernel_rfl)) ?_
            try go_wp2
            go_roundg k3
            case measure => have := HK1.out; have := HK2.out; have := HK3.out; omega
            case rel => exact ⟨(y503), (wrap64 (x24_2 + 1)), fR, H', ⟨by have := HK1.out; have := HK2.out; have := HK3.out; omega⟩, ⟨by (with_reducible repeat (first | apply Kd.R_alloc | apply Kd.R_drewN | apply Kd.R_drew)); exact Kd.R_mono HO505.out (fun _ hk => trivial)⟩, ⟨kR HO_22⟩, ⟨bK⟩, ⟨bG⟩⟩
           ·rw [if_neg c66] at H
            have c66b0 : (x11_3 == (x6_2.length : Int)) = false := beq_eq_false_iff_ne.mpr c66
            have c66b1 : (x11_3 != (x6_2.length : Int)) = true := bne_iff_ne.mpr c66
            replace H := nz H; obtain ⟨c87, H⟩ := H
            exact absurd H (by simp)
       ·rw [if_neg c13] at H
        have c13b0 : decide (x24_2 < (y430.length : Int)) = false := decide_eq_false c13
        clear c13
        have H' := Aside0.mk H
        clear H
        go_wp2
        go_roundg k2
        case measure => have := HK1.out; have := HK2.out; omega
        case rel => exact ⟨(x6_2), (wrap64 (x7_1 + 1)), fR, H', ⟨by have := HK1.out; have := HK2.out; omega⟩, ⟨kR HO_6⟩, ⟨bK⟩, ⟨bG⟩⟩
    ·rw [if_neg c8] at H
     have c8b0 : decide (x7_1 < a0_0) = false := decide_eq_false c8
     clear c8
     simp only [Option.some.injEq, Prod.mk.injEq] at H
     obtain ⟨rfl, rfl⟩ := H
     have hcz88_0 := cZ BK428 0 (.int .i64 a0_0)
     have hcz88_1 := cZ BK428 1 (.int .i64 a0_1)
     have hfz88_0 := blk_frozen BK428.out 0
     have hfz88_1 := blk_frozen BK428.out 1
     go_wp2
     go_ret2
     exact ⟨_, rE, kR HO_6, bG⟩
 ·replace c4 := Bool.eq_false_iff.mpr c4
  subst c4
  replace H := zf H
  simp only [Option.some.injEq, Prod.mk.injEq] at H
  obtain ⟨rfl, rfl⟩ := H
  go_enter Tryz.func80, Tryz.ntmps80
  go_wp2_with (first | ((with_reducible refine gate_dst (N := 2) rfl ?_); refine box_event ?hg (N := 2) ?hd (cs := #[.int .i64 a0_0, .int .i64 a0_1]) (t := 25) ?hr ?_; (case hd => rfl); (case hg => rfl); (case hr => first | (go_simp; done) | (go_simp; rfl)); intro gb428 hg w89 hbox hb; have BK428 := Aside0.mk (hbox); have GW428 : Aside0 (w.heap.size ≤ gb428) := gW hg; have GE428 := GW428; replace HB := Aside0.mk (below_step bB hb); clear hb hbox hg; have hcz90_0 := cZ BK428 0 (.int .i64 a0_0); have hcz90_1 := cZ BK428 1 (.int .i64 a0_1); have hfz90_0 := blk_frozen BK428.out 0; have hfz90_1 := blk_frozen BK428.out 1) | ((with_reducible refine gate_callee (f := 87) rfl ?_); refine goesL_ (some 14) rfl rfl Tryz.func87 (by kernel_rfl) rfl #[.agg #[.int .i64 a0_0, .int .i64 a0_1], .string a1] rfl lM ?_; (with_reducible refine (spec_whAsked.calls k a0_0 a0_1 a1 false _ A3.out).mono ?_); rintro e w91 ⟨rfl, hb⟩; refine ⟨_, rfl, ?_⟩; replace BK428 := bW BK428 hb; replace HB := Aside0.mk (below_step bG hb); (try clear hb)))
  go_ret2
  exact ⟨_, rE, by first | exact Kd.R_nil _ _ _ _ _ | exact Kd.N_nil _ _ _ _ _ | exact Kd.V_nil _ _ _ _ _ | exact Kd.Q_nil _ _ _ _ _ | exact Kd.S_nil _ _ _ _ _, bG⟩

end Go.Proofs.YthpmpkmdjpaemaaGreat.P
