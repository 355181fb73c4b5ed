-- Printed by hp.py, a program of this session: a machine's side of laws, out of the translation; Lean checks it.
import Derived.Test.YthpmpkmdjpaemaaGreatPx0
import Derived.Test.YthpmpkmdjpaemaaGreatPx2
namespace Go.Proofs.YthpmpkmdjpaemaaGreat.P
open Go.RowKit Go.Proofs.YthpmpkmdjpaemaaGreatW.PrintWords Go.Proofs.YthpmpkmdjpaemaaGreatW.PrintLast Go.Proofs.YthpmpkmdjpaemaaGreatW.PrintMore
attribute [local go_sem] max2_int min2_int max_two min_two max_three min_three max_four min_four   -- for this text's walks alone
set_option maxHeartbeats 8000000
set_option maxRecDepth 100000
set_option linter.unusedVariables false
set_option linter.unusedSimpArgs false

/-! ### spec_l1Num: function 61 -/
def spec_l1Num.f : Nat → Int → Option (ByteArray)
 | 0, _ => none
 | k + 1, a0 => if a0 < 10 then (some (strOfNums (([(wrap64 (48 + a0)) % 256] : List Int)))) else ((spec_l1Num.f k (wrap64 (Int.tdiv a0 10))).bind fun t145 => ((some (([(wrap64 (48 + (Int.tmod a0 10))) % 256] : List Int) : List Int)).bind fun y146 => (if t145.size + (strOfNums y146).size ≤ 9223372036854775807 then (some (t145 ++ (strOfNums y146))) else (none))))
theorem spec_l1Num.mono_l : ∀ k, (∀ y0, LeO (spec_l1Num.f k y0) (spec_l1Num.f (k + 1) y0))
 | 0 => fun _ r h => by simp [spec_l1Num.f] at h
 | k + 1 => by
  have ih0 := spec_l1Num.mono_l k
  ·intro y0
   unfold spec_l1Num.f
   repeat' first
   | (with_reducible first | exact ih0 _ | exact LeO.refl _ | exact LeO.none _ | refine LeO.ite ?_ ?_ | refine LeO.bind ?_ (fun _ => ?_))
   | exact ih0 _
   | exact LeO.none _
   | refine LeO.ite ?_ ?_
   | refine LeO.bind ?_ (fun _ => ?_)
theorem spec_l1Num.mono : ∀ a0 k, LeO (spec_l1Num.f k a0) (spec_l1Num.f (k + 1) a0) := by
 intro a0 k
 have ih0 := spec_l1Num.mono_l k
 exact ih0 a0
def spec_l1Num.T3 : Bool × List (List Nat × List Nat) := (true, [([], []), ([0], [0]), ([1], [1]), ([], []), ([3], [3]), ([4], [4]), ([5], [5]), ([6], [6]), ([7], [7]), ([2, 8], [2, 8]), ([9, 2, 0, 1, 2, 3, 4, 5, 6, 7, 8, 9], [9])])
def spec_l1Num.B3 : List Nat := [0, 1, 3, 0, 8, 24, 56, 120, 248, 511, 1023]
theorem spec_l1Num.tab3 : rtab .any (opsOf Tryz.f61 3) = spec_l1Num.T3 := by kernel_rfl
theorem spec_l1Num.bits3 : waitsOk spec_l1Num.T3.2 spec_l1Num.B3 = true := by kernel_rfl
theorem spec_l1Num.calls (k : Nat) : ∀ (a0 : Int) (r : ByteArray) (w : World) (h : spec_l1Num.f k a0 = some r),
  Calls Tryz.prog 61 #[.int .i64 a0] w fun e w' => e = .returned (.string r) ∧ Below w.heap.size w w' := by
 induction k using Nat.strongRecOn with
 | _ k ih =>
 intro a0 r w h
 cases k with
 | zero => exact absurd h (by simp [spec_l1Num.f])
 | succ k =>
 simp only [spec_l1Num.f] at h
 have HB := Aside0.mk (Below.refl w.heap.size w)
 have H : (if a0 < 10 then (some (strOfNums (([(wrap64 (48 + a0)) % 256] : List Int)))) else ((spec_l1Num.f k (wrap64 (Int.tdiv a0 10))).bind fun t145 => ((some (([(wrap64 (48 + (Int.tmod a0 10))) % 256] : List Int) : List Int)).bind fun y146 => (if t145.size + (strOfNums y146).size ≤ 9223372036854775807 then (some (t145 ++ (strOfNums y146))) else (none))))) = some r := h
 clear h
 by_cases c2 : a0 < 10
 ·rw [if_pos c2] at H
  have c2b0 : decide (a0 < 10) = true := decide_eq_true c2
  clear c2
  obtain ⟨y142, hy142⟩ : ∃ y_ : List Int, y_ = (([(wrap64 (48 + a0)) % 256] : List Int)) := ⟨_, rfl⟩
  replace H : (some (strOfNums y142)) = some r := hZ hy142 H
  have Ny142 := Aside0.mk hy142
  clear hy142
  obtain rfl := Option.some.inj H
  go_enter Tryz.func61, Tryz.ntmps61
  go_wp2_with (first | ((with_reducible refine gate_dst (N := 8) rfl ?_); refine Kd.R_lit (Kd.int .u8) _ 5 ?hg (N := 8) ?hd (xs := ([(wrap64 (48 + a0)) % 256] : List Int)) (inner := [.int .u8 ((wrap64 (48 + a0)) % 256)]) (ok := fun _ => True) (okp := fun _ => True) ?hr ?hp (fun _ hk => hk) trivial (Below.refl _ _) (Nat.le_refl _) (by simp) ?_; (case hd => rfl); (case hg => rfl); (case hr => first | (go_simp; done) | (go_simp; rfl)); (case hp => exact (Reps.one (show Kd.M (Kd.int .u8) _ _ _ ((wrap64 (48 + a0)) % 256) [.int .u8 ((wrap64 (48 + a0)) % 256)] from rfl) (Reps.none _ _))); intro v143 w3 ho4 hb hg_ hnew_; clear hg_ hnew_; (first | rw [← Ny142.out] at ho4 | (simp only [Int.reduceToNat] at ho4; rw [← Ny142.out] at ho4)); have HO144 := Aside0.mk (Kd.R_lower ho4 (below_size bB)); replace HB := Aside0.mk (below_step bB hb); clear hb ho4; have hcv5 := own_string (P := Tryz.prog) Tryz.underlying22 Tryz.underlying5 Tryz.underlying9 (Kd.own_of_R HO144.out)))
  go_ret
  exact ⟨rE, bB⟩
 ·rw [if_neg c2] at H
  have c2b0 : decide (a0 < 10) = false := decide_eq_false c2
  clear c2
  replace H := Option.bind_eq_some_iff.mp H
  obtain ⟨t145, A60, H⟩ := H
  (try dsimp only at H)
  have A6 := Aside0.mk A60
  clear A60
  obtain ⟨y146, hy146⟩ : ∃ y_ : List Int, y_ = (([(wrap64 (48 + (Int.tmod a0 10))) % 256] : List Int)) := ⟨_, rfl⟩
  replace H : (if t145.size + (strOfNums y146).size ≤ 9223372036854775807 then (some (t145 ++ (strOfNums y146))) else (none)) = some r := hZ hy146 H
  have Ny146 := Aside0.mk hy146
  clear hy146
  replace H := nz H; obtain ⟨c7, H⟩ := H
  have c7b0 := eq_true c7
  have c7b1 : decide (t145.size + (strOfNums y146).size ≤ 9223372036854775807) = true := decide_eq_true c7
  try have c7b2 : (9223372036854775807 < t145.size + (strOfNums y146).size) = False := eq_false (Nat.not_lt.2 c7)
  obtain rfl := Option.some.inj H
  go_enter Tryz.func61, Tryz.ntmps61
  try go_wp2
  have n0_ := Aside0.mk (below_drew1 HB.out)
  clear HB
  have HB := n0_
  clear n0_
  refine start_ (n := 11) (S := fun w' => True) (ds := []) #[false, false, false, false, false, false, false, false, false, false, false] (by kernel_rfl) rfl rfl trivial (fun hHeld => ?_); refine with_tabW spec_l1Num.tab3 spec_l1Num.bits3 (fun HT_ HW_ => ?_)
  generalize w.drew = w8 at HB hHeld ⊢
  refine pU (i := 0) (N := some 10) ?_
  refine pU (i := 1) (N := some 11) ?_
  refine pU (i := 3) (N := some 13) ?_
  refine pU (i := 4) (N := some 14) ?_
  refine pU (i := 5) (N := some 15) ?_
  refine pU (i := 6) (N := some 16) ?_
  refine join_ (σ := Value) 2 #[true, true, true, true, true, true, true, true, true, false, false] (fun s_ => [(12, .string t145), (17, s_), (18, .string (strOfNums y146))]) (fun s_ w' => (Kd.R (Kd.int .u8) 5 w' w.heap.size (fun _ => True) s_ y146) ∧ (Below w.heap.size w w')) ?_ ?_
  rotate_left
  ·intro hCont
   refine two_ (i := 2) (j := 7) (Ni := some 12) (Nj := some 17) #[true, true, true, true, true, true, true, false, false, false, false] #[true, true, false, true, true, true, true, true, false, false, false] rfl rfl rfl rfl (two_of HT_.out (by kernel_rfl)) (by decide) (by decide) (fun K hK => ?_) (fun K hK => ?_)
   ·skip
    refine goes_ Tryz.func61 (by kernel_rfl) rfl #[.int .i64 (wrap64 (Int.tdiv a0 10))] (by rfl) rfl rfl lM ?_
    with_reducible refine (ih k (by omega) (wrap64 (Int.tdiv a0 10)) t145 _ A6.out).mono ?_
    rintro e w9 ⟨rfl, hb⟩
    refine ⟨_, rfl, ?_⟩
    have n0_ := Aside0.mk (below_step bB hb)
    clear HB
    have HB := n0_
    clear n0_
    (try clear hb)
    refine hK.out _ _ trivial (fun hHeld => ?_)
    clear hK K
    refine nU (some 12) ?_
    refine oU (i := 7) (N := some 17) (fun K hK => ?_)
    refine Kd.R_lit_step (Kd.int .u8) _ 5 ?hg (N := 17) ?hd (xs := ([(wrap64 (48 + (Int.tmod a0 10))) % 256] : List Int)) (inner := [.int .u8 ((wrap64 (48 + (Int.tmod a0 10))) % 256)]) (ok := fun _ => True) (okp := fun _ => True) ?hr ?hp (fun _ hk => hk) trivial (Below.refl _ _) (Nat.le_refl _) (by simp) ?_; (case hd => rfl); (case hg => rfl); (case hr => first | (go_simp; done) | (go_simp; rfl)); (case hp => exact (Reps.one (show Kd.M (Kd.int .u8) _ _ _ ((wrap64 (48 + (Int.tmod a0 10))) % 256) [.int .u8 ((wrap64 (48 + (Int.tmod a0 10))) % 256)] from rfl) (Reps.none _ _)))
    intro v147 w10 ho11 hb hg_ hnew_
    clear hg_ hnew_
    (first | rw [← Ny146.out] at ho11 | (simp only [Int.reduceToNat] at ho11; rw [← Ny146.out] at ho11))
    have n0_ := Aside0.mk (Kd.R_lower ho11 (below_size bB))
    have n1_ := Aside0.mk (below_step bB hb)
    clear HB
    have HO148 := n0_
    have HB := n1_
    clear n0_ n1_
    clear hb ho11
    refine hK.out _ _ trivial (fun hHeld => ?_)
    clear hK K
    refine nU (some 17) ?_
    refine oU (i := 8) (N := some 18) (fun K hK => ?_)
    have hcv12 := own_string (P := Tryz.prog) Tryz.underlying22 Tryz.underlying5 Tryz.underlying9 (Kd.own_of_R HO148.out)
    refine value_ (w1 := ?_) (v := ?_) (by rfl) rfl ?_ ?_
    rotate_left 2
    ·go_simp
     constructor
     ·rfl
     ·rfl
    clear hcv12
    refine hK.out _ _ trivial (fun hHeld => ?_)
    clear hK K
    refine nU (some 18) ?_
    exact norm_ (by simp only [putAll, Act.put, List.setIfInBounds_toArray, List.set_cons_zero, List.set_cons_succ]) (hCont (v147) _ ⟨(kR HO148), bB⟩)
   ·skip
    refine Kd.R_lit_step (Kd.int .u8) _ 5 ?hg (N := 17) ?hd (xs := ([(wrap64 (48 + (Int.tmod a0 10))) % 256] : List Int)) (inner := [.int .u8 ((wrap64 (48 + (Int.tmod a0 10))) % 256)]) (ok := fun _ => True) (okp := fun _ => True) ?hr ?hp (fun _ hk => hk) trivial (Below.refl _ _) (Nat.le_refl _) (by simp) ?_; (case hd => rfl); (case hg => rfl); (case hr => first | (go_simp; done) | (go_simp; rfl)); (case hp => exact (Reps.one (show Kd.M (Kd.int .u8) _ _ _ ((wrap64 (48 + (Int.tmod a0 10))) % 256) [.int .u8 ((wrap64 (48 + (Int.tmod a0 10))) % 256)] from rfl) (Reps.none _ _)))
    intro v147 w9 ho10 hb hg_ hnew_
    clear hg_ hnew_
    (first | rw [← Ny146.out] at ho10 | (simp only [Int.reduceToNat] at ho10; rw [← Ny146.out] at ho10))
    have n0_ := Aside0.mk (Kd.R_lower ho10 (below_size bB))
    have n1_ := Aside0.mk (below_step bB hb)
    clear HB
    have HO148 := n0_
    have HB := n1_
    clear n0_ n1_
    clear hb ho10
    refine hK.out _ _ trivial (fun hHeld => ?_)
    clear hK K
    refine nU (some 17) ?_
    refine two_ (i := 2) (j := 8) (Ni := some 12) (Nj := some 18) #[true, true, true, true, true, true, true, true, false, false, false] #[true, true, false, true, true, true, true, true, true, false, false] rfl rfl rfl rfl (two_of HT_.out (by kernel_rfl)) (by decide) (by decide) (fun K hK => ?_) (fun K hK => ?_)
    ·skip
     refine goes_ Tryz.func61 (by kernel_rfl) rfl #[.int .i64 (wrap64 (Int.tdiv a0 10))] (by rfl) rfl rfl lM ?_
     with_reducible refine (ih k (by omega) (wrap64 (Int.tdiv a0 10)) t145 _ A6.out).mono ?_
     rintro e w11 ⟨rfl, hb⟩
     refine ⟨_, rfl, ?_⟩
     have n0_ := Aside0.mk (Kd.R_below (kR HO148) hb)
     have n1_ := Aside0.mk (below_step bB hb)
     clear HO148
     clear HB
     have HO148 := n0_
     have HB := n1_
     clear n0_ n1_
     (try clear hb)
     (try clear hk)
     refine hK.out _ _ trivial (fun hHeld => ?_)
     clear hK K
     refine nU (some 12) ?_
     refine oU (i := 8) (N := some 18) (fun K hK => ?_)
     have hcv12 := own_string (P := Tryz.prog) Tryz.underlying22 Tryz.underlying5 Tryz.underlying9 (Kd.own_of_R HO148.out)
     refine value_ (w1 := ?_) (v := ?_) (by rfl) rfl ?_ ?_
     rotate_left 2
     ·go_simp
      constructor
      ·rfl
      ·rfl
     clear hcv12
     refine hK.out _ _ trivial (fun hHeld => ?_)
     clear hK K
     refine nU (some 18) ?_
     exact norm_ (by simp only [putAll, Act.put, List.setIfInBounds_toArray, List.set_cons_zero, List.set_cons_succ]) (hCont (v147) _ ⟨(kR HO148), bB⟩)
    ·skip
     have hcv11 := own_string (P := Tryz.prog) Tryz.underlying22 Tryz.underlying5 Tryz.underlying9 (Kd.own_of_R HO148.out)
     refine value_ (w1 := ?_) (v := ?_) (by rfl) rfl ?_ ?_
     rotate_left 2
     ·go_simp
      constructor
      ·rfl
      ·rfl
     clear hcv11
     refine hK.out _ _ trivial (fun hHeld => ?_)
     clear hK K
     refine nU (some 18) ?_
     refine oU (i := 2) (N := some 12) (fun K hK => ?_)
     refine goes_ Tryz.func61 (by kernel_rfl) rfl #[.int .i64 (wrap64 (Int.tdiv a0 10))] (by rfl) rfl rfl lM ?_
     with_reducible refine (ih k (by omega) (wrap64 (Int.tdiv a0 10)) t145 _ A6.out).mono ?_
     rintro e w12 ⟨rfl, hb⟩
     refine ⟨_, rfl, ?_⟩
     have n0_ := Aside0.mk (Kd.R_below (kR HO148) hb)
     have n1_ := Aside0.mk (below_step bB hb)
     clear HO148
     clear HB
     have HO148 := n0_
     have HB := n1_
     clear n0_ n1_
     (try clear hb)
     (try clear hk)
     refine hK.out _ _ trivial (fun hHeld => ?_)
     clear hK K
     refine nU (some 12) ?_
     exact norm_ (by simp only [putAll, Act.put, List.setIfInBounds_toArray, List.set_cons_zero, List.set_cons_succ]) (hCont (v147) _ ⟨(kR HO148), bB⟩)
  rintro v147 w13 ⟨h0_, h1_⟩
  have n0_ : Aside0 (Kd.R (Kd.int .u8) 5 w13 w.heap.size (fun _ => True) v147 y146) := ⟨h0_⟩
  have n1_ : Aside0 (Below w.heap.size w w13) := ⟨h1_⟩
  clear HB
  clear h0_ h1_
  have HO148 := n0_
  have HB := n1_
  clear n0_ n1_
  have hHeld := trivial
  refine nV ?_
  refine pU (i := 9) (N := some 19) ?_
  refine pU (i := 10) (N := some 2) ?_
  refine done_ (done_of HT_.out (by kernel_rfl)) ?_
  try go_wp2
  go_ret
  exact ⟨rE, bB⟩

/-! ### spec_whText: function 58 -/
def spec_whText.l0 : Nat → ByteArray → List Int → Int → Int → Option (ByteArray)
 | 0, _, _, _, _ => none
 | k + 1, x3, x6, x7, x8 => if x8 < x7 then (if 0 ≤ x8 then (if x8 < (x6.length : Int) then ((spec_l1Num.f k (rd x6 x8)).bind fun t150 => (if x3.size + t150.size ≤ 9223372036854775807 then (spec_whText.l0 k (x3 ++ t150) x6 x7 (wrap64 (x8 + 1))) else (none))) else (none)) else (none)) else (some x3)
def spec_whText.f (k : Nat) (l0 : List Int) : Option (ByteArray) := spec_whText.l0 k (⟨#[]⟩ : ByteArray) l0 (l0.length : Int) 0
theorem spec_whText.mono_l : ∀ k, (∀ y0 y1 y2 y3, LeO (spec_whText.l0 k y0 y1 y2 y3) (spec_whText.l0 (k + 1) y0 y1 y2 y3))
 | 0 => fun _ _ _ _ r h => by simp [spec_whText.l0] at h
 | k + 1 => by
  have ih0 := spec_whText.mono_l k
  ·intro y0 y1 y2 y3
   unfold spec_whText.l0
   repeat' first
   | (with_reducible first | exact ih0 _ _ _ _ | exact spec_l1Num.mono _ _ | exact LeO.refl _ | exact LeO.none _ | refine LeO.ite ?_ ?_ | refine LeO.bind ?_ (fun _ => ?_))
   | exact ih0 _ _ _ _
   | exact spec_l1Num.mono _ _
   | exact LeO.none _
   | refine LeO.ite ?_ ?_
   | refine LeO.bind ?_ (fun _ => ?_)
theorem spec_whText.mono : ∀ a0 k, LeO (spec_whText.f k a0) (spec_whText.f (k + 1) a0) := by
 intro a0 k
 have ih0 := spec_whText.mono_l k
 unfold spec_whText.f
 repeat' first
   | (with_reducible first | exact ih0 _ _ _ _ | exact spec_l1Num.mono _ _ | exact LeO.refl _ | exact LeO.none _ | refine LeO.ite ?_ ?_ | refine LeO.bind ?_ (fun _ => ?_))
   | exact ih0 _ _ _ _
   | exact spec_l1Num.mono _ _
   | exact LeO.none _
   | refine LeO.ite ?_ ?_
   | refine LeO.bind ?_ (fun _ => ?_)
theorem spec_whText.calls (k : Nat) (A0 : Option Addr) (c0 : Nat) (l0 : List Int) (r : ByteArray) (w : World) (hr0 : Kd.C (Kd.int .i64) w A0 l0.length l0) (hc0 : l0.length ≤ c0) (h : spec_whText.f k l0 = some r) :
  Calls Tryz.prog 58 #[.slice A0 l0.length c0] w fun e w' => e = .returned (.string r) ∧ Below w.heap.size w w' := by
 have HR0 := Aside0.mk hr0
 have HC0 := Aside0.mk hc0
 clear hr0 hc0
 have HB := Aside0.mk (Below.refl w.heap.size w)
 have H := h
 unfold spec_whText.f at H
 clear h
 have H' := Aside0.mk H
 clear H
 go_enter Tryz.func58, Tryz.ntmps58
 go_wp2
 go_loopg [3, 8] k (fun kq v3 v8 w' => ∃ (x3_1 : ByteArray) (x8_1 : Int), v3 = .string x3_1 ∧ v8 = .int .i64 x8_1 ∧ Aside0 (spec_whText.l0 kq x3_1 l0 (l0.length : Int) x8_1 = some r) ∧ Aside0 (kq ≤ k) ∧ Aside0 (Below w.heap.size w w'))
 case atStart => exact ⟨((⟨#[]⟩ : ByteArray)), (0), fR, fR, H', ⟨Nat.le_refl _⟩, ⟨bB⟩⟩
 case round =>
  clear H'
  obtain ⟨x3_1, x8_1, rfl, rfl, HA, HK1, HB⟩ := hrel
  cases gk with
  | zero => exact absurd HA.out (by simp [spec_whText.l0])
  | succ k1 =>
   have H := HA.out
   clear HA
   simp only [spec_whText.l0] at H
   by_cases c2 : x8_1 < (l0.length : Int)
   ·rw [if_pos c2] at H
    have c2b0 : decide (x8_1 < (l0.length : Int)) = true := decide_eq_true c2
    clear c2
    replace H := nz H; obtain ⟨c3, H⟩ := H
    have c3b0 : decide (0 ≤ x8_1) = true := decide_eq_true c3
    clear c3
    replace H := nz H; obtain ⟨c4, H⟩ := H
    have c4b0 : decide (x8_1 < (l0.length : Int)) = true := decide_eq_true c4
    clear c4
    replace H := Option.bind_eq_some_iff.mp H
    obtain ⟨t150, A50, H⟩ := H
    (try dsimp only at H)
    have A5 := Aside0.mk A50
    clear A50
    replace H := nz H; obtain ⟨c6, H⟩ := H
    have c6b0 := eq_true c6
    have c6b1 : decide (x3_1.size + t150.size ≤ 9223372036854775807) = true := decide_eq_true c6
    try have c6b2 : (9223372036854775807 < x3_1.size + t150.size) = False := eq_false (Nat.not_lt.2 c6)
    have H' := Aside0.mk H
    clear H
    have p149 : 0 ≤ (x8_1 : Int) := oD
    have q149 : x8_1 < (l0.length : Int) := oD
    obtain ⟨ad149, e149, hx149_0⟩ := Kd.at_int HR0.out x8_1 p149 q149
    cases e149
    replace hx149_0 := (HB.out.cell (World.block_lt_of_cell? w _ hx149_0)).trans hx149_0
    replace p149 := eq_true p149
    replace q149 := eq_true q149
    go_wp2_with (first | ((with_reducible refine gate_callee (f := 61) rfl ?_); refine goesL_ (some 14) rfl rfl Tryz.func61 (by kernel_rfl) rfl #[.int .i64 (rd l0 x8_1)] rfl lM ?_; (with_reducible refine (spec_l1Num.calls k1 (rd l0 x8_1) t150 _ A5.out).mono ?_); rintro e w7 ⟨rfl, hb⟩; refine ⟨_, rfl, ?_⟩; replace HB := Aside0.mk (below_step bB hb); (try clear hb)))
    go_roundg k1
    case measure => have := HK1.out; omega
    case rel => exact ⟨(x3_1 ++ t150), (wrap64 (x8_1 + 1)), fR, fR, H', ⟨by have := HK1.out; omega⟩, ⟨bB⟩⟩
   ·rw [if_neg c2] at H
    have c2b0 : decide (x8_1 < (l0.length : Int)) = false := decide_eq_false c2
    clear c2
    obtain rfl := Option.some.inj H
    go_wp2
    go_ret
    exact ⟨rE, bB⟩

/-! ### spec_whOf: function 57 -/
def spec_whOf.l0 : Nat → Int → List Int → Int → Int → Int → Option (ByteArray)
 | 0, _, _, _, _, _ => none
 | k + 1, x1, x5, x6, x152000, x152001 => if x6 ≥ 0 then (if x152001 = 0 then (none) else (if 0 ≤ x6 then (if x6 < (x5.length : Int) then (spec_whOf.l0 k (wrap64 (Int.tdiv x1 x152001)) (x5.set (x6 : Int).toNat (Int.tmod x1 x152001)) (wrap64 (x6 - 1)) x152000 x152001) else (none)) else (none))) else ((spec_whText.f k x5).bind fun t156 => (some t156))
def spec_whOf.f (k : Nat) (a0_0 : Int) (a0_1 : Int) (a1 : Int) : Option (ByteArray) := if 0 ≤ a0_0 then (if (a0_0 : Int).toNat ≤ 35184372088832 then (spec_whOf.l0 k a1 (List.replicate (a0_0 : Int).toNat 0) (wrap64 (a0_0 - 1)) a0_0 a0_1) else (none)) else (none)
theorem spec_whOf.mono_l : ∀ k, (∀ y0 y1 y2 y3 y4, LeO (spec_whOf.l0 k y0 y1 y2 y3 y4) (spec_whOf.l0 (k + 1) y0 y1 y2 y3 y4))
 | 0 => fun _ _ _ _ _ r h => by simp [spec_whOf.l0] at h
 | k + 1 => by
  have ih0 := spec_whOf.mono_l k
  ·intro y0 y1 y2 y3 y4
   unfold spec_whOf.l0
   repeat' first
   | (with_reducible first | exact ih0 _ _ _ _ _ | exact spec_whText.mono _ _ | exact LeO.refl _ | exact LeO.none _ | refine LeO.ite ?_ ?_ | refine LeO.bind ?_ (fun _ => ?_))
   | exact ih0 _ _ _ _ _
   | exact spec_whText.mono _ _
   | exact LeO.none _
   | refine LeO.ite ?_ ?_
   | refine LeO.bind ?_ (fun _ => ?_)
theorem spec_whOf.mono : ∀ a0 a1 a2 k, LeO (spec_whOf.f k a0 a1 a2) (spec_whOf.f (k + 1) a0 a1 a2) := by
 intro a0 a1 a2 k
 have ih0 := spec_whOf.mono_l k
 unfold spec_whOf.f
 repeat' first
   | (with_reducible first | exact ih0 _ _ _ _ _ | exact spec_whText.mono _ _ | exact LeO.refl _ | exact LeO.none _ | refine LeO.ite ?_ ?_ | refine LeO.bind ?_ (fun _ => ?_))
   | exact ih0 _ _ _ _ _
   | exact spec_whText.mono _ _
   | exact LeO.none _
   | refine LeO.ite ?_ ?_
   | refine LeO.bind ?_ (fun _ => ?_)
theorem spec_whOf.calls (k : Nat) (a0_0 : Int) (a0_1 : Int) (a1 : Int) (r : ByteArray) (w : World) (h : spec_whOf.f k a0_0 a0_1 a1 = some r) :
  Calls Tryz.prog 57 #[.agg #[.int .i64 a0_0, .int .i64 a0_1], .int .i64 a1] w fun e w' => e = .returned (.string r) ∧ Below w.heap.size w w' := by
 have hu25 := Tryz.underlying25
 have HB := Aside0.mk (Below.refl w.heap.size w)
 have H := h
 unfold spec_whOf.f at H
 clear h
 replace H := nz H; obtain ⟨c3, H⟩ := H
 have c3b0 := eq_true c3
 have c3b1 : decide (0 ≤ a0_0) = true := decide_eq_true c3
 clear c3
 replace H := nz H; obtain ⟨c4, H⟩ := H
 have c4b0 := eq_true c4
 have c4b1 : decide ((a0_0 : Int).toNat ≤ 35184372088832) = true := decide_eq_true c4
 clear c4
 obtain ⟨y152, hy152⟩ : ∃ y_ : List Int, y_ = (List.replicate (a0_0 : Int).toNat 0) := ⟨_, rfl⟩
 replace H : (spec_whOf.l0 k a1 y152 (wrap64 (a0_0 - 1)) a0_0 a0_1) = some r := hZ hy152 H
 have Ny152 := Aside0.mk hy152
 clear hy152
 have H' := Aside0.mk H
 clear H
 go_enter Tryz.func57, Tryz.ntmps57
 go_wp2_with (first | ((with_reducible refine gate_dst (N := 2) rfl ?_); refine box_event ?hg (N := 2) ?hd (cs := #[.int .i64 a0_0, .int .i64 a0_1]) (t := 25) ?hr ?_; (case hd => rfl); (case hg => rfl); (case hr => first | (go_simp; done) | (go_simp; rfl)); intro gb151 hg w5 hbox hb; have BK151 := Aside0.mk (hbox); have GW151 : Aside0 (w.heap.size ≤ gb151) := gW hg; have GE151 := GW151; replace HB := Aside0.mk (below_step bB hb); clear hb hbox hg; have hcz6_0 := cZ BK151 0 (.int .i64 a0_0); have hcz6_1 := cZ BK151 1 (.int .i64 a0_1); have hfz6_0 := blk_frozen BK151.out 0; have hfz6_1 := blk_frozen BK151.out 1) | ((with_reducible refine gate_dst (N := 9) rfl ?_); refine Kd.R_make (Kd.int .i64) _ 3 rfl (N := 9) rfl 74 _ _ rfl a0_0 rfl rfl Tryz.underlying74 (.int .i64 0) 8 info3 rfl (by decide) (by omega) 0 (ok := fun _ => True) (okp := fun _ => True) rfl (fun _ hk => hk) trivial (oD) (Nat.le_trans (Nat.mul_le_mul_right _ (oD : a0_0.toNat ≤ 35184372088832)) (by omega)) (Below.refl _ _) (Nat.le_refl _) ?_; intro v153 w7 ho8 hb hg_ hnew_; clear hg_ hnew_; (first | rw [← Ny152.out] at ho8 | (simp only [Int.reduceToNat] at ho8; rw [← Ny152.out] at ho8)); have HO154 := Aside0.mk (Kd.R_lower ho8 (below_size bG)); replace BK151 := bW BK151 hb; replace HB := Aside0.mk (below_step bG hb); clear hb ho8; have hcz9_0 := cZ BK151 0 (.int .i64 a0_0); have hcz9_1 := cZ BK151 1 (.int .i64 a0_1); have hfz9_0 := blk_frozen BK151.out 0; have hfz9_1 := blk_frozen BK151.out 1))
 go_loopg [1, 6] k (fun kq v1 v6 w' => ∃ (x1_1 : Int) (x5_1 : List Int) (x6_1 : Int), v1 = .int .i64 x1_1 ∧ v6 = .int .i64 x6_1 ∧ Aside0 (spec_whOf.l0 kq x1_1 x5_1 x6_1 a0_0 a0_1 = some r) ∧ Aside0 (kq ≤ k) ∧ Aside0 (Kd.R (Kd.int .i64) 3 w' w.heap.size (fun _ => True) v153 x5_1) ∧ Aside0 (w'.heap[gb151]? = some (.cells #[.int .i64 a0_0, .int .i64 a0_1] 25 (0, 0))) ∧ Aside0 (Below w.heap.size w w'))
 case atStart => exact ⟨(a1), (y152), (wrap64 (a0_0 - 1)), fR, fR, H', ⟨Nat.le_refl _⟩, ⟨kR HO154⟩, ⟨bK⟩, ⟨bG⟩⟩
 case round =>
  clear H'
  try clear p2
  try clear c3
  try clear c3b0
  try clear c3b1
  try clear c4
  try clear c4b0
  try clear c4b1
  try clear c5
  try clear p6
  try clear hcz6_0
  try clear hcz6_1
  try clear hcz9_0
  try clear hcz9_1
  try clear hfz6_0
  try clear hfz6_1
  try clear hfz9_0
  try clear hfz9_1
  obtain ⟨x1_1, x5_1, x6_1, rfl, rfl, HA, HK1, HO_5, BK151, HB⟩ := hrel
  cases gk with
  | zero => exact absurd HA.out (by simp [spec_whOf.l0])
  | succ k1 =>
   have H := HA.out
   clear HA
   simp only [spec_whOf.l0] at H
   by_cases c10 : x6_1 ≥ 0
   ·rw [if_pos c10] at H
    have c10b0 : decide (0 ≤ x6_1) = true := decide_eq_true c10
    clear c10
    replace H := nz' H; obtain ⟨c11, H⟩ := H
    have c11b0 : (a0_1 == 0) = false := beq_eq_false_iff_ne.mpr c11
    have c11b1 : (a0_1 != 0) = true := bne_iff_ne.mpr c11
    replace H := nz H; obtain ⟨c12, H⟩ := H
    have c12b0 : decide (0 ≤ x6_1) = true := decide_eq_true c12
    clear c12
    replace H := nz H; obtain ⟨c13, H⟩ := H
    have c13b0 : decide (x6_1 < (x5_1.length : Int)) = true := decide_eq_true c13
    clear c13
    obtain ⟨y155, hy155⟩ : ∃ y_ : List Int, y_ = (x5_1.set (x6_1 : Int).toNat (Int.tmod x1_1 a0_1)) := ⟨_, rfl⟩
    replace H : (spec_whOf.l0 k1 (wrap64 (Int.tdiv x1_1 a0_1)) y155 (wrap64 (x6_1 - 1)) a0_0 a0_1) = some r := hZ hy155 H
    have Ny155 := Aside0.mk hy155
    clear hy155
    have H' := Aside0.mk H
    clear H
    have hcz15_0 := cZ BK151 0 (.int .i64 a0_0)
    have hcz15_1 := cZ BK151 1 (.int .i64 a0_1)
    have hfz15_0 := blk_frozen BK151.out 0
    have hfz15_1 := blk_frozen BK151.out 1
    have p14 : 0 ≤ (x6_1 : Int) := oD
    have q14 : (x6_1 : Int) < ((x5_1.length : Int) : Int) := oD
    obtain ⟨go14, co14, eo14, gb14, gl14, cl14, HG14⟩ := Kd.R_form HO_5.out (by omega)
    (first | cases eo14 | (injection eo14 with ea_ en_ ec_; (first | subst ea_ | (injection ea_ with ea_; subst ea_)); subst ec_; clear en_))
    have GB14 := Aside0.mk gb14
    have GG14 := Aside0.mk HG14
    clear gb14 gl14 HG14
    obtain ⟨hx14_0, hf14_0⟩ := Kd.R_celln 0 HO_5.out (x6_1 : Int) p14 q14
    replace p14 := eq_true p14
    replace q14 := eq_true q14
    have HP16 := Kd.R_putg HO_5.out (x6_1 : Int) (Int.tmod x1_1 a0_1)
    go_wp2_with (first | ((with_reducible refine gate_store (t := 3) (p := 23) rfl ?_); refine store_event (t := 3) (p := 23) (v := ?vo_w17) (w1 := (wr.setCell ⟨go14, (x6_1 : Int).toNat, none⟩ (.int .i64 (Int.tmod x1_1 a0_1)))) ?hg ?ho ?hn ?hr ?_; (case ho => rfl); (case hg => rfl); (case hn => rfl); (case hr => first | (go_simp; done) | (go_simp; rfl)); intro w17 hw; have hg : wr.grownBy w17 (some go14) := (by rw [hw]; exact HP16.2); have hp_ : Kd.R (Kd.int .i64) 3 w17 w.heap.size (fun _ => True) (.slice (some ⟨go14, 0, none⟩) x5_1.length co14) y155 := (by rw [hw, Ny155.out]; exact HP16.1); clear HP16; replace BK151 := Aside0.mk (blk_grown (g := gb151) (o := .cells #[.int .i64 a0_0, .int .i64 a0_1] 25 (0, 0)) bK hg (Kd.R_ne HO_5.out BK151.out (by decide))); replace HO_5 := Aside0.mk (hp_); replace HB := Aside0.mk ((by rw [hw]; exact below_set (HB.out) GB14.out : Below w.heap.size w w17)); clear hg hw hp_; have hcz18_0 := cZ BK151 0 (.int .i64 a0_0); have hcz18_1 := cZ BK151 1 (.int .i64 a0_1); have hfz18_0 := blk_frozen BK151.out 0; have hfz18_1 := blk_frozen BK151.out 1))
    go_roundg k1
    case measure => have := HK1.out; omega
    case rel => exact ⟨(wrap64 (Int.tdiv x1_1 a0_1)), (y155), (wrap64 (x6_1 - 1)), fR, fR, H', ⟨by have := HK1.out; omega⟩, ⟨kR HO_5⟩, ⟨bK⟩, ⟨bG⟩⟩
   ·rw [if_neg c10] at H
    have c10b0 : decide (0 ≤ x6_1) = false := decide_eq_false c10
    clear c10
    replace H := Option.bind_eq_some_iff.mp H
    obtain ⟨t156, A190, H⟩ := H
    (try dsimp only at H)
    have A19 := Aside0.mk A190
    clear A190
    obtain rfl := Option.some.inj H
    obtain ⟨Ao20, co20, eo20⟩ := Kd.R_slice HO_5.out
    subst eo20
    go_wp2_with (first | ((with_reducible refine gate_callee (f := 58) rfl ?_); refine goesL_ (some 29) rfl rfl Tryz.func58 (by kernel_rfl) rfl #[.slice Ao20 x5_1.length co20] rfl lM ?_; (with_reducible refine (spec_whText.calls k1 _ _ x5_1 t156 _ ?side1 ?side2 A19.out).mono ?_); (case side1 => exact cS ((Kd.R_reads' HO_5.out).2.2)); (case side2 => exact (Kd.R_reads' HO_5.out).2.1); rintro e w21 ⟨rfl, hb⟩; refine ⟨_, rfl, ?_⟩; replace HO_5 := Aside0.mk (Kd.R_below (kR HO_5) hb); replace BK151 := bW BK151 hb; replace HB := Aside0.mk (below_step bG hb); (try clear hb)))
    go_ret
    exact ⟨rE, bG⟩

/-! ### spec_orForth: function 30 -/
def spec_orForth.l0 : Nat → List Int → Int → List Int → List Int → Int → Int → Int → Int → Option (ByteArray)
 | 0, _, _, _, _, _, _, _, _ => none
 | k + 1, x5, x6, x7, x14, x15, x16, x158000, x158001 => if x16 < x15 then (if 0 ≤ x16 then (if x16 < (x14.length : Int) then (if (Int.tmod x6 2) = 1 then (if x7.length < 17592186044416 then ((some (x7 ++ [wrap64 ((wrap64 (x158001 - 1)) - (rd x14 x16))] : List Int)).bind fun y163 => (if 0 ≤ (wrap64 ((y163.length : Int) - 1)) then (if (wrap64 ((y163.length : Int) - 1)) < (x5.length : Int) then (spec_orForth.l0 k x5 (wrap64 ((wrap64 (x6 * x158001)) + (rd x5 (wrap64 ((y163.length : Int) - 1))))) y163 x14 x15 (wrap64 (x16 + 1)) x158000 x158001) else (none)) else (none))) else (none)) else (if x7.length < 17592186044416 then ((some (x7 ++ [rd x14 x16] : List Int)).bind fun y167 => (if 0 ≤ (wrap64 ((y167.length : Int) - 1)) then (if (wrap64 ((y167.length : Int) - 1)) < (x5.length : Int) then (spec_orForth.l0 k x5 (wrap64 ((wrap64 (x6 * x158001)) + (rd x5 (wrap64 ((y167.length : Int) - 1))))) y167 x14 x15 (wrap64 (x16 + 1)) x158000 x158001) else (none)) else (none))) else (none))) else (none)) else (none)) else ((spec_whText.f k x7).bind fun t171 => (some t171))
def spec_orForth.f (k : Nat) (a0_0 : Int) (a0_1 : Int) (a1 : Int) : Option (ByteArray) := (spec_whOf.f k a0_0 a0_1 a1).bind fun t158 => ((spec_whDigits.f k t158).bind fun t159 => (spec_orForth.l0 k t159 0 ([] : List Int) t159 (t159.length : Int) 0 a0_0 a0_1))
theorem spec_orForth.mono_l : ∀ k, (∀ y0 y1 y2 y3 y4 y5 y6 y7, LeO (spec_orForth.l0 k y0 y1 y2 y3 y4 y5 y6 y7) (spec_orForth.l0 (k + 1) y0 y1 y2 y3 y4 y5 y6 y7))
 | 0 => fun _ _ _ _ _ _ _ _ r h => by simp [spec_orForth.l0] at h
 | k + 1 => by
  have ih0 := spec_orForth.mono_l k
  ·intro y0 y1 y2 y3 y4 y5 y6 y7
   unfold spec_orForth.l0
   repeat' first
   | (with_reducible first | exact ih0 _ _ _ _ _ _ _ _ | exact spec_whDigits.mono _ _ | exact spec_whOf.mono _ _ _ _ | exact spec_whText.mono _ _ | exact LeO.refl _ | exact LeO.none _ | refine LeO.ite ?_ ?_ | refine LeO.bind ?_ (fun _ => ?_))
   | exact ih0 _ _ _ _ _ _ _ _
   | exact spec_whDigits.mono _ _
   | exact spec_whOf.mono _ _ _ _
   | exact spec_whText.mono _ _
   | exact LeO.none _
   | refine LeO.ite ?_ ?_
   | refine LeO.bind ?_ (fun _ => ?_)
theorem spec_orForth.mono : ∀ a0 a1 a2 k, LeO (spec_orForth.f k a0 a1 a2) (spec_orForth.f (k + 1) a0 a1 a2) := by
 intro a0 a1 a2 k
 have ih0 := spec_orForth.mono_l k
 unfold spec_orForth.f
 repeat' first
   | (with_reducible first | exact ih0 _ _ _ _ _ _ _ _ | exact spec_whDigits.mono _ _ | exact spec_whOf.mono _ _ _ _ | exact spec_whText.mono _ _ | exact LeO.refl _ | exact LeO.none _ | refine LeO.ite ?_ ?_ | refine LeO.bind ?_ (fun _ => ?_))
   | exact ih0 _ _ _ _ _ _ _ _
   | exact spec_whDigits.mono _ _
   | exact spec_whOf.mono _ _ _ _
   | exact spec_whText.mono _ _
   | exact LeO.none _
   | refine LeO.ite ?_ ?_
   | refine LeO.bind ?_ (fun _ => ?_)
theorem spec_orForth.calls (k : Nat) (a0_0 : Int) (a0_1 : Int) (a1 : Int) (r : ByteArray) (w : World) (h : spec_orForth.f k a0_0 a0_1 a1 = some r) :
  Calls Tryz.prog 30 #[.agg #[.int .i64 a0_0, .int .i64 a0_1], .int .i64 a1] w fun e w' => e = .returned (.string r) ∧ Below w.heap.size w w' := by
 have hu25 := Tryz.underlying25
 have HB := Aside0.mk (Below.refl w.heap.size w)
 have H := h
 unfold spec_orForth.f at H
 clear h
 replace H := Option.bind_eq_some_iff.mp H
 obtain ⟨t158, A30, H⟩ := H
 (try dsimp only at H)
 have A3 := Aside0.mk A30
 clear A30
 replace H := Option.bind_eq_some_iff.mp H
 obtain ⟨t159, A40, H⟩ := H
 (try dsimp only at H)
 have A4 := Aside0.mk A40
 clear A40
 have H' := Aside0.mk H
 clear H
 go_enter Tryz.func30, Tryz.ntmps30
 go_wp2_with (first | ((with_reducible refine gate_dst (N := 2) rfl ?_); refine box_event ?hg (N := 2) ?hd (cs := #[.int .i64 a0_0, .int .i64 a0_1]) (t := 25) ?hr ?_; (case hd => rfl); (case hg => rfl); (case hr => first | (go_simp; done) | (go_simp; rfl)); intro gb157 hg w5 hbox hb; have BK157 := Aside0.mk (hbox); have GW157 : Aside0 (w.heap.size ≤ gb157) := gW hg; have GE157 := GW157; replace HB := Aside0.mk (below_step bB hb); clear hb hbox hg; have hcz6_0 := cZ BK157 0 (.int .i64 a0_0); have hcz6_1 := cZ BK157 1 (.int .i64 a0_1); have hfz6_0 := blk_frozen BK157.out 0; have hfz6_1 := blk_frozen BK157.out 1) | (go_at_call 57; (with_reducible refine (spec_whOf.calls k a0_0 a0_1 a1 t158 _ A3.out).mono ?_); rintro e w7 ⟨rfl, hb⟩; replace BK157 := bW BK157 hb; replace HB := Aside0.mk (below_step bG hb); (try clear hb)) | (go_at_call 56; (with_reducible refine (spec_whDigits.calls k t158 t159 _ A4.out).mono ?_); rintro e w8 ⟨v160, rfl, ho0, hb⟩; have HO161 := Aside0.mk (Kd.R_lower ho0 (below_size bG)); replace BK157 := bW BK157 hb; replace HB := Aside0.mk (below_step bG hb); (try clear hb); (try clear ho0); obtain ⟨Ao9, co9, eo9⟩ := Kd.R_slice HO161.out; subst eo9))
 repeat (go_quiet (first | ((with_reducible refine gate_dst (N := 2) rfl ?_); refine box_event ?hg (N := 2) ?hd (cs := #[.int .i64 a0_0, .int .i64 a0_1]) (t := 25) ?hr ?_; (case hd => rfl); (case hg => rfl); (case hr => first | (go_simp; done) | (go_simp; rfl)); intro gb157 hg w5 hbox hb; have BK157 := Aside0.mk (hbox); have GW157 : Aside0 (w.heap.size ≤ gb157) := gW hg; have GE157 := GW157; replace HB := Aside0.mk (below_step bB hb); clear hb hbox hg; have hcz6_0 := cZ BK157 0 (.int .i64 a0_0); have hcz6_1 := cZ BK157 1 (.int .i64 a0_1); have hfz6_0 := blk_frozen BK157.out 0; have hfz6_1 := blk_frozen BK157.out 1) | (go_at_call 57; (with_reducible refine (spec_whOf.calls k a0_0 a0_1 a1 t158 _ A3.out).mono ?_); rintro e w7 ⟨rfl, hb⟩; replace BK157 := bW BK157 hb; replace HB := Aside0.mk (below_step bG hb); (try clear hb)) | (go_at_call 56; (with_reducible refine (spec_whDigits.calls k t158 t159 _ A4.out).mono ?_); rintro e w8 ⟨v160, rfl, ho0, hb⟩; have HO161 := Aside0.mk (Kd.R_lower ho0 (below_size bG)); replace BK157 := bW BK157 hb; replace HB := Aside0.mk (below_step bG hb); (try clear hb); (try clear ho0); obtain ⟨Ao9, co9, eo9⟩ := Kd.R_slice HO161.out; subst eo9)); try go_wp2_with (first | ((with_reducible refine gate_dst (N := 2) rfl ?_); refine box_event ?hg (N := 2) ?hd (cs := #[.int .i64 a0_0, .int .i64 a0_1]) (t := 25) ?hr ?_; (case hd => rfl); (case hg => rfl); (case hr => first | (go_simp; done) | (go_simp; rfl)); intro gb157 hg w5 hbox hb; have BK157 := Aside0.mk (hbox); have GW157 : Aside0 (w.heap.size ≤ gb157) := gW hg; have GE157 := GW157; replace HB := Aside0.mk (below_step bB hb); clear hb hbox hg; have hcz6_0 := cZ BK157 0 (.int .i64 a0_0); have hcz6_1 := cZ BK157 1 (.int .i64 a0_1); have hfz6_0 := blk_frozen BK157.out 0; have hfz6_1 := blk_frozen BK157.out 1) | (go_at_call 57; (with_reducible refine (spec_whOf.calls k a0_0 a0_1 a1 t158 _ A3.out).mono ?_); rintro e w7 ⟨rfl, hb⟩; replace BK157 := bW BK157 hb; replace HB := Aside0.mk (below_step bG hb); (try clear hb)) | (go_at_call 56; (with_reducible refine (spec_whDigits.calls k t158 t159 _ A4.out).mono ?_); rintro e w8 ⟨v160, rfl, ho0, hb⟩; have HO161 := Aside0.mk (Kd.R_lower ho0 (below_size bG)); replace BK157 := bW BK157 hb; replace HB := Aside0.mk (below_step bG hb); (try clear hb); (try clear ho0); obtain ⟨Ao9, co9, eo9⟩ := Kd.R_slice HO161.out; subst eo9)))
 go_loopg [6, 7, 16] k (fun kq v6 v7 v16 w' => ∃ (x6_1 : Int) (x7_1 : List Int) (x16_1 : Int), v6 = .int .i64 x6_1 ∧ v16 = .int .i64 x16_1 ∧ Aside0 (spec_orForth.l0 kq t159 x6_1 x7_1 t159 (t159.length : Int) x16_1 a0_0 a0_1 = some r) ∧ Aside0 (kq ≤ k) ∧ Aside0 (Kd.R (Kd.int .i64) 3 w' w.heap.size (fun k_ => some k_ ≠ (v7 : Value).ownBlock) (.slice Ao9 t159.length co9) t159) ∧ Aside0 (Kd.R (Kd.int .i64) 3 w' w.heap.size (fun k_ => some k_ ≠ ((.slice Ao9 t159.length co9) : Value).ownBlock ∧ some k_ ≠ ((.slice Ao9 t159.length co9) : Value).ownBlock) v7 x7_1) ∧ Aside0 (Kd.R (Kd.int .i64) 3 w' w.heap.size (fun k_ => some k_ ≠ (v7 : Value).ownBlock) (.slice Ao9 t159.length co9) t159) ∧ Aside0 (w'.heap[gb157]? = some (.cells #[.int .i64 a0_0, .int .i64 a0_1] 25 (0, 0))) ∧ Aside0 (Below w.heap.size w w'))
 case atStart => exact ⟨(0), (([] : List Int)), (0), fR, fR, H', ⟨Nat.le_refl _⟩, ⟨by (with_reducible repeat (first | apply Kd.R_alloc | apply Kd.R_drewN | apply Kd.R_drew)); exact Kd.R_mono HO161.out (fun _ hk => (by simp [Value.ownBlock]))⟩, ⟨by first | exact Kd.R_nil _ _ _ _ _ | exact Kd.N_nil _ _ _ _ _ | exact Kd.V_nil _ _ _ _ _ | exact Kd.Q_nil _ _ _ _ _ | exact Kd.S_nil _ _ _ _ _⟩, ⟨by (with_reducible repeat (first | apply Kd.R_alloc | apply Kd.R_drewN | apply Kd.R_drew)); exact Kd.R_mono HO161.out (fun _ hk => (by simp [Value.ownBlock]))⟩, ⟨bK⟩, ⟨bG⟩⟩
 case round =>
  clear H'
  try clear p2
  try clear c3
  try clear hcz6_0
  try clear hcz6_1
  try clear hfz6_0
  try clear hfz6_1
  obtain ⟨x6_1, x7_1, x16_1, rfl, rfl, HA, HK1, HO_5, HO_7, HO_14, BK157, HB⟩ := hrel
  cases gk with
  | zero => exact absurd HA.out (by simp [spec_orForth.l0])
  | succ k1 =>
   have H := HA.out
   clear HA
   simp only [spec_orForth.l0] at H
   by_cases c10 : x16_1 < (t159.length : Int)
   ·rw [if_pos c10] at H
    have c10b0 : decide (x16_1 < (t159.length : Int)) = true := decide_eq_true c10
    clear c10
    replace H := nz H; obtain ⟨c11, H⟩ := H
    have c11b0 : decide (0 ≤ x16_1) = true := decide_eq_true c11
    clear c11
    replace H := nz H; obtain ⟨c12, H⟩ := H
    have c12b0 : decide (x16_1 < (t159.length : Int)) = true := decide_eq_true c12
    clear c12
    by_cases c13 : (Int.tmod x6_1 2) = 1
    ·rw [if_pos c13] at H
     have c13b0 : ((Int.tmod x6_1 2) == 1) = true := beq_iff_eq.mpr c13
     have c13b1 : ((Int.tmod x6_1 2) != 1) = false := bne_eq_false_iff_eq.mpr c13
     clear c13
     replace H := nz H; obtain ⟨c14, H⟩ := H
     have LMc14 := Aside0.mk c14
     clear c14
     obtain ⟨y163, hy163⟩ : ∃ y_ : List Int, y_ = (x7_1 ++ [wrap64 ((wrap64 (a0_1 - 1)) - (rd t159 x16_1))]) := ⟨_, rfl⟩
     replace H : (if 0 ≤ (wrap64 ((y163.length : Int) - 1)) then (if (wrap64 ((y163.length : Int) - 1)) < (t159.length : Int) then (spec_orForth.l0 k1 t159 (wrap64 ((wrap64 (x6_1 * a0_1)) + (rd t159 (wrap64 ((y163.length : Int) - 1))))) y163 t159 (t159.length : Int) (wrap64 (x16_1 + 1)) a0_0 a0_1) else (none)) else (none)) = some r := hZ hy163 H
     have Ny163 := Aside0.mk hy163
     clear hy163
     obtain ⟨ji15, hji15⟩ : ∃ j_ : Int, (wrap64 ((y163.length : Int) - 1)) = j_ := ⟨_, rfl⟩
     replace H : (if 0 ≤ (ji15) then (if (ji15) < (t159.length : Int) then (spec_orForth.l0 k1 t159 (wrap64 ((wrap64 (x6_1 * a0_1)) + (rd t159 (ji15)))) y163 t159 (t159.length : Int) (wrap64 (x16_1 + 1)) a0_0 a0_1) else (none)) else (none)) = some r := by first | (rw [hji15] at H; exact H) | (simp only [hji15] at H ⊢; exact H)
     have hji15w : (IntKind.i64.wrap ((y163.length : Int) - 1)) = ji15 := (i64_w _).trans hji15
     replace H := nz H; obtain ⟨c16, H⟩ := H
     have c16b0 : decide (0 ≤ (ji15)) = true := decide_eq_true c16
     clear c16
     replace H := nz H; obtain ⟨c17, H⟩ := H
     have c17b0 : decide ((ji15) < (t159.length : Int)) = true := decide_eq_true c17
     clear c17
     have H' := Aside0.mk H
     clear H
     have p162 : 0 ≤ (x16_1 : Int) := oD
     have q162 : x16_1 < (t159.length : Int) := oD
     obtain ⟨ad162, e162, hx162_0⟩ := Kd.at_int (Kd.R_reads' HO_14.out).2.2 x16_1 p162 q162
     cases e162
     replace p162 := eq_true p162
     replace q162 := eq_true q162
     have hcz18_0 := cZ BK157 0 (.int .i64 a0_0)
     have hcz18_1 := cZ BK157 1 (.int .i64 a0_1)
     have hfz18_0 := blk_frozen BK157.out 0
     have hfz18_1 := blk_frozen BK157.out 1
     go_wp2_with (first | ((with_reducible refine gate_builtin (b := .append) (xs := #[.tmp 28, .tmp 30]) rfl ?_); at_builtin; refine Kd.R_append (Kd.int .i64) (w0 := w) w.heap.size rfl (.tmp 28) (.tmp 30) 74 3 (.int .i64 0) 8 rfl Tryz.underlying74 info3 rfl (by decide) (by omega) u7 x7_1 (wrap64 ((wrap64 (a0_1 - 1)) - (rd t159 x16_1))) [.int .i64 (wrap64 ((wrap64 (a0_1 - 1)) - (rd t159 x16_1)))] (fun k_ => some k_ ≠ (.slice (some ad162) t159.length co9 : Value).ownBlock ∧ some k_ ≠ (.slice (some ad162) t159.length co9 : Value).ownBlock) (fun _ => False) rfl rfl ?aP (fun _ hk => hk.elim) ?aF ?aO ?aB ?aS ?aL ?_; (case aP => exact rfl); (case aB => exact bG); (case aF => exact (fun k_ hk => ⟨Kd.fresh' (Kd.R_lt (kR HO_5)) k_ hk, Kd.fresh' (Kd.R_lt (kR HO_14)) k_ hk⟩)); (case aO => exact (kR HO_7)); (case aS => exact (below_size bG)); (case aL => have := LMc14.out; omega); intro v164 w19 ho hb hg hat; rw [← Ny163.out] at ho; have n0_ := Aside0.mk (Kd.R_after (ok := (fun _ => True)) (by (with_reducible repeat (first | apply Kd.R_alloc | apply Kd.R_drewN | apply Kd.R_drew)); exact Kd.R_mono HO_5.out (fun _ hk => ⟨trivial, hk⟩)) hg hat); have n1_ := Aside0.mk (Kd.R_after (ok := (fun _ => True)) (by (with_reducible repeat (first | apply Kd.R_alloc | apply Kd.R_drewN | apply Kd.R_drew)); exact Kd.R_mono HO_14.out (fun _ hk => ⟨trivial, hk⟩)) hg hat); have n2_ := Aside0.mk (blk_grown (g := gb157) (o := .cells #[.int .i64 a0_0, .int .i64 a0_1] 25 (0, 0)) bK hg (Kd.R_ne HO_7.out BK157.out (by decide))); have n3_ := Aside0.mk (hb); have n4_ := Aside0.mk (ho); clear HO_5; clear HO_14; clear BK157; clear HB; clear HO_7; have HO_5 := n0_; have HO_14 := n1_; have BK157 := n2_; have HB := n3_; have HO165 := n4_; clear n0_ n1_ n2_ n3_ n4_; clear ho hb hg hat; have hcz20_0 := cZ BK157 0 (.int .i64 a0_0); have hcz20_1 := cZ BK157 1 (.int .i64 a0_1); have hfz20_0 := blk_frozen BK157.out 0; have hfz20_1 := blk_frozen BK157.out 1; obtain ⟨Ao21, co21, eo21⟩ := Kd.R_slice HO165.out; subst eo21; have p166 : 0 ≤ ((ji15) : Int) := oD; have q166 : (ji15) < (t159.length : Int) := oD; obtain ⟨ad166, e166, hx166_0⟩ := Kd.at_int (Kd.R_reads' HO_5.out).2.2 (ji15) p166 q166; obtain rfl : ad162 = ad166 := (by injection e166); replace p166 := eq_true p166; replace q166 := eq_true q166))
     repeat (go_quiet (first | ((with_reducible refine gate_builtin (b := .append) (xs := #[.tmp 28, .tmp 30]) rfl ?_); at_builtin; refine Kd.R_append (Kd.int .i64) (w0 := w) w.heap.size rfl (.tmp 28) (.tmp 30) 74 3 (.int .i64 0) 8 rfl Tryz.underlying74 info3 rfl (by decide) (by omega) u7 x7_1 (wrap64 ((wrap64 (a0_1 - 1)) - (rd t159 x16_1))) [.int .i64 (wrap64 ((wrap64 (a0_1 - 1)) - (rd t159 x16_1)))] (fun k_ => some k_ ≠ (.slice (some ad162) t159.length co9 : Value).ownBlock ∧ some k_ ≠ (.slice (some ad162) t159.length co9 : Value).ownBlock) (fun _ => False) rfl rfl ?aP (fun _ hk => hk.elim) ?aF ?aO ?aB ?aS ?aL ?_; (case aP => exact rfl); (case aB => exact bG); (case aF => exact (fun k_ hk => ⟨Kd.fresh' (Kd.R_lt (kR HO_5)) k_ hk, Kd.fresh' (Kd.R_lt (kR HO_14)) k_ hk⟩)); (case aO => exact (kR HO_7)); (case aS => exact (below_size bG)); (case aL => have := LMc14.out; omega); intro v164 w19 ho hb hg hat; rw [← Ny163.out] at ho; have n0_ := Aside0.mk (Kd.R_after (ok := (fun _ => True)) (by (with_reducible repeat (first | apply Kd.R_alloc | apply Kd.R_drewN | apply Kd.R_drew)); exact Kd.R_mono HO_5.out (fun _ hk => ⟨trivial, hk⟩)) hg hat); have n1_ := Aside0.mk (Kd.R_after (ok := (fun _ => True)) (by (with_reducible repeat (first | apply Kd.R_alloc | apply Kd.R_drewN | apply Kd.R_drew)); exact Kd.R_mono HO_14.out (fun _ hk => ⟨trivial, hk⟩)) hg hat); have n2_ := Aside0.mk (blk_grown (g := gb157) (o := .cells #[.int .i64 a0_0, .int .i64 a0_1] 25 (0, 0)) bK hg (Kd.R_ne HO_7.out BK157.out (by decide))); have n3_ := Aside0.mk (hb); have n4_ := Aside0.mk (ho); clear HO_5; clear HO_14; clear BK157; clear HB; clear HO_7; have HO_5 := n0_; have HO_14 := n1_; have BK157 := n2_; have HB := n3_; have HO165 := n4_; clear n0_ n1_ n2_ n3_ n4_; clear ho hb hg hat; have hcz20_0 := cZ BK157 0 (.int .i64 a0_0); have hcz20_1 := cZ BK157 1 (.int .i64 a0_1); have hfz20_0 := blk_frozen BK157.out 0; have hfz20_1 := blk_frozen BK157.out 1; obtain ⟨Ao21, co21, eo21⟩ := Kd.R_slice HO165.out; subst eo21; have p166 : 0 ≤ ((ji15) : Int) := oD; have q166 : (ji15) < (t159.length : Int) := oD; obtain ⟨ad166, e166, hx166_0⟩ := Kd.at_int (Kd.R_reads' HO_5.out).2.2 (ji15) p166 q166; obtain rfl : ad162 = ad166 := (by injection e166); replace p166 := eq_true p166; replace q166 := eq_true q166)); try go_wp2_with (first | ((with_reducible refine gate_builtin (b := .append) (xs := #[.tmp 28, .tmp 30]) rfl ?_); at_builtin; refine Kd.R_append (Kd.int .i64) (w0 := w) w.heap.size rfl (.tmp 28) (.tmp 30) 74 3 (.int .i64 0) 8 rfl Tryz.underlying74 info3 rfl (by decide) (by omega) u7 x7_1 (wrap64 ((wrap64 (a0_1 - 1)) - (rd t159 x16_1))) [.int .i64 (wrap64 ((wrap64 (a0_1 - 1)) - (rd t159 x16_1)))] (fun k_ => some k_ ≠ (.slice (some ad162) t159.length co9 : Value).ownBlock ∧ some k_ ≠ (.slice (some ad162) t159.length co9 : Value).ownBlock) (fun _ => False) rfl rfl ?aP (fun _ hk => hk.elim) ?aF ?aO ?aB ?aS ?aL ?_; (case aP => exact rfl); (case aB => exact bG); (case aF => exact (fun k_ hk => ⟨Kd.fresh' (Kd.R_lt (kR HO_5)) k_ hk, Kd.fresh' (Kd.R_lt (kR HO_14)) k_ hk⟩)); (case aO => exact (kR HO_7)); (case aS => exact (below_size bG)); (case aL => have := LMc14.out; omega); intro v164 w19 ho hb hg hat; rw [← Ny163.out] at ho; have n0_ := Aside0.mk (Kd.R_after (ok := (fun _ => True)) (by (with_reducible repeat (first | apply Kd.R_alloc | apply Kd.R_drewN | apply Kd.R_drew)); exact Kd.R_mono HO_5.out (fun _ hk => ⟨trivial, hk⟩)) hg hat); have n1_ := Aside0.mk (Kd.R_after (ok := (fun _ => True)) (by (with_reducible repeat (first | apply Kd.R_alloc | apply Kd.R_drewN | apply Kd.R_drew)); exact Kd.R_mono HO_14.out (fun _ hk => ⟨trivial, hk⟩)) hg hat); have n2_ := Aside0.mk (blk_grown (g := gb157) (o := .cells #[.int .i64 a0_0, .int .i64 a0_1] 25 (0, 0)) bK hg (Kd.R_ne HO_7.out BK157.out (by decide))); have n3_ := Aside0.mk (hb); have n4_ := Aside0.mk (ho); clear HO_5; clear HO_14; clear BK157; clear HB; clear HO_7; have HO_5 := n0_; have HO_14 := n1_; have BK157 := n2_; have HB := n3_; have HO165 := n4_; clear n0_ n1_ n2_ n3_ n4_; clear ho hb hg hat; have hcz20_0 := cZ BK157 0 (.int .i64 a0_0); have hcz20_1 := cZ BK157 1 (.int .i64 a0_1); have hfz20_0 := blk_frozen BK157.out 0; have hfz20_1 := blk_frozen BK157.out 1; obtain ⟨Ao21, co21, eo21⟩ := Kd.R_slice HO165.out; subst eo21; have p166 : 0 ≤ ((ji15) : Int) := oD; have q166 : (ji15) < (t159.length : Int) := oD; obtain ⟨ad166, e166, hx166_0⟩ := Kd.at_int (Kd.R_reads' HO_5.out).2.2 (ji15) p166 q166; obtain rfl : ad162 = ad166 := (by injection e166); replace p166 := eq_true p166; replace q166 := eq_true q166)))
     go_roundg k1
     case measure => have := HK1.out; omega
     case rel => exact ⟨(wrap64 ((wrap64 (x6_1 * a0_1)) + (rd t159 (ji15)))), (y163), (wrap64 (x16_1 + 1)), (by first | rfl | (simp; done) | (simp only [← hji15] <;> (first | rfl | simp)) | (simp [*]; done)), fR, H', ⟨by have := HK1.out; omega⟩, ⟨by (with_reducible repeat (first | apply Kd.R_alloc | apply Kd.R_drewN | apply Kd.R_drew)); exact Kd.R_mono HO_5.out (fun _ hk => hk.2)⟩, ⟨kR HO165⟩, ⟨by (with_reducible repeat (first | apply Kd.R_alloc | apply Kd.R_drewN | apply Kd.R_drew)); exact Kd.R_mono HO_14.out (fun _ hk => hk.2)⟩, ⟨bK⟩, ⟨bG⟩⟩
    ·rw [if_neg c13] at H
     have c13b0 : ((Int.tmod x6_1 2) == 1) = false := beq_eq_false_iff_ne.mpr c13
     have c13b1 : ((Int.tmod x6_1 2) != 1) = true := bne_iff_ne.mpr c13
     replace H := nz H; obtain ⟨c22, H⟩ := H
     have LMc22 := Aside0.mk c22
     clear c22
     obtain ⟨y167, hy167⟩ : ∃ y_ : List Int, y_ = (x7_1 ++ [rd t159 x16_1]) := ⟨_, rfl⟩
     replace H : (if 0 ≤ (wrap64 ((y167.length : Int) - 1)) then (if (wrap64 ((y167.length : Int) - 1)) < (t159.length : Int) then (spec_orForth.l0 k1 t159 (wrap64 ((wrap64 (x6_1 * a0_1)) + (rd t159 (wrap64 ((y167.length : Int) - 1))))) y167 t159 (t159.length : Int) (wrap64 (x16_1 + 1)) a0_0 a0_1) else (none)) else (none)) = some r := hZ hy167 H
     have Ny167 := Aside0.mk hy167
     clear hy167
     obtain ⟨ji23, hji23⟩ : ∃ j_ : Int, (wrap64 ((y167.length : Int) - 1)) = j_ := ⟨_, rfl⟩
     replace H : (if 0 ≤ (ji23) then (if (ji23) < (t159.length : Int) then (spec_orForth.l0 k1 t159 (wrap64 ((wrap64 (x6_1 * a0_1)) + (rd t159 (ji23)))) y167 t159 (t159.length : Int) (wrap64 (x16_1 + 1)) a0_0 a0_1) else (none)) else (none)) = some r := by first | (rw [hji23] at H; exact H) | (simp only [hji23] at H ⊢; exact H)
     have hji23w : (IntKind.i64.wrap ((y167.length : Int) - 1)) = ji23 := (i64_w _).trans hji23
     replace H := nz H; obtain ⟨c24, H⟩ := H
     have c24b0 : decide (0 ≤ (ji23)) = true := decide_eq_true c24
     clear c24
     replace H := nz H; obtain ⟨c25, H⟩ := H
     have c25b0 : decide ((ji23) < (t159.length : Int)) = true := decide_eq_true c25
     clear c25
     have H' := Aside0.mk H
     clear H
     have p162 : 0 ≤ (x16_1 : Int) := oD
     have q162 : x16_1 < (t159.length : Int) := oD
     obtain ⟨ad162, e162, hx162_0⟩ := Kd.at_int (Kd.R_reads' HO_14.out).2.2 x16_1 p162 q162
     cases e162
     replace p162 := eq_true p162
     replace q162 := eq_true q162
     go_wp2_with (first | ((with_reducible refine gate_builtin (b := .append) (xs := #[.tmp 28, .tmp 30]) rfl ?_); at_builtin; refine Kd.R_append (Kd.int .i64) (w0 := w) w.heap.size rfl (.tmp 28) (.tmp 30) 74 3 (.int .i64 0) 8 rfl Tryz.underlying74 info3 rfl (by decide) (by omega) u7 x7_1 (rd t159 x16_1) [.int .i64 (rd t159 x16_1)] (fun k_ => some k_ ≠ (.slice (some ad162) t159.length co9 : Value).ownBlock ∧ some k_ ≠ (.slice (some ad162) t159.length co9 : Value).ownBlock) (fun _ => False) rfl rfl ?aP (fun _ hk => hk.elim) ?aF ?aO ?aB ?aS ?aL ?_; (case aP => exact rfl); (case aB => exact bG); (case aF => exact (fun k_ hk => ⟨Kd.fresh' (Kd.R_lt (kR HO_5)) k_ hk, Kd.fresh' (Kd.R_lt (kR HO_14)) k_ hk⟩)); (case aO => exact (kR HO_7)); (case aS => exact (below_size bG)); (case aL => have := LMc22.out; omega); intro v168 w26 ho hb hg hat; rw [← Ny167.out] at ho; have n0_ := Aside0.mk (Kd.R_after (ok := (fun _ => True)) (by (with_reducible repeat (first | apply Kd.R_alloc | apply Kd.R_drewN | apply Kd.R_drew)); exact Kd.R_mono HO_5.out (fun _ hk => ⟨trivial, hk⟩)) hg hat); have n1_ := Aside0.mk (Kd.R_after (ok := (fun _ => True)) (by (with_reducible repeat (first | apply Kd.R_alloc | apply Kd.R_drewN | apply Kd.R_drew)); exact Kd.R_mono HO_14.out (fun _ hk => ⟨trivial, hk⟩)) hg hat); have n2_ := Aside0.mk (blk_grown (g := gb157) (o := .cells #[.int .i64 a0_0, .int .i64 a0_1] 25 (0, 0)) bK hg (Kd.R_ne HO_7.out BK157.out (by decide))); have n3_ := Aside0.mk (hb); have n4_ := Aside0.mk (ho); clear HO_5; clear HO_14; clear BK157; clear HB; clear HO_7; have HO_5 := n0_; have HO_14 := n1_; have BK157 := n2_; have HB := n3_; have HO169 := n4_; clear n0_ n1_ n2_ n3_ n4_; clear ho hb hg hat; have hcz27_0 := cZ BK157 0 (.int .i64 a0_0); have hcz27_1 := cZ BK157 1 (.int .i64 a0_1); have hfz27_0 := blk_frozen BK157.out 0; have hfz27_1 := blk_frozen BK157.out 1; obtain ⟨Ao28, co28, eo28⟩ := Kd.R_slice HO169.out; subst eo28; have p170 : 0 ≤ ((ji23) : Int) := oD; have q170 : (ji23) < (t159.length : Int) := oD; obtain ⟨ad170, e170, hx170_0⟩ := Kd.at_int (Kd.R_reads' HO_5.out).2.2 (ji23) p170 q170; obtain rfl : ad162 = ad170 := (by injection e170); replace p170 := eq_true p170; replace q170 := eq_true q170))
     repeat (go_quiet (first | ((with_reducible refine gate_builtin (b := .append) (xs := #[.tmp 28, .tmp 30]) rfl ?_); at_builtin; refine Kd.R_append (Kd.int .i64) (w0 := w) w.heap.size rfl (.tmp 28) (.tmp 30) 74 3 (.int .i64 0) 8 rfl Tryz.underlying74 info3 rfl (by decide) (by omega) u7 x7_1 (rd t159 x16_1) [.int .i64 (rd t159 x16_1)] (fun k_ => some k_ ≠ (.slice (some ad162) t159.length co9 : Value).ownBlock ∧ some k_ ≠ (.slice (some ad162) t159.length co9 : Value).ownBlock) (fun _ => False) rfl rfl ?aP (fun _ hk => hk.elim) ?aF ?aO ?aB ?aS ?aL ?_; (case aP => exact rfl); (case aB => exact bG); (case aF => exact (fun k_ hk => ⟨Kd.fresh' (Kd.R_lt (kR HO_5)) k_ hk, Kd.fresh' (Kd.R_lt (kR HO_14)) k_ hk⟩)); (case aO => exact (kR HO_7)); (case aS => exact (below_size bG)); (case aL => have := LMc22.out; omega); intro v168 w26 ho hb hg hat; rw [← Ny167.out] at ho; have n0_ := Aside0.mk (Kd.R_after (ok := (fun _ => True)) (by (with_reducible repeat (first | apply Kd.R_alloc | apply Kd.R_drewN | apply Kd.R_drew)); exact Kd.R_mono HO_5.out (fun _ hk => ⟨trivial, hk⟩)) hg hat); have n1_ := Aside0.mk (Kd.R_after (ok := (fun _ => True)) (by (with_reducible repeat (first | apply Kd.R_alloc | apply Kd.R_drewN | apply Kd.R_drew)); exact Kd.R_mono HO_14.out (fun _ hk => ⟨trivial, hk⟩)) hg hat); have n2_ := Aside0.mk (blk_grown (g := gb157) (o := .cells #[.int .i64 a0_0, .int .i64 a0_1] 25 (0, 0)) bK hg (Kd.R_ne HO_7.out BK157.out (by decide))); have n3_ := Aside0.mk (hb); have n4_ := Aside0.mk (ho); clear HO_5; clear HO_14; clear BK157; clear HB; clear HO_7; have HO_5 := n0_; have HO_14 := n1_; have BK157 := n2_; have HB := n3_; have HO169 := n4_; clear n0_ n1_ n2_ n3_ n4_; clear ho hb hg hat; have hcz27_0 := cZ BK157 0 (.int .i64 a0_0); have hcz27_1 := cZ BK157 1 (.int .i64 a0_1); have hfz27_0 := blk_frozen BK157.out 0; have hfz27_1 := blk_frozen BK157.out 1; obtain ⟨Ao28, co28, eo28⟩ := Kd.R_slice HO169.out; subst eo28; have p170 : 0 ≤ ((ji23) : Int) := oD; have q170 : (ji23) < (t159.length : Int) := oD; obtain ⟨ad170, e170, hx170_0⟩ := Kd.at_int (Kd.R_reads' HO_5.out).2.2 (ji23) p170 q170; obtain rfl : ad162 = ad170 := (by injection e170); replace p170 := eq_true p170; replace q170 := eq_true q170)); try go_wp2_with (first | ((with_reducible refine gate_builtin (b := .append) (xs := #[.tmp 28, .tmp 30]) rfl ?_); at_builtin; refine Kd.R_append (Kd.int .i64) (w0 := w) w.heap.size rfl (.tmp 28) (.tmp 30) 74 3 (.int .i64 0) 8 rfl Tryz.underlying74 info3 rfl (by decide) (by omega) u7 x7_1 (rd t159 x16_1) [.int .i64 (rd t159 x16_1)] (fun k_ => some k_ ≠ (.slice (some ad162) t159.length co9 : Value).ownBlock ∧ some k_ ≠ (.slice (some ad162) t159.length co9 : Value).ownBlock) (fun _ => False) rfl rfl ?aP (fun _ hk => hk.elim) ?aF ?aO ?aB ?aS ?aL ?_; (case aP => exact rfl); (case aB => exact bG); (case aF => exact (fun k_ hk => ⟨Kd.fresh' (Kd.R_lt (kR HO_5)) k_ hk, Kd.fresh' (Kd.R_lt (kR HO_14)) k_ hk⟩)); (case aO => exact (kR HO_7)); (case aS => exact (below_size bG)); (case aL => have := LMc22.out; omega); intro v168 w26 ho hb hg hat; rw [← Ny167.out] at ho; have n0_ := Aside0.mk (Kd.R_after (ok := (fun _ => True)) (by (with_reducible repeat (first | apply Kd.R_alloc | apply Kd.R_drewN | apply Kd.R_drew)); exact Kd.R_mono HO_5.out (fun _ hk => ⟨trivial, hk⟩)) hg hat); have n1_ := Aside0.mk (Kd.R_after (ok := (fun _ => True)) (by (with_reducible repeat (first | apply Kd.R_alloc | apply Kd.R_drewN | apply Kd.R_drew)); exact Kd.R_mono HO_14.out (fun _ hk => ⟨trivial, hk⟩)) hg hat); have n2_ := Aside0.mk (blk_grown (g := gb157) (o := .cells #[.int .i64 a0_0, .int .i64 a0_1] 25 (0, 0)) bK hg (Kd.R_ne HO_7.out BK157.out (by decide))); have n3_ := Aside0.mk (hb); have n4_ := Aside0.mk (ho); clear HO_5; clear HO_14; clear BK157; clear HB; clear HO_7; have HO_5 := n0_; have HO_14 := n1_; have BK157 := n2_; have HB := n3_; have HO169 := n4_; clear n0_ n1_ n2_ n3_ n4_; clear ho hb hg hat; have hcz27_0 := cZ BK157 0 (.int .i64 a0_0); have hcz27_1 := cZ BK157 1 (.int .i64 a0_1); have hfz27_0 := blk_frozen BK157.out 0; have hfz27_1 := blk_frozen BK157.out 1; obtain ⟨Ao28, co28, eo28⟩ := Kd.R_slice HO169.out; subst eo28; have p170 : 0 ≤ ((ji23) : Int) := oD; have q170 : (ji23) < (t159.length : Int) := oD; obtain ⟨ad170, e170, hx170_0⟩ := Kd.at_int (Kd.R_reads' HO_5.out).2.2 (ji23) p170 q170; obtain rfl : ad162 = ad170 := (by injection e170); replace p170 := eq_true p170; replace q170 := eq_true q170)))
     go_roundg k1
     case measure => have := HK1.out; omega
     case rel => exact ⟨(wrap64 ((wrap64 (x6_1 * a0_1)) + (rd t159 (ji23)))), (y167), (wrap64 (x16_1 + 1)), (by first | rfl | (simp; done) | (simp only [← hji23] <;> (first | rfl | simp)) | (simp [*]; done)), fR, H', ⟨by have := HK1.out; omega⟩, ⟨by (with_reducible repeat (first | apply Kd.R_alloc | apply Kd.R_drewN | apply Kd.R_drew)); exact Kd.R_mono HO_5.out (fun _ hk => hk.2)⟩, ⟨kR HO169⟩, ⟨by (with_reducible repeat (first | apply Kd.R_alloc | apply Kd.R_drewN | apply Kd.R_drew)); exact Kd.R_mono HO_14.out (fun _ hk => hk.2)⟩, ⟨bK⟩, ⟨bG⟩⟩
   ·rw [if_neg c10] at H
    have c10b0 : decide (x16_1 < (t159.length : Int)) = false := decide_eq_false c10
    clear c10
    replace H := Option.bind_eq_some_iff.mp H
    obtain ⟨t171, A290, H⟩ := H
    (try dsimp only at H)
    have A29 := Aside0.mk A290
    clear A290
    obtain rfl := Option.some.inj H
    obtain ⟨Ao30, co30, eo30⟩ := Kd.R_slice HO_7.out
    subst eo30
    go_wp2_with (first | (go_at_call 58; (with_reducible refine (spec_whText.calls k1 _ _ x7_1 t171 _ ?side1 ?side2 A29.out).mono ?_); (case side1 => exact cS ((Kd.R_reads' HO_7.out).2.2)); (case side2 => exact (Kd.R_reads' HO_7.out).2.1); rintro e w31 ⟨rfl, hb⟩; replace HO_5 := Aside0.mk (Kd.R_below (kR HO_5) hb); replace HO_7 := Aside0.mk (Kd.R_below (kR HO_7) hb); replace HO_14 := Aside0.mk (Kd.R_below (kR HO_14) hb); replace BK157 := bW BK157 hb; replace HB := Aside0.mk (below_step bG hb); (try clear hb)))
    repeat (go_quiet (first | (go_at_call 58; (with_reducible refine (spec_whText.calls k1 _ _ x7_1 t171 _ ?side1 ?side2 A29.out).mono ?_); (case side1 => exact cS ((Kd.R_reads' HO_7.out).2.2)); (case side2 => exact (Kd.R_reads' HO_7.out).2.1); rintro e w31 ⟨rfl, hb⟩; replace HO_5 := Aside0.mk (Kd.R_below (kR HO_5) hb); replace HO_7 := Aside0.mk (Kd.R_below (kR HO_7) hb); replace HO_14 := Aside0.mk (Kd.R_below (kR HO_14) hb); replace BK157 := bW BK157 hb; replace HB := Aside0.mk (below_step bG hb); (try clear hb))); try go_wp2_with (first | (go_at_call 58; (with_reducible refine (spec_whText.calls k1 _ _ x7_1 t171 _ ?side1 ?side2 A29.out).mono ?_); (case side1 => exact cS ((Kd.R_reads' HO_7.out).2.2)); (case side2 => exact (Kd.R_reads' HO_7.out).2.1); rintro e w31 ⟨rfl, hb⟩; replace HO_5 := Aside0.mk (Kd.R_below (kR HO_5) hb); replace HO_7 := Aside0.mk (Kd.R_below (kR HO_7) hb); replace HO_14 := Aside0.mk (Kd.R_below (kR HO_14) hb); replace BK157 := bW BK157 hb; replace HB := Aside0.mk (below_step bG hb); (try clear hb))))
    go_ret
    exact ⟨rE, bG⟩

/-! ### spec_l1Mod: function 59 -/
def spec_l1Mod.f (a0 : Int) (a1 : Int) : Option (Int) := if a1 = 0 then (none) else (some (Int.tmod (wrap64 ((Int.tmod a0 a1) + a1)) a1))
theorem spec_l1Mod.calls (a0 : Int) (a1 : Int) (r : Int) (w : World) (h : spec_l1Mod.f a0 a1 = some r) :
  Calls Tryz.prog 59 #[.int .i64 a0, .int .i64 a1] w fun e w' => e = .returned (.int .i64 r) ∧ Drawn0 w w' := by
 have H := h
 unfold spec_l1Mod.f at H
 clear h
 replace H := nz' H; obtain ⟨c3, H⟩ := H
 have c3b0 : (a1 == 0) = false := beq_eq_false_iff_ne.mpr c3
 have c3b1 : (a1 != 0) = true := bne_iff_ne.mpr c3
 obtain rfl := Option.some.inj H
 go_enter Tryz.func59, Tryz.ntmps59
 go_wp2
 go_ret
 exact ⟨fR, by repeat (first | exact Drawn0.refl _ | apply Drawn0.step)⟩

end Go.Proofs.YthpmpkmdjpaemaaGreat.P
