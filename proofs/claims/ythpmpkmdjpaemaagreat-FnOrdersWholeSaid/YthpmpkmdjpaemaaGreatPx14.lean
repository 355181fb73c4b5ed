-- Printed by hp.py, a program of this session: a machine's side of laws, out of the translation; Lean checks it.
import Derived.Test.YthpmpkmdjpaemaaGreatPx0
import Derived.Test.YthpmpkmdjpaemaaGreatPx13
namespace Go.Proofs.YthpmpkmdjpaemaaGreat.P
open Go.RowKit Go.Proofs.YthpmpkmdjpaemaaGreatW.PrintWords Go.Proofs.YthpmpkmdjpaemaaGreatW.PrintLast Go.Proofs.YthpmpkmdjpaemaaGreatW.PrintMore
attribute [local go_sem] max2_int min2_int max_two min_two max_three min_three max_four min_four   -- for this text's walks alone
set_option linter.unusedVariables false
set_option linter.unusedSimpArgs false

/-! ### slices_insertionSortOrdered_string: function 94 -/
mutual
def slices_insertionSortOrdered_string.l0 : Nat → List ByteArray → Int → Int → Int → Option (List ByteArray)
 | 0, _, _, _, _ => none
 | k + 1, x0, x1, x2, x6 => if x6 < x2 then (slices_insertionSortOrdered_string.l1 k x0 x1 x2 x6 x6) else (some x0)
def slices_insertionSortOrdered_string.l1 : Nat → List ByteArray → Int → Int → Int → Int → Option (List ByteArray)
 | 0, _, _, _, _, _ => none
 | k + 1, x0, x1, x2, x6, x7 => if x7 > x1 then (if 0 ≤ x7 then (if x7 < (x0.length : Int) then (if 0 ≤ (wrap64 (x7 - 1)) then (if (wrap64 (x7 - 1)) < (x0.length : Int) then ((cmp_Less_string.f (rdOf ByteArray.empty x0 x7) (rdOf ByteArray.empty x0 (wrap64 (x7 - 1)))).bind fun t393 => (if t393 = true then (slices_insertionSortOrdered_string.l1 k ((x0.set (x7 : Int).toNat (rdOf ByteArray.empty x0 (wrap64 (x7 - 1)))).set ((wrap64 (x7 - 1)) : Int).toNat (rdOf ByteArray.empty x0 x7)) x1 x2 x6 (wrap64 (x7 - 1))) else (slices_insertionSortOrdered_string.l0 k x0 x1 x2 (wrap64 (x6 + 1))))) else (none)) else (none)) else (none)) else (none)) else (slices_insertionSortOrdered_string.l0 k x0 x1 x2 (wrap64 (x6 + 1)))
end
def slices_insertionSortOrdered_string.f (k : Nat) (l0 : List ByteArray) (a1 : Int) (a2 : Int) : Option (List ByteArray) := slices_insertionSortOrdered_string.l0 k l0 a1 a2 (wrap64 (a1 + 1))
theorem slices_insertionSortOrdered_string.mono_l : ∀ k, (∀ y0 y1 y2 y3, LeO (slices_insertionSortOrdered_string.l0 k y0 y1 y2 y3) (slices_insertionSortOrdered_string.l0 (k + 1) y0 y1 y2 y3)) ∧ (∀ y0 y1 y2 y3 y4, LeO (slices_insertionSortOrdered_string.l1 k y0 y1 y2 y3 y4) (slices_insertionSortOrdered_string.l1 (k + 1) y0 y1 y2 y3 y4))
 | 0 => ⟨fun _ _ _ _ r h => by simp [slices_insertionSortOrdered_string.l0] at h, fun _ _ _ _ _ r h => by simp [slices_insertionSortOrdered_string.l1] at h⟩
 | k + 1 => by
  obtain ⟨ih0, ih1⟩ := slices_insertionSortOrdered_string.mono_l k
  refine ⟨?_, ?_⟩
  intro y0 y1 y2 y3; unfold slices_insertionSortOrdered_string.l0; rotate_left
  intro y0 y1 y2 y3 y4; unfold slices_insertionSortOrdered_string.l1; rotate_left
  all_goals repeat' first
  | (with_reducible first | exact ih0 _ _ _ _ | exact ih1 _ _ _ _ _ | exact LeO.refl _ | exact LeO.none _ | refine LeO.ite ?_ ?_ | refine LeO.bind ?_ (fun _ => ?_))
  | exact ih0 _ _ _ _
  | exact ih1 _ _ _ _ _
  | exact LeO.none _
  | refine LeO.ite ?_ ?_
  | refine LeO.bind ?_ (fun _ => ?_)
theorem slices_insertionSortOrdered_string.mono : ∀ a0 a1 a2 k, LeO (slices_insertionSortOrdered_string.f k a0 a1 a2) (slices_insertionSortOrdered_string.f (k + 1) a0 a1 a2) := by
 intro a0 a1 a2 k
 obtain ⟨ih0, ih1⟩ := slices_insertionSortOrdered_string.mono_l k
 unfold slices_insertionSortOrdered_string.f
 repeat' first
   | (with_reducible first | exact ih0 _ _ _ _ | exact ih1 _ _ _ _ _ | exact LeO.refl _ | exact LeO.none _ | refine LeO.ite ?_ ?_ | refine LeO.bind ?_ (fun _ => ?_))
   | exact ih0 _ _ _ _
   | exact ih1 _ _ _ _ _
   | exact LeO.none _
   | refine LeO.ite ?_ ?_
   | refine LeO.bind ?_ (fun _ => ?_)
def slices_insertionSortOrdered_string.T4 : Bool × List (List Nat × List Nat) := (true, [([], []), ([], []), ([0, 1], [0, 1]), ([2], [2]), ([3], [3]), ([3], [3]), ([4, 5, 3], [3, 4, 5]), ([6, 3], [3, 6]), ([3], [3]), ([3], [3]), ([9, 3], [3, 9]), ([8, 10, 3], [3, 8, 10]), ([11, 3], [3, 11]), ([7, 12, 3, 3], [3, 7, 12]), ([3, 13], [3, 13])])
def slices_insertionSortOrdered_string.B4 : List Nat := [0, 0, 3, 7, 15, 15, 63, 127, 15, 15, 527, 1807, 3855, 8191, 16383]
theorem slices_insertionSortOrdered_string.tab4 : rtab .any (opsOf Tryz.f94 4) = slices_insertionSortOrdered_string.T4 := by kernel_rfl
theorem slices_insertionSortOrdered_string.bits4 : waitsOk slices_insertionSortOrdered_string.T4.2 slices_insertionSortOrdered_string.B4 = true := by kernel_rfl
def slices_insertionSortOrdered_string.T6 : Bool × List (List Nat × List Nat) := (true, [([], []), ([], []), ([], []), ([], []), ([3], [3]), ([], []), ([], []), ([6], [6]), ([5, 7], [5, 7]), ([8], [8]), ([], []), ([], []), ([10, 11], [10, 11]), ([12], [12]), ([0, 1, 0, 1, 5, 6, 7, 8, 9, 13], [0, 1]), ([14, 9, 0, 1, 5, 6, 7, 8, 9, 13], [9, 14]), ([2, 4, 0, 1, 2, 3, 4, 5, 6, 7, 8, 9, 10, 11, 12, 13, 14, 15], [2, 4]), ([16, 13, 15, 0, 1, 2, 3, 4, 5, 6, 7, 8, 9, 10, 11, 12, 13, 14, 15], [13, 16])])
def slices_insertionSortOrdered_string.B6 : List Nat := [0, 0, 0, 0, 8, 0, 0, 64, 224, 480, 0, 0, 3072, 7168, 16355, 32739, 65535, 131071]
theorem slices_insertionSortOrdered_string.tab6 : rtab .any (opsOf Tryz.f94 6) = slices_insertionSortOrdered_string.T6 := by kernel_rfl
theorem slices_insertionSortOrdered_string.bits6 : waitsOk slices_insertionSortOrdered_string.T6.2 slices_insertionSortOrdered_string.B6 = true := by kernel_rfl
set_option maxHeartbeats 8000000 in
set_option maxRecDepth 100000 in
theorem slices_insertionSortOrdered_string.calls (k : Nat) (P0_ : Nat → Prop) (u9000_ : Value) (l0 : List ByteArray) (a1 : Int) (a2 : Int) (r : List ByteArray) (w0 w : World) (hB : Below w0.heap.size w0 w) (ho0 : Kd.R Kd.string 9 w w0.heap.size P0_ u9000_ l0) (h : slices_insertionSortOrdered_string.f k l0 a1 a2 = some r) :
  Calls Tryz.prog 94 #[u9000_, .int .i64 a1, .int .i64 a2] w fun e w' => e = .returned (.tuple #[]) ∧ Kd.R Kd.string 9 w' w0.heap.size (fun k_ => (P0_ k_ ∨ w.heap.size ≤ k_)) u9000_ r ∧ Below w0.heap.size w0 w' ∧ Kept w w' (fun k_ => P0_ k_) := by
 have HO0 := Aside0.mk (show Kd.R Kd.string 9 w w0.heap.size (fun k_ => (P0_ k_ ∨ w.heap.size ≤ k_)) u9000_ l0 from Kd.R_mono ho0 (fun k_ hk => (.inl hk)))
 have HK := Aside0.mk (Kept.refl w (fun k_ => P0_ k_))
 have HW0 := Aside0.mk hB.size
 have HB := Aside0.mk hB
 clear hB
 have H := h
 unfold slices_insertionSortOrdered_string.f at H
 clear h
 have H' := Aside0.mk H
 clear H
 go_enter Tryz.func94, Tryz.ntmps94
 go_wp2
 go_loopg [6] k (fun kq v6 w' => ∃ (x0_1 : List ByteArray) (x6_1 : Int), v6 = .int .i64 x6_1 ∧ Aside0 (slices_insertionSortOrdered_string.l0 kq x0_1 a1 a2 x6_1 = some r) ∧ Aside0 (kq ≤ k) ∧ Aside0 (Kd.R Kd.string 9 w' w0.heap.size (fun k_ => (P0_ k_ ∨ w.heap.size ≤ k_)) u9000_ x0_1) ∧ Aside0 (Kept w w' (fun k_ => P0_ k_)) ∧ Aside0 (Below w0.heap.size w0 w'))
 case atStart => exact ⟨(l0), (wrap64 (a1 + 1)), fR, H', ⟨Nat.le_refl _⟩, ⟨kR HO0⟩, ⟨by repeat (first | (with_reducible first | exact HK.out | apply Kept.alloc | apply Kept.drewN | apply Kept.drew) | exact HK.out)⟩, ⟨bB⟩⟩
 case round =>
  clear H'
  try clear p2
  obtain ⟨x0_1, x6_1, rfl, HA, HK1, HO_0, HK, HB⟩ := hrel
  cases gk with
  | zero => exact absurd HA.out (by simp [slices_insertionSortOrdered_string.l0])
  | succ k1 =>
   have H := HA.out
   clear HA
   simp only [slices_insertionSortOrdered_string.l0] at H
   by_cases c4 : x6_1 < a2
   ·rw [if_pos c4] at H
    have c4b0 : decide (x6_1 < a2) = true := decide_eq_true c4
    clear c4
    have H' := Aside0.mk H
    clear H
    go_wp2
    go_loopg [7] k1 (fun kq v7 w' => ∃ (x0_2 : List ByteArray) (x7_2 : Int), v7 = .int .i64 x7_2 ∧ Aside0 (slices_insertionSortOrdered_string.l1 kq x0_2 a1 a2 x6_1 x7_2 = some r) ∧ Aside0 (kq ≤ k1) ∧ Aside0 (Kd.R Kd.string 9 w' w0.heap.size (fun k_ => (P0_ k_ ∨ w.heap.size ≤ k_)) u9000_ x0_2) ∧ Aside0 (Kept w w' (fun k_ => P0_ k_)) ∧ Aside0 (Below w0.heap.size w0 w'))
    case atStart => exact ⟨(x0_1), (x6_1), fR, H', ⟨Nat.le_refl _⟩, ⟨kR HO_0⟩, ⟨by repeat (first | (with_reducible first | exact HK.out | apply Kept.alloc | apply Kept.drewN | apply Kept.drew) | exact HK.out)⟩, ⟨bB⟩⟩
    case round =>
     clear H'
     try clear p2
     try clear c4
     try clear c4b0
     try clear p2
     obtain ⟨x0_2, x7_2, rfl, HA, HK2, HO_0, HK, HB⟩ := hrel
     cases gk with
     | zero => exact absurd HA.out (by simp [slices_insertionSortOrdered_string.l1])
     | succ k2 =>
      have H := HA.out
      clear HA
      simp only [slices_insertionSortOrdered_string.l1] at H
      by_cases c5 : x7_2 > a1
      ·rw [if_pos c5] at H
       have c5b0 : decide (a1 < x7_2) = true := decide_eq_true c5
       clear c5
       replace H := nz H; obtain ⟨c6, H⟩ := H
       have c6b0 : decide (0 ≤ x7_2) = true := decide_eq_true c6
       clear c6
       replace H := nz H; obtain ⟨c7, H⟩ := H
       have c7b0 : decide (x7_2 < (x0_2.length : Int)) = true := decide_eq_true c7
       clear c7
       obtain ⟨ji8, hji8⟩ : ∃ j_ : Int, (wrap64 (x7_2 - 1)) = j_ := ⟨_, rfl⟩
       replace H : (if 0 ≤ (ji8) then (if (ji8) < (x0_2.length : Int) then ((cmp_Less_string.f (rdOf ByteArray.empty x0_2 x7_2) (rdOf ByteArray.empty x0_2 (ji8))).bind fun t393 => (if t393 = true then (slices_insertionSortOrdered_string.l1 k2 ((x0_2.set (x7_2 : Int).toNat (rdOf ByteArray.empty x0_2 (ji8))).set ((ji8) : Int).toNat (rdOf ByteArray.empty x0_2 x7_2)) a1 a2 x6_1 ji8) else (slices_insertionSortOrdered_string.l0 k2 x0_2 a1 a2 (wrap64 (x6_1 + 1))))) else (none)) else (none)) = some r := by first | (rw [hji8] at H; exact H) | (simp only [hji8] at H ⊢; exact H)
       have hji8w : (IntKind.i64.wrap (x7_2 - 1)) = ji8 := (i64_w _).trans hji8
       replace H := nz H; obtain ⟨c9, H⟩ := H
       have c9b0 : decide (0 ≤ (ji8)) = true := decide_eq_true c9
       clear c9
       replace H := nz H; obtain ⟨c10, H⟩ := H
       have c10b0 : decide ((ji8) < (x0_2.length : Int)) = true := decide_eq_true c10
       clear c10
       replace H := Option.bind_eq_some_iff.mp H
       obtain ⟨t393, A110, H⟩ := H
       (try dsimp only at H)
       have A11 := Aside0.mk A110
       clear A110
       by_cases c12 : t393 = true
       ·subst c12
        replace H := zt H
        obtain ⟨y396, hy396⟩ : ∃ y_ : List ByteArray, y_ = (x0_2.set (x7_2 : Int).toNat (rdOf ByteArray.empty x0_2 (ji8))) := ⟨_, rfl⟩
        replace H : (slices_insertionSortOrdered_string.l1 k2 (y396.set ((ji8) : Int).toNat (rdOf ByteArray.empty x0_2 x7_2)) a1 a2 x6_1 ji8) = some r := hZ hy396 H
        have Ny396 := Aside0.mk hy396
        clear hy396
        obtain ⟨y397, hy397⟩ : ∃ y_ : List ByteArray, y_ = (y396.set ((ji8) : Int).toNat (rdOf ByteArray.empty x0_2 x7_2)) := ⟨_, rfl⟩
        replace H : (slices_insertionSortOrdered_string.l1 k2 y397 a1 a2 x6_1 ji8) = some r := hZ hy397 H
        have Ny397 := Aside0.mk hy397
        clear hy397
        have H' := Aside0.mk H
        clear H
        try go_wp2
        have n0_ := Aside0.mk (Kd.R_drew HO_0.out)
        have n1_ := Aside0.mk (Kept.drew HK.out)
        have n2_ := Aside0.mk (below_drew1 HB.out)
        clear HO_0
        clear HK
        clear HB
        have HO_0 := n0_
        have HK := n1_
        have HB := n2_
        clear n0_ n1_ n2_
        obtain ⟨Ao16, co16, eo16⟩ := Kd.R_slice HO_0.out
        (first | subst eo16 | (injection eo16 with f1_ f2_ f3_; have f4_ := f1_.symm; have f5_ := f3_.symm; clear f1_ f2_ f3_; subst f4_; subst f5_))
        have p391 : 0 ≤ (x7_2 : Int) := oD
        have q391 : x7_2 < (x0_2.length : Int) := oD
        obtain ⟨ad391, e391, hx391_0⟩ := Kd.at_string (Kd.R_reads' HO_0.out).2.2 x7_2 p391 q391
        cases e391
        replace p391 := eq_true p391
        replace q391 := eq_true q391
        have p392 : 0 ≤ ((ji8) : Int) := oD
        have q392 : (ji8) < (x0_2.length : Int) := oD
        obtain ⟨ad392, e392, hx392_0⟩ := Kd.at_string (Kd.R_reads' HO_0.out).2.2 (ji8) p392 q392
        obtain rfl : ad391 = ad392 := (by injection e392)
        replace p392 := eq_true p392
        replace q392 := eq_true q392
        refine start_ (n := 15) (S := fun w' => w'.cell? (ad391.add (x7_2).toNat) = some (.string (rdOf ByteArray.empty x0_2 x7_2)) ∧ w'.cell? (ad391.add ((ji8)).toNat) = some (.string (rdOf ByteArray.empty x0_2 (ji8)))) (ds := []) #[false, false, false, false, false, false, false, false, false, false, false, false, false, false, false] (by kernel_rfl) rfl rfl ⟨hx391_0, hx392_0⟩ (fun hHeld => ?_); refine with_tabW slices_insertionSortOrdered_string.tab4 slices_insertionSortOrdered_string.bits4 (fun HT_ HW_ => ?_)
        generalize wr.drew = w15 at HO_0 HK HB hx391_0 hx392_0 hHeld ⊢
        refine pU (i := 0) (N := some 16) ?_
        refine pU (i := 1) (N := some 17) ?_
        refine pU (i := 2) (N := some 18) ?_
        refine pU (i := 3) (N := some 19) ?_
        refine pU (i := 4) (N := some 20) ?_
        refine pU (i := 5) (N := some 21) ?_
        refine pU (i := 6) (N := some 22) ?_
        refine pU (i := 8) (N := some 24) ?_
        refine pU (i := 9) (N := some 25) ?_
        refine pU (i := 10) (N := some 26) ?_
        refine pU (i := 11) (N := some 27) ?_
        refine tU2 (i := 7) (N := some 23) ?_
        refine tU2 (i := 12) (N := some 28) ?_
        refine oU (i := 13) (N := some 29) (fun K hK => ?_)
        refine goes_ Tryz.func100 (by kernel_rfl) rfl #[.string (rdOf ByteArray.empty x0_2 x7_2), .string (rdOf ByteArray.empty x0_2 (ji8))] (by rfl) rfl rfl (by (try simp only [List.map_toArray, List.map_cons, List.map_nil]); first | done | (simp only [hji8]; rfl) | rfl | (simp only [List.length_drop, List.length_take]; rfl)) ?_
        with_reducible refine (cmp_Less_string.calls (rdOf ByteArray.empty x0_2 x7_2) (rdOf ByteArray.empty x0_2 (ji8)) true _ A11.out).mono ?_
        rintro e w' ⟨rfl, ⟨nd, rfl⟩⟩
        refine ⟨_, rfl, ?_⟩
        refine hK.out _ _ ⟨hHeld.1, hHeld.2⟩ (fun hHeld => ?_)
        clear hK K
        refine nU (some 29) ?_
        refine pU (i := 14) (N := some 30) ?_
        refine done_ (done_of HT_.out (by kernel_rfl)) ?_
        try go_wp2
        (try (rw [drewN_self w15]; generalize hq_ : World.drewN w15 _ = w15; have n0_ : Aside0 (Kd.R Kd.string 9 w15 w0.heap.size (fun k_ => (P0_ k_ ∨ w.heap.size ≤ k_)) (.slice (some ad391) x0_2.length co16) x0_2) := ⟨by rw [← hq_]; exact (kR HO_0)⟩; have n1_ : Aside0 (Kept w w15 (fun k_ => P0_ k_)) := ⟨by rw [← hq_]; exact (by repeat (first | (with_reducible first | exact HK.out | apply Kept.alloc | apply Kept.drewN | apply Kept.drew) | exact HK.out))⟩; have n2_ : Aside0 (Below w0.heap.size w0 w15) := ⟨by rw [← hq_]; exact bB⟩; clear HO_0 HK HB hq_; have HO_0 := n0_; have HK := n1_; have HB := n2_; clear n0_ n1_ n2_))
        have n0_ := Aside0.mk (Kd.R_drew HO_0.out)
        have n1_ := Aside0.mk (Kept.drew HK.out)
        have n2_ := Aside0.mk (below_drew1 HB.out)
        clear HO_0
        clear HK
        clear HB
        have HO_0 := n0_
        have HK := n1_
        have HB := n2_
        clear n0_ n1_ n2_
        have p394 : 0 ≤ ((ji8) : Int) := oD
        have q394 : (ji8) < (x0_2.length : Int) := oD
        obtain ⟨ad394, e394, hx394_0⟩ := Kd.at_string (Kd.R_reads' HO_0.out).2.2 (ji8) p394 q394
        obtain rfl : ad391 = ad394 := (by injection e394)
        replace p394 := eq_true p394
        replace q394 := eq_true q394
        have p395 : 0 ≤ (x7_2 : Int) := oD
        have q395 : x7_2 < (x0_2.length : Int) := oD
        obtain ⟨ad395, e395, hx395_0⟩ := Kd.at_string (Kd.R_reads' HO_0.out).2.2 x7_2 p395 q395
        obtain rfl : ad391 = ad395 := (by injection e395)
        replace p395 := eq_true p395
        replace q395 := eq_true q395
        have p13 : 0 ≤ (x7_2 : Int) := oD
        have q13 : (x7_2 : Int) < ((x0_2.length : Int) : Int) := oD
        obtain ⟨go13, co13, eo13, gb13, gl13, cl13, HG13⟩ := Kd.R_form HO_0.out (by omega)
        (first | cases eo13 | (injection eo13 with ea_ en_ ec_; (first | subst ea_ | (injection ea_ with ea_; subst ea_)); subst ec_; clear en_))
        have GB13 := Aside0.mk gb13
        have GG13 := Aside0.mk HG13
        clear gb13 gl13 HG13
        have HMgo13 := Aside0.mk (show (P0_ go13 ∨ w.heap.size ≤ go13) from (HO_0.out.1 _ rfl))
        (first | simp only [add_plain] at hx391_0 | skip)
        (first | simp only [add_plain] at hx392_0 | skip)
        (first | simp only [add_plain] at hx394_0 | skip)
        (first | simp only [add_plain] at hx395_0 | skip)
        obtain ⟨hx13_0, hf13_0⟩ := Kd.R_celln (⟨#[]⟩ : ByteArray) HO_0.out (x7_2 : Int) p13 q13
        replace p13 := eq_true p13
        replace q13 := eq_true q13
        have HP18 := Kd.R_putn HO_0.out (x7_2 : Int) (rdOf ByteArray.empty x0_2 (ji8))
        rw [← Ny396.out] at HP18
        have HQ18 := Aside0.mk HP18
        clear HP18
        have p14 : 0 ≤ ((ji8) : Int) := oD
        have q14 : ((ji8) : Int) < ((x0_2.length : Int) : Int) := oD
        obtain ⟨hx14_0, hf14_0⟩ := Kd.R_celln (⟨#[]⟩ : ByteArray) HQ18.out ((ji8) : Int) p14 q14
        replace p14 := eq_true p14
        replace q14 := eq_true q14
        have HP19 := Kd.R_putn HQ18.out ((ji8) : Int) (rdOf ByteArray.empty x0_2 x7_2)
        rw [← Ny397.out] at HP19
        have HQ19 := Aside0.mk HP19
        clear HP19
        refine start_ (n := 18) (S := fun w' => w'.cell? ⟨go13, ((ji8)).toNat, none⟩ = some (.string (rdOf ByteArray.empty x0_2 (ji8))) ∧ w'.cell? ⟨go13, (x7_2).toNat, none⟩ = some (.string (rdOf ByteArray.empty x0_2 x7_2))) (ds := [15, 17]) #[false, false, false, false, false, false, false, false, false, false, false, false, false, false, false, false, false, false] (by kernel_rfl) rfl rfl ⟨hx394_0, hx395_0⟩ (fun hHeld => ?_); refine with_tabW slices_insertionSortOrdered_string.tab6 slices_insertionSortOrdered_string.bits6 (fun HT_ HW_ => ?_)
        generalize w15.drew = w17 at HO_0 HK HB GG13 HQ18 HQ19 hf13_0 hf14_0 hx13_0 hx14_0 hx391_0 hx392_0 hx394_0 hx395_0 hHeld ⊢
        refine pU (i := 0) (N := some 33) ?_
        refine pU (i := 1) (N := some 34) ?_
        refine pU (i := 2) (N := some 35) ?_
        refine pU (i := 3) (N := some 36) ?_
        refine pU (i := 4) (N := some 37) ?_
        refine pU (i := 5) (N := some 38) ?_
        refine pU (i := 6) (N := some 39) ?_
        refine pU (i := 7) (N := some 40) ?_
        refine pU (i := 8) (N := some 41) ?_
        refine pU (i := 10) (N := some 43) ?_
        refine pU (i := 11) (N := some 44) ?_
        refine pU (i := 12) (N := some 45) ?_
        refine tU2 (i := 9) (N := some 42) ?_
        refine tU2 (i := 13) (N := some 46) ?_
        refine pU (i := 14) (N := some 47) ?_
        refine last_ (i := 15) (N := none) #[true, true, true, true, true, true, true, true, true, true, true, true, true, true, true, true, false, false] rfl rfl (one_of HT_.out (by kernel_rfl)) (by decide) (fun K hK => ?_)
        refine skip_ (w1 := ?_) (by rfl) rfl ?_ ?_
        rotate_left
        ·go_simp
         rfl
        refine hK.out _ _ ?_
        clear hK K
        refine pU (i := 16) (N := some 48) ?_
        refine last_ (i := 17) (N := none) #[true, true, true, true, true, true, true, true, true, true, true, true, true, true, true, true, true, true] rfl rfl (one_of HT_.out (by kernel_rfl)) (by decide) (fun K hK => ?_)
        refine skip_ (w1 := ?_) (by rfl) rfl ?_ ?_
        rotate_left
        ·go_simp
         rfl
        refine hK.out _ _ ?_
        clear hK K
        refine done_ (done_of HT_.out (by kernel_rfl)) ?_
        try go_wp2
        go_roundg k2
        case measure => have := HK1.out; have := HK2.out; omega
        case rel => exact ⟨(y397), (ji8), (by first | rfl | (simp; done) | (simp only [← hji8] <;> (first | rfl | simp)) | (simp [*]; done)), H', ⟨by have := HK1.out; have := HK2.out; omega⟩, ⟨kR HQ19⟩, ⟨by repeat (first | (with_reducible first | exact HK.out | apply Kept.alloc | apply Kept.drewN | apply Kept.drew | refine Kept.setCell ?_ HMgo13.out _ | refine Kept.setCell ?_ HMgo13.out _) | exact HK.out)⟩, ⟨by repeat (first | (with_reducible first | exact HB.out | apply below_alloc | apply pw_below_drewN | apply below_drew1 | refine below_set ?_ GB13.out | refine below_set ?_ GB13.out) | exact HB.out)⟩⟩
       ·replace c12 := Bool.eq_false_iff.mpr c12
        subst c12
        replace H := zf H
        have H' := Aside0.mk H
        clear H
        try go_wp2
        have n0_ := Aside0.mk (Kd.R_drew HO_0.out)
        have n1_ := Aside0.mk (Kept.drew HK.out)
        have n2_ := Aside0.mk (below_drew1 HB.out)
        clear HO_0
        clear HK
        clear HB
        have HO_0 := n0_
        have HK := n1_
        have HB := n2_
        clear n0_ n1_ n2_
        obtain ⟨Ao21, co21, eo21⟩ := Kd.R_slice HO_0.out
        (first | subst eo21 | (injection eo21 with f1_ f2_ f3_; have f4_ := f1_.symm; have f5_ := f3_.symm; clear f1_ f2_ f3_; subst f4_; subst f5_))
        have p391 : 0 ≤ (x7_2 : Int) := oD
        have q391 : x7_2 < (x0_2.length : Int) := oD
        obtain ⟨ad391, e391, hx391_0⟩ := Kd.at_string (Kd.R_reads' HO_0.out).2.2 x7_2 p391 q391
        cases e391
        replace p391 := eq_true p391
        replace q391 := eq_true q391
        have p392 : 0 ≤ ((ji8) : Int) := oD
        have q392 : (ji8) < (x0_2.length : Int) := oD
        obtain ⟨ad392, e392, hx392_0⟩ := Kd.at_string (Kd.R_reads' HO_0.out).2.2 (ji8) p392 q392
        obtain rfl : ad391 = ad392 := (by injection e392)
        replace p392 := eq_true p392
        replace q392 := eq_true q392
        refine start_ (n := 15) (S := fun w' => w'.cell? (ad391.add (x7_2).toNat) = some (.string (rdOf ByteArray.empty x0_2 x7_2)) ∧ w'.cell? (ad391.add ((ji8)).toNat) = some (.string (rdOf ByteArray.empty x0_2 (ji8)))) (ds := []) #[false, false, false, false, false, false, false, false, false, false, false, false, false, false, false] (by kernel_rfl) rfl rfl ⟨hx391_0, hx392_0⟩ (fun hHeld => ?_); refine with_tabW slices_insertionSortOrdered_string.tab4 slices_insertionSortOrdered_string.bits4 (fun HT_ HW_ => ?_)
        generalize wr.drew = w20 at HO_0 HK HB hx391_0 hx392_0 hHeld ⊢
        refine pU (i := 0) (N := some 16) ?_
        refine pU (i := 1) (N := some 17) ?_
        refine pU (i := 2) (N := some 18) ?_
        refine pU (i := 3) (N := some 19) ?_
        refine pU (i := 4) (N := some 20) ?_
        refine pU (i := 5) (N := some 21) ?_
        refine pU (i := 6) (N := some 22) ?_
        refine pU (i := 8) (N := some 24) ?_
        refine pU (i := 9) (N := some 25) ?_
        refine pU (i := 10) (N := some 26) ?_
        refine pU (i := 11) (N := some 27) ?_
        refine tU2 (i := 7) (N := some 23) ?_
        refine tU2 (i := 12) (N := some 28) ?_
        refine oU (i := 13) (N := some 29) (fun K hK => ?_)
        refine goes_ Tryz.func100 (by kernel_rfl) rfl #[.string (rdOf ByteArray.empty x0_2 x7_2), .string (rdOf ByteArray.empty x0_2 (ji8))] (by rfl) rfl rfl (by (try simp only [List.map_toArray, List.map_cons, List.map_nil]); first | done | (simp only [hji8]; rfl) | rfl | (simp only [List.length_drop, List.length_take]; rfl)) ?_
        with_reducible refine (cmp_Less_string.calls (rdOf ByteArray.empty x0_2 x7_2) (rdOf ByteArray.empty x0_2 (ji8)) false _ A11.out).mono ?_
        rintro e w' ⟨rfl, ⟨nd, rfl⟩⟩
        refine ⟨_, rfl, ?_⟩
        refine hK.out _ _ ⟨hHeld.1, hHeld.2⟩ (fun hHeld => ?_)
        clear hK K
        refine nU (some 29) ?_
        refine pU (i := 14) (N := some 30) ?_
        refine done_ (done_of HT_.out (by kernel_rfl)) ?_
        try go_wp2
        go_roundg k2
        case measure => have := HK1.out; have := HK2.out; omega
        case rel => exact ⟨(x0_2), (wrap64 (x6_1 + 1)), fR, H', ⟨by have := HK1.out; have := HK2.out; omega⟩, ⟨kR HO_0⟩, ⟨by repeat (first | (with_reducible first | exact HK.out | apply Kept.alloc | apply Kept.drewN | apply Kept.drew) | exact HK.out)⟩, ⟨bB⟩⟩
      ·rw [if_neg c5] at H
       have c5b0 : decide (a1 < x7_2) = false := decide_eq_false c5
       clear c5
       have H' := Aside0.mk H
       clear H
       try go_wp2
       have n0_ := Aside0.mk (Kd.R_drew HO_0.out)
       have n1_ := Aside0.mk (Kept.drew HK.out)
       have n2_ := Aside0.mk (below_drew1 HB.out)
       clear HO_0
       clear HK
       clear HB
       have HO_0 := n0_
       have HK := n1_
       have HB := n2_
       clear n0_ n1_ n2_
       refine start_ (n := 15) (S := fun w' => True) (ds := []) #[false, false, false, false, false, false, false, false, false, false, false, false, false, false, false] (by kernel_rfl) rfl rfl trivial (fun hHeld => ?_); refine with_tabW slices_insertionSortOrdered_string.tab4 slices_insertionSortOrdered_string.bits4 (fun HT_ HW_ => ?_)
       generalize wr.drew = w22 at HO_0 HK HB hHeld ⊢
       refine pU (i := 0) (N := some 16) ?_
       refine pU (i := 1) (N := some 17) ?_
       refine pU (i := 2) (N := some 18) ?_
       refine pU (i := 3) (N := some 19) ?_
       refine pV (i := 4) (N := some 20) (v := undef) ?_
       refine pV (i := 5) (N := some 21) (v := undef) ?_
       refine pV (i := 6) (N := some 22) (v := undef) ?_
       refine pV (i := 7) (N := some 23) (v := undef) ?_
       refine pV (i := 8) (N := some 24) (v := undef) ?_
       refine pV (i := 9) (N := some 25) (v := undef) ?_
       refine pV (i := 10) (N := some 26) (v := undef) ?_
       refine pV (i := 11) (N := some 27) (v := undef) ?_
       refine pV (i := 12) (N := some 28) (v := undef) ?_
       refine pV (i := 13) (N := some 29) (v := undef) ?_
       refine pU (i := 14) (N := some 30) ?_
       refine done_ (done_of HT_.out (by kernel_rfl)) ?_
       try go_wp2
       go_roundg k2
       case measure => have := HK1.out; have := HK2.out; omega
       case rel => exact ⟨(x0_2), (wrap64 (x6_1 + 1)), fR, H', ⟨by have := HK1.out; have := HK2.out; omega⟩, ⟨kR HO_0⟩, ⟨by repeat (first | (with_reducible first | exact HK.out | apply Kept.alloc | apply Kept.drewN | apply Kept.drew) | exact HK.out)⟩, ⟨bB⟩⟩
   ·rw [if_neg c4] at H
    have c4b0 : decide (x6_1 < a2) = false := decide_eq_false c4
    clear c4
    obtain rfl := Option.some.inj H
    go_wp2
    first | go_end0 | ((try simp only [Exit.inBlock, Exit.then]); refine bodyPost_ret (results_none rfl _ _ _) rfl ?_)
    exact ⟨rE, kR HO_0, bB, by repeat (first | (with_reducible first | exact HK.out | apply Kept.alloc | apply Kept.drewN | apply Kept.drew) | exact HK.out)⟩

/-! ### slices_pdqsortOrdered_string: function 92 -/
set_option maxHeartbeats 4000000 in
set_option maxRecDepth 100000 in
theorem pdqS_calls (k : Nat) (P0_ : Nat → Prop) (A : Option Addr) (m c : Nat) (l0 r : List ByteArray) (lim : Int) (w0 w : World) (hB : Below w0.heap.size w0 w) (ho0 : Kd.R Kd.string 9 w w0.heap.size P0_ (.slice A m c) l0) (hm : m ≤ 12) (h : slices_insertionSortOrdered_string.f k l0 0 m = some r) :
  Calls Tryz.prog 92 #[.slice A m c, .int .i64 0, .int .i64 (m : Int), .int .i64 lim] w fun e w' => e = .returned (.tuple #[]) ∧ Kd.R Kd.string 9 w' w0.heap.size (fun k_ => (P0_ k_ ∨ w.heap.size ≤ k_)) (.slice A m c) r ∧ Below w0.heap.size w0 w' ∧ Kept w w' (fun k_ => P0_ k_) := by
 have hcall := slices_insertionSortOrdered_string.calls k P0_ (.slice A m c) l0 0 m r w0 w hB ho0 h
 have hn : (m : Int) ≤ 12 := by omega
 have hz : decide ((m : Int) ≤ 12) = true := decide_eq_true hn
 have hw : IntKind.i64.wrap ((m : Int) - 0) = (m : Int) := by simp [IntKind.wrap, IntKind.bits, IntKind.signed]; omega
 have hw2 : IntKind.i64.wrap (m : Int) = (m : Int) := by simp [IntKind.wrap, IntKind.bits, IntKind.signed]; omega
 clear hB ho0 h
 go_enter Tryz.func92, Tryz.ntmps92
 go_wp2
 refine wp_loop_rounds 1 ?_
 rw [rounds_succ]
 go_wp2_with (go_at_call 94; refine hcall.mono ?_; rintro e w' ⟨rfl, h1, h2, h3⟩)
 refine bodyPost_ret (results_none rfl _ _ _) rfl ?_
 exact ⟨rfl, h1, h2, h3⟩


/-! ### slices_Sort_string_string: function 90 -/
def lenL_ren : Go.Shelf.Ren := ⟨fun | 125 => 93 | 128 => 103 | 129 => 104 | n => n, fun | 3 => 3 | 4 => 4 | 5 => 5 | 9 => 9 | 46 => 95 | 51 => 111 | 53 => 45 | n => n, fun n => n⟩
theorem lenL : Go.Proofs.Lays.n125 Tryz.prog lenL_ren := {
 mixed := by kernel_rfl,
 f125 := Tryz.func93.trans (congrArg some (by kernel_rfl)),
 f128 := Tryz.func103.trans (congrArg some (by kernel_rfl)),
 f129 := Tryz.func104.trans (congrArg some (by kernel_rfl)),
 t3 := Tryz.underlying3,
 a3 := Tryz.isAgg3,
 z3 := Tryz.sizeOf3,
 v3 := Tryz.zeroValue3,
 t4 := Tryz.underlying4,
 a4 := Tryz.isAgg4,
 z4 := Tryz.sizeOf4,
 v4 := Tryz.zeroValue4,
 t5 := Tryz.underlying5,
 a5 := Tryz.isAgg5,
 z5 := Tryz.sizeOf5,
 v5 := Tryz.zeroValue5,
 t9 := Tryz.underlying9,
 a9 := Tryz.isAgg9,
 z9 := Tryz.sizeOf9,
 v9 := Tryz.zeroValue9,
 t46 := Tryz.underlying95,
 a46 := Tryz.isAgg95,
 z46 := Tryz.sizeOf95,
 v46 := Tryz.zeroValue95,
 t51 := Tryz.underlying111,
 a51 := Tryz.isAgg111,
 z51 := Tryz.sizeOf111,
 v51 := Tryz.zeroValue111,
 t53 := Tryz.underlying45,
 a53 := Tryz.isAgg45,
 z53 := Tryz.sizeOf45,
 v53 := Tryz.zeroValue45 }
set_option maxHeartbeats 4000000 in
set_option maxRecDepth 100000 in
theorem sortS_calls (k : Nat) (P0_ : Nat → Prop) (A : Option Addr) (m c : Nat) (l0 r : List ByteArray) (w0 w : World) (hB : Below w0.heap.size w0 w) (ho0 : Kd.R Kd.string 9 w w0.heap.size P0_ (.slice A m c) l0) (hm : m ≤ 12) (h : slices_insertionSortOrdered_string.f k l0 0 m = some r) :
  Calls Tryz.prog 90 #[.slice A m c] w fun e w' => e = .returned (.tuple #[]) ∧ Kd.R Kd.string 9 w' w0.heap.size (fun k_ => (P0_ k_ ∨ w.heap.size ≤ k_)) (.slice A m c) r ∧ Below w0.heap.size w0 w' ∧ Kept w w' (fun k_ => P0_ k_) := by
 have hwr : IntKind.u64.wrap (m : Int) = (m : Int) := by simp [IntKind.wrap, IntKind.bits, IntKind.signed]; omega
 obtain ⟨q, hlen⟩ : ∃ q : Int, ∀ W, Calls Tryz.prog 93 #[.int .u64 (m : Int)] W fun e w' => e = .returned (.int .i64 q) ∧ w' = W := ⟨_, fun W => Any.bits_Len lenL (m : Int) W (by omega) (by omega)⟩
 have hcall := pdqS_calls k P0_ A m c l0 r q w0 w hB ho0 hm h
 clear hB ho0 h
 go_enter Tryz.func90, Tryz.ntmps90
 go_wp2_with (first | (go_at_call 93; (try rw [hwr]); refine (hlen _).mono ?_; rintro e w' ⟨rfl, rfl⟩) | (go_at_call 92; refine hcall.mono ?_; rintro e w' ⟨rfl, h1, h2, h3⟩))
 go_end0
 exact ⟨rfl, h1, h2, h3⟩


end Go.Proofs.YthpmpkmdjpaemaaGreat.P
