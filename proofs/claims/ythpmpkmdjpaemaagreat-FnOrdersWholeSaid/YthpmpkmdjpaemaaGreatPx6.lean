-- Printed by hp.py, a program of this session: a machine's side of laws, out of the translation; Lean checks it.
import Derived.Test.YthpmpkmdjpaemaaGreatPx0
import Derived.Test.YthpmpkmdjpaemaaGreatPx3
import Derived.Test.YthpmpkmdjpaemaaGreatPx5
namespace Go.Proofs.YthpmpkmdjpaemaaGreat.P
open Go.RowKit Go.Proofs.YthpmpkmdjpaemaaGreatW.PrintWords Go.Proofs.YthpmpkmdjpaemaaGreatW.PrintLast Go.Proofs.YthpmpkmdjpaemaaGreatW.PrintMore
attribute [local go_sem] max2_int min2_int max_two min_two max_three min_three max_four min_four   -- for this text's walks alone
set_option maxHeartbeats 8000000
set_option maxRecDepth 100000
set_option linter.unusedVariables false
set_option linter.unusedSimpArgs false

/-! ### impl_Lock_turned: function 43 -/
def impl_Lock_turned.f (k : Nat) (a0_0 : Int) (a0_1 : Int) (a1 : ByteArray) (a2_0 : Int) (a2_1 : Int) : Option (ByteArray) := (impl_digits.f k a1).bind fun t230 => (if 0 ≤ a2_0 then (if a2_0 < (t230.length : Int) then ((impl_around.f (wrap64 ((rd t230 a2_0) + a2_1)) a0_1).bind fun t234 => ((impl_text.f k (t230.set (a2_0 : Int).toNat t234)).bind fun t236 => (some t236))) else (none)) else (none))
theorem impl_Lock_turned.mono : ∀ a0 a1 a2 a3 a4 k, LeO (impl_Lock_turned.f k a0 a1 a2 a3 a4) (impl_Lock_turned.f (k + 1) a0 a1 a2 a3 a4) := by
 intro a0 a1 a2 a3 a4 k
 unfold impl_Lock_turned.f
 repeat' first
   | (with_reducible first | exact impl_digits.mono _ _ | exact impl_text.mono _ _ | exact LeO.refl _ | exact LeO.none _ | refine LeO.ite ?_ ?_ | refine LeO.bind ?_ (fun _ => ?_))
   | exact impl_digits.mono _ _
   | exact impl_text.mono _ _
   | exact LeO.none _
   | refine LeO.ite ?_ ?_
   | refine LeO.bind ?_ (fun _ => ?_)
def impl_Lock_turned.T2 : Bool × List (List Nat × List Nat) := (true, [([], []), ([], []), ([1], [1]), ([], []), ([], []), ([4], [4]), ([3, 5], [3, 5]), ([6], [6]), ([], []), ([8], [8]), ([7, 9], [7, 9]), ([], []), ([11], [11]), ([10, 12], [10, 12]), ([0, 2, 0, 1, 2, 3, 4, 5, 6, 7, 8, 9, 10, 11, 12, 13], [0, 2]), ([14, 13, 13, 0, 1, 2, 3, 4, 5, 6, 7, 8, 9, 10, 11, 12, 13], [13, 14])])
def impl_Lock_turned.B2 : List Nat := [0, 0, 2, 0, 0, 16, 56, 120, 0, 256, 1016, 0, 2048, 8184, 16383, 32767]
theorem impl_Lock_turned.tab2 : rtab .any (opsOf Tryz.f43 2) = impl_Lock_turned.T2 := by kernel_rfl
theorem impl_Lock_turned.bits2 : waitsOk impl_Lock_turned.T2.2 impl_Lock_turned.B2 = true := by kernel_rfl
theorem impl_Lock_turned.calls (k : Nat) (a0_0 : Int) (a0_1 : Int) (a1 : ByteArray) (a2_0 : Int) (a2_1 : Int) (r : ByteArray) (w : World) (h : impl_Lock_turned.f k a0_0 a0_1 a1 a2_0 a2_1 = some r) :
  Calls Tryz.prog 43 #[.agg #[.int .i64 a0_0, .int .i64 a0_1], .string a1, .agg #[.int .i64 a2_0, .int .i64 a2_1]] w fun e w' => e = .returned (.string r) ∧ Below w.heap.size w w' := by
 have hu25 := Tryz.underlying25
 have hu59 := Tryz.underlying59
 have HB := Aside0.mk (Below.refl w.heap.size w)
 have H := h
 unfold impl_Lock_turned.f at H
 clear h
 replace H := Option.bind_eq_some_iff.mp H
 obtain ⟨t230, A40, H⟩ := H
 (try dsimp only at H)
 have A4 := Aside0.mk A40
 clear A40
 replace H := nz H; obtain ⟨c5, H⟩ := H
 have c5b0 : decide (0 ≤ a2_0) = true := decide_eq_true c5
 clear c5
 replace H := nz H; obtain ⟨c6, H⟩ := H
 have c6b0 : decide (a2_0 < (t230.length : Int)) = true := decide_eq_true c6
 clear c6
 replace H := Option.bind_eq_some_iff.mp H
 obtain ⟨t234, A70, H⟩ := H
 (try dsimp only at H)
 have A7 := Aside0.mk A70
 clear A70
 obtain ⟨y235, hy235⟩ : ∃ y_ : List Int, y_ = (t230.set (a2_0 : Int).toNat t234) := ⟨_, rfl⟩
 replace H : ((impl_text.f k y235).bind fun t236 => (some t236)) = some r := hZ hy235 H
 have Ny235 := Aside0.mk hy235
 clear hy235
 replace H := Option.bind_eq_some_iff.mp H
 obtain ⟨t236, A90, H⟩ := H
 (try dsimp only at H)
 have A9 := Aside0.mk A90
 clear A90
 obtain rfl := Option.some.inj H
 go_enter Tryz.func43, Tryz.ntmps43
 try go_wp2_with (first | ((with_reducible refine gate_dst (N := 3) rfl ?_); refine box_event ?hg (N := 3) ?hd (cs := #[.int .i64 a0_0, .int .i64 a0_1]) (t := 25) ?hr ?_; (case hd => rfl); (case hg => rfl); (case hr => first | (go_simp; done) | (go_simp; rfl)); intro gb228 hg w10 hbox hb; have BK228 := Aside0.mk (hbox); have GW228 : Aside0 (w.heap.size ≤ gb228) := gW hg; have GE228 := GW228; replace HB := Aside0.mk (below_step bB hb); clear hb hbox hg) | ((with_reducible refine gate_dst (N := 5) rfl ?_); refine box_event ?hg (N := 5) ?hd (cs := #[.int .i64 a2_0, .int .i64 a2_1]) (t := 59) ?hr ?_; (case hd => rfl); (case hg => rfl); (case hr => first | (go_simp; done) | (go_simp; rfl)); intro gb229 hg w11 hbox hb; have n0_ := Aside0.mk (blk_below (g := gb228) (o := .cells #[.int .i64 a0_0, .int .i64 a0_1] 25 (0, 0)) bK hb); have n1_ := Aside0.mk (below_step bG hb); have n2_ := Aside0.mk (hbox); have n3_ := Aside0.mk ((by rw [hg]; exact (below_size bG) : w.heap.size ≤ gb229)); have n4_ := Aside0.mk ((by rw [hg]; exact (below_size bG) : w.heap.size ≤ gb229)); have n5_ := Aside0.mk ((by rw [hg]; exact Nat.ne_of_lt (blk_lt (g := gb228) (o := .cells #[.int .i64 a0_0, .int .i64 a0_1] 25 (0, 0)) bK) : gb228 ≠ gb229)); have n6_ := Aside0.mk ((by rw [hg]; exact Nat.ne_of_gt (blk_lt (g := gb228) (o := .cells #[.int .i64 a0_0, .int .i64 a0_1] 25 (0, 0)) bK) : gb229 ≠ gb228)); clear BK228; clear HB; have BK228 := n0_; have HB := n1_; have BK229 := n2_; have GW229 := n3_; have GE229 := n4_; have NB228_229 := n5_; have NB229_228 := n6_; clear n0_ n1_ n2_ n3_ n4_ n5_ n6_; clear hb hbox hg) | ((with_reducible refine gate_callee (f := 71) rfl ?_); refine goesL_ (some 9) rfl rfl Tryz.func71 (by kernel_rfl) rfl #[.string a1] rfl lM ?_; (with_reducible refine (impl_digits.calls k a1 t230 _ A4.out).mono ?_); rintro e w12 ⟨v231, rfl, ho0, hb⟩; refine ⟨_, rfl, ?_⟩; have n0_ := Aside0.mk (Kd.R_lower ho0 (below_size bG)); have n1_ := Aside0.mk (blk_below (g := gb228) (o := .cells #[.int .i64 a0_0, .int .i64 a0_1] 25 (0, 0)) bK hb); have n2_ := Aside0.mk (blk_below (g := gb229) (o := .cells #[.int .i64 a2_0, .int .i64 a2_1] 59 (0, 0)) bK hb); have n3_ := Aside0.mk (below_step bG hb); clear BK228; clear BK229; clear HB; have HO232 := n0_; have BK228 := n1_; have BK229 := n2_; have HB := n3_; clear n0_ n1_ n2_ n3_; (try clear hb); (try clear ho0)))
 have n0_ := Aside0.mk (Kd.R_drew HO232.out)
 have n1_ := Aside0.mk (blk_drew BK228.out)
 have n2_ := Aside0.mk (blk_drew BK229.out)
 have n3_ := Aside0.mk (below_drew1 HB.out)
 clear HO232
 clear BK228
 clear BK229
 clear HB
 have HO232 := n0_
 have BK228 := n1_
 have BK229 := n2_
 have HB := n3_
 clear n0_ n1_ n2_ n3_
 obtain ⟨Ao14, co14, eo14⟩ := Kd.R_slice HO232.out
 (first | subst eo14 | (injection eo14 with f1_ f2_ f3_; have f4_ := f1_.symm; have f5_ := f3_.symm; clear f1_ f2_ f3_; subst f4_; subst f5_))
 have p233 : 0 ≤ (a2_0 : Int) := oD
 have q233 : a2_0 < (t230.length : Int) := oD
 obtain ⟨ad233, e233, hx233_0⟩ := Kd.at_int (Kd.R_reads' HO232.out).2.2 a2_0 p233 q233
 cases e233
 replace p233 := eq_true p233
 replace q233 := eq_true q233
 refine start_ (n := 16) (S := fun w' => w'.cell? ⟨gb229, 0, none⟩ = some (.int .i64 a2_0) ∧ w'.cell? ⟨gb229, 1, none⟩ = some (.int .i64 a2_1) ∧ w'.cell? ⟨gb228, 0, none⟩ = some (.int .i64 a0_0) ∧ w'.cell? ⟨gb228, 1, none⟩ = some (.int .i64 a0_1) ∧ w'.cell? (ad233.add (a2_0).toNat) = some (.int .i64 (rd t230 a2_0))) (ds := [15]) #[false, false, false, false, false, false, false, false, false, false, false, false, false, false, false, false] (by kernel_rfl) rfl rfl ⟨(blk_cell BK229.out 0).trans rfl, (blk_cell BK229.out 1).trans rfl, (blk_cell BK228.out 0).trans rfl, (blk_cell BK228.out 1).trans rfl, hx233_0⟩ (fun hHeld => ?_); refine with_tabW impl_Lock_turned.tab2 impl_Lock_turned.bits2 (fun HT_ HW_ => ?_)
 generalize w12.drew = w13 at HO232 BK228 BK229 HB hx233_0 hHeld ⊢
 refine pU (i := 0) (N := some 10) ?_
 refine pU (i := 1) (N := some 11) ?_
 refine pU (i := 3) (N := some 13) ?_
 refine pU (i := 4) (N := some 14) ?_
 refine pU (i := 8) (N := some 18) ?_
 refine pU (i := 11) (N := some 21) ?_
 refine tU5 (i := 2) (N := some 12) ?_
 refine tU5 (i := 5) (N := some 15) ?_
 refine pU (i := 6) (N := some 16) ?_
 refine tU5 (i := 7) (N := some 17) ?_
 refine tU5 (i := 9) (N := some 19) ?_
 refine pU (i := 10) (N := some 20) ?_
 refine tU5 (i := 12) (N := some 22) ?_
 refine oU (i := 13) (N := some 23) (fun K hK => ?_)
 refine goes_ Tryz.func72 (by kernel_rfl) rfl #[.int .i64 (wrap64 ((rd t230 a2_0) + a2_1)), .int .i64 a0_1] (by rfl) rfl rfl lM ?_
 with_reducible refine (impl_around.calls (wrap64 ((rd t230 a2_0) + a2_1)) a0_1 t234 _ A7.out).mono ?_
 rintro e w' ⟨rfl, ⟨nd, rfl⟩⟩
 refine ⟨_, rfl, ?_⟩
 have p8 : 0 ≤ (a2_0 : Int) := oD
 have q8 : (a2_0 : Int) < ((t230.length : Int) : Int) := oD
 obtain ⟨go8, co8, eo8, gb8, gl8, cl8, HG8⟩ := Kd.R_form HO232.out (by omega)
 (first | cases eo8 | (injection eo8 with ea_ en_ ec_; (first | subst ea_ | (injection ea_ with ea_; subst ea_)); subst ec_; clear en_))
 have GB8 := Aside0.mk gb8
 have GG8 := Aside0.mk HG8
 clear gb8 gl8 HG8
 (first | simp only [add_plain] at hx233_0 | skip)
 obtain ⟨hx8_0, hf8_0⟩ := Kd.R_celln 0 HO232.out (a2_0 : Int) p8 q8
 replace p8 := eq_true p8
 replace q8 := eq_true q8
 have HP15 := Kd.R_putn HO232.out (a2_0 : Int) t234
 rw [← Ny235.out] at HP15
 have HQ15 := Aside0.mk HP15
 clear HP15
 refine hK.out _ _ ⟨(blk_cell BK229.out 0).trans rfl, (blk_cell BK229.out 1).trans rfl, (blk_cell BK228.out 0).trans rfl, (blk_cell BK228.out 1).trans rfl, hHeld.2.2.2.2⟩ (fun hHeld => ?_)
 clear hK K
 refine nU (some 23) ?_
 refine pU (i := 14) (N := some 24) ?_
 refine last_ (i := 15) (N := none) #[true, true, true, true, true, true, true, true, true, true, true, true, true, true, true, true] rfl rfl (one_of HT_.out (by kernel_rfl)) (by decide) (fun K hK => ?_)
 refine skip_ (w1 := ?_) (by rfl) rfl ?_ ?_
 rotate_left
 ·go_simp
  rfl
 refine hK.out _ _ ?_
 clear hK K
 refine done_ (done_of HT_.out (by kernel_rfl)) ?_
 try go_wp2_with (first | ((with_reducible refine gate_callee (f := 73) rfl ?_); refine goesL_ (some 26) rfl rfl Tryz.func73 (by kernel_rfl) rfl #[.slice (some ⟨go8, 0, none⟩) y235.length co14] rfl (by (try simp only [List.map_toArray, List.map_cons, List.map_nil]); first | done | (rw [show y235.length = t230.length from (Kd.R_reads' HQ15.out).1.symm] <;> rfl) | rfl | (simp only [List.length_drop, List.length_take]; rfl)) ?_; (with_reducible refine (impl_text.calls k _ _ y235 t236 _ ?side1 ?side2 A9.out).mono ?_); (case side1 => refine (Kd.R_reads' (e := 3) (base := w.heap.size) (ok := fun k_ => True) (n := t230.length) (c := co14) ?_).2.2; exact (kR HQ15)); (case side2 => rw [show y235.length = t230.length from (Kd.R_reads' HQ15.out).1.symm]; exact (Kd.R_reads' HO232.out).2.1); rintro e w16 ⟨rfl, hb⟩; refine ⟨_, rfl, ?_⟩; replace BK228 := Aside0.mk (blk_below (g := gb228) (o := .cells #[.int .i64 a0_0, .int .i64 a0_1] 25 (0, 0)) (by (with_reducible repeat (first | refine blk_drewN ?_ _ | refine blk_drew ?_ | refine blk_alloc ?_ _)); refine blk_far ?_ (by have h_ := Kd.R_ne HO232.out BK228.out (by decide); intro e_; exact h_ (by rw [e_]; rfl)) _; (with_reducible repeat (first | refine blk_drewN ?_ _ | refine blk_drew ?_ | refine blk_alloc ?_ _)); exact BK228.out) hb); replace BK229 := Aside0.mk (blk_below (g := gb229) (o := .cells #[.int .i64 a2_0, .int .i64 a2_1] 59 (0, 0)) (by (with_reducible repeat (first | refine blk_drewN ?_ _ | refine blk_drew ?_ | refine blk_alloc ?_ _)); refine blk_far ?_ (by have h_ := Kd.R_ne HO232.out BK229.out (by decide); intro e_; exact h_ (by rw [e_]; rfl)) _; (with_reducible repeat (first | refine blk_drewN ?_ _ | refine blk_drew ?_ | refine blk_alloc ?_ _)); exact BK229.out) hb); replace HO232 := Aside0.mk (Kd.R_below (kR HQ15) hb); replace HB := Aside0.mk (below_step (by repeat (first | (with_reducible first | exact HB.out | apply below_alloc | apply pw_below_drewN | apply below_drew1 | refine below_set ?_ GB8.out | refine below_set ?_ GE228.out | refine below_set ?_ GE229.out) | exact HB.out)) hb); (try clear hb)))
 go_ret
 exact ⟨rE, bG⟩

/-! ### impl_turns: function 83 -/
def impl_turns.l0 : Nat → List (S59) → Int → Int → Option ((List (S59)))
 | 0, _, _, _ => none
 | k + 1, x3, x6, x7 => if x7 < x6 then ((some (([(⟨x7, 1⟩ : S59), (⟨x7, (-1)⟩ : S59)] : List (S59)) : List (S59))).bind fun y240 => (if x3.length + y240.length < 8796093022208 then (impl_turns.l0 k (x3 ++ y240) x6 (wrap64 (x7 + 1))) else (none))) else (some x3)
def impl_turns.f (k : Nat) (a0 : Int) : Option ((List (S59))) := impl_turns.l0 k (([] : List (S59))) a0 0
theorem impl_turns.mono_l : ∀ k, (∀ y0 y1 y2, LeO (impl_turns.l0 k y0 y1 y2) (impl_turns.l0 (k + 1) y0 y1 y2))
 | 0 => fun _ _ _ r h => by simp [impl_turns.l0] at h
 | k + 1 => by
  have ih0 := impl_turns.mono_l k
  ·intro y0 y1 y2
   unfold impl_turns.l0
   repeat' first
   | (with_reducible first | exact ih0 _ _ _ | exact LeO.refl _ | exact LeO.none _ | refine LeO.ite ?_ ?_ | refine LeO.bind ?_ (fun _ => ?_))
   | exact ih0 _ _ _
   | exact LeO.none _
   | refine LeO.ite ?_ ?_
   | refine LeO.bind ?_ (fun _ => ?_)
theorem impl_turns.mono : ∀ a0 k, LeO (impl_turns.f k a0) (impl_turns.f (k + 1) a0) := by
 intro a0 k
 have ih0 := impl_turns.mono_l k
 unfold impl_turns.f
 repeat' first
   | (with_reducible first | exact ih0 _ _ _ | exact LeO.refl _ | exact LeO.none _ | refine LeO.ite ?_ ?_ | refine LeO.bind ?_ (fun _ => ?_))
   | exact ih0 _ _ _
   | exact LeO.none _
   | refine LeO.ite ?_ ?_
   | refine LeO.bind ?_ (fun _ => ?_)
theorem impl_turns.calls (k : Nat) (a0 : Int) (r : List (S59)) (w : World) (h : impl_turns.f k a0 = some r) :
  Calls Tryz.prog 83 #[.int .i64 a0] w fun e w' => ∃ v0_ : Value, e = .returned (v0_) ∧ Kd.R k59 59 w' w.heap.size (fun _ => True) v0_ r ∧ Below w.heap.size w w' := by
 have hu59 := Tryz.underlying59
 have HB := Aside0.mk (Below.refl w.heap.size w)
 have H := h
 unfold impl_turns.f at H
 clear h
 obtain ⟨y237, hy237⟩ : ∃ y_ : List (S59), y_ = (([] : List (S59))) := ⟨_, rfl⟩
 replace H : (impl_turns.l0 k y237 a0 0) = some r := hZ hy237 H
 have Ny237 := Aside0.mk hy237
 clear hy237
 have H' := Aside0.mk H
 clear H
 go_enter Tryz.func83, Tryz.ntmps83
 go_wp2_with (first | ((with_reducible refine gate_dst (N := 5) rfl ?_); refine Kd.R_lit k59 _ 59 ?hg (N := 5) ?hd (xs := ([] : List (S59))) (inner := []) (ok := fun _ => True) (okp := fun _ => True) ?hr ?hp (fun _ hk => hk) trivial (Below.refl _ _) (Nat.le_refl _) (by simp) ?_; (case hd => rfl); (case hg => rfl); (case hr => first | (go_simp; done) | (go_simp; rfl)); (case hp => exact (Reps.none _ _)); intro v238 w2 ho3 hb hg_ hnew_; clear hg_ hnew_; (first | rw [← Ny237.out] at ho3 | (simp only [Int.reduceToNat] at ho3; rw [← Ny237.out] at ho3)); have HO239 := Aside0.mk (Kd.R_lower ho3 (below_size bB)); replace HB := Aside0.mk (below_step bB hb); clear hb ho3))
 go_loopg [3, 7] k (fun kq v3 v7 w' => ∃ (x3_1 : List (S59)) (x7_1 : Int), v7 = .int .i64 x7_1 ∧ Aside0 (impl_turns.l0 kq x3_1 a0 x7_1 = some r) ∧ Aside0 (kq ≤ k) ∧ Aside0 (Kd.R k59 59 w' w.heap.size (fun _ => True) v3 x3_1) ∧ Aside0 (Below w.heap.size w w'))
 case atStart => exact ⟨(y237), (0), fR, H', ⟨Nat.le_refl _⟩, ⟨kR HO239⟩, ⟨bB⟩⟩
 case round =>
  clear H'
  try clear p2
  obtain ⟨x3_1, x7_1, rfl, HA, HK1, HO_3, HB⟩ := hrel
  cases gk with
  | zero => exact absurd HA.out (by simp [impl_turns.l0])
  | succ k1 =>
   have H := HA.out
   clear HA
   simp only [impl_turns.l0] at H
   by_cases c4 : x7_1 < a0
   ·rw [if_pos c4] at H
    have c4b0 : decide (x7_1 < a0) = true := decide_eq_true c4
    clear c4
    obtain ⟨y240, hy240⟩ : ∃ y_ : List (S59), y_ = (([(⟨x7_1, 1⟩ : S59), (⟨x7_1, (-1)⟩ : S59)] : List (S59))) := ⟨_, rfl⟩
    replace H : (if x3_1.length + y240.length < 8796093022208 then (impl_turns.l0 k1 (x3_1 ++ y240) a0 (wrap64 (x7_1 + 1))) else (none)) = some r := hZ hy240 H
    have Ny240 := Aside0.mk hy240
    clear hy240
    replace H := nz H; obtain ⟨c5, H⟩ := H
    have LMc5 := Aside0.mk c5
    clear c5
    obtain ⟨y243, hy243⟩ : ∃ y_ : List (S59), y_ = (x3_1 ++ y240) := ⟨_, rfl⟩
    replace H : (impl_turns.l0 k1 y243 a0 (wrap64 (x7_1 + 1))) = some r := hZ hy243 H
    have Ny243 := Aside0.mk hy243
    clear hy243
    have H' := Aside0.mk H
    clear H
    go_wp2_with (first | ((with_reducible refine gate_dst (N := 15) rfl ?_); refine Kd.R_lit k59 _ 59 ?hg (N := 15) ?hd (xs := ([(⟨x7_1, 1⟩ : S59), (⟨x7_1, (-1)⟩ : S59)] : List (S59))) (inner := [.int .i64 x7_1, .int .i64 1, .int .i64 x7_1, .int .i64 (-1)]) (ok := fun _ => True) (okp := fun _ => True) ?hr ?hp (fun _ hk => hk) trivial (Below.refl _ _) (Nat.le_refl _) (by simp) ?_; (case hd => rfl); (case hg => rfl); (case hr => first | (go_simp; done) | (go_simp; rfl)); (case hp => exact (Reps.c2 (show Kd.M k59 _ _ _ (⟨x7_1, 1⟩ : S59) [.int .i64 x7_1, .int .i64 1] from (k59_mkM _ _ _ (⟨x7_1, 1⟩ : S59) )) (Reps.c2 (show Kd.M k59 _ _ _ (⟨x7_1, (-1)⟩ : S59) [.int .i64 x7_1, .int .i64 (-1)] from (k59_mkM _ _ _ (⟨x7_1, (-1)⟩ : S59) )) (Reps.none _ _)))); intro v241 w6 ho7 hb hg_ hnew_; clear hg_ hnew_; (first | rw [← Ny240.out] at ho7 | (simp only [Int.reduceToNat] at ho7; rw [← Ny240.out] at ho7)); have HO242 := Aside0.mk (Kd.R_lower (Kd.R_new' ho7 (Kd.R_lt (kR HO_3))) (below_size bB)); replace HO_3 := Aside0.mk (Kd.R_elder' (kR HO_3) (Kd.R_base ho7) hb); replace HB := Aside0.mk (below_step bB hb); clear hb ho7; obtain ⟨Ao9, co9, eo9⟩ := Kd.R_slice HO242.out; subst eo9) | ((with_reducible refine gate_builtin (b := .append) (xs := #[.tmp 10, .tmp 15]) rfl ?_); at_builtin; refine Kd.R_append_rows k59 (w0 := w) w.heap.size rfl (.tmp 10) (.tmp 15) 31 59 (.agg #[(.int .i64 0), (.int .i64 0)]) 16 rfl Tryz.underlying31 info59 rfl (by decide) (by omega) u3 x3_1 y240 _ _ _ (fun k_ => some k_ ≠ (.slice Ao9 y240.length co9 : Value).ownBlock) (fun _ => False) rfl rfl ?aO ?aR (fun _ _ h => h) (fun _ h => h.elim) ?aF ?aB ?aS ?aL ?_; (case aR => exact cS ((Kd.R_reads' HO242.out).2.2)); (case aB => exact bB); (case aF => exact (fun k_ hk => Kd.fresh' (Kd.R_lt (kR HO242)) k_ hk)); (case aO => exact (by (with_reducible repeat (first | apply Kd.R_alloc | apply Kd.R_drewN | apply Kd.R_drew)); exact Kd.R_mono HO_3.out (fun _ hk => hk.2))); (case aS => exact (below_size bB)); (case aL => have := LMc5.out; omega); intro v244 w8 ho hb hg hat; rw [← Ny243.out] at ho; have n0_ := Aside0.mk (Kd.R_after (ok := (fun _ => True)) (kR HO242) hg hat); have n1_ := Aside0.mk (hb); have n2_ := Aside0.mk (ho); clear HO242; clear HB; clear HO_3; have HO242 := n0_; have HB := n1_; have HO245 := n2_; clear n0_ n1_ n2_; clear ho hb hg hat))
    go_roundg k1
    case measure => have := HK1.out; omega
    case rel => exact ⟨(y243), (wrap64 (x7_1 + 1)), fR, H', ⟨by have := HK1.out; omega⟩, ⟨by (with_reducible repeat (first | apply Kd.R_alloc | apply Kd.R_drewN | apply Kd.R_drew)); exact Kd.R_mono HO245.out (fun _ hk => trivial)⟩, ⟨bB⟩⟩
   ·rw [if_neg c4] at H
    have c4b0 : decide (x7_1 < a0) = false := decide_eq_false c4
    clear c4
    obtain rfl := Option.some.inj H
    go_wp2
    go_ret
    exact ⟨_, rE, kR HO_3, bB⟩

/-! ### impl_Lock_between: function 66 -/
def impl_Lock_between.l0 : Nat → ByteArray → ByteArray → List (S59) → Int → Int → Int → Int → Option (Int × Int × Bool)
 | 0, _, _, _, _, _, _, _ => none
 | k + 1, x1, x2, x12, x13, x14, x247000, x247001 => if x14 < x13 then (if 0 ≤ x14 then (if x14 < (x12.length : Int) then ((impl_Lock_turned.f k x247000 x247001 x1 ((rd_T59 x12 x14).f0) ((rd_T59 x12 x14).f1)).bind fun t253 => (if t253.toList = x2.toList then (some ((rd_T59 x12 x14).f0, (rd_T59 x12 x14).f1, true)) else (impl_Lock_between.l0 k x1 x2 x12 x13 (wrap64 (x14 + 1)) x247000 x247001))) else (none)) else (none)) else (some (0, 0, false))
def impl_Lock_between.f (k : Nat) (a0_0 : Int) (a0_1 : Int) (a1 : ByteArray) (a2 : ByteArray) : Option (Int × Int × Bool) := (impl_turns.f k a0_0).bind fun t248 => (impl_Lock_between.l0 k a1 a2 t248 (t248.length : Int) 0 a0_0 a0_1)
theorem impl_Lock_between.mono_l : ∀ k, (∀ y0 y1 y2 y3 y4 y5 y6, LeO (impl_Lock_between.l0 k y0 y1 y2 y3 y4 y5 y6) (impl_Lock_between.l0 (k + 1) y0 y1 y2 y3 y4 y5 y6))
 | 0 => fun _ _ _ _ _ _ _ r h => by simp [impl_Lock_between.l0] at h
 | k + 1 => by
  have ih0 := impl_Lock_between.mono_l k
  ·intro y0 y1 y2 y3 y4 y5 y6
   unfold impl_Lock_between.l0
   repeat' first
   | (with_reducible first | exact ih0 _ _ _ _ _ _ _ | exact impl_Lock_turned.mono _ _ _ _ _ _ | exact impl_turns.mono _ _ | exact LeO.refl _ | exact LeO.none _ | refine LeO.ite ?_ ?_ | refine LeO.bind ?_ (fun _ => ?_))
   | exact ih0 _ _ _ _ _ _ _
   | exact impl_Lock_turned.mono _ _ _ _ _ _
   | exact impl_turns.mono _ _
   | exact LeO.none _
   | refine LeO.ite ?_ ?_
   | refine LeO.bind ?_ (fun _ => ?_)
theorem impl_Lock_between.mono : ∀ a0 a1 a2 a3 k, LeO (impl_Lock_between.f k a0 a1 a2 a3) (impl_Lock_between.f (k + 1) a0 a1 a2 a3) := by
 intro a0 a1 a2 a3 k
 have ih0 := impl_Lock_between.mono_l k
 unfold impl_Lock_between.f
 repeat' first
   | (with_reducible first | exact ih0 _ _ _ _ _ _ _ | exact impl_Lock_turned.mono _ _ _ _ _ _ | exact impl_turns.mono _ _ | exact LeO.refl _ | exact LeO.none _ | refine LeO.ite ?_ ?_ | refine LeO.bind ?_ (fun _ => ?_))
   | exact ih0 _ _ _ _ _ _ _
   | exact impl_Lock_turned.mono _ _ _ _ _ _
   | exact impl_turns.mono _ _
   | exact LeO.none _
   | refine LeO.ite ?_ ?_
   | refine LeO.bind ?_ (fun _ => ?_)
theorem impl_Lock_between.calls (k : Nat) (a0_0 : Int) (a0_1 : Int) (a1 : ByteArray) (a2 : ByteArray) (r1 : Int) (r2 : Int) (r3 : Bool) (w : World) (h : impl_Lock_between.f k a0_0 a0_1 a1 a2 = some (r1, r2, r3)) :
  Calls Tryz.prog 66 #[.agg #[.int .i64 a0_0, .int .i64 a0_1], .string a1, .string a2] w fun e w' => e = .returned (.tuple #[.agg #[.int .i64 r1, .int .i64 r2], .bool r3]) ∧ Below w.heap.size w w' := by
 have hu25 := Tryz.underlying25
 have hu59 := Tryz.underlying59
 have HB := Aside0.mk (Below.refl w.heap.size w)
 have H := h
 unfold impl_Lock_between.f at H
 clear h
 replace H := Option.bind_eq_some_iff.mp H
 obtain ⟨t248, A40, H⟩ := H
 (try dsimp only at H)
 have A4 := Aside0.mk A40
 clear A40
 have H' := Aside0.mk H
 clear H
 go_enter Tryz.func66, Tryz.ntmps66
 go_wp2_with (first | ((with_reducible refine gate_dst (N := 3) rfl ?_); refine box_event ?hg (N := 3) ?hd (cs := #[.int .i64 a0_0, .int .i64 a0_1]) (t := 25) ?hr ?_; (case hd => rfl); (case hg => rfl); (case hr => first | (go_simp; done) | (go_simp; rfl)); intro gb246 hg w5 hbox hb; have BK246 := Aside0.mk (hbox); have GW246 : Aside0 (w.heap.size ≤ gb246) := gW hg; have GE246 := GW246; replace HB := Aside0.mk (below_step bB hb); clear hb hbox hg) | ((with_reducible refine gate_dst (N := 6) rfl ?_); refine box_event ?hg (N := 6) ?hd (cs := #[.int .i64 0, .int .i64 0]) (t := 59) ?hr ?_; (case hd => rfl); (case hg => rfl); (case hr => first | (go_simp; done) | (go_simp; rfl)); intro gb247 hg w6 hbox hb; have n0_ := Aside0.mk (blk_below (g := gb246) (o := .cells #[.int .i64 a0_0, .int .i64 a0_1] 25 (0, 0)) bK hb); have n1_ := Aside0.mk (below_step bG hb); have n2_ := Aside0.mk (hbox); have n3_ := Aside0.mk ((by rw [hg]; exact (below_size bG) : w.heap.size ≤ gb247)); have n4_ := Aside0.mk ((by rw [hg]; exact (below_size bG) : w.heap.size ≤ gb247)); have n5_ := Aside0.mk ((by rw [hg]; exact Nat.ne_of_lt (blk_lt (g := gb246) (o := .cells #[.int .i64 a0_0, .int .i64 a0_1] 25 (0, 0)) bK) : gb246 ≠ gb247)); have n6_ := Aside0.mk ((by rw [hg]; exact Nat.ne_of_gt (blk_lt (g := gb246) (o := .cells #[.int .i64 a0_0, .int .i64 a0_1] 25 (0, 0)) bK) : gb247 ≠ gb246)); clear BK246; clear HB; have BK246 := n0_; have HB := n1_; have BK247 := n2_; have GW247 := n3_; have GE247 := n4_; have NB246_247 := n5_; have NB247_246 := n6_; clear n0_ n1_ n2_ n3_ n4_ n5_ n6_; clear hb hbox hg; have hnb7 := NB246_247.out; have hnc7 := NB247_246.out; have hcz8_0 := cZ BK246 0 (.int .i64 a0_0); have hcz8_1 := cZ BK246 1 (.int .i64 a0_1); have hfz8_0 := blk_frozen BK246.out 0; have hfz8_1 := blk_frozen BK246.out 1) | ((with_reducible refine gate_callee (f := 83) rfl ?_); refine goesL_ (some 12) rfl rfl Tryz.func83 (by kernel_rfl) rfl #[.int .i64 a0_0] rfl lM ?_; (with_reducible refine (impl_turns.calls k a0_0 t248 _ A4.out).mono ?_); rintro e w9 ⟨v249, rfl, ho0, hb⟩; refine ⟨_, rfl, ?_⟩; have n0_ := Aside0.mk (Kd.R_lower (Kd.R_newB ho0 (g := gb247) (o := .cells #[.int .i64 0, .int .i64 0] 59 (0, 0)) bK) (below_size bG)); have n1_ := Aside0.mk (blk_below (g := gb246) (o := .cells #[.int .i64 a0_0, .int .i64 a0_1] 25 (0, 0)) bK hb); have n2_ := Aside0.mk (blk_below (g := gb247) (o := .cells #[.int .i64 0, .int .i64 0] 59 (0, 0)) bK hb); have n3_ := Aside0.mk (below_step bG hb); clear BK246; clear BK247; clear HB; have HO250 := n0_; have BK246 := n1_; have BK247 := n2_; have HB := n3_; clear n0_ n1_ n2_ n3_; (try clear hb); (try clear ho0); obtain ⟨Ao10, co10, eo10⟩ := Kd.R_slice HO250.out; subst eo10))
 go_loopg [14] k (fun kq v14 w' => ∃ (x14_1 : Int) (x248000_1 : Int) (x248001_1 : Int), v14 = .int .i64 x14_1 ∧ Aside0 (impl_Lock_between.l0 kq a1 a2 t248 (t248.length : Int) x14_1 a0_0 a0_1 = some (r1, r2, r3)) ∧ Aside0 (kq ≤ k) ∧ Aside0 (Kd.R k59 59 w' w.heap.size (fun k_ => k_ ≠ gb247) (.slice Ao10 t248.length co10) t248) ∧ Aside0 (w'.heap[gb246]? = some (.cells #[.int .i64 a0_0, .int .i64 a0_1] 25 (0, 0))) ∧ Aside0 (w'.heap[gb247]? = some (.cells #[.int .i64 x248000_1, .int .i64 x248001_1] 59 (0, 0))) ∧ Aside0 (Below w.heap.size w w'))
 case atStart => exact ⟨(0), (0), (0), fR, H', ⟨Nat.le_refl _⟩, ⟨by (with_reducible repeat (first | apply Kd.R_alloc | apply Kd.R_drewN | apply Kd.R_drew)); exact Kd.R_mono HO250.out (fun _ hk => hk.2)⟩, ⟨bK⟩, ⟨bK⟩, ⟨bG⟩⟩
 case round =>
  clear H'
  try clear p2
  try clear c6
  try clear c7
  try clear c8
  try clear hcz8_0
  try clear hcz8_1
  try clear hfz8_0
  try clear hfz8_1
  obtain ⟨x14_1, x248000_1, x248001_1, rfl, HA, HK1, HO_12, BK246, BK247, HB⟩ := hrel
  cases gk with
  | zero => exact absurd HA.out (by simp [impl_Lock_between.l0])
  | succ k1 =>
   have H := HA.out
   clear HA
   simp only [impl_Lock_between.l0] at H
   by_cases c11 : x14_1 < (t248.length : Int)
   ·rw [if_pos c11] at H
    have c11b0 : decide (x14_1 < (t248.length : Int)) = true := decide_eq_true c11
    clear c11
    replace H := nz H; obtain ⟨c12, H⟩ := H
    have c12b0 : decide (0 ≤ x14_1) = true := decide_eq_true c12
    clear c12
    replace H := nz H; obtain ⟨c13, H⟩ := H
    have c13b0 : decide (x14_1 < (t248.length : Int)) = true := decide_eq_true c13
    clear c13
    replace H := Option.bind_eq_some_iff.mp H
    obtain ⟨t253, A140, H⟩ := H
    (try dsimp only at H)
    have A14 := Aside0.mk A140
    clear A140
    by_cases c15 : t253.toList = a2.toList
    ·rw [if_pos c15] at H
     have c15b0 : (t253.toList == a2.toList) = true := beq_iff_eq.mpr c15
     have c15b1 : (t253.toList != a2.toList) = false := bne_eq_false_iff_eq.mpr c15
     clear c15
     simp only [Option.some.injEq, Prod.mk.injEq] at H
     obtain ⟨rfl, rfl, rfl⟩ := H
     have p251 : 0 ≤ (x14_1 : Int) := oD
     have q251 : x14_1 < (t248.length : Int) := oD
     obtain ⟨ad251, e251, hx251_0, hx251_1⟩ := at_T59 (Kd.R_reads' HO_12.out).2.2 x14_1 p251 q251
     cases e251
     replace p251 := eq_true p251
     replace q251 := eq_true q251
     go_wp2_with (first | ((with_reducible refine gate_dst (N := 9) rfl ?_); refine box_event ?hg (N := 9) ?hd (cs := #[.int .i64 0, .int .i64 0]) (t := 59) ?hr ?_; (case hd => rfl); (case hg => rfl); (case hr => first | (go_simp; done) | (go_simp; rfl)); intro gb252 hg w16 hbox hb; have n0_ := Aside0.mk (Kd.R_below (Kd.R_elderB (kR HO_12) gb252 (Nat.le_of_eq hg.symm)) hb); have n1_ := Aside0.mk (blk_below (g := gb246) (o := .cells #[.int .i64 a0_0, .int .i64 a0_1] 25 (0, 0)) bK hb); have n2_ := Aside0.mk (blk_below (g := gb247) (o := .cells #[.int .i64 x248000_1, .int .i64 x248001_1] 59 (0, 0)) bK hb); have n3_ := Aside0.mk (below_step bG hb); have n4_ := Aside0.mk (hbox); have n5_ := Aside0.mk ((by rw [hg]; exact (below_size bG) : w.heap.size ≤ gb252)); have n6_ := Aside0.mk ((by rw [hg]; exact (below_size bG) : w.heap.size ≤ gb252)); have n7_ := Aside0.mk ((by rw [hg]; exact Nat.ne_of_lt (blk_lt (g := gb246) (o := .cells #[.int .i64 a0_0, .int .i64 a0_1] 25 (0, 0)) bK) : gb246 ≠ gb252)); have n8_ := Aside0.mk ((by rw [hg]; exact Nat.ne_of_gt (blk_lt (g := gb246) (o := .cells #[.int .i64 a0_0, .int .i64 a0_1] 25 (0, 0)) bK) : gb252 ≠ gb246)); have n9_ := Aside0.mk ((by rw [hg]; exact Nat.ne_of_lt (blk_lt (g := gb247) (o := .cells #[.int .i64 x248000_1, .int .i64 x248001_1] 59 (0, 0)) bK) : gb247 ≠ gb252)); have n10_ := Aside0.mk ((by rw [hg]; exact Nat.ne_of_gt (blk_lt (g := gb247) (o := .cells #[.int .i64 x248000_1, .int .i64 x248001_1] 59 (0, 0)) bK) : gb252 ≠ gb247)); clear HO_12; clear BK246; clear BK247; clear HB; have HO_12 := n0_; have BK246 := n1_; have BK247 := n2_; have HB := n3_; have BK252 := n4_; have GW252 := n5_; have GE252 := n6_; have NB246_252 := n7_; have NB252_246 := n8_; have NB247_252 := n9_; have NB252_247 := n10_; clear n0_ n1_ n2_ n3_ n4_ n5_ n6_ n7_ n8_ n9_ n10_; clear hb hbox hg; have hnb17 := NB252_246.out; have hnc17 := NB246_252.out; have hnb18 := NB252_247.out; have hnc18 := NB247_252.out; have hcz19_0 := cZ BK252 0 (.int .i64 0); have hcz19_1 := cZ BK252 1 (.int .i64 0); have hfz19_0 := blk_frozen BK252.out 0; have hfz19_1 := blk_frozen BK252.out 1; have hnb20 := NB246_247.out; have hnc20 := NB247_246.out; have hcz21_0 := cZ BK246 0 (.int .i64 a0_0); have hcz21_1 := cZ BK246 1 (.int .i64 a0_1); have hfz21_0 := blk_frozen BK246.out 0; have hfz21_1 := blk_frozen BK246.out 1) | ((with_reducible refine gate_callee (f := 43) rfl ?_); refine goesL_ (some 21) rfl rfl Tryz.func43 (by kernel_rfl) rfl #[.agg #[.int .i64 a0_0, .int .i64 a0_1], .string a1, .agg #[.int .i64 ((rd_T59 t248 x14_1).f0), .int .i64 ((rd_T59 t248 x14_1).f1)]] rfl lM ?_; (with_reducible refine (impl_Lock_turned.calls k1 a0_0 a0_1 a1 ((rd_T59 t248 x14_1).f0) ((rd_T59 t248 x14_1).f1) t253 _ A14.out).mono ?_); rintro e w22 ⟨rfl, hb⟩; refine ⟨_, rfl, ?_⟩; replace HO_12 := Aside0.mk (Kd.R_below (by (with_reducible repeat (first | apply Kd.R_alloc | apply Kd.R_drewN | apply Kd.R_drew)); exact (Kd.R_mono (Kd.R_far (p := ⟨gb252, 1, none⟩) (Kd.R_far (p := ⟨gb252, 0, none⟩) (Kd.R_mono HO_12.out (fun k_ hk => (⟨hk, hk.2⟩ : _ ∧ k_ ≠ gb252))) (fun _ hk => hk.2) (.int .i64 ((rd_T59 t248 x14_1).f0))) (fun _ hk => hk.2) (.int .i64 ((rd_T59 t248 x14_1).f1))) (fun _ h_ => h_.1))) hb); replace BK246 := Aside0.mk (blk_below (g := gb246) (o := .cells #[.int .i64 a0_0, .int .i64 a0_1] 25 (0, 0)) (by (with_reducible repeat (first | refine blk_drewN ?_ _ | refine blk_drew ?_ | refine blk_alloc ?_ _)); refine blk_far ?_ NB246_252.out _; (with_reducible repeat (first | refine blk_drewN ?_ _ | refine blk_drew ?_ | refine blk_alloc ?_ _)); refine blk_far ?_ NB246_252.out _; (with_reducible repeat (first | refine blk_drewN ?_ _ | refine blk_drew ?_ | refine blk_alloc ?_ _)); exact BK246.out) hb); replace BK247 := Aside0.mk (blk_below (g := gb247) (o := .cells #[.int .i64 x248000_1, .int .i64 x248001_1] 59 (0, 0)) (by (with_reducible repeat (first | refine blk_drewN ?_ _ | refine blk_drew ?_ | refine blk_alloc ?_ _)); refine blk_far ?_ NB247_252.out _; (with_reducible repeat (first | refine blk_drewN ?_ _ | refine blk_drew ?_ | refine blk_alloc ?_ _)); refine blk_far ?_ NB247_252.out _; (with_reducible repeat (first | refine blk_drewN ?_ _ | refine blk_drew ?_ | refine blk_alloc ?_ _)); exact BK247.out) hb); replace BK252 := Aside0.mk (blk_below (g := gb252) (o := .cells #[.int .i64 ((rd_T59 t248 x14_1).f0), .int .i64 ((rd_T59 t248 x14_1).f1)] 59 (0, 0)) (by (with_reducible repeat (first | refine blk_drewN ?_ _ | refine blk_drew ?_ | refine blk_alloc ?_ _)); refine blk_put (cs := #[.int .i64 ((rd_T59 t248 x14_1).f0), .int .i64 0]) ?_ 1 _ rfl; (with_reducible repeat (first | refine blk_drewN ?_ _ | refine blk_drew ?_ | refine blk_alloc ?_ _)); refine blk_put (cs := #[.int .i64 0, .int .i64 0]) ?_ 0 _ rfl; (with_reducible repeat (first | refine blk_drewN ?_ _ | refine blk_drew ?_ | refine blk_alloc ?_ _)); exact BK252.out) hb); replace HB := Aside0.mk (below_step bG hb); (try clear hb); have hcz23_0 := cZ BK252 0 (.int .i64 ((rd_T59 t248 x14_1).f0)); have hcz23_1 := cZ BK252 1 (.int .i64 ((rd_T59 t248 x14_1).f1)); have hfz23_0 := blk_frozen BK252.out 0; have hfz23_1 := blk_frozen BK252.out 1; have hcz24_0 := cZ BK247 0 (.int .i64 x248000_1); have hcz24_1 := cZ BK247 1 (.int .i64 x248001_1); have hfz24_0 := blk_frozen BK247.out 0; have hfz24_1 := blk_frozen BK247.out 1))
     refine bodyPost_ret (results_ct rfl _ _ gb247 59 #[.int .i64 ((rd_T59 t248 x14_1).f0), .int .i64 ((rd_T59 t248 x14_1).f1)] (0, 0) _ rfl (by (with_reducible repeat (first | refine blk_drewN ?_ _ | refine blk_drew ?_ | refine blk_alloc ?_ _)); refine blk_put (cs := #[.int .i64 ((rd_T59 t248 x14_1).f0), .int .i64 x248001_1]) ?_ 1 _ rfl; (with_reducible repeat (first | refine blk_drewN ?_ _ | refine blk_drew ?_ | refine blk_alloc ?_ _)); refine blk_put (cs := #[.int .i64 x248000_1, .int .i64 x248001_1]) ?_ 0 _ rfl; (with_reducible repeat (first | refine blk_drewN ?_ _ | refine blk_drew ?_ | refine blk_alloc ?_ _)); exact BK247.out) Tryz.underlying59 rfl (by kernel_rfl)) rfl ?_
     exact ⟨rE, bG⟩
    ·rw [if_neg c15] at H
     have c15b0 : (t253.toList == a2.toList) = false := beq_eq_false_iff_ne.mpr c15
     have c15b1 : (t253.toList != a2.toList) = true := bne_iff_ne.mpr c15
     have H' := Aside0.mk H
     clear H
     have p251 : 0 ≤ (x14_1 : Int) := oD
     have q251 : x14_1 < (t248.length : Int) := oD
     obtain ⟨ad251, e251, hx251_0, hx251_1⟩ := at_T59 (Kd.R_reads' HO_12.out).2.2 x14_1 p251 q251
     cases e251
     replace p251 := eq_true p251
     replace q251 := eq_true q251
     go_wp2_with (first | ((with_reducible refine gate_dst (N := 9) rfl ?_); refine box_event ?hg (N := 9) ?hd (cs := #[.int .i64 0, .int .i64 0]) (t := 59) ?hr ?_; (case hd => rfl); (case hg => rfl); (case hr => first | (go_simp; done) | (go_simp; rfl)); intro gb252 hg w25 hbox hb; have n0_ := Aside0.mk (Kd.R_below (Kd.R_elderB (kR HO_12) gb252 (Nat.le_of_eq hg.symm)) hb); have n1_ := Aside0.mk (blk_below (g := gb246) (o := .cells #[.int .i64 a0_0, .int .i64 a0_1] 25 (0, 0)) bK hb); have n2_ := Aside0.mk (blk_below (g := gb247) (o := .cells #[.int .i64 x248000_1, .int .i64 x248001_1] 59 (0, 0)) bK hb); have n3_ := Aside0.mk (below_step bG hb); have n4_ := Aside0.mk (hbox); have n5_ := Aside0.mk ((by rw [hg]; exact (below_size bG) : w.heap.size ≤ gb252)); have n6_ := Aside0.mk ((by rw [hg]; exact (below_size bG) : w.heap.size ≤ gb252)); have n7_ := Aside0.mk ((by rw [hg]; exact Nat.ne_of_lt (blk_lt (g := gb246) (o := .cells #[.int .i64 a0_0, .int .i64 a0_1] 25 (0, 0)) bK) : gb246 ≠ gb252)); have n8_ := Aside0.mk ((by rw [hg]; exact Nat.ne_of_gt (blk_lt (g := gb246) (o := .cells #[.int .i64 a0_0, .int .i64 a0_1] 25 (0, 0)) bK) : gb252 ≠ gb246)); have n9_ := Aside0.mk ((by rw [hg]; exact Nat.ne_of_lt (blk_lt (g := gb247) (o := .cells #[.int .i64 x248000_1, .int .i64 x248001_1] 59 (0, 0)) bK) : gb247 ≠ gb252)); have n10_ := Aside0.mk ((by rw [hg]; exact Nat.ne_of_gt (blk_lt (g := gb247) (o := .cells #[.int .i64 x248000_1, .int .i64 x248001_1] 59 (0, 0)) bK) : gb252 ≠ gb247)); clear HO_12; clear BK246; clear BK247; clear HB; have HO_12 := n0_; have BK246 := n1_; have BK247 := n2_; have HB := n3_; have BK252 := n4_; have GW252 := n5_; have GE252 := n6_; have NB246_252 := n7_; have NB252_246 := n8_; have NB247_252 := n9_; have NB252_247 := n10_; clear n0_ n1_ n2_ n3_ n4_ n5_ n6_ n7_ n8_ n9_ n10_; clear hb hbox hg; have hnb26 := NB252_246.out; have hnc26 := NB246_252.out; have hnb27 := NB252_247.out; have hnc27 := NB247_252.out; have hcz28_0 := cZ BK252 0 (.int .i64 0); have hcz28_1 := cZ BK252 1 (.int .i64 0); have hfz28_0 := blk_frozen BK252.out 0; have hfz28_1 := blk_frozen BK252.out 1; have hnb29 := NB246_247.out; have hnc29 := NB247_246.out; have hcz30_0 := cZ BK246 0 (.int .i64 a0_0); have hcz30_1 := cZ BK246 1 (.int .i64 a0_1); have hfz30_0 := blk_frozen BK246.out 0; have hfz30_1 := blk_frozen BK246.out 1) | ((with_reducible refine gate_callee (f := 43) rfl ?_); refine goesL_ (some 21) rfl rfl Tryz.func43 (by kernel_rfl) rfl #[.agg #[.int .i64 a0_0, .int .i64 a0_1], .string a1, .agg #[.int .i64 ((rd_T59 t248 x14_1).f0), .int .i64 ((rd_T59 t248 x14_1).f1)]] rfl lM ?_; (with_reducible refine (impl_Lock_turned.calls k1 a0_0 a0_1 a1 ((rd_T59 t248 x14_1).f0) ((rd_T59 t248 x14_1).f1) t253 _ A14.out).mono ?_); rintro e w31 ⟨rfl, hb⟩; refine ⟨_, rfl, ?_⟩; replace HO_12 := Aside0.mk (Kd.R_below (by (with_reducible repeat (first | apply Kd.R_alloc | apply Kd.R_drewN | apply Kd.R_drew)); exact (Kd.R_mono (Kd.R_far (p := ⟨gb252, 1, none⟩) (Kd.R_far (p := ⟨gb252, 0, none⟩) (Kd.R_mono HO_12.out (fun k_ hk => (⟨hk, hk.2⟩ : _ ∧ k_ ≠ gb252))) (fun _ hk => hk.2) (.int .i64 ((rd_T59 t248 x14_1).f0))) (fun _ hk => hk.2) (.int .i64 ((rd_T59 t248 x14_1).f1))) (fun _ h_ => h_.1))) hb); replace BK246 := Aside0.mk (blk_below (g := gb246) (o := .cells #[.int .i64 a0_0, .int .i64 a0_1] 25 (0, 0)) (by (with_reducible repeat (first | refine blk_drewN ?_ _ | refine blk_drew ?_ | refine blk_alloc ?_ _)); refine blk_far ?_ NB246_252.out _; (with_reducible repeat (first | refine blk_drewN ?_ _ | refine blk_drew ?_ | refine blk_alloc ?_ _)); refine blk_far ?_ NB246_252.out _; (with_reducible repeat (first | refine blk_drewN ?_ _ | refine blk_drew ?_ | refine blk_alloc ?_ _)); exact BK246.out) hb); replace BK247 := Aside0.mk (blk_below (g := gb247) (o := .cells #[.int .i64 x248000_1, .int .i64 x248001_1] 59 (0, 0)) (by (with_reducible repeat (first | refine blk_drewN ?_ _ | refine blk_drew ?_ | refine blk_alloc ?_ _)); refine blk_far ?_ NB247_252.out _; (with_reducible repeat (first | refine blk_drewN ?_ _ | refine blk_drew ?_ | refine blk_alloc ?_ _)); refine blk_far ?_ NB247_252.out _; (with_reducible repeat (first | refine blk_drewN ?_ _ | refine blk_drew ?_ | refine blk_alloc ?_ _)); exact BK247.out) hb); replace BK252 := Aside0.mk (blk_below (g := gb252) (o := .cells #[.int .i64 ((rd_T59 t248 x14_1).f0), .int .i64 ((rd_T59 t248 x14_1).f1)] 59 (0, 0)) (by (with_reducible repeat (first | refine blk_drewN ?_ _ | refine blk_drew ?_ | refine blk_alloc ?_ _)); refine blk_put (cs := #[.int .i64 ((rd_T59 t248 x14_1).f0), .int .i64 0]) ?_ 1 _ rfl; (with_reducible repeat (first | refine blk_drewN ?_ _ | refine blk_drew ?_ | refine blk_alloc ?_ _)); refine blk_put (cs := #[.int .i64 0, .int .i64 0]) ?_ 0 _ rfl; (with_reducible repeat (first | refine blk_drewN ?_ _ | refine blk_drew ?_ | refine blk_alloc ?_ _)); exact BK252.out) hb); replace HB := Aside0.mk (below_step bG hb); (try clear hb)))
     go_roundg k1
     case measure => have := HK1.out; omega
     case rel => exact ⟨(wrap64 (x14_1 + 1)), (x248000_1), (x248001_1), fR, H', ⟨by have := HK1.out; omega⟩, ⟨by (with_reducible repeat (first | apply Kd.R_alloc | apply Kd.R_drewN | apply Kd.R_drew)); exact Kd.R_mono HO_12.out (fun _ hk => hk.1)⟩, ⟨bK⟩, ⟨bK⟩, ⟨bG⟩⟩
   ·rw [if_neg c11] at H
    have c11b0 : decide (x14_1 < (t248.length : Int)) = false := decide_eq_false c11
    clear c11
    simp only [Option.some.injEq, Prod.mk.injEq] at H
    obtain ⟨rfl, rfl, rfl⟩ := H
    have hnb32 := NB247_246.out
    have hnc32 := NB246_247.out
    have hcz33_0 := cZ BK247 0 (.int .i64 x248000_1)
    have hcz33_1 := cZ BK247 1 (.int .i64 x248001_1)
    have hfz33_0 := blk_frozen BK247.out 0
    have hfz33_1 := blk_frozen BK247.out 1
    go_wp2
    refine bodyPost_ret (results_ct rfl _ _ gb247 59 #[.int .i64 0, .int .i64 0] (0, 0) _ rfl (by (with_reducible repeat (first | refine blk_drewN ?_ _ | refine blk_drew ?_ | refine blk_alloc ?_ _)); refine blk_put (cs := #[.int .i64 0, .int .i64 x248001_1]) ?_ 1 _ rfl; (with_reducible repeat (first | refine blk_drewN ?_ _ | refine blk_drew ?_ | refine blk_alloc ?_ _)); refine blk_put (cs := #[.int .i64 x248000_1, .int .i64 x248001_1]) ?_ 0 _ rfl; (with_reducible repeat (first | refine blk_drewN ?_ _ | refine blk_drew ?_ | refine blk_alloc ?_ _)); exact BK247.out) Tryz.underlying59 rfl (by kernel_rfl)) rfl ?_
    exact ⟨rE, bG⟩

/-! ### impl_Lock_orderTurns: function 34 -/
def hasB (s : ByteArray) (met : List ByteArray) : Bool := met.any fun t => decide (s.data.toList = t.data.toList)
def ordD : List ByteArray → DataW Unit
 | [] => .map []
 | s :: met => (ordD met).put (.string s.data.toList) (.lit (.bool true))
theorem ordD_map : ∀ met, Maps.IsMap (ordD met)
 | [] => Maps.isMap_empty
 | _ :: met => (ordD_map met).put _ _
theorem ord_key (s : ByteArray) (hs : s.size ≤ 1000) : keyOf Tryz.prog 9 (.string s) = some (.string s.data.toList) := by
 have hu := Tryz.underlying9
 have h : s.size ≤ maxLen := by unfold maxLen; omega
 simp [keyOf, mapKey, hu, h]
theorem ordK : Maps.Keyed Tryz.prog 9 := Maps.string_keyed Tryz.underlying9
theorem ordD_at (s : ByteArray) (hs : s.size ≤ 1000) : ∀ met, (ordD met).atKey (.string s.data.toList) (.lit (.bool false)) = .lit (.bool (hasB s met))
 | [] => by
  rw [ordD, WideAt.atKey_none _ (by intro p hp; cases hp)]
  simp [hasB]
 | t :: met => by
  rw [ordD]
  by_cases h : s.data.toList = t.data.toList
  ·rw [← h, Maps.atKey_put_same (ordD_map met) (ordK.key (ord_key s hs))]
   simp [hasB, h]
  ·have hne : (Lit.string s.data.toList) ≠ .string t.data.toList := by
    intro e
    injection e with e
    exact h e
   rw [Maps.atKey_put_other hne, ordD_at s hs met]
   simp [hasB, h]
   exact fun e => absurd (congrArg Array.toList e) h
set_option maxRecDepth 100000 in
theorem ord_bool_inv {v : Value} {z : DataW Unit × List MemPlace} (h : plainElem Tryz.prog 4 v = some z) : ∃ x, v = .bool x ∧ z = (.lit (.bool x), []) := by
 unfold plainElem at h
 rw [Tryz.underlying4] at h
 cases v <;> simp at h
 exact ⟨_, rfl, h.symm⟩
theorem ord_zero (w : World) : (zeroValue 4).run Tryz.prog w = .ok (.bool false) w := by kernel_rfl
set_option maxRecDepth 100000 in
theorem ord_look (s : ByteArray) (hs : s.size ≤ 1000) (met : List ByteArray) (W : World) (b n : Nat) (h : W.ownsMap Tryz.prog 9 (plainElem (H := Unit) Tryz.prog 4) b n (ordD met)) :
  (Instr.lookup 80 (.map (some b)) (.string s) false).run Tryz.prog W = .ok (.bool (hasB s met)) W := by
 obtain ⟨v, ps, hrun, hv⟩ := h.lookup ordK Tryz.underlying80 (z := .bool false) (ord_zero W) (plainElem_bool Tryz.underlying4 false) (ord_key s hs)
 rw [ordD_at s hs met] at hv
 obtain ⟨x, rfl, hx⟩ := ord_bool_inv hv
 simp at hx
 obtain ⟨hx, _⟩ := hx
 rw [hrun, hx]
theorem ord_store (s : ByteArray) (hs : s.size ≤ 1000) (met : List ByteArray) (W : World) (b n : Nat) (hn : n < 100000) (h : W.ownsMap Tryz.prog 9 (plainElem (H := Unit) Tryz.prog 4) b n (ordD met)) :
  ∃ w', (Instr.mapUpdate 80 (.map (some b)) (.string s) (.bool true)).run Tryz.prog W = .ok () w' ∧ w'.ownsMap Tryz.prog 9 (plainElem (H := Unit) Tryz.prog 4) b (n + 1) (ordD (s :: met)) ∧ W.grownBy w' (some b) :=
 h.update ordK Tryz.underlying80 (by unfold maxLen; omega) (ord_key s hs) (plainElem_bool Tryz.underlying4 true)
theorem ord_ne {α : Type} {d : Kd α} {e base : Nat} {ok : Nat → Prop} {W : World} {v : Value} {xs : List α} {P : Program} {k : TypeId} {R : Value → Option (DataW Unit × List MemPlace)} {b n : Nat} {D : DataW Unit} (h : d.R e W base ok v xs) (hm : W.ownsMap P k R b n D) : some b ≠ v.ownBlock := by
 intro he
 obtain ⟨es, clock, hb, _⟩ := hm
 obtain ⟨cells, hc⟩ := Kd.R_typed h b he.symm
 rw [hb] at hc
 exact absurd hc (by simp)
theorem ord_far {W : World} {P : Program} {k : TypeId} {R : Value → Option (DataW Unit × List MemPlace)} {b n : Nat} {D : DataW Unit} (h : W.ownsMap P k R b n D) {p : Addr} (hne : b ≠ p.block) (v : Value) : (W.setCell p v).ownsMap P k R b n D := by
 obtain ⟨es, clock, hb, r⟩ := h
 exact ⟨es, clock, (Below.heap_setCell W p v b hne).trans hb, r⟩
def impl_Lock_orderTurns.g (k : Nat) (a b : Int) : List ByteArray → List ByteArray → List S59 → Option (List S59 × Bool)
 | _, [], out => some (out, true)
 | met, s :: rest, out => (impl_Lock_isCode.f k a b s).bind fun c =>
   if c = true then
    if s.size ≤ 1000 then
    if hasB s met = true then some ([], false) else
    if 1000 ≤ met.length then some ([], false) else
    match met with
    | [] => impl_Lock_orderTurns.g k a b [s] rest out
    | p :: m => (impl_Lock_between.f k a b p s).bind fun t => if t.2.2 = true then impl_Lock_orderTurns.g k a b (s :: p :: m) rest (out ++ [⟨t.1, t.2.1⟩]) else some ([], false)
    else none
   else some ([], false)
def impl_Lock_orderTurns.f (k : Nat) (a0_0 a0_1 : Int) (l1 : List ByteArray) : Option (List S59 × Bool) := impl_Lock_orderTurns.g k a0_0 a0_1 [] l1 []
theorem impl_Lock_orderTurns.monog : ∀ (rest met : List ByteArray) (out : List S59) (a b : Int) (k : Nat), LeO (impl_Lock_orderTurns.g k a b met rest out) (impl_Lock_orderTurns.g (k + 1) a b met rest out)
 | [], _, _, _, _, _ => by simp only [impl_Lock_orderTurns.g]; exact LeO.refl _
 | s :: rest, met, out, a, b, k => by
  cases met with
  | nil =>
   simp only [impl_Lock_orderTurns.g]
   exact LeO.bind (impl_Lock_isCode.mono _ _ _ _) (fun c => LeO.ite (LeO.ite (LeO.ite (LeO.refl _) (LeO.ite (LeO.refl _) (impl_Lock_orderTurns.monog rest _ _ _ _ _))) (LeO.refl _)) (LeO.refl _))
  | cons p m =>
   simp only [impl_Lock_orderTurns.g]
   exact LeO.bind (impl_Lock_isCode.mono _ _ _ _) (fun c => LeO.ite (LeO.ite (LeO.ite (LeO.refl _) (LeO.ite (LeO.refl _) (LeO.bind (impl_Lock_between.mono _ _ _ _ _) (fun t => LeO.ite (impl_Lock_orderTurns.monog rest _ _ _ _ _) (LeO.refl _))))) (LeO.refl _)) (LeO.refl _))
theorem impl_Lock_orderTurns.mono : ∀ a0 a1 a2 k, LeO (impl_Lock_orderTurns.f k a0 a1 a2) (impl_Lock_orderTurns.f (k + 1) a0 a1 a2) := fun a0 a1 a2 k => impl_Lock_orderTurns.monog a2 [] [] a0 a1 k
theorem impl_Lock_orderTurns.calls (k : Nat) (a b : Int) (A1 : Option Addr) (c1 : Nat) (l1 : List ByteArray) (r1 : List S59) (r2 : Bool) (w : World) (hr1 : Kd.C Kd.string w A1 l1.length l1) (hc1 : l1.length ≤ c1)
  (h : impl_Lock_orderTurns.f k a b l1 = some (r1, r2)) :
  Calls Tryz.prog 34 #[.agg #[.int .i64 a, .int .i64 b], .slice A1 l1.length c1] w fun e w' => ∃ v0_ : Value, e = .returned (.tuple #[v0_, .bool r2]) ∧ Kd.R k59 59 w' w.heap.size (fun _ => True) v0_ r1 ∧ Below w.heap.size w w' := by
 have hu23 := Tryz.underlying25
 have hmm := @run_makeMap Tryz.prog
 have HR := Aside0.mk hr1
 have HC := Aside0.mk hc1
 have HG := Aside0.mk h
 have HM := Aside0.mk (Kd.C_max hr1)
 clear hr1 hc1 h
 obtain ⟨n, hn⟩ : ∃ n, n = l1.length := ⟨_, rfl⟩
 have HN := Aside0.mk hn
 rw [← hn] at HM HR ⊢
 clear hn
 obtain ⟨W0, hW0⟩ : ∃ W0, W0 = ((w.alloc (.cells #[.int .i64 a, .int .i64 b] 25)).alloc (.cells #[] 59)).alloc (.map #[] 0) := ⟨_, rfl⟩
 have s1 : (w.alloc (.cells #[.int .i64 a, .int .i64 b] 25)).heap.size = w.heap.size + 1 := World.size_alloc _ _
 have s2 : ((w.alloc (.cells #[.int .i64 a, .int .i64 b] 25)).alloc (.cells #[] 59)).heap.size = w.heap.size + 1 + 1 := by rw [World.size_alloc, s1]
 have HB0 : Aside0 (Below w.heap.size w W0) := ⟨by rw [hW0]; exact below_alloc (below_alloc (below_alloc (Below.refl _ _) _) _) _⟩
 have HO0 : Aside0 (Kd.R k59 59 W0 w.heap.size (fun q => q ≠ w.heap.size + 1 + 1) (.slice (some ⟨w.heap.size + 1, 0, none⟩) 0 0) []) := ⟨by
  have := hw_R_lit k59 (w.alloc (.cells #[.int .i64 a, .int .i64 b] 25)) 59 w.heap.size (w.heap.size + 1) (ok := fun q => q ≠ w.heap.size + 1 + 1) (xs := []) (inner := []) (okp := fun _ => False) s1.symm (Reps.none _ _) (fun _ hk => hk.elim) (by rw [s1]; omega) (by rw [s1]; omega) (by simp)
  rw [hW0]
  exact Kd.R_alloc this _⟩
 have HD0 : Aside0 (W0.ownsMap Tryz.prog 9 (plainElem (H := Unit) Tryz.prog 4) (w.heap.size + 1 + 1) 0 (ordD [])) := ⟨by rw [hW0, ← s2]; exact World.ownsMap_made _ _ _ _⟩
 have HK0 : Aside0 (W0.heap[w.heap.size]? = some (.cells #[.int .i64 a, .int .i64 b] 25 (0, 0))) := ⟨by rw [hW0]; exact blk_alloc (blk_alloc (blk_new w _) _) _⟩
 have HW0 := Aside0.mk hW0
 clear hW0 s1 s2
 go_enter Tryz.func34, Tryz.ntmps34
 go_wp2
 rw [← HW0.out]
 clear HW0 hmm
 go_loopg [6, 16] n (fun gg v6 v16 wr => ∃ (met rest : List ByteArray) (out : List S59) (i : Nat), v16 = .int .i64 (i : Int) ∧ i = met.length ∧ i + rest.length = n ∧ rest.length ≤ gg ∧ Aside0 (met.reverse ++ rest = l1) ∧ Aside0 (out.length ≤ i ∧ i ≤ 1000) ∧ Aside0 (impl_Lock_orderTurns.g k a b met rest out = some (r1, r2)) ∧
  Aside0 (Kd.R k59 59 wr w.heap.size (fun q => q ≠ w.heap.size + 1 + 1) v6 out) ∧ Aside0 (wr.ownsMap Tryz.prog 9 (plainElem (H := Unit) Tryz.prog 4) (w.heap.size + 1 + 1) i (ordD met)) ∧
  Aside0 (wr.heap[w.heap.size]? = some (.cells #[.int .i64 a, .int .i64 b] 25 (0, 0))) ∧ Aside0 (Below w.heap.size w wr))
 case atStart => exact ⟨[], l1, [], 0, rfl, rfl, by have := HN.out; omega, by have := HN.out; omega, ⟨rfl⟩, ⟨by simp⟩, HG, HO0, HD0, HK0, HB0⟩
 case round =>
  clear HO0 HD0 HK0 HB0 HG
  obtain ⟨met, rest, out, i, rfl, hi, hin, hg, HL, HLE, HG, HO, HD, HK, HB⟩ := hrel
  cases rest with
  | nil =>
   have hlt : decide (i < n) = false := decide_eq_false (by simp at hin; omega)
   obtain ⟨h1, h2⟩ : out = r1 ∧ true = r2 := by have := HG.out; simpa [impl_Lock_orderTurns.g] using this
   subst h1 h2
   clear hin hg hi HG HL
   obtain ⟨Ao, co, rfl⟩ := Kd.R_slice HO.out
   go_wp2
   go_ret2
   exact ⟨_, rfl, Kd.R_mono HO.out (fun _ _ => trivial), HB.out⟩
  | cons s rest =>
   have hlt : (i : Int) < (n : Int) := by simp at hin; omega
   have hltn : i < n := by omega
   have hltz : decide (i < n) = true := decide_eq_true hltn
   have h := HG.out
   rw [impl_Lock_orderTurns.g.eq_def] at h
   dsimp only at h
   obtain ⟨c, hc, h⟩ := Option.bind_eq_some_iff.mp h
   have hget : rdOf ByteArray.empty l1 (i : Int) = s := by
    have := HL.out
    rw [← this, hi]
    unfold rdOf
    rw [Int.toNat_natCast, List.getD_eq_getElem?_getD, List.getElem?_append_right (by simp)]
    simp
   obtain ⟨ad, ead, hx⟩ := Kd.at_string HR.out (i : Int) (by omega) hlt
   subst ead
   rw [hget, Int.toNat_natCast] at hx
   have hxr := (HB.out.cell (World.block_lt_of_cell? w _ hx)).trans hx
   have hk0 : wr.cell? ⟨w.heap.size, 0, none⟩ = some (.int .i64 a) := (blk_cell HK.out 0).trans rfl
   have hk1 : wr.cell? ⟨w.heap.size, 1, none⟩ = some (.int .i64 b) := (blk_cell HK.out 1).trans rfl
   have hf0 := blk_frozen HK.out 0
   have hf1 := blk_frozen HK.out 1
   have HXW := Aside0.mk hx
   have HC43 := Aside0.mk hc
   have HGO := Aside0.mk h
   have HIN := Aside0.mk hin
   have HGG := Aside0.mk hg
   have HI := Aside0.mk hi
   clear HG h hc hin hg hi hx
   cases c with
   | false =>
    have h := HGO.out
    rw [if_neg (by decide)] at h
    obtain ⟨h1, h2⟩ : [] = r1 ∧ false = r2 := by simpa using h
    subst h1 h2
    go_wp2_with (go_at_call 65; refine (impl_Lock_isCode.calls k a b s false _ HC43.out).mono ?_; rintro e w2 ⟨rfl, hb⟩; have HB2 := Aside0.mk hb; clear hb)
    go_ret2
    exact ⟨_, rfl, Kd.R_nil _ _ _ _ _, HB.out.trans (HB2.out.mono HB.out.size)⟩
   | true =>
    have h := HGO.out
    rw [if_pos rfl] at h
    clear HGO
    split at h
    case isFalse => exact absurd h (by simp)
    rename_i hsz
    have HSZ := Aside0.mk hsz
    clear hsz
    cases hm : hasB s met with
    | true =>
     rw [hm, if_pos rfl] at h
     obtain ⟨h1, h2⟩ : [] = r1 ∧ false = r2 := by simpa using h
     subst h1 h2
     go_wp2_with (go_at_call 65; refine (impl_Lock_isCode.calls k a b s true _ HC43.out).mono ?_; rintro e w2 ⟨rfl, hb⟩; have HD2 := Aside0.mk (HD.out.kept (grown_of_below hb none) (by simp)); have hlk := ord_look s HSZ.out _ w2 _ _ HD2.out; rw [hm] at hlk; have HO2 := Aside0.mk (Kd.R_below HO.out hb); have HK2 := Aside0.mk (blk_below HK.out hb); have HB2 := Aside0.mk (below_step HB.out hb); clear hb HD HO HK HB hk0 hk1 hf0 hf1 hxr)
     go_ret2
     exact ⟨_, rfl, Kd.R_nil _ _ _ _ _, HB2.out⟩
    | false =>
     rw [hm, if_neg (by decide)] at h
     by_cases hq : 1000 ≤ met.length
     ·rw [if_pos hq] at h
      obtain ⟨h1, h2⟩ : [] = r1 ∧ false = r2 := by simpa using h
      subst h1 h2
      have hq1 : (1000 : Int) ≤ (i : Int) := by have := HI.out; omega
      have hq2 : decide ((1000 : Int) ≤ (i : Int)) = true := decide_eq_true hq1
      go_wp2_with (go_at_call 65; refine (impl_Lock_isCode.calls k a b s true _ HC43.out).mono ?_; rintro e w2 ⟨rfl, hb⟩; have HD2 := Aside0.mk (HD.out.kept (grown_of_below hb none) (by simp)); have hlk := ord_look s HSZ.out _ w2 _ _ HD2.out; rw [hm] at hlk; have HO2 := Aside0.mk (Kd.R_below HO.out hb); have HK2 := Aside0.mk (blk_below HK.out hb); have HB2 := Aside0.mk (below_step HB.out hb); clear hb HD HO HK HB hk0 hk1 hf0 hf1 hxr)
      go_ret2
      exact ⟨_, rfl, Kd.R_nil _ _ _ _ _, HB2.out⟩
     ·rw [if_neg hq] at h
      have hq1 : (i : Int) < 1000 := by have := HI.out; omega
      have hq2 : decide ((1000 : Int) ≤ (i : Int)) = false := decide_eq_false (by omega)
      have HQ := Aside0.mk hq
      clear hq
      cases met with
      | nil =>
       dsimp only at h
       have hi0 : i = 0 := HI.out
       have hz : ((i : Int) == 0) = true := by simp [hi0]
       have HI0 := Aside0.mk hi0
       clear hi0
       have HGN := Aside0.mk h
       clear h
       go_wp2_with (go_at_call 65; refine (impl_Lock_isCode.calls k a b s true _ HC43.out).mono ?_; rintro e w2 ⟨rfl, hb⟩; have HD2 := Aside0.mk (HD.out.kept (grown_of_below hb none) (by simp)); have hlk := ord_look s HSZ.out _ w2 _ _ HD2.out; rw [hm] at hlk; have HO2 := Aside0.mk (Kd.R_below HO.out hb); have HK2 := Aside0.mk (blk_below HK.out hb); have HB2 := Aside0.mk (below_step HB.out hb); clear hb HD HO HK HB hk0 hk1 hf0 hf1 hxr; obtain ⟨w3, hst, hd3, hgr⟩ := ord_store s HSZ.out [] w2 _ _ (by omega) HD2.out; have HD3 := Aside0.mk hd3; have HO3 := Aside0.mk (Kd.R_grown HO2.out hgr (fun q hq => by intro e; injection e with e; exact hq e)); have HK3 := Aside0.mk (blk_grown HK2.out hgr (by intro e; injection e with e; omega)); have HB3 := Aside0.mk (pw_below_grown HB2.out _ HB2.out.size hgr (by intro q e; injection e with e; omega)); clear HD2 HO2 HK2 HB2 hgr hd3)
       go_roundg (rest.length)
       case measure => have := HGG.out; simp at this; omega
       case rel => exact ⟨[s], rest, out, i + 1, by simp, by have := HI0.out; simp; omega, by have := HIN.out; simp at this; omega, Nat.le_refl _, ⟨by have := HL.out; simpa using this⟩, ⟨by have := HLE.out; have := HI0.out; omega⟩, HGN, HO3, HD3, HK3, HB3⟩
      | cons p m =>
       dsimp only at h
       obtain ⟨⟨t1, t2, t3⟩, ht, h⟩ := Option.bind_eq_some_iff.mp h
       obtain ⟨j, hj⟩ : ∃ j, j = m.length := ⟨_, rfl⟩
       have hij : i = j + 1 := by have := HI.out; simp at this; omega
       have hz : ((i : Int) == 0) = false := by simp; omega
       have hw1 : IntKind.i64.wrap ((i : Int) - 1) = (j : Int) := by simp [IntKind.wrap, IntKind.bits, IntKind.signed]; omega
       have hgp : rdOf ByteArray.empty l1 (j : Int) = p := by
        have := HL.out
        rw [← this, hj]
        unfold rdOf
        rw [Int.toNat_natCast, List.getD_eq_getElem?_getD, List.reverse_cons, List.append_assoc, List.getElem?_append_right (by simp)]
        simp
       have hjn : (j : Int) < (n : Int) := by omega
       obtain ⟨ad', ead, hxp⟩ := Kd.at_string HR.out (j : Int) (by omega) hjn
       injection ead with ead
       subst ead
       rw [hgp, Int.toNat_natCast] at hxp
       have HXP := Aside0.mk hxp
       have HJ := Aside0.mk hj
       have HIJ := Aside0.mk hij
       have HT := Aside0.mk ht
       have HGN := Aside0.mk h
       clear h ht hxp hj hgp hij
       go_upto_region 9 with (go_at_call 65; refine (impl_Lock_isCode.calls k a b s true _ HC43.out).mono ?_; rintro e w2 ⟨rfl, hb⟩; have HD2 := Aside0.mk (HD.out.kept (grown_of_below hb none) (by simp)); have hlk := ord_look s HSZ.out _ w2 _ _ HD2.out; rw [hm] at hlk; have HO2 := Aside0.mk (Kd.R_below HO.out hb); have HK2 := Aside0.mk (blk_below HK.out hb); have HB2 := Aside0.mk (below_step HB.out hb); clear hb HD HO HK HB hk0 hk1 hf0 hf1 hxr; obtain ⟨w3, hst, hd3, hgr⟩ := ord_store s HSZ.out (p :: m) w2 _ _ (by omega) HD2.out; have HD3 := Aside0.mk hd3; have HO3 := Aside0.mk (Kd.R_grown HO2.out hgr (fun q hq => by intro e; injection e with e; exact hq e)); have HK3 := Aside0.mk (blk_grown HK2.out hgr (by intro e; injection e with e; omega)); have HB3 := Aside0.mk (pw_below_grown HB2.out _ HB2.out.size hgr (by intro q e; injection e with e; omega)); clear HD2 HO2 HK2 HB2 hgr hd3)
       have hk0 : w3.cell? ⟨w.heap.size, 0, none⟩ = some (.int .i64 a) := (blk_cell HK3.out 0).trans rfl
       have hk1 : w3.cell? ⟨w.heap.size, 1, none⟩ = some (.int .i64 b) := (blk_cell HK3.out 1).trans rfl
       have hxr := (HB3.out.cell (World.block_lt_of_cell? w _ HXP.out)).trans HXP.out
       have hk0a : (w3.alloc (.cells #[.int .i64 0, .int .i64 0] 59)).cell? ⟨w.heap.size, 0, none⟩ = some (.int .i64 a) := (World.cell?_alloc_lt _ _ _ (World.block_lt_of_cell? _ _ hk0)).trans hk0
       have hk1a : (w3.alloc (.cells #[.int .i64 0, .int .i64 0] 59)).cell? ⟨w.heap.size, 1, none⟩ = some (.int .i64 b) := (World.cell?_alloc_lt _ _ _ (World.block_lt_of_cell? _ _ hk1)).trans hk1
       have hxra : (w3.alloc (.cells #[.int .i64 0, .int .i64 0] 59)).cell? (ad.add j) = some (.string p) := (World.cell?_alloc_lt _ _ _ (World.block_lt_of_cell? _ _ hxr)).trans hxr
       go_cut [10, 11] from 38 to 48 (fun v10 v11 wx => ∃ g, v10 = .pointer (some ⟨g, 0, none⟩) ∧ v11 = .bool t3 ∧ Aside0 (wx.heap[g]? = some (.cells #[.int .i64 t1, .int .i64 t2] 59 (0, 0))) ∧ Aside0 (Kd.R k59 59 wx w.heap.size (fun q => q ≠ w.heap.size + 1 + 1 ∧ q ≠ g) u6 out) ∧
        Aside0 (wx.ownsMap Tryz.prog 9 (plainElem (H := Unit) Tryz.prog 4) (w.heap.size + 1 + 1) (i + 1) (ordD (s :: p :: m))) ∧ Aside0 (wx.heap[w.heap.size]? = some (.cells #[.int .i64 a, .int .i64 b] 25 (0, 0))) ∧ Aside0 (Below w.heap.size w wx))
       case first =>
        go_region_with (go_at_call 66; refine (impl_Lock_between.calls k a b p s t1 t2 t3 _ HT.out).mono ?_; rintro e w4 ⟨rfl, hb⟩; (first | (have hnb := blk_below (blk_drew (blk_new w3 (.cells #[.int .i64 0, .int .i64 0] 59))) hb; have hn0 := blk_cell hnb 0; have hn1 := blk_cell hnb 1; have hnf0 := blk_frozen hnb 0; have hnf1 := blk_frozen hnb 1; dsimp at hn0 hn1) | skip); have HB4 := Aside0.mk hb; clear hb)
        all_goals (go_wp2_with (fail); go_meet)
        all_goals first
         | exact ⟨w4.heap.size, rfl, rfl, ⟨blk_new _ _⟩, ⟨Kd.R_alloc (Kd.R_elderB (Kd.R_below (Kd.R_drew HO3.out) HB4.out) w4.heap.size (Nat.le_refl _)) _⟩, ⟨((HD3.out.drew).kept (grown_of_below HB4.out none) (by simp)).alloc _⟩, ⟨blk_alloc (blk_below (blk_drew HK3.out) HB4.out) _⟩, ⟨below_alloc (below_step (below_drew1 HB3.out) HB4.out) _⟩⟩
         | exact ⟨w3.heap.size, rfl, rfl, ⟨blk_put (cs := #[.int .i64 t1, .int .i64 0]) (blk_put (cs := #[.int .i64 0, .int .i64 0]) hnb 0 _ rfl) 1 _ rfl⟩, ⟨Kd.R_far (Kd.R_far (Kd.R_below (Kd.R_drew (Kd.R_alloc (Kd.R_elderB HO3.out w3.heap.size (Nat.le_refl _)) _)) HB4.out) (fun _ hq => hq.2) _) (fun _ hq => hq.2) _⟩, ⟨ord_far (ord_far ((HD3.out.alloc _).drew.kept (grown_of_below HB4.out none) (by simp)) (Nat.ne_of_lt HD3.out.lt) _) (Nat.ne_of_lt HD3.out.lt) _⟩, ⟨blk_far (blk_far (blk_below (blk_drew (blk_alloc HK3.out _)) HB4.out) (Nat.ne_of_lt (blk_lt HK3.out)) _) (Nat.ne_of_lt (blk_lt HK3.out)) _⟩, ⟨below_set (below_set (below_step (below_drew1 (below_alloc HB3.out _)) HB4.out) HB3.out.size) HB3.out.size⟩⟩
       case rest =>
        clear hk0 hk1 hk0a hk1a hxr hxra HO3 HD3 HK3 HB3 hlk hst hw1
        obtain ⟨g, rfl, rfl, HG10, HO4, HD4, HK4, HB4⟩ := hcut
        have hgc0 := blk_cell HG10.out 0
        have hgc1 := blk_cell HG10.out 1
        have hgf0 := blk_frozen HG10.out 0
        have hgf1 := blk_frozen HG10.out 1
        dsimp at hgc0 hgc1
        have h := HGN.out
        cases t3 with
        | false =>
         rw [if_neg (by decide)] at h
         obtain ⟨h1, h2⟩ : [] = r1 ∧ false = r2 := by simpa using h
         subst h1 h2
         go_wp2
         go_ret2
         exact ⟨_, rfl, Kd.R_nil _ _ _ _ _, HB4.out⟩
        | true =>
         rw [if_pos rfl] at h
         have HGN2 := Aside0.mk h
         clear h HGN
         have info46 : (Tryz.prog.info? 59).map (fun i => (i.zero, i.size, i.bytes)) = some (some (.agg #[(.int .i64 0), (.int .i64 0)]), 2, 16) := by kernel_rfl
         have HIN46 := Aside0.mk info46
         clear info46
         obtain ⟨Ao, co, ev6⟩ := Kd.R_slice HO4.out
         subst ev6
         go_wp2_with ((with_reducible refine gate_builtin (b := .append) (xs := #[.tmp 51, .tmp 53]) rfl ?_); at_builtin; refine Kd.R_append k59 (w0 := w) w.heap.size rfl (.tmp 51) (.tmp 53) 31 59 (.agg #[(.int .i64 0), (.int .i64 0)]) 16 rfl Tryz.underlying31 HIN46.out rfl (by decide) (by omega) (.slice Ao out.length co) out (⟨t1, t2⟩ : S59) [.int .i64 t1, .int .i64 t2] (fun q => q ≠ w.heap.size + 1 + 1 ∧ q ≠ g) (fun _ => False) rfl rfl ?aP (fun _ hk => hk.elim) ?aF ?aO ?aB ?aS ?aL ?_; (case aP => exact k59_mkM _ _ _ (⟨t1, t2⟩ : S59)); (case aB => exact HB4.out); (case aF => exact (fun q hq => by have h1 := HD4.out.lt; have h2 := blk_lt HG10.out; exact ⟨by omega, by omega⟩)); (case aO => exact HO4.out); (case aS => exact below_size HB4.out); (case aL => have := HLE.out; omega); intro v9 w9 ho hb hg hat; have HO9 := Aside0.mk ho; have HB9 := Aside0.mk hb; have HG9 := Aside0.mk hg; clear ho hb hg hat)
         go_roundg (rest.length)
         case measure => have := HGG.out; simp at this; omega
         case rel => exact ⟨s :: p :: m, rest, out ++ [⟨t1, t2⟩], i + 1, by simp, by have := HI.out; simp at this; simp; omega, by have := HIN.out; simp at this; omega, Nat.le_refl _, ⟨by have := HL.out; simpa using this⟩, ⟨by have := HLE.out; simp; omega⟩, HGN2, ⟨Kd.R_mono HO9.out (fun _ hq => hq.1)⟩, ⟨(HD4.out.kept HG9.out (ord_ne HO4.out HD4.out))⟩, ⟨blk_grown HK4.out HG9.out (Kd.R_ne HO4.out HK4.out (by decide))⟩, HB9⟩


/-! ### impl_IsTurnOrder: function 6 -/
def impl_IsTurnOrder.f (k : Nat) (a0_0 : Int) (a0_1 : Int) (l1 : List ByteArray) : Option (Bool × Bool) := (impl_IsLock.f a0_0 a0_1).bind fun t255 => (if t255 = true then ((impl_Lock_orderTurns.f k a0_0 a0_1 l1).bind fun bt256 => (some (bt256.2, true))) else (some (false, false)))
theorem impl_IsTurnOrder.mono : ∀ a0 a1 a2 k, LeO (impl_IsTurnOrder.f k a0 a1 a2) (impl_IsTurnOrder.f (k + 1) a0 a1 a2) := by
 intro a0 a1 a2 k
 unfold impl_IsTurnOrder.f
 repeat' first
   | (with_reducible first | exact impl_Lock_orderTurns.mono _ _ _ _ | exact LeO.refl _ | exact LeO.none _ | refine LeO.ite ?_ ?_ | refine LeO.bind ?_ (fun _ => ?_))
   | exact impl_Lock_orderTurns.mono _ _ _ _
   | exact LeO.none _
   | refine LeO.ite ?_ ?_
   | refine LeO.bind ?_ (fun _ => ?_)
theorem impl_IsTurnOrder.calls (k : Nat) (a0_0 : Int) (a0_1 : Int) (A1 : Option Addr) (c1 : Nat) (l1 : List ByteArray) (r1 : Bool) (r2 : Bool) (w : World) (hr1 : Kd.C Kd.string w A1 l1.length l1) (hc1 : l1.length ≤ c1) (h : impl_IsTurnOrder.f k a0_0 a0_1 l1 = some (r1, r2)) :
  Calls Tryz.prog 6 #[.agg #[.int .i64 a0_0, .int .i64 a0_1], .slice A1 l1.length c1] w fun e w' => e = .returned (.tuple #[.bool r1, .bool r2]) ∧ Below w.heap.size w w' := by
 have hu25 := Tryz.underlying25
 have HR1 := Aside0.mk hr1
 have HC1 := Aside0.mk hc1
 clear hr1 hc1
 have HB := Aside0.mk (Below.refl w.heap.size w)
 have H := h
 unfold impl_IsTurnOrder.f at H
 clear h
 replace H := Option.bind_eq_some_iff.mp H
 obtain ⟨t255, A30, H⟩ := H
 (try dsimp only at H)
 have A3 := Aside0.mk A30
 clear A30
 by_cases c4 : t255 = true
 ·subst c4
  replace H := zt H
  replace H := Option.bind_eq_some_iff.mp H
  obtain ⟨⟨t256, t259⟩, A50, H⟩ := H
  (try dsimp only at H)
  have A5 := Aside0.mk A50
  clear A50
  simp only [Option.some.injEq, Prod.mk.injEq] at H
  obtain ⟨rfl, rfl⟩ := H
  go_enter Tryz.func6, Tryz.ntmps6
  go_wp2_with (first | ((with_reducible refine gate_dst (N := 2) rfl ?_); refine box_event ?hg (N := 2) ?hd (cs := #[.int .i64 a0_0, .int .i64 a0_1]) (t := 25) ?hr ?_; (case hd => rfl); (case hg => rfl); (case hr => first | (go_simp; done) | (go_simp; rfl)); intro gb254 hg w6 hbox hb; have BK254 := Aside0.mk (hbox); have GW254 : Aside0 (w.heap.size ≤ gb254) := gW hg; have GE254 := GW254; replace HB := Aside0.mk (below_step bB hb); clear hb hbox hg; have hcz7_0 := cZ BK254 0 (.int .i64 a0_0); have hcz7_1 := cZ BK254 1 (.int .i64 a0_1); have hfz7_0 := blk_frozen BK254.out 0; have hfz7_1 := blk_frozen BK254.out 1) | ((with_reducible refine gate_callee (f := 33) rfl ?_); refine goesL_ (some 9) rfl rfl Tryz.func33 (by kernel_rfl) rfl #[.agg #[.int .i64 a0_0, .int .i64 a0_1]] rfl lM ?_; (with_reducible refine (impl_IsLock.calls a0_0 a0_1 true _ A3.out).mono ?_); rintro e w8 ⟨rfl, hb⟩; refine ⟨_, rfl, ?_⟩; replace BK254 := bW BK254 hb; replace HB := Aside0.mk (below_step bG hb); (try clear hb); have hcz9_0 := cZ BK254 0 (.int .i64 a0_0); have hcz9_1 := cZ BK254 1 (.int .i64 a0_1); have hfz9_0 := blk_frozen BK254.out 0; have hfz9_1 := blk_frozen BK254.out 1) | ((with_reducible refine gate_callee (f := 34) rfl ?_); refine goesL_ (some 14) rfl rfl Tryz.func34 (by kernel_rfl) rfl #[.agg #[.int .i64 a0_0, .int .i64 a0_1], .slice A1 l1.length c1] rfl lM ?_; (with_reducible refine (impl_Lock_orderTurns.calls k a0_0 a0_1 _ _ l1 t256 t259 _ ?side1 ?side2 A5.out).mono ?_); (case side1 => exact cS (Kd.C_below HR1.out HB.out)); (case side2 => exact HC1.out); rintro e w10 ⟨v257, rfl, ho0, hb⟩; refine ⟨_, rfl, ?_⟩; have HO258 := Aside0.mk (Kd.R_lower ho0 (below_size bG)); replace BK254 := bW BK254 hb; replace HB := Aside0.mk (below_step bG hb); (try clear hb); (try clear ho0)))
  go_ret2
  exact ⟨rE, bG⟩
 ·replace c4 := Bool.eq_false_iff.mpr c4
  subst c4
  replace H := zf H
  simp only [Option.some.injEq, Prod.mk.injEq] at H
  obtain ⟨rfl, rfl⟩ := H
  go_enter Tryz.func6, Tryz.ntmps6
  go_wp2_with (first | ((with_reducible refine gate_dst (N := 2) rfl ?_); refine box_event ?hg (N := 2) ?hd (cs := #[.int .i64 a0_0, .int .i64 a0_1]) (t := 25) ?hr ?_; (case hd => rfl); (case hg => rfl); (case hr => first | (go_simp; done) | (go_simp; rfl)); intro gb254 hg w11 hbox hb; have BK254 := Aside0.mk (hbox); have GW254 : Aside0 (w.heap.size ≤ gb254) := gW hg; have GE254 := GW254; replace HB := Aside0.mk (below_step bB hb); clear hb hbox hg; have hcz12_0 := cZ BK254 0 (.int .i64 a0_0); have hcz12_1 := cZ BK254 1 (.int .i64 a0_1); have hfz12_0 := blk_frozen BK254.out 0; have hfz12_1 := blk_frozen BK254.out 1) | ((with_reducible refine gate_callee (f := 33) rfl ?_); refine goesL_ (some 9) rfl rfl Tryz.func33 (by kernel_rfl) rfl #[.agg #[.int .i64 a0_0, .int .i64 a0_1]] rfl lM ?_; (with_reducible refine (impl_IsLock.calls a0_0 a0_1 false _ A3.out).mono ?_); rintro e w13 ⟨rfl, hb⟩; refine ⟨_, rfl, ?_⟩; replace BK254 := bW BK254 hb; replace HB := Aside0.mk (below_step bG hb); (try clear hb)))
  go_ret2
  exact ⟨rE, bG⟩

/-! ### spec_whFar: function 70 -/
def spec_whFar.f (a0_0 : Int) (a0_1 : Int) (a1 : Int) (a2 : Int) : Option (Int × Int) := (spec_l1Mod.f (wrap64 (a2 - a1)) a0_1).bind fun t261 => (if a0_1 = 0 then (none) else (some (t261, Int.tmod (wrap64 (a0_1 - t261)) a0_1)))
theorem spec_whFar.calls (a0_0 : Int) (a0_1 : Int) (a1 : Int) (a2 : Int) (r1 : Int) (r2 : Int) (w : World) (h : spec_whFar.f a0_0 a0_1 a1 a2 = some (r1, r2)) :
  Calls Tryz.prog 70 #[.agg #[.int .i64 a0_0, .int .i64 a0_1], .int .i64 a1, .int .i64 a2] w fun e w' => e = .returned (.tuple #[.int .i64 r1, .int .i64 r2]) ∧ Below w.heap.size w w' := by
 have hu25 := Tryz.underlying25
 have HB := Aside0.mk (Below.refl w.heap.size w)
 have H := h
 unfold spec_whFar.f at H
 clear h
 replace H := Option.bind_eq_some_iff.mp H
 obtain ⟨t261, A40, H⟩ := H
 (try dsimp only at H)
 have A4 := Aside0.mk A40
 clear A40
 replace H := nz' H; obtain ⟨c5, H⟩ := H
 have c5b0 : (a0_1 == 0) = false := beq_eq_false_iff_ne.mpr c5
 have c5b1 : (a0_1 != 0) = true := bne_iff_ne.mpr c5
 simp only [Option.some.injEq, Prod.mk.injEq] at H
 obtain ⟨rfl, rfl⟩ := H
 go_enter Tryz.func70, Tryz.ntmps70
 go_wp2_with (first | ((with_reducible refine gate_dst (N := 3) rfl ?_); refine box_event ?hg (N := 3) ?hd (cs := #[.int .i64 a0_0, .int .i64 a0_1]) (t := 25) ?hr ?_; (case hd => rfl); (case hg => rfl); (case hr => first | (go_simp; done) | (go_simp; rfl)); intro gb260 hg w6 hbox hb; have BK260 := Aside0.mk (hbox); have GW260 : Aside0 (w.heap.size ≤ gb260) := gW hg; have GE260 := GW260; replace HB := Aside0.mk (below_step bB hb); clear hb hbox hg; have hcz7_0 := cZ BK260 0 (.int .i64 a0_0); have hcz7_1 := cZ BK260 1 (.int .i64 a0_1); have hfz7_0 := blk_frozen BK260.out 0; have hfz7_1 := blk_frozen BK260.out 1) | (go_at_call 59; (with_reducible refine (spec_l1Mod.calls (wrap64 (a2 - a1)) a0_1 t261 _ A4.out).mono ?_); rintro e w' ⟨rfl, ⟨nd, rfl⟩⟩; (try first | exact ⟨rfl, _, World.drewN_drewN _ _ _⟩ | exact ⟨rfl, _, Eq.trans (World.drewN_drewN _ _ _) (congrArg (World.drewN _) (Nat.add_assoc _ _ _))⟩)))
 repeat (go_quiet (first | ((with_reducible refine gate_dst (N := 3) rfl ?_); refine box_event ?hg (N := 3) ?hd (cs := #[.int .i64 a0_0, .int .i64 a0_1]) (t := 25) ?hr ?_; (case hd => rfl); (case hg => rfl); (case hr => first | (go_simp; done) | (go_simp; rfl)); intro gb260 hg w6 hbox hb; have BK260 := Aside0.mk (hbox); have GW260 : Aside0 (w.heap.size ≤ gb260) := gW hg; have GE260 := GW260; replace HB := Aside0.mk (below_step bB hb); clear hb hbox hg; have hcz7_0 := cZ BK260 0 (.int .i64 a0_0); have hcz7_1 := cZ BK260 1 (.int .i64 a0_1); have hfz7_0 := blk_frozen BK260.out 0; have hfz7_1 := blk_frozen BK260.out 1) | (go_at_call 59; (with_reducible refine (spec_l1Mod.calls (wrap64 (a2 - a1)) a0_1 t261 _ A4.out).mono ?_); rintro e w' ⟨rfl, ⟨nd, rfl⟩⟩; (try first | exact ⟨rfl, _, World.drewN_drewN _ _ _⟩ | exact ⟨rfl, _, Eq.trans (World.drewN_drewN _ _ _) (congrArg (World.drewN _) (Nat.add_assoc _ _ _))⟩))); try go_wp2_with (first | ((with_reducible refine gate_dst (N := 3) rfl ?_); refine box_event ?hg (N := 3) ?hd (cs := #[.int .i64 a0_0, .int .i64 a0_1]) (t := 25) ?hr ?_; (case hd => rfl); (case hg => rfl); (case hr => first | (go_simp; done) | (go_simp; rfl)); intro gb260 hg w6 hbox hb; have BK260 := Aside0.mk (hbox); have GW260 : Aside0 (w.heap.size ≤ gb260) := gW hg; have GE260 := GW260; replace HB := Aside0.mk (below_step bB hb); clear hb hbox hg; have hcz7_0 := cZ BK260 0 (.int .i64 a0_0); have hcz7_1 := cZ BK260 1 (.int .i64 a0_1); have hfz7_0 := blk_frozen BK260.out 0; have hfz7_1 := blk_frozen BK260.out 1) | (go_at_call 59; (with_reducible refine (spec_l1Mod.calls (wrap64 (a2 - a1)) a0_1 t261 _ A4.out).mono ?_); rintro e w' ⟨rfl, ⟨nd, rfl⟩⟩; (try first | exact ⟨rfl, _, World.drewN_drewN _ _ _⟩ | exact ⟨rfl, _, Eq.trans (World.drewN_drewN _ _ _) (congrArg (World.drewN _) (Nat.add_assoc _ _ _))⟩))))
 go_ret2
 exact ⟨rE, bG⟩

end Go.Proofs.YthpmpkmdjpaemaaGreat.P
