-- Printed by hp.py, a program of this session: a machine's side of laws, out of the translation; Lean checks it.
import Derived.Test.YtcpnmiempaofdaaFx0
import Derived.Test.YtcpnmiempaofdaaFx1
import Derived.Test.YtcpnmiempaofdaaFx4
import Derived.Test.YtcpnmiempaofdaaFx7
namespace Go.Proofs.Ytcpnmiempaofdaa.F
open Go.RowKit Go.Proofs.YtcpnmiempaofdaaW.PrintWords Go.Proofs.YtcpnmiempaofdaaW.PrintLast Go.Proofs.YtcpnmiempaofdaaW.PrintMore
attribute [local go_sem] max2_int min2_int max_two min_two max_three min_three max_four min_four   -- for this text's walks alone
set_option maxHeartbeats 8000000
set_option maxRecDepth 100000
set_option linter.unusedVariables false
set_option linter.unusedSimpArgs false

/-! ### spec_hiAll: function 58 -/
def spec_hiAll.l0 : Nat → List ByteArray → Int → Int → Int → Option (List ByteArray)
 | 0, _, _, _, _ => none
 | k + 1, x3, x4, x210000, x210001 => (spec_whCount.f k x210000 x210001).bind fun t210 => (if x4 < t210 then ((spec_whOf.f k x210000 x210001 x4).bind fun t211 => (if x3.length < 8796093022208 then (spec_hiAll.l0 k (x3 ++ [t211]) (wrap64 (x4 + 1)) x210000 x210001) else (none))) else (some x3))
def spec_hiAll.f (k : Nat) (a0_0 : Int) (a0_1 : Int) : Option (List ByteArray) := spec_hiAll.l0 k ([] : List ByteArray) 0 a0_0 a0_1
theorem spec_hiAll.mono_l : ∀ k, (∀ y0 y1 y2 y3, LeO (spec_hiAll.l0 k y0 y1 y2 y3) (spec_hiAll.l0 (k + 1) y0 y1 y2 y3))
 | 0 => fun _ _ _ _ r h => by simp [spec_hiAll.l0] at h
 | k + 1 => by
  have ih0 := spec_hiAll.mono_l k
  ·intro y0 y1 y2 y3
   unfold spec_hiAll.l0
   repeat' first
   | (with_reducible first | exact ih0 _ _ _ _ | exact spec_whCount.mono _ _ _ | exact spec_whOf.mono _ _ _ _ | exact LeO.refl _ | exact LeO.none _ | refine LeO.ite ?_ ?_ | refine LeO.bind ?_ (fun _ => ?_))
   | exact ih0 _ _ _ _
   | exact spec_whCount.mono _ _ _
   | exact spec_whOf.mono _ _ _ _
   | exact LeO.none _
   | refine LeO.ite ?_ ?_
   | refine LeO.bind ?_ (fun _ => ?_)
theorem spec_hiAll.mono : ∀ a0 a1 k, LeO (spec_hiAll.f k a0 a1) (spec_hiAll.f (k + 1) a0 a1) := by
 intro a0 a1 k
 have ih0 := spec_hiAll.mono_l k
 unfold spec_hiAll.f
 repeat' first
   | (with_reducible first | exact ih0 _ _ _ _ | exact spec_whCount.mono _ _ _ | exact spec_whOf.mono _ _ _ _ | exact LeO.refl _ | exact LeO.none _ | refine LeO.ite ?_ ?_ | refine LeO.bind ?_ (fun _ => ?_))
   | exact ih0 _ _ _ _
   | exact spec_whCount.mono _ _ _
   | exact spec_whOf.mono _ _ _ _
   | exact LeO.none _
   | refine LeO.ite ?_ ?_
   | refine LeO.bind ?_ (fun _ => ?_)
theorem spec_hiAll.calls (k : Nat) (a0_0 : Int) (a0_1 : Int) (r : List ByteArray) (w : World) (h : spec_hiAll.f k a0_0 a0_1 = some r) :
  Calls Try.prog 58 #[.agg #[.int .i64 a0_0, .int .i64 a0_1]] w fun e w' => ∃ v0_ : Value, e = .returned (v0_) ∧ Kd.R Kd.string 9 w' w.heap.size (fun _ => True) v0_ r ∧ Below w.heap.size w w' := by
 have hu23 := Try.underlying23
 have HB := Aside0.mk (Below.refl w.heap.size w)
 have H := h
 unfold spec_hiAll.f at H
 clear h
 have H' := Aside0.mk H
 clear H
 go_enter Try.func58, Try.ntmps58
 go_wp2_with (first | ((with_reducible refine gate_dst (N := 1) rfl ?_); refine box_event ?hg (N := 1) ?hd (cs := #[.int .i64 a0_0, .int .i64 a0_1]) (t := 23) ?hr ?_; (case hd => rfl); (case hg => rfl); (case hr => first | (go_simp; done) | (go_simp; rfl)); intro gb209 hg w2 hbox hb; have BK209 := Aside0.mk (hbox); have GW209 : Aside0 (w.heap.size ≤ gb209) := gW hg; have GE209 := GW209; replace HB := Aside0.mk (below_step bB hb); clear hb hbox hg))
 go_loopg [3, 4] k (fun kq v3 v4 w' => ∃ (x3_1 : List ByteArray) (x4_1 : Int), v4 = .int .i64 x4_1 ∧ Aside0 (spec_hiAll.l0 kq x3_1 x4_1 a0_0 a0_1 = some r) ∧ Aside0 (kq ≤ k) ∧ Aside0 (Kd.R Kd.string 9 w' w.heap.size (fun _ => True) v3 x3_1) ∧ Aside0 (w'.heap[gb209]? = some (.cells #[.int .i64 a0_0, .int .i64 a0_1] 23 (0, 0))) ∧ Aside0 (Below w.heap.size w w'))
 case atStart => exact ⟨(([] : List ByteArray)), (0), fR, H', ⟨Nat.le_refl _⟩, ⟨by first | exact Kd.R_nil _ _ _ _ _ | exact Kd.N_nil _ _ _ _ _ | exact Kd.V_nil _ _ _ _ _ | exact Kd.Q_nil _ _ _ _ _ | exact Kd.S_nil _ _ _ _ _⟩, ⟨bK⟩, ⟨bG⟩⟩
 case round =>
  clear H'
  try clear p2
  obtain ⟨x3_1, x4_1, rfl, HA, HK1, HO_3, BK209, HB⟩ := hrel
  cases gk with
  | zero => exact absurd HA.out (by simp [spec_hiAll.l0])
  | succ k1 =>
   have H := HA.out
   clear HA
   simp only [spec_hiAll.l0] at H
   replace H := Option.bind_eq_some_iff.mp H
   obtain ⟨t210, A30, H⟩ := H
   (try dsimp only at H)
   have A3 := Aside0.mk A30
   clear A30
   by_cases c4 : x4_1 < t210
   ·rw [if_pos c4] at H
    have c4b0 : decide (x4_1 < t210) = true := decide_eq_true c4
    clear c4
    replace H := Option.bind_eq_some_iff.mp H
    obtain ⟨t211, A50, H⟩ := H
    (try dsimp only at H)
    have A5 := Aside0.mk A50
    clear A50
    replace H := nz H; obtain ⟨c6, H⟩ := H
    have LMc6 := Aside0.mk c6
    clear c6
    obtain ⟨y212, hy212⟩ : ∃ y_ : List ByteArray, y_ = (x3_1 ++ [t211]) := ⟨_, rfl⟩
    replace H : (spec_hiAll.l0 k1 y212 (wrap64 (x4_1 + 1)) a0_0 a0_1) = some r := hZ hy212 H
    have Ny212 := Aside0.mk hy212
    clear hy212
    have H' := Aside0.mk H
    clear H
    have hcz7_0 := cZ BK209 0 (.int .i64 a0_0)
    have hcz7_1 := cZ BK209 1 (.int .i64 a0_1)
    have hfz7_0 := blk_frozen BK209.out 0
    have hfz7_1 := blk_frozen BK209.out 1
    go_wp2_with (first | ((with_reducible refine gate_callee (f := 81) rfl ?_); refine goesL_ (some 7) rfl rfl Try.func81 (by kernel_rfl) rfl #[.agg #[.int .i64 a0_0, .int .i64 a0_1]] rfl lM ?_; (with_reducible refine (spec_whCount.calls k1 a0_0 a0_1 t210 _ A3.out).mono ?_); rintro e w8 ⟨rfl, hb⟩; refine ⟨_, rfl, ?_⟩; replace HO_3 := Aside0.mk (Kd.R_below (kR HO_3) hb); replace BK209 := bW BK209 hb; replace HB := Aside0.mk (below_step bG hb); (try clear hb); have hcz9_0 := cZ BK209 0 (.int .i64 a0_0); have hcz9_1 := cZ BK209 1 (.int .i64 a0_1); have hfz9_0 := blk_frozen BK209.out 0; have hfz9_1 := blk_frozen BK209.out 1) | ((with_reducible refine gate_callee (f := 63) rfl ?_); refine goesL_ (some 14) rfl rfl Try.func63 (by kernel_rfl) rfl #[.agg #[.int .i64 a0_0, .int .i64 a0_1], .int .i64 x4_1] rfl lM ?_; (with_reducible refine (spec_whOf.calls k1 a0_0 a0_1 x4_1 t211 _ A5.out).mono ?_); rintro e w10 ⟨rfl, hb⟩; refine ⟨_, rfl, ?_⟩; replace HO_3 := Aside0.mk (Kd.R_below (kR HO_3) hb); replace BK209 := bW BK209 hb; replace HB := Aside0.mk (below_step bG hb); (try clear hb)) | ((with_reducible refine gate_builtin (b := .append) (xs := #[.tmp 11, .tmp 15]) rfl ?_); at_builtin; refine Kd.R_append Kd.string (w0 := w) w.heap.size rfl (.tmp 11) (.tmp 15) 34 9 (.string ⟨#[]⟩) 16 rfl Try.underlying34 info9 rfl (by decide) (by omega) u3 x3_1 t211 [.string t211] (fun _ => True) (fun _ => False) rfl rfl ?aP (fun _ hk => hk.elim) ?aF ?aO ?aB ?aS ?aL ?_; (case aP => exact rfl); (case aB => exact bG); (case aF => exact (fun _ _ => trivial)); (case aO => exact (kR HO_3)); (case aS => exact (below_size bG)); (case aL => have := LMc6.out; omega); intro v213 w11 ho hb hg hat; rw [← Ny212.out] at ho; have n0_ := Aside0.mk (blk_grown (g := gb209) (o := .cells #[.int .i64 a0_0, .int .i64 a0_1] 23 (0, 0)) bK hg (Kd.R_ne HO_3.out BK209.out (by decide))); have n1_ := Aside0.mk (hb); have n2_ := Aside0.mk (ho); clear BK209; clear HB; clear HO_3; have BK209 := n0_; have HB := n1_; have HO214 := n2_; clear n0_ n1_ n2_; clear ho hb hg hat))
    go_roundg k1
    case measure => have := HK1.out; omega
    case rel => exact ⟨(y212), (wrap64 (x4_1 + 1)), fR, H', ⟨by have := HK1.out; omega⟩, ⟨kR HO214⟩, ⟨bK⟩, ⟨bG⟩⟩
   ·rw [if_neg c4] at H
    have c4b0 : decide (x4_1 < t210) = false := decide_eq_false c4
    clear c4
    obtain rfl := Option.some.inj H
    have hcz12_0 := cZ BK209 0 (.int .i64 a0_0)
    have hcz12_1 := cZ BK209 1 (.int .i64 a0_1)
    have hfz12_0 := blk_frozen BK209.out 0
    have hfz12_1 := blk_frozen BK209.out 1
    go_wp2_with (first | ((with_reducible refine gate_callee (f := 81) rfl ?_); refine goesL_ (some 7) rfl rfl Try.func81 (by kernel_rfl) rfl #[.agg #[.int .i64 a0_0, .int .i64 a0_1]] rfl lM ?_; (with_reducible refine (spec_whCount.calls k1 a0_0 a0_1 t210 _ A3.out).mono ?_); rintro e w13 ⟨rfl, hb⟩; refine ⟨_, rfl, ?_⟩; replace HO_3 := Aside0.mk (Kd.R_below (kR HO_3) hb); replace BK209 := bW BK209 hb; replace HB := Aside0.mk (below_step bG hb); (try clear hb)))
    go_ret
    exact ⟨_, rE, kR HO_3, bG⟩

/-! ### spec_hiParts: function 59 -/
def spec_hiParts.l0 : Nat → Int → ByteArray → List Int → List ByteArray → Int → Int → Option (List Int)
 | 0, _, _, _, _, _, _ => none
 | k + 1, x0, x1, x7, x18, x19, x20 => if x20 < x19 then (if 0 ≤ x20 then (if x20 < (x18.length : Int) then ((spec_hiOf.f x1 (rdOf ByteArray.empty x18 x20)).bind fun bt219 => (if 0 ≤ (wrap64 ((wrap64 (bt219.1 * (wrap64 (x0 + 1)))) + bt219.2)) then (if (wrap64 ((wrap64 (bt219.1 * (wrap64 (x0 + 1)))) + bt219.2)) < (x7.length : Int) then (spec_hiParts.l0 k x0 x1 (x7.set ((wrap64 ((wrap64 (bt219.1 * (wrap64 (x0 + 1)))) + bt219.2)) : Int).toNat (wrap64 ((rd x7 (wrap64 ((wrap64 (bt219.1 * (wrap64 (x0 + 1)))) + bt219.2))) + 1))) x18 x19 (wrap64 (x20 + 1))) else (none)) else (none))) else (none)) else (none)) else (some x7)
def spec_hiParts.f (k : Nat) (a0 : Int) (a1 : ByteArray) (l2 : List ByteArray) : Option (List Int) := if 0 ≤ (wrap64 ((wrap64 (a0 + 1)) * (wrap64 (a0 + 1)))) then (if (wrap64 ((wrap64 (a0 + 1)) * (wrap64 (a0 + 1))) : Int).toNat ≤ 35184372088832 then (spec_hiParts.l0 k a0 a1 (List.replicate (wrap64 ((wrap64 (a0 + 1)) * (wrap64 (a0 + 1))) : Int).toNat 0) l2 (l2.length : Int) 0) else (none)) else (none)
theorem spec_hiParts.mono_l : ∀ k, (∀ y0 y1 y2 y3 y4 y5, LeO (spec_hiParts.l0 k y0 y1 y2 y3 y4 y5) (spec_hiParts.l0 (k + 1) y0 y1 y2 y3 y4 y5))
 | 0 => fun _ _ _ _ _ _ r h => by simp [spec_hiParts.l0] at h
 | k + 1 => by
  have ih0 := spec_hiParts.mono_l k
  ·intro y0 y1 y2 y3 y4 y5
   unfold spec_hiParts.l0
   repeat' first
   | (with_reducible first | exact ih0 _ _ _ _ _ _ | exact LeO.refl _ | exact LeO.none _ | refine LeO.ite ?_ ?_ | refine LeO.bind ?_ (fun _ => ?_))
   | exact ih0 _ _ _ _ _ _
   | exact LeO.none _
   | refine LeO.ite ?_ ?_
   | refine LeO.bind ?_ (fun _ => ?_)
theorem spec_hiParts.mono : ∀ a0 a1 a2 k, LeO (spec_hiParts.f k a0 a1 a2) (spec_hiParts.f (k + 1) a0 a1 a2) := by
 intro a0 a1 a2 k
 have ih0 := spec_hiParts.mono_l k
 unfold spec_hiParts.f
 repeat' first
   | (with_reducible first | exact ih0 _ _ _ _ _ _ | exact LeO.refl _ | exact LeO.none _ | refine LeO.ite ?_ ?_ | refine LeO.bind ?_ (fun _ => ?_))
   | exact ih0 _ _ _ _ _ _
   | exact LeO.none _
   | refine LeO.ite ?_ ?_
   | refine LeO.bind ?_ (fun _ => ?_)
theorem spec_hiParts.calls (k : Nat) (a0 : Int) (a1 : ByteArray) (A2 : Option Addr) (c2 : Nat) (l2 : List ByteArray) (r : List Int) (w : World) (hr2 : Kd.C Kd.string w A2 l2.length l2) (hc2 : l2.length ≤ c2) (h : spec_hiParts.f k a0 a1 l2 = some r) :
  Calls Try.prog 59 #[.int .i64 a0, .string a1, .slice A2 l2.length c2] w fun e w' => ∃ v0_ : Value, e = .returned (v0_) ∧ Kd.R (Kd.int .i64) 3 w' w.heap.size (fun _ => True) v0_ r ∧ Below w.heap.size w w' := by
 have HR2 := Aside0.mk hr2
 have HC2 := Aside0.mk hc2
 clear hr2 hc2
 have HB := Aside0.mk (Below.refl w.heap.size w)
 have H := h
 unfold spec_hiParts.f at H
 clear h
 obtain ⟨ji4, hji4⟩ : ∃ j_ : Int, (wrap64 ((wrap64 (a0 + 1)) * (wrap64 (a0 + 1)))) = j_ := ⟨_, rfl⟩
 replace H : (if 0 ≤ (ji4) then (if (ji4 : Int).toNat ≤ 35184372088832 then (spec_hiParts.l0 k a0 a1 (List.replicate (ji4 : Int).toNat 0) l2 (l2.length : Int) 0) else (none)) else (none)) = some r := by first | (rw [hji4] at H; exact H) | (simp only [hji4] at H ⊢; exact H)
 have hji4w : (IntKind.i64.wrap ((wrap64 (a0 + 1)) * (wrap64 (a0 + 1)))) = ji4 := (i64_w _).trans hji4
 replace H := nz H; obtain ⟨c5, H⟩ := H
 have c5b0 := eq_true c5
 have c5b1 : decide (0 ≤ (ji4)) = true := decide_eq_true c5
 clear c5
 replace H := nz H; obtain ⟨c6, H⟩ := H
 have c6b0 := eq_true c6
 have c6b1 : decide ((ji4 : Int).toNat ≤ 35184372088832) = true := decide_eq_true c6
 clear c6
 obtain ⟨y215, hy215⟩ : ∃ y_ : List Int, y_ = (List.replicate (ji4 : Int).toNat 0) := ⟨_, rfl⟩
 replace H : (spec_hiParts.l0 k a0 a1 y215 l2 (l2.length : Int) 0) = some r := hZ hy215 H
 have Ny215 := Aside0.mk hy215
 clear hy215
 have H' := Aside0.mk H
 clear H
 go_enter Try.func59, Try.ntmps59
 go_wp2_with (first | ((with_reducible refine gate_dst (N := 17) rfl ?_); refine Kd.R_make (Kd.int .i64) _ 3 rfl (N := 17) rfl 48 _ _ rfl ji4 rfl rfl Try.underlying48 (.int .i64 0) 8 info3 rfl (by decide) (by omega) 0 (ok := fun _ => True) (okp := fun _ => True) rfl (fun _ hk => hk) trivial (oD) (Nat.le_trans (Nat.mul_le_mul_right _ (oD : ji4.toNat ≤ 35184372088832)) (by omega)) (Below.refl _ _) (Nat.le_refl _) ?_; intro v216 w7 ho8 hb hg_ hnew_; clear hg_ hnew_; (first | rw [← Ny215.out] at ho8 | (simp only [Int.reduceToNat] at ho8; rw [← Ny215.out] at ho8)); have HO217 := Aside0.mk (Kd.R_lower ho8 (below_size bB)); replace HB := Aside0.mk (below_step bB hb); clear hb ho8))
 go_loopg [20] k (fun kq v20 w' => ∃ (x7_1 : List Int) (x20_1 : Int), v20 = .int .i64 x20_1 ∧ Aside0 (spec_hiParts.l0 kq a0 a1 x7_1 l2 (l2.length : Int) x20_1 = some r) ∧ Aside0 (kq ≤ k) ∧ Aside0 (Kd.R (Kd.int .i64) 3 w' w.heap.size (fun _ => True) v216 x7_1) ∧ Aside0 (Below w.heap.size w w'))
 case atStart => exact ⟨(y215), (0), fR, H', ⟨Nat.le_refl _⟩, ⟨kR HO217⟩, ⟨bB⟩⟩
 case round =>
  clear H'
  try clear c2
  try clear p2
  try clear c5
  try clear c5b0
  try clear c5b1
  try clear c6
  try clear c6b0
  try clear c6b1
  try clear p6
  obtain ⟨x7_1, x20_1, rfl, HA, HK1, HO_7, HB⟩ := hrel
  cases gk with
  | zero => exact absurd HA.out (by simp [spec_hiParts.l0])
  | succ k1 =>
   have H := HA.out
   clear HA
   simp only [spec_hiParts.l0] at H
   by_cases c9 : x20_1 < (l2.length : Int)
   ·rw [if_pos c9] at H
    have c9b0 : decide (x20_1 < (l2.length : Int)) = true := decide_eq_true c9
    clear c9
    replace H := nz H; obtain ⟨c10, H⟩ := H
    have c10b0 : decide (0 ≤ x20_1) = true := decide_eq_true c10
    clear c10
    replace H := nz H; obtain ⟨c11, H⟩ := H
    have c11b0 : decide (x20_1 < (l2.length : Int)) = true := decide_eq_true c11
    clear c11
    replace H := Option.bind_eq_some_iff.mp H
    obtain ⟨⟨t219, t220⟩, A120, H⟩ := H
    (try dsimp only at H)
    have A12 := Aside0.mk A120
    clear A120
    obtain ⟨ji13, hji13⟩ : ∃ j_ : Int, (wrap64 ((wrap64 (t219 * (wrap64 (a0 + 1)))) + t220)) = j_ := ⟨_, rfl⟩
    replace H : (if 0 ≤ (ji13) then (if (ji13) < (x7_1.length : Int) then (spec_hiParts.l0 k1 a0 a1 (x7_1.set ((ji13) : Int).toNat (wrap64 ((rd x7_1 (ji13)) + 1))) l2 (l2.length : Int) (wrap64 (x20_1 + 1))) else (none)) else (none)) = some r := by first | (rw [hji13] at H; exact H) | (simp only [hji13] at H ⊢; exact H)
    (try rw [hji13] at A12)
    have hji13w : (IntKind.i64.wrap ((wrap64 (t219 * (wrap64 (a0 + 1)))) + t220)) = ji13 := (i64_w _).trans hji13
    replace H := nz H; obtain ⟨c14, H⟩ := H
    have c14b0 : decide (0 ≤ (ji13)) = true := decide_eq_true c14
    clear c14
    replace H := nz H; obtain ⟨c15, H⟩ := H
    have c15b0 : decide ((ji13) < (x7_1.length : Int)) = true := decide_eq_true c15
    clear c15
    obtain ⟨y222, hy222⟩ : ∃ y_ : List Int, y_ = (x7_1.set ((ji13) : Int).toNat (wrap64 ((rd x7_1 (ji13)) + 1))) := ⟨_, rfl⟩
    replace H : (spec_hiParts.l0 k1 a0 a1 y222 l2 (l2.length : Int) (wrap64 (x20_1 + 1))) = some r := hZ hy222 H
    have Ny222 := Aside0.mk hy222
    clear hy222
    have H' := Aside0.mk H
    clear H
    have p218 : 0 ≤ (x20_1 : Int) := oD
    have q218 : x20_1 < (l2.length : Int) := oD
    obtain ⟨ad218, e218, hx218_0⟩ := Kd.at_string HR2.out x20_1 p218 q218
    cases e218
    replace hx218_0 := (HB.out.cell (World.block_lt_of_cell? w _ hx218_0)).trans hx218_0
    replace p218 := eq_true p218
    replace q218 := eq_true q218
    go_wp2_with (first | ((with_reducible refine gate_callee (f := 66) rfl ?_); refine goesL_ (some 27) rfl rfl Try.func66 (by kernel_rfl) rfl #[.string a1, .string (rdOf ByteArray.empty l2 x20_1)] rfl lM ?_; (with_reducible refine (spec_hiOf.calls a1 (rdOf ByteArray.empty l2 x20_1) t219 t220 _ A12.out).mono ?_); rintro e w17 ⟨rfl, hb⟩; refine ⟨_, rfl, ?_⟩; replace HO_7 := Aside0.mk (Kd.R_below (kR HO_7) hb); replace HB := Aside0.mk (below_step bB hb); (try clear hb); obtain ⟨Ao18, co18, eo18⟩ := Kd.R_slice HO_7.out; subst eo18; have p221 : 0 ≤ ((ji13) : Int) := oD; have q221 : (ji13) < (x7_1.length : Int) := oD; obtain ⟨ad221, e221, hx221_0⟩ := Kd.at_int (Kd.R_reads' HO_7.out).2.2 (ji13) p221 q221; cases e221; replace p221 := eq_true p221; replace q221 := eq_true q221; have p16 : 0 ≤ ((ji13) : Int) := oD; have q16 : ((ji13) : Int) < ((x7_1.length : Int) : Int) := oD; obtain ⟨go16, co16, eo16, gb16, gl16, cl16, HG16⟩ := Kd.R_form HO_7.out (by omega); (first | cases eo16 | (injection eo16 with ea_ en_ ec_; (first | subst ea_ | (injection ea_ with ea_; subst ea_)); subst ec_; clear en_)); have GB16 := Aside0.mk gb16; have GG16 := Aside0.mk HG16; clear gb16 gl16 HG16; (first | simp only [add_plain] at hx221_0 | skip); obtain ⟨hx16_0, hf16_0⟩ := Kd.R_celln 0 HO_7.out ((ji13) : Int) p16 q16; replace p16 := eq_true p16; replace q16 := eq_true q16; obtain ⟨hy19_, hz19_⟩ := Kd.R_celln 0 HO_7.out ((ji13) : Int) (oD) (oD); have HP19 := Kd.R_putg HO_7.out ((ji13) : Int) (wrap64 ((rd x7_1 (ji13)) + 1))) | ((with_reducible refine gate_store (t := 3) (p := 40) rfl ?_); refine store_event (t := 3) (p := 40) (v := ?vo_w20) (w1 := (w17.setCell ⟨go16, ((ji13) : Int).toNat, none⟩ (.int .i64 (wrap64 ((rd x7_1 (ji13)) + 1))))) ?hg ?ho ?hn ?hr ?_; (case ho => rfl); (case hg => rfl); (case hn => rfl); (case hr => first | (go_simp; done) | (go_simp; rfl)); intro w20 hw; have hg : w17.grownBy w20 (some go16) := (by rw [hw]; exact HP19.2); have hp_ : Kd.R (Kd.int .i64) 3 w20 w.heap.size (fun _ => True) (.slice (some ⟨go16, 0, none⟩) x7_1.length co18) y222 := (by rw [hw, Ny222.out]; exact HP19.1); clear HP19; replace HO_7 := Aside0.mk (hp_); replace HB := Aside0.mk ((by rw [hw]; exact below_set (HB.out) GB16.out : Below w.heap.size w w20)); clear hg hw hp_))
    go_roundg k1
    case measure => have := HK1.out; omega
    case rel => exact ⟨(y222), (wrap64 (x20_1 + 1)), fR, H', ⟨by have := HK1.out; omega⟩, ⟨kR HO_7⟩, ⟨bB⟩⟩
   ·rw [if_neg c9] at H
    have c9b0 : decide (x20_1 < (l2.length : Int)) = false := decide_eq_false c9
    clear c9
    obtain rfl := Option.some.inj H
    go_wp2
    go_ret
    exact ⟨_, by first | rfl | (simp [errW_none, errW_some] <;> rfl) | (simp only [← hji4]; first | rfl | (simp [errW_none, errW_some] <;> rfl)) | (simp [*, errW_none, errW_some] <;> rfl), kR HO_7, bB⟩

/-! ### spec_hiFits: function 75 -/
def spec_hiFits.l0 : Nat → ByteArray → List (S31) → Int → Int → Option (Bool)
 | 0, _, _, _, _ => none
 | k + 1, x1, x9, x10, x11 => if x11 < x10 then (if 0 ≤ x11 then (if x11 < (x9.length : Int) then ((spec_hiOf.f ((rd_T31 x9 x11).f0) x1).bind fun bt225 => (if bt225.1 = ((rd_T31 x9 x11).f1) then (if bt225.2 = ((rd_T31 x9 x11).f2) then (spec_hiFits.l0 k x1 x9 x10 (wrap64 (x11 + 1))) else (some false)) else (some false))) else (none)) else (none)) else (some true)
def spec_hiFits.f (k : Nat) (l0 : List (S31)) (a1 : ByteArray) : Option (Bool) := spec_hiFits.l0 k a1 l0 (l0.length : Int) 0
theorem spec_hiFits.mono_l : ∀ k, (∀ y0 y1 y2 y3, LeO (spec_hiFits.l0 k y0 y1 y2 y3) (spec_hiFits.l0 (k + 1) y0 y1 y2 y3))
 | 0 => fun _ _ _ _ r h => by simp [spec_hiFits.l0] at h
 | k + 1 => by
  have ih0 := spec_hiFits.mono_l k
  ·intro y0 y1 y2 y3
   unfold spec_hiFits.l0
   repeat' first
   | (with_reducible first | exact ih0 _ _ _ _ | exact LeO.refl _ | exact LeO.none _ | refine LeO.ite ?_ ?_ | refine LeO.bind ?_ (fun _ => ?_))
   | exact ih0 _ _ _ _
   | exact LeO.none _
   | refine LeO.ite ?_ ?_
   | refine LeO.bind ?_ (fun _ => ?_)
theorem spec_hiFits.mono : ∀ a0 a1 k, LeO (spec_hiFits.f k a0 a1) (spec_hiFits.f (k + 1) a0 a1) := by
 intro a0 a1 k
 have ih0 := spec_hiFits.mono_l k
 unfold spec_hiFits.f
 repeat' first
   | (with_reducible first | exact ih0 _ _ _ _ | exact LeO.refl _ | exact LeO.none _ | refine LeO.ite ?_ ?_ | refine LeO.bind ?_ (fun _ => ?_))
   | exact ih0 _ _ _ _
   | exact LeO.none _
   | refine LeO.ite ?_ ?_
   | refine LeO.bind ?_ (fun _ => ?_)
theorem spec_hiFits.calls (k : Nat) (A0 : Option Addr) (c0 : Nat) (l0 : List (S31)) (a1 : ByteArray) (r : Bool) (w : World) (hr0 : Kd.C k31 w A0 l0.length l0) (hc0 : l0.length ≤ c0) (h : spec_hiFits.f k l0 a1 = some r) :
  Calls Try.prog 75 #[.slice A0 l0.length c0, .string a1] w fun e w' => e = .returned (.bool r) ∧ Below w.heap.size w w' := by
 have hu31 := Try.underlying31
 have HR0 := Aside0.mk hr0
 have HC0 := Aside0.mk hc0
 clear hr0 hc0
 have HB := Aside0.mk (Below.refl w.heap.size w)
 have H := h
 unfold spec_hiFits.f at H
 clear h
 have H' := Aside0.mk H
 clear H
 go_enter Try.func75, Try.ntmps75
 go_wp2
 go_loopg [11] k (fun kq v11 w' => ∃ (x11_1 : Int), v11 = .int .i64 x11_1 ∧ Aside0 (spec_hiFits.l0 kq a1 l0 (l0.length : Int) x11_1 = some r) ∧ Aside0 (kq ≤ k) ∧ Aside0 (Below w.heap.size w w'))
 case atStart => exact ⟨(0), fR, H', ⟨Nat.le_refl _⟩, ⟨bB⟩⟩
 case round =>
  clear H'
  try clear p2
  obtain ⟨x11_1, rfl, HA, HK1, HB⟩ := hrel
  cases gk with
  | zero => exact absurd HA.out (by simp [spec_hiFits.l0])
  | succ k1 =>
   have H := HA.out
   clear HA
   simp only [spec_hiFits.l0] at H
   by_cases c3 : x11_1 < (l0.length : Int)
   ·rw [if_pos c3] at H
    have c3b0 : decide (x11_1 < (l0.length : Int)) = true := decide_eq_true c3
    clear c3
    replace H := nz H; obtain ⟨c4, H⟩ := H
    have c4b0 : decide (0 ≤ x11_1) = true := decide_eq_true c4
    clear c4
    replace H := nz H; obtain ⟨c5, H⟩ := H
    have c5b0 : decide (x11_1 < (l0.length : Int)) = true := decide_eq_true c5
    clear c5
    replace H := Option.bind_eq_some_iff.mp H
    obtain ⟨⟨t225, t226⟩, A60, H⟩ := H
    (try dsimp only at H)
    have A6 := Aside0.mk A60
    clear A60
    by_cases c7 : t225 = ((rd_T31 l0 x11_1).f1)
    ·rw [if_pos c7] at H
     have c7b0 : (t225 == ((rd_T31 l0 x11_1).f1)) = true := beq_iff_eq.mpr c7
     have c7b1 : (t225 != ((rd_T31 l0 x11_1).f1)) = false := bne_eq_false_iff_eq.mpr c7
     clear c7
     by_cases c8 : t226 = ((rd_T31 l0 x11_1).f2)
     ·rw [if_pos c8] at H
      have c8b0 : (t226 == ((rd_T31 l0 x11_1).f2)) = true := beq_iff_eq.mpr c8
      have c8b1 : (t226 != ((rd_T31 l0 x11_1).f2)) = false := bne_eq_false_iff_eq.mpr c8
      clear c8
      have H' := Aside0.mk H
      clear H
      have p223 : 0 ≤ (x11_1 : Int) := oD
      have q223 : x11_1 < (l0.length : Int) := oD
      obtain ⟨ad223, e223, hx223_0, hx223_1, hx223_2⟩ := at_T31 HR0.out x11_1 p223 q223
      cases e223
      replace hx223_0 := (HB.out.cell (World.block_lt_of_cell? w _ hx223_0)).trans hx223_0
      replace hx223_1 := (HB.out.cell (World.block_lt_of_cell? w _ hx223_1)).trans hx223_1
      replace hx223_2 := (HB.out.cell (World.block_lt_of_cell? w _ hx223_2)).trans hx223_2
      replace p223 := eq_true p223
      replace q223 := eq_true q223
      go_wp2_with (first | ((with_reducible refine gate_dst (N := 6) rfl ?_); refine box_event ?hg (N := 6) ?hd (cs := #[.string (⟨#[]⟩ : ByteArray), .int .i64 0, .int .i64 0]) (t := 31) ?hr ?_; (case hd => rfl); (case hg => rfl); (case hr => first | (go_simp; done) | (go_simp; rfl)); intro gb224 hg w9 hbox hb; have BK224 := Aside0.mk (hbox); have GW224 : Aside0 (w.heap.size ≤ gb224) := gW hg; have GE224 := GW224; replace HB := Aside0.mk (below_step bB hb); clear hb hbox hg; have hcz10_0 := cZ BK224 0 (.string (⟨#[]⟩ : ByteArray)); have hcz10_1 := cZ BK224 1 (.int .i64 0); have hcz10_2 := cZ BK224 2 (.int .i64 0); have hfz10_0 := blk_frozen BK224.out 0; have hfz10_1 := blk_frozen BK224.out 1; have hfz10_2 := blk_frozen BK224.out 2) | ((with_reducible refine gate_callee (f := 66) rfl ?_); refine goesL_ (some 19) rfl rfl Try.func66 (by kernel_rfl) rfl #[.string ((rd_T31 l0 x11_1).f0), .string a1] rfl lM ?_; (with_reducible refine (spec_hiOf.calls ((rd_T31 l0 x11_1).f0) a1 t225 t226 _ A6.out).mono ?_); rintro e w11 ⟨rfl, hb⟩; refine ⟨_, rfl, ?_⟩; replace BK224 := Aside0.mk (blk_below (g := gb224) (o := .cells #[.string ((rd_T31 l0 x11_1).f0), .int .i64 ((rd_T31 l0 x11_1).f1), .int .i64 ((rd_T31 l0 x11_1).f2)] 31 (0, 0)) (by (with_reducible repeat (first | refine blk_drewN ?_ _ | refine blk_drew ?_ | refine blk_alloc ?_ _)); refine blk_put (cs := #[.string ((rd_T31 l0 x11_1).f0), .int .i64 ((rd_T31 l0 x11_1).f1), .int .i64 0]) ?_ 2 _ rfl; (with_reducible repeat (first | refine blk_drewN ?_ _ | refine blk_drew ?_ | refine blk_alloc ?_ _)); refine blk_put (cs := #[.string ((rd_T31 l0 x11_1).f0), .int .i64 0, .int .i64 0]) ?_ 1 _ rfl; (with_reducible repeat (first | refine blk_drewN ?_ _ | refine blk_drew ?_ | refine blk_alloc ?_ _)); refine blk_put (cs := #[.string (⟨#[]⟩ : ByteArray), .int .i64 0, .int .i64 0]) ?_ 0 _ rfl; (with_reducible repeat (first | refine blk_drewN ?_ _ | refine blk_drew ?_ | refine blk_alloc ?_ _)); exact BK224.out) hb); replace HB := Aside0.mk (below_step bG hb); (try clear hb); have hcz12_0 := cZ BK224 0 (.string ((rd_T31 l0 x11_1).f0)); have hcz12_1 := cZ BK224 1 (.int .i64 ((rd_T31 l0 x11_1).f1)); have hcz12_2 := cZ BK224 2 (.int .i64 ((rd_T31 l0 x11_1).f2)); have hfz12_0 := blk_frozen BK224.out 0; have hfz12_1 := blk_frozen BK224.out 1; have hfz12_2 := blk_frozen BK224.out 2))
      go_roundg k1
      case measure => have := HK1.out; omega
      case rel => exact ⟨(wrap64 (x11_1 + 1)), fR, H', ⟨by have := HK1.out; omega⟩, ⟨bG⟩⟩
     ·rw [if_neg c8] at H
      have c8b0 : (t226 == ((rd_T31 l0 x11_1).f2)) = false := beq_eq_false_iff_ne.mpr c8
      have c8b1 : (t226 != ((rd_T31 l0 x11_1).f2)) = true := bne_iff_ne.mpr c8
      obtain rfl := Option.some.inj H
      have p223 : 0 ≤ (x11_1 : Int) := oD
      have q223 : x11_1 < (l0.length : Int) := oD
      obtain ⟨ad223, e223, hx223_0, hx223_1, hx223_2⟩ := at_T31 HR0.out x11_1 p223 q223
      cases e223
      replace hx223_0 := (HB.out.cell (World.block_lt_of_cell? w _ hx223_0)).trans hx223_0
      replace hx223_1 := (HB.out.cell (World.block_lt_of_cell? w _ hx223_1)).trans hx223_1
      replace hx223_2 := (HB.out.cell (World.block_lt_of_cell? w _ hx223_2)).trans hx223_2
      replace p223 := eq_true p223
      replace q223 := eq_true q223
      go_wp2_with (first | ((with_reducible refine gate_dst (N := 6) rfl ?_); refine box_event ?hg (N := 6) ?hd (cs := #[.string (⟨#[]⟩ : ByteArray), .int .i64 0, .int .i64 0]) (t := 31) ?hr ?_; (case hd => rfl); (case hg => rfl); (case hr => first | (go_simp; done) | (go_simp; rfl)); intro gb224 hg w13 hbox hb; have BK224 := Aside0.mk (hbox); have GW224 : Aside0 (w.heap.size ≤ gb224) := gW hg; have GE224 := GW224; replace HB := Aside0.mk (below_step bB hb); clear hb hbox hg; have hcz14_0 := cZ BK224 0 (.string (⟨#[]⟩ : ByteArray)); have hcz14_1 := cZ BK224 1 (.int .i64 0); have hcz14_2 := cZ BK224 2 (.int .i64 0); have hfz14_0 := blk_frozen BK224.out 0; have hfz14_1 := blk_frozen BK224.out 1; have hfz14_2 := blk_frozen BK224.out 2) | ((with_reducible refine gate_callee (f := 66) rfl ?_); refine goesL_ (some 19) rfl rfl Try.func66 (by kernel_rfl) rfl #[.string ((rd_T31 l0 x11_1).f0), .string a1] rfl lM ?_; (with_reducible refine (spec_hiOf.calls ((rd_T31 l0 x11_1).f0) a1 t225 t226 _ A6.out).mono ?_); rintro e w15 ⟨rfl, hb⟩; refine ⟨_, rfl, ?_⟩; replace BK224 := Aside0.mk (blk_below (g := gb224) (o := .cells #[.string ((rd_T31 l0 x11_1).f0), .int .i64 ((rd_T31 l0 x11_1).f1), .int .i64 ((rd_T31 l0 x11_1).f2)] 31 (0, 0)) (by (with_reducible repeat (first | refine blk_drewN ?_ _ | refine blk_drew ?_ | refine blk_alloc ?_ _)); refine blk_put (cs := #[.string ((rd_T31 l0 x11_1).f0), .int .i64 ((rd_T31 l0 x11_1).f1), .int .i64 0]) ?_ 2 _ rfl; (with_reducible repeat (first | refine blk_drewN ?_ _ | refine blk_drew ?_ | refine blk_alloc ?_ _)); refine blk_put (cs := #[.string ((rd_T31 l0 x11_1).f0), .int .i64 0, .int .i64 0]) ?_ 1 _ rfl; (with_reducible repeat (first | refine blk_drewN ?_ _ | refine blk_drew ?_ | refine blk_alloc ?_ _)); refine blk_put (cs := #[.string (⟨#[]⟩ : ByteArray), .int .i64 0, .int .i64 0]) ?_ 0 _ rfl; (with_reducible repeat (first | refine blk_drewN ?_ _ | refine blk_drew ?_ | refine blk_alloc ?_ _)); exact BK224.out) hb); replace HB := Aside0.mk (below_step bG hb); (try clear hb); have hcz16_0 := cZ BK224 0 (.string ((rd_T31 l0 x11_1).f0)); have hcz16_1 := cZ BK224 1 (.int .i64 ((rd_T31 l0 x11_1).f1)); have hcz16_2 := cZ BK224 2 (.int .i64 ((rd_T31 l0 x11_1).f2)); have hfz16_0 := blk_frozen BK224.out 0; have hfz16_1 := blk_frozen BK224.out 1; have hfz16_2 := blk_frozen BK224.out 2))
      go_ret
      exact ⟨rE, bG⟩
    ·rw [if_neg c7] at H
     have c7b0 : (t225 == ((rd_T31 l0 x11_1).f1)) = false := beq_eq_false_iff_ne.mpr c7
     have c7b1 : (t225 != ((rd_T31 l0 x11_1).f1)) = true := bne_iff_ne.mpr c7
     obtain rfl := Option.some.inj H
     have p223 : 0 ≤ (x11_1 : Int) := oD
     have q223 : x11_1 < (l0.length : Int) := oD
     obtain ⟨ad223, e223, hx223_0, hx223_1, hx223_2⟩ := at_T31 HR0.out x11_1 p223 q223
     cases e223
     replace hx223_0 := (HB.out.cell (World.block_lt_of_cell? w _ hx223_0)).trans hx223_0
     replace hx223_1 := (HB.out.cell (World.block_lt_of_cell? w _ hx223_1)).trans hx223_1
     replace hx223_2 := (HB.out.cell (World.block_lt_of_cell? w _ hx223_2)).trans hx223_2
     replace p223 := eq_true p223
     replace q223 := eq_true q223
     go_wp2_with (first | ((with_reducible refine gate_dst (N := 6) rfl ?_); refine box_event ?hg (N := 6) ?hd (cs := #[.string (⟨#[]⟩ : ByteArray), .int .i64 0, .int .i64 0]) (t := 31) ?hr ?_; (case hd => rfl); (case hg => rfl); (case hr => first | (go_simp; done) | (go_simp; rfl)); intro gb224 hg w17 hbox hb; have BK224 := Aside0.mk (hbox); have GW224 : Aside0 (w.heap.size ≤ gb224) := gW hg; have GE224 := GW224; replace HB := Aside0.mk (below_step bB hb); clear hb hbox hg; have hcz18_0 := cZ BK224 0 (.string (⟨#[]⟩ : ByteArray)); have hcz18_1 := cZ BK224 1 (.int .i64 0); have hcz18_2 := cZ BK224 2 (.int .i64 0); have hfz18_0 := blk_frozen BK224.out 0; have hfz18_1 := blk_frozen BK224.out 1; have hfz18_2 := blk_frozen BK224.out 2) | ((with_reducible refine gate_callee (f := 66) rfl ?_); refine goesL_ (some 19) rfl rfl Try.func66 (by kernel_rfl) rfl #[.string ((rd_T31 l0 x11_1).f0), .string a1] rfl lM ?_; (with_reducible refine (spec_hiOf.calls ((rd_T31 l0 x11_1).f0) a1 t225 t226 _ A6.out).mono ?_); rintro e w19 ⟨rfl, hb⟩; refine ⟨_, rfl, ?_⟩; replace BK224 := Aside0.mk (blk_below (g := gb224) (o := .cells #[.string ((rd_T31 l0 x11_1).f0), .int .i64 ((rd_T31 l0 x11_1).f1), .int .i64 ((rd_T31 l0 x11_1).f2)] 31 (0, 0)) (by (with_reducible repeat (first | refine blk_drewN ?_ _ | refine blk_drew ?_ | refine blk_alloc ?_ _)); refine blk_put (cs := #[.string ((rd_T31 l0 x11_1).f0), .int .i64 ((rd_T31 l0 x11_1).f1), .int .i64 0]) ?_ 2 _ rfl; (with_reducible repeat (first | refine blk_drewN ?_ _ | refine blk_drew ?_ | refine blk_alloc ?_ _)); refine blk_put (cs := #[.string ((rd_T31 l0 x11_1).f0), .int .i64 0, .int .i64 0]) ?_ 1 _ rfl; (with_reducible repeat (first | refine blk_drewN ?_ _ | refine blk_drew ?_ | refine blk_alloc ?_ _)); refine blk_put (cs := #[.string (⟨#[]⟩ : ByteArray), .int .i64 0, .int .i64 0]) ?_ 0 _ rfl; (with_reducible repeat (first | refine blk_drewN ?_ _ | refine blk_drew ?_ | refine blk_alloc ?_ _)); exact BK224.out) hb); replace HB := Aside0.mk (below_step bG hb); (try clear hb); have hcz20_0 := cZ BK224 0 (.string ((rd_T31 l0 x11_1).f0)); have hcz20_1 := cZ BK224 1 (.int .i64 ((rd_T31 l0 x11_1).f1)); have hcz20_2 := cZ BK224 2 (.int .i64 ((rd_T31 l0 x11_1).f2)); have hfz20_0 := blk_frozen BK224.out 0; have hfz20_1 := blk_frozen BK224.out 1; have hfz20_2 := blk_frozen BK224.out 2))
     go_ret
     exact ⟨rE, bG⟩
   ·rw [if_neg c3] at H
    have c3b0 : decide (x11_1 < (l0.length : Int)) = false := decide_eq_false c3
    clear c3
    obtain rfl := Option.some.inj H
    go_wp2
    go_ret
    exact ⟨rE, bB⟩

/-! ### spec_hiFitting: function 64 -/
def spec_hiFitting.l0 : Nat → List (S31) → List ByteArray → List ByteArray → Int → Int → Option (List ByteArray)
 | 0, _, _, _, _, _ => none
 | k + 1, x1, x5, x8, x9, x10 => if x10 < x9 then (if 0 ≤ x10 then (if x10 < (x8.length : Int) then ((spec_hiFits.f k x1 (rdOf ByteArray.empty x8 x10)).bind fun t228 => (if t228 = true then (if x5.length < 8796093022208 then (spec_hiFitting.l0 k x1 (x5 ++ [rdOf ByteArray.empty x8 x10]) x8 x9 (wrap64 (x10 + 1))) else (none)) else (spec_hiFitting.l0 k x1 x5 x8 x9 (wrap64 (x10 + 1))))) else (none)) else (none)) else (some x5)
def spec_hiFitting.f (k : Nat) (l0 : List ByteArray) (l1 : List (S31)) : Option (List ByteArray) := spec_hiFitting.l0 k l1 ([] : List ByteArray) l0 (l0.length : Int) 0
theorem spec_hiFitting.mono_l : ∀ k, (∀ y0 y1 y2 y3 y4, LeO (spec_hiFitting.l0 k y0 y1 y2 y3 y4) (spec_hiFitting.l0 (k + 1) y0 y1 y2 y3 y4))
 | 0 => fun _ _ _ _ _ r h => by simp [spec_hiFitting.l0] at h
 | k + 1 => by
  have ih0 := spec_hiFitting.mono_l k
  ·intro y0 y1 y2 y3 y4
   unfold spec_hiFitting.l0
   repeat' first
   | (with_reducible first | exact ih0 _ _ _ _ _ | exact spec_hiFits.mono _ _ _ | exact LeO.refl _ | exact LeO.none _ | refine LeO.ite ?_ ?_ | refine LeO.bind ?_ (fun _ => ?_))
   | exact ih0 _ _ _ _ _
   | exact spec_hiFits.mono _ _ _
   | exact LeO.none _
   | refine LeO.ite ?_ ?_
   | refine LeO.bind ?_ (fun _ => ?_)
theorem spec_hiFitting.mono : ∀ a0 a1 k, LeO (spec_hiFitting.f k a0 a1) (spec_hiFitting.f (k + 1) a0 a1) := by
 intro a0 a1 k
 have ih0 := spec_hiFitting.mono_l k
 unfold spec_hiFitting.f
 repeat' first
   | (with_reducible first | exact ih0 _ _ _ _ _ | exact spec_hiFits.mono _ _ _ | exact LeO.refl _ | exact LeO.none _ | refine LeO.ite ?_ ?_ | refine LeO.bind ?_ (fun _ => ?_))
   | exact ih0 _ _ _ _ _
   | exact spec_hiFits.mono _ _ _
   | exact LeO.none _
   | refine LeO.ite ?_ ?_
   | refine LeO.bind ?_ (fun _ => ?_)
theorem spec_hiFitting.calls (k : Nat) (A0 : Option Addr) (c0 : Nat) (l0 : List ByteArray) (A1 : Option Addr) (c1 : Nat) (l1 : List (S31)) (r : List ByteArray) (w : World) (hr0 : Kd.C Kd.string w A0 l0.length l0) (hc0 : l0.length ≤ c0) (hr1 : Kd.C k31 w A1 l1.length l1) (hc1 : l1.length ≤ c1) (h : spec_hiFitting.f k l0 l1 = some r) :
  Calls Try.prog 64 #[.slice A0 l0.length c0, .slice A1 l1.length c1] w fun e w' => ∃ v0_ : Value, e = .returned (v0_) ∧ Kd.R Kd.string 9 w' w.heap.size (fun _ => True) v0_ r ∧ Below w.heap.size w w' := by
 have HR0 := Aside0.mk hr0
 have HC0 := Aside0.mk hc0
 clear hr0 hc0
 have HR1 := Aside0.mk hr1
 have HC1 := Aside0.mk hc1
 clear hr1 hc1
 have HB := Aside0.mk (Below.refl w.heap.size w)
 have H := h
 unfold spec_hiFitting.f at H
 clear h
 have H' := Aside0.mk H
 clear H
 go_enter Try.func64, Try.ntmps64
 go_wp2
 go_loopg [5, 10] k (fun kq v5 v10 w' => ∃ (x5_1 : List ByteArray) (x10_1 : Int), v10 = .int .i64 x10_1 ∧ Aside0 (spec_hiFitting.l0 kq l1 x5_1 l0 (l0.length : Int) x10_1 = some r) ∧ Aside0 (kq ≤ k) ∧ Aside0 (Kd.R Kd.string 9 w' w.heap.size (fun _ => True) v5 x5_1) ∧ Aside0 (Below w.heap.size w w'))
 case atStart => exact ⟨(([] : List ByteArray)), (0), fR, H', ⟨Nat.le_refl _⟩, ⟨by first | exact Kd.R_nil _ _ _ _ _ | exact Kd.N_nil _ _ _ _ _ | exact Kd.V_nil _ _ _ _ _ | exact Kd.Q_nil _ _ _ _ _ | exact Kd.S_nil _ _ _ _ _⟩, ⟨bB⟩⟩
 case round =>
  clear H'
  try clear c1
  try clear p2
  obtain ⟨x5_1, x10_1, rfl, HA, HK1, HO_5, HB⟩ := hrel
  cases gk with
  | zero => exact absurd HA.out (by simp [spec_hiFitting.l0])
  | succ k1 =>
   have H := HA.out
   clear HA
   simp only [spec_hiFitting.l0] at H
   by_cases c3 : x10_1 < (l0.length : Int)
   ·rw [if_pos c3] at H
    have c3b0 : decide (x10_1 < (l0.length : Int)) = true := decide_eq_true c3
    clear c3
    replace H := nz H; obtain ⟨c4, H⟩ := H
    have c4b0 : decide (0 ≤ x10_1) = true := decide_eq_true c4
    clear c4
    replace H := nz H; obtain ⟨c5, H⟩ := H
    have c5b0 : decide (x10_1 < (l0.length : Int)) = true := decide_eq_true c5
    clear c5
    replace H := Option.bind_eq_some_iff.mp H
    obtain ⟨t228, A60, H⟩ := H
    (try dsimp only at H)
    have A6 := Aside0.mk A60
    clear A60
    by_cases c7 : t228 = true
    ·subst c7
     replace H := zt H
     replace H := nz H; obtain ⟨c8, H⟩ := H
     have LMc8 := Aside0.mk c8
     clear c8
     obtain ⟨y229, hy229⟩ : ∃ y_ : List ByteArray, y_ = (x5_1 ++ [rdOf ByteArray.empty l0 x10_1]) := ⟨_, rfl⟩
     replace H : (spec_hiFitting.l0 k1 l1 y229 l0 (l0.length : Int) (wrap64 (x10_1 + 1))) = some r := hZ hy229 H
     have Ny229 := Aside0.mk hy229
     clear hy229
     have H' := Aside0.mk H
     clear H
     have p227 : 0 ≤ (x10_1 : Int) := oD
     have q227 : x10_1 < (l0.length : Int) := oD
     obtain ⟨ad227, e227, hx227_0⟩ := Kd.at_string HR0.out x10_1 p227 q227
     cases e227
     replace hx227_0 := (HB.out.cell (World.block_lt_of_cell? w _ hx227_0)).trans hx227_0
     replace p227 := eq_true p227
     replace q227 := eq_true q227
     go_wp2_with (first | ((with_reducible refine gate_callee (f := 75) rfl ?_); refine goesL_ (some 16) rfl rfl Try.func75 (by kernel_rfl) rfl #[.slice A1 l1.length c1, .string (rdOf ByteArray.empty l0 x10_1)] rfl lM ?_; (with_reducible refine (spec_hiFits.calls k1 _ _ l1 (rdOf ByteArray.empty l0 x10_1) true _ ?side1 ?side2 A6.out).mono ?_); (case side1 => exact cS (Kd.C_below HR1.out HB.out)); (case side2 => exact HC1.out); rintro e w9 ⟨rfl, hb⟩; refine ⟨_, rfl, ?_⟩; replace HO_5 := Aside0.mk (Kd.R_below (kR HO_5) hb); replace HB := Aside0.mk (below_step bB hb); (try clear hb)) | ((with_reducible refine gate_builtin (b := .append) (xs := #[.tmp 17, .tmp 19]) rfl ?_); at_builtin; refine Kd.R_append Kd.string (w0 := w) w.heap.size rfl (.tmp 17) (.tmp 19) 34 9 (.string ⟨#[]⟩) 16 rfl Try.underlying34 info9 rfl (by decide) (by omega) u5 x5_1 (rdOf ByteArray.empty l0 x10_1) [.string (rdOf ByteArray.empty l0 x10_1)] (fun _ => True) (fun _ => False) rfl rfl ?aP (fun _ hk => hk.elim) ?aF ?aO ?aB ?aS ?aL ?_; (case aP => exact rfl); (case aB => exact bB); (case aF => exact (fun _ _ => trivial)); (case aO => exact (kR HO_5)); (case aS => exact (below_size bB)); (case aL => have := LMc8.out; omega); intro v230 w10 ho hb hg hat; rw [← Ny229.out] at ho; have n0_ := Aside0.mk (hb); have n1_ := Aside0.mk (ho); clear HB; clear HO_5; have HB := n0_; have HO231 := n1_; clear n0_ n1_; clear ho hb hg hat))
     go_roundg k1
     case measure => have := HK1.out; omega
     case rel => exact ⟨(y229), (wrap64 (x10_1 + 1)), fR, H', ⟨by have := HK1.out; omega⟩, ⟨kR HO231⟩, ⟨bB⟩⟩
    ·replace c7 := Bool.eq_false_iff.mpr c7
     subst c7
     replace H := zf H
     have H' := Aside0.mk H
     clear H
     have p227 : 0 ≤ (x10_1 : Int) := oD
     have q227 : x10_1 < (l0.length : Int) := oD
     obtain ⟨ad227, e227, hx227_0⟩ := Kd.at_string HR0.out x10_1 p227 q227
     cases e227
     replace hx227_0 := (HB.out.cell (World.block_lt_of_cell? w _ hx227_0)).trans hx227_0
     replace p227 := eq_true p227
     replace q227 := eq_true q227
     go_wp2_with (first | ((with_reducible refine gate_callee (f := 75) rfl ?_); refine goesL_ (some 16) rfl rfl Try.func75 (by kernel_rfl) rfl #[.slice A1 l1.length c1, .string (rdOf ByteArray.empty l0 x10_1)] rfl lM ?_; (with_reducible refine (spec_hiFits.calls k1 _ _ l1 (rdOf ByteArray.empty l0 x10_1) false _ ?side1 ?side2 A6.out).mono ?_); (case side1 => exact cS (Kd.C_below HR1.out HB.out)); (case side2 => exact HC1.out); rintro e w11 ⟨rfl, hb⟩; refine ⟨_, rfl, ?_⟩; replace HO_5 := Aside0.mk (Kd.R_below (kR HO_5) hb); replace HB := Aside0.mk (below_step bB hb); (try clear hb)))
     go_roundg k1
     case measure => have := HK1.out; omega
     case rel => exact ⟨(x5_1), (wrap64 (x10_1 + 1)), fR, H', ⟨by have := HK1.out; omega⟩, ⟨kR HO_5⟩, ⟨bB⟩⟩
   ·rw [if_neg c3] at H
    have c3b0 : decide (x10_1 < (l0.length : Int)) = false := decide_eq_false c3
    clear c3
    obtain rfl := Option.some.inj H
    go_wp2
    go_ret
    exact ⟨_, rE, kR HO_5, bB⟩

/-! ### spec_hiTold: function 62 -/
def spec_hiTold.f (a0_0 : Int) (a0_1 : Int) (a1 : Int) (a2 : Int) : Option (Bool) := (spec_l1In.f a1 0 a0_0).bind fun t233 => (if t233 = true then ((spec_l1In.f a2 0 (wrap64 (a0_0 - a1))).bind fun t234 => (some t234)) else (some false))
theorem spec_hiTold.calls (a0_0 : Int) (a0_1 : Int) (a1 : Int) (a2 : Int) (r : Bool) (w : World) (h : spec_hiTold.f a0_0 a0_1 a1 a2 = some r) :
  Calls Try.prog 62 #[.agg #[.int .i64 a0_0, .int .i64 a0_1], .int .i64 a1, .int .i64 a2] w fun e w' => e = .returned (.bool r) ∧ Below w.heap.size w w' := by
 have hu23 := Try.underlying23
 have HB := Aside0.mk (Below.refl w.heap.size w)
 have H := h
 unfold spec_hiTold.f at H
 clear h
 replace H := Option.bind_eq_some_iff.mp H
 obtain ⟨t233, A40, H⟩ := H
 (try dsimp only at H)
 have A4 := Aside0.mk A40
 clear A40
 by_cases c5 : t233 = true
 ·subst c5
  replace H := zt H
  replace H := Option.bind_eq_some_iff.mp H
  obtain ⟨t234, A60, H⟩ := H
  (try dsimp only at H)
  have A6 := Aside0.mk A60
  clear A60
  obtain rfl := Option.some.inj H
  go_enter Try.func62, Try.ntmps62
  go_wp2_with (first | ((with_reducible refine gate_dst (N := 3) rfl ?_); refine box_event ?hg (N := 3) ?hd (cs := #[.int .i64 a0_0, .int .i64 a0_1]) (t := 23) ?hr ?_; (case hd => rfl); (case hg => rfl); (case hr => first | (go_simp; done) | (go_simp; rfl)); intro gb232 hg w7 hbox hb; have BK232 := Aside0.mk (hbox); have GW232 : Aside0 (w.heap.size ≤ gb232) := gW hg; have GE232 := GW232; replace HB := Aside0.mk (below_step bB hb); clear hb hbox hg; have hcz8_0 := cZ BK232 0 (.int .i64 a0_0); have hcz8_1 := cZ BK232 1 (.int .i64 a0_1); have hfz8_0 := blk_frozen BK232.out 0; have hfz8_1 := blk_frozen BK232.out 1) | ((with_reducible refine gate_callee (f := 82) rfl ?_); refine goesL_ (some 10) rfl rfl Try.func82 (by kernel_rfl) rfl #[.int .i64 a1, .int .i64 0, .int .i64 a0_0] rfl lM ?_; (with_reducible refine (spec_l1In.calls a1 0 a0_0 true _ A4.out).mono ?_); rintro e w' ⟨rfl, ⟨nd, rfl⟩⟩; refine ⟨_, rfl, ?_⟩) | (go_at_call 82; (with_reducible refine (spec_l1In.calls a2 0 (wrap64 (a0_0 - a1)) t234 _ A6.out).mono ?_); rintro e w' ⟨rfl, ⟨nd, rfl⟩⟩))
  go_ret
  exact ⟨rE, bG⟩
 ·replace c5 := Bool.eq_false_iff.mpr c5
  subst c5
  replace H := zf H
  obtain rfl := Option.some.inj H
  go_enter Try.func62, Try.ntmps62
  go_wp2_with (first | ((with_reducible refine gate_dst (N := 3) rfl ?_); refine box_event ?hg (N := 3) ?hd (cs := #[.int .i64 a0_0, .int .i64 a0_1]) (t := 23) ?hr ?_; (case hd => rfl); (case hg => rfl); (case hr => first | (go_simp; done) | (go_simp; rfl)); intro gb232 hg w9 hbox hb; have BK232 := Aside0.mk (hbox); have GW232 : Aside0 (w.heap.size ≤ gb232) := gW hg; have GE232 := GW232; replace HB := Aside0.mk (below_step bB hb); clear hb hbox hg; have hcz10_0 := cZ BK232 0 (.int .i64 a0_0); have hcz10_1 := cZ BK232 1 (.int .i64 a0_1); have hfz10_0 := blk_frozen BK232.out 0; have hfz10_1 := blk_frozen BK232.out 1) | ((with_reducible refine gate_callee (f := 82) rfl ?_); refine goesL_ (some 10) rfl rfl Try.func82 (by kernel_rfl) rfl #[.int .i64 a1, .int .i64 0, .int .i64 a0_0] rfl lM ?_; (with_reducible refine (spec_l1In.calls a1 0 a0_0 false _ A4.out).mono ?_); rintro e w' ⟨rfl, ⟨nd, rfl⟩⟩; refine ⟨_, rfl, ?_⟩))
  go_ret
  exact ⟨rE, bG⟩

/-! ### spec_hiGood: function 74 -/
def spec_hiGood.l0 : Nat → List (S31) → Int → Int → Int → Int → Option (Bool)
 | 0, _, _, _, _, _ => none
 | k + 1, x10, x11, x12, x236000, x236001 => if x12 < x11 then (if 0 ≤ x12 then (if x12 < (x10.length : Int) then ((spec_whCode.f k x236000 x236001 ((rd_T31 x10 x12).f0)).bind fun t238 => (if t238 = true then ((spec_hiTold.f x236000 x236001 ((rd_T31 x10 x12).f1) ((rd_T31 x10 x12).f2)).bind fun t239 => (if t239 = true then (spec_hiGood.l0 k x10 x11 (wrap64 (x12 + 1)) x236000 x236001) else (some false))) else (some false))) else (none)) else (none)) else (some true)
def spec_hiGood.f (k : Nat) (a0_0 : Int) (a0_1 : Int) (l1 : List (S31)) : Option (Bool) := if (l1.length : Int) > 10 then (some false) else (spec_hiGood.l0 k l1 (l1.length : Int) 0 a0_0 a0_1)
theorem spec_hiGood.mono_l : ∀ k, (∀ y0 y1 y2 y3 y4, LeO (spec_hiGood.l0 k y0 y1 y2 y3 y4) (spec_hiGood.l0 (k + 1) y0 y1 y2 y3 y4))
 | 0 => fun _ _ _ _ _ r h => by simp [spec_hiGood.l0] at h
 | k + 1 => by
  have ih0 := spec_hiGood.mono_l k
  ·intro y0 y1 y2 y3 y4
   unfold spec_hiGood.l0
   repeat' first
   | (with_reducible first | exact ih0 _ _ _ _ _ | exact spec_whCode.mono _ _ _ _ | exact LeO.refl _ | exact LeO.none _ | refine LeO.ite ?_ ?_ | refine LeO.bind ?_ (fun _ => ?_))
   | exact ih0 _ _ _ _ _
   | exact spec_whCode.mono _ _ _ _
   | exact LeO.none _
   | refine LeO.ite ?_ ?_
   | refine LeO.bind ?_ (fun _ => ?_)
theorem spec_hiGood.mono : ∀ a0 a1 a2 k, LeO (spec_hiGood.f k a0 a1 a2) (spec_hiGood.f (k + 1) a0 a1 a2) := by
 intro a0 a1 a2 k
 have ih0 := spec_hiGood.mono_l k
 unfold spec_hiGood.f
 repeat' first
   | (with_reducible first | exact ih0 _ _ _ _ _ | exact spec_whCode.mono _ _ _ _ | exact LeO.refl _ | exact LeO.none _ | refine LeO.ite ?_ ?_ | refine LeO.bind ?_ (fun _ => ?_))
   | exact ih0 _ _ _ _ _
   | exact spec_whCode.mono _ _ _ _
   | exact LeO.none _
   | refine LeO.ite ?_ ?_
   | refine LeO.bind ?_ (fun _ => ?_)
theorem spec_hiGood.calls (k : Nat) (a0_0 : Int) (a0_1 : Int) (A1 : Option Addr) (c1 : Nat) (l1 : List (S31)) (r : Bool) (w : World) (hr1 : Kd.C k31 w A1 l1.length l1) (hc1 : l1.length ≤ c1) (h : spec_hiGood.f k a0_0 a0_1 l1 = some r) :
  Calls Try.prog 74 #[.agg #[.int .i64 a0_0, .int .i64 a0_1], .slice A1 l1.length c1] w fun e w' => e = .returned (.bool r) ∧ Below w.heap.size w w' := by
 have hu23 := Try.underlying23
 have hu31 := Try.underlying31
 have HR1 := Aside0.mk hr1
 have HC1 := Aside0.mk hc1
 clear hr1 hc1
 have HB := Aside0.mk (Below.refl w.heap.size w)
 have H := h
 unfold spec_hiGood.f at H
 clear h
 by_cases c3 : (l1.length : Int) > 10
 ·rw [if_pos c3] at H
  have c3b0 : decide (10 < (l1.length : Int)) = true := decide_eq_true c3
  have c3b1 : decide (10 < l1.length) = true := decide_eq_true (by omega)
  clear c3
  obtain rfl := Option.some.inj H
  go_enter Try.func74, Try.ntmps74
  go_wp2_with (first | ((with_reducible refine gate_dst (N := 2) rfl ?_); refine box_event ?hg (N := 2) ?hd (cs := #[.int .i64 a0_0, .int .i64 a0_1]) (t := 23) ?hr ?_; (case hd => rfl); (case hg => rfl); (case hr => first | (go_simp; done) | (go_simp; rfl)); intro gb235 hg w4 hbox hb; have BK235 := Aside0.mk (hbox); have GW235 : Aside0 (w.heap.size ≤ gb235) := gW hg; have GE235 := GW235; replace HB := Aside0.mk (below_step bB hb); clear hb hbox hg))
  go_ret
  exact ⟨rE, bG⟩
 ·rw [if_neg c3] at H
  have c3b0 : decide (10 < (l1.length : Int)) = false := decide_eq_false c3
  have c3b1 : decide (10 < l1.length) = false := decide_eq_false (by omega)
  clear c3
  have H' := Aside0.mk H
  clear H
  go_enter Try.func74, Try.ntmps74
  go_wp2_with (first | ((with_reducible refine gate_dst (N := 2) rfl ?_); refine box_event ?hg (N := 2) ?hd (cs := #[.int .i64 a0_0, .int .i64 a0_1]) (t := 23) ?hr ?_; (case hd => rfl); (case hg => rfl); (case hr => first | (go_simp; done) | (go_simp; rfl)); intro gb235 hg w5 hbox hb; have BK235 := Aside0.mk (hbox); have GW235 : Aside0 (w.heap.size ≤ gb235) := gW hg; have GE235 := GW235; replace HB := Aside0.mk (below_step bB hb); clear hb hbox hg))
  go_loopg [12] k (fun kq v12 w' => ∃ (x12_1 : Int), v12 = .int .i64 x12_1 ∧ Aside0 (spec_hiGood.l0 kq l1 (l1.length : Int) x12_1 a0_0 a0_1 = some r) ∧ Aside0 (kq ≤ k) ∧ Aside0 (w'.heap[gb235]? = some (.cells #[.int .i64 a0_0, .int .i64 a0_1] 23 (0, 0))) ∧ Aside0 (Below w.heap.size w w'))
  case atStart => exact ⟨(0), fR, H', ⟨Nat.le_refl _⟩, ⟨bK⟩, ⟨bG⟩⟩
  case round =>
   clear H'
   try clear c1
   try clear p2
   try clear c3
   try clear c3b0
   try clear c3b1
   obtain ⟨x12_1, rfl, HA, HK1, BK235, HB⟩ := hrel
   cases gk with
   | zero => exact absurd HA.out (by simp [spec_hiGood.l0])
   | succ k1 =>
    have H := HA.out
    clear HA
    simp only [spec_hiGood.l0] at H
    by_cases c6 : x12_1 < (l1.length : Int)
    ·rw [if_pos c6] at H
     have c6b0 : decide (x12_1 < (l1.length : Int)) = true := decide_eq_true c6
     clear c6
     replace H := nz H; obtain ⟨c7, H⟩ := H
     have c7b0 : decide (0 ≤ x12_1) = true := decide_eq_true c7
     clear c7
     replace H := nz H; obtain ⟨c8, H⟩ := H
     have c8b0 : decide (x12_1 < (l1.length : Int)) = true := decide_eq_true c8
     clear c8
     replace H := Option.bind_eq_some_iff.mp H
     obtain ⟨t238, A90, H⟩ := H
     (try dsimp only at H)
     have A9 := Aside0.mk A90
     clear A90
     by_cases c10 : t238 = true
     ·subst c10
      replace H := zt H
      replace H := Option.bind_eq_some_iff.mp H
      obtain ⟨t239, A110, H⟩ := H
      (try dsimp only at H)
      have A11 := Aside0.mk A110
      clear A110
      by_cases c12 : t239 = true
      ·subst c12
       replace H := zt H
       have H' := Aside0.mk H
       clear H
       have p236 : 0 ≤ (x12_1 : Int) := oD
       have q236 : x12_1 < (l1.length : Int) := oD
       obtain ⟨ad236, e236, hx236_0, hx236_1, hx236_2⟩ := at_T31 HR1.out x12_1 p236 q236
       cases e236
       replace hx236_0 := (HB.out.cell (World.block_lt_of_cell? w _ hx236_0)).trans hx236_0
       replace hx236_1 := (HB.out.cell (World.block_lt_of_cell? w _ hx236_1)).trans hx236_1
       replace hx236_2 := (HB.out.cell (World.block_lt_of_cell? w _ hx236_2)).trans hx236_2
       replace p236 := eq_true p236
       replace q236 := eq_true q236
       go_wp2_with (first | ((with_reducible refine gate_dst (N := 6) rfl ?_); refine box_event ?hg (N := 6) ?hd (cs := #[.string (⟨#[]⟩ : ByteArray), .int .i64 0, .int .i64 0]) (t := 31) ?hr ?_; (case hd => rfl); (case hg => rfl); (case hr => first | (go_simp; done) | (go_simp; rfl)); intro gb237 hg w13 hbox hb; have n0_ := Aside0.mk (blk_below (g := gb235) (o := .cells #[.int .i64 a0_0, .int .i64 a0_1] 23 (0, 0)) bK hb); have n1_ := Aside0.mk (below_step bG hb); have n2_ := Aside0.mk (hbox); have n3_ := Aside0.mk ((by rw [hg]; exact (below_size bG) : w.heap.size ≤ gb237)); have n4_ := Aside0.mk ((by rw [hg]; exact (below_size bG) : w.heap.size ≤ gb237)); have n5_ := Aside0.mk ((by rw [hg]; exact Nat.ne_of_lt (blk_lt (g := gb235) (o := .cells #[.int .i64 a0_0, .int .i64 a0_1] 23 (0, 0)) bK) : gb235 ≠ gb237)); have n6_ := Aside0.mk ((by rw [hg]; exact Nat.ne_of_gt (blk_lt (g := gb235) (o := .cells #[.int .i64 a0_0, .int .i64 a0_1] 23 (0, 0)) bK) : gb237 ≠ gb235)); clear BK235; clear HB; have BK235 := n0_; have HB := n1_; have BK237 := n2_; have GW237 := n3_; have GE237 := n4_; have NB235_237 := n5_; have NB237_235 := n6_; clear n0_ n1_ n2_ n3_ n4_ n5_ n6_; clear hb hbox hg; have hnb14 := NB237_235.out; have hnc14 := NB235_237.out; have hcz15_0 := cZ BK237 0 (.string (⟨#[]⟩ : ByteArray)); have hcz15_1 := cZ BK237 1 (.int .i64 0); have hcz15_2 := cZ BK237 2 (.int .i64 0); have hfz15_0 := blk_frozen BK237.out 0; have hfz15_1 := blk_frozen BK237.out 1; have hfz15_2 := blk_frozen BK237.out 2; have hcz16_0 := cZ BK235 0 (.int .i64 a0_0); have hcz16_1 := cZ BK235 1 (.int .i64 a0_1); have hfz16_0 := blk_frozen BK235.out 0; have hfz16_1 := blk_frozen BK235.out 1) | ((with_reducible refine gate_callee (f := 46) rfl ?_); refine goesL_ (some 19) rfl rfl Try.func46 (by kernel_rfl) rfl #[.agg #[.int .i64 a0_0, .int .i64 a0_1], .string ((rd_T31 l1 x12_1).f0)] rfl lM ?_; (with_reducible refine (spec_whCode.calls k1 a0_0 a0_1 ((rd_T31 l1 x12_1).f0) true _ A9.out).mono ?_); rintro e w17 ⟨rfl, hb⟩; refine ⟨_, rfl, ?_⟩; replace BK235 := Aside0.mk (blk_below (g := gb235) (o := .cells #[.int .i64 a0_0, .int .i64 a0_1] 23 (0, 0)) (by (with_reducible repeat (first | refine blk_drewN ?_ _ | refine blk_drew ?_ | refine blk_alloc ?_ _)); refine blk_far ?_ NB235_237.out _; (with_reducible repeat (first | refine blk_drewN ?_ _ | refine blk_drew ?_ | refine blk_alloc ?_ _)); refine blk_far ?_ NB235_237.out _; (with_reducible repeat (first | refine blk_drewN ?_ _ | refine blk_drew ?_ | refine blk_alloc ?_ _)); refine blk_far ?_ NB235_237.out _; (with_reducible repeat (first | refine blk_drewN ?_ _ | refine blk_drew ?_ | refine blk_alloc ?_ _)); exact BK235.out) hb); replace BK237 := Aside0.mk (blk_below (g := gb237) (o := .cells #[.string ((rd_T31 l1 x12_1).f0), .int .i64 ((rd_T31 l1 x12_1).f1), .int .i64 ((rd_T31 l1 x12_1).f2)] 31 (0, 0)) (by (with_reducible repeat (first | refine blk_drewN ?_ _ | refine blk_drew ?_ | refine blk_alloc ?_ _)); refine blk_put (cs := #[.string ((rd_T31 l1 x12_1).f0), .int .i64 ((rd_T31 l1 x12_1).f1), .int .i64 0]) ?_ 2 _ rfl; (with_reducible repeat (first | refine blk_drewN ?_ _ | refine blk_drew ?_ | refine blk_alloc ?_ _)); refine blk_put (cs := #[.string ((rd_T31 l1 x12_1).f0), .int .i64 0, .int .i64 0]) ?_ 1 _ rfl; (with_reducible repeat (first | refine blk_drewN ?_ _ | refine blk_drew ?_ | refine blk_alloc ?_ _)); refine blk_put (cs := #[.string (⟨#[]⟩ : ByteArray), .int .i64 0, .int .i64 0]) ?_ 0 _ rfl; (with_reducible repeat (first | refine blk_drewN ?_ _ | refine blk_drew ?_ | refine blk_alloc ?_ _)); exact BK237.out) hb); replace HB := Aside0.mk (below_step bG hb); (try clear hb); have hcz18_0 := cZ BK235 0 (.int .i64 a0_0); have hcz18_1 := cZ BK235 1 (.int .i64 a0_1); have hfz18_0 := blk_frozen BK235.out 0; have hfz18_1 := blk_frozen BK235.out 1; have hcz19_0 := cZ BK237 0 (.string ((rd_T31 l1 x12_1).f0)); have hcz19_1 := cZ BK237 1 (.int .i64 ((rd_T31 l1 x12_1).f1)); have hcz19_2 := cZ BK237 2 (.int .i64 ((rd_T31 l1 x12_1).f2)); have hfz19_0 := blk_frozen BK237.out 0; have hfz19_1 := blk_frozen BK237.out 1; have hfz19_2 := blk_frozen BK237.out 2) | (go_at_call 62; (with_reducible refine (spec_hiTold.calls a0_0 a0_1 ((rd_T31 l1 x12_1).f1) ((rd_T31 l1 x12_1).f2) true _ A11.out).mono ?_); rintro e w20 ⟨rfl, hb⟩; have n0_ := Aside0.mk (blk_below (g := gb235) (o := .cells #[.int .i64 a0_0, .int .i64 a0_1] 23 (0, 0)) bK hb); have n1_ := Aside0.mk (blk_below (g := gb237) (o := .cells #[.string ((rd_T31 l1 x12_1).f0), .int .i64 ((rd_T31 l1 x12_1).f1), .int .i64 ((rd_T31 l1 x12_1).f2)] 31 (0, 0)) bK hb); have n2_ := Aside0.mk (below_step bG hb); clear BK235; clear BK237; clear HB; have BK235 := n0_; have BK237 := n1_; have HB := n2_; clear n0_ n1_ n2_; (try clear hb)))
       go_roundg k1
       case measure => have := HK1.out; omega
       case rel => exact ⟨(wrap64 (x12_1 + 1)), fR, H', ⟨by have := HK1.out; omega⟩, ⟨bK⟩, ⟨bG⟩⟩
      ·replace c12 := Bool.eq_false_iff.mpr c12
       subst c12
       replace H := zf H
       obtain rfl := Option.some.inj H
       have p236 : 0 ≤ (x12_1 : Int) := oD
       have q236 : x12_1 < (l1.length : Int) := oD
       obtain ⟨ad236, e236, hx236_0, hx236_1, hx236_2⟩ := at_T31 HR1.out x12_1 p236 q236
       cases e236
       replace hx236_0 := (HB.out.cell (World.block_lt_of_cell? w _ hx236_0)).trans hx236_0
       replace hx236_1 := (HB.out.cell (World.block_lt_of_cell? w _ hx236_1)).trans hx236_1
       replace hx236_2 := (HB.out.cell (World.block_lt_of_cell? w _ hx236_2)).trans hx236_2
       replace p236 := eq_true p236
       replace q236 := eq_true q236
       go_wp2_with (first | ((with_reducible refine gate_dst (N := 6) rfl ?_); refine box_event ?hg (N := 6) ?hd (cs := #[.string (⟨#[]⟩ : ByteArray), .int .i64 0, .int .i64 0]) (t := 31) ?hr ?_; (case hd => rfl); (case hg => rfl); (case hr => first | (go_simp; done) | (go_simp; rfl)); intro gb237 hg w21 hbox hb; have n0_ := Aside0.mk (blk_below (g := gb235) (o := .cells #[.int .i64 a0_0, .int .i64 a0_1] 23 (0, 0)) bK hb); have n1_ := Aside0.mk (below_step bG hb); have n2_ := Aside0.mk (hbox); have n3_ := Aside0.mk ((by rw [hg]; exact (below_size bG) : w.heap.size ≤ gb237)); have n4_ := Aside0.mk ((by rw [hg]; exact (below_size bG) : w.heap.size ≤ gb237)); have n5_ := Aside0.mk ((by rw [hg]; exact Nat.ne_of_lt (blk_lt (g := gb235) (o := .cells #[.int .i64 a0_0, .int .i64 a0_1] 23 (0, 0)) bK) : gb235 ≠ gb237)); have n6_ := Aside0.mk ((by rw [hg]; exact Nat.ne_of_gt (blk_lt (g := gb235) (o := .cells #[.int .i64 a0_0, .int .i64 a0_1] 23 (0, 0)) bK) : gb237 ≠ gb235)); clear BK235; clear HB; have BK235 := n0_; have HB := n1_; have BK237 := n2_; have GW237 := n3_; have GE237 := n4_; have NB235_237 := n5_; have NB237_235 := n6_; clear n0_ n1_ n2_ n3_ n4_ n5_ n6_; clear hb hbox hg; have hnb22 := NB237_235.out; have hnc22 := NB235_237.out; have hcz23_0 := cZ BK237 0 (.string (⟨#[]⟩ : ByteArray)); have hcz23_1 := cZ BK237 1 (.int .i64 0); have hcz23_2 := cZ BK237 2 (.int .i64 0); have hfz23_0 := blk_frozen BK237.out 0; have hfz23_1 := blk_frozen BK237.out 1; have hfz23_2 := blk_frozen BK237.out 2; have hcz24_0 := cZ BK235 0 (.int .i64 a0_0); have hcz24_1 := cZ BK235 1 (.int .i64 a0_1); have hfz24_0 := blk_frozen BK235.out 0; have hfz24_1 := blk_frozen BK235.out 1) | ((with_reducible refine gate_callee (f := 46) rfl ?_); refine goesL_ (some 19) rfl rfl Try.func46 (by kernel_rfl) rfl #[.agg #[.int .i64 a0_0, .int .i64 a0_1], .string ((rd_T31 l1 x12_1).f0)] rfl lM ?_; (with_reducible refine (spec_whCode.calls k1 a0_0 a0_1 ((rd_T31 l1 x12_1).f0) true _ A9.out).mono ?_); rintro e w25 ⟨rfl, hb⟩; refine ⟨_, rfl, ?_⟩; replace BK235 := Aside0.mk (blk_below (g := gb235) (o := .cells #[.int .i64 a0_0, .int .i64 a0_1] 23 (0, 0)) (by (with_reducible repeat (first | refine blk_drewN ?_ _ | refine blk_drew ?_ | refine blk_alloc ?_ _)); refine blk_far ?_ NB235_237.out _; (with_reducible repeat (first | refine blk_drewN ?_ _ | refine blk_drew ?_ | refine blk_alloc ?_ _)); refine blk_far ?_ NB235_237.out _; (with_reducible repeat (first | refine blk_drewN ?_ _ | refine blk_drew ?_ | refine blk_alloc ?_ _)); refine blk_far ?_ NB235_237.out _; (with_reducible repeat (first | refine blk_drewN ?_ _ | refine blk_drew ?_ | refine blk_alloc ?_ _)); exact BK235.out) hb); replace BK237 := Aside0.mk (blk_below (g := gb237) (o := .cells #[.string ((rd_T31 l1 x12_1).f0), .int .i64 ((rd_T31 l1 x12_1).f1), .int .i64 ((rd_T31 l1 x12_1).f2)] 31 (0, 0)) (by (with_reducible repeat (first | refine blk_drewN ?_ _ | refine blk_drew ?_ | refine blk_alloc ?_ _)); refine blk_put (cs := #[.string ((rd_T31 l1 x12_1).f0), .int .i64 ((rd_T31 l1 x12_1).f1), .int .i64 0]) ?_ 2 _ rfl; (with_reducible repeat (first | refine blk_drewN ?_ _ | refine blk_drew ?_ | refine blk_alloc ?_ _)); refine blk_put (cs := #[.string ((rd_T31 l1 x12_1).f0), .int .i64 0, .int .i64 0]) ?_ 1 _ rfl; (with_reducible repeat (first | refine blk_drewN ?_ _ | refine blk_drew ?_ | refine blk_alloc ?_ _)); refine blk_put (cs := #[.string (⟨#[]⟩ : ByteArray), .int .i64 0, .int .i64 0]) ?_ 0 _ rfl; (with_reducible repeat (first | refine blk_drewN ?_ _ | refine blk_drew ?_ | refine blk_alloc ?_ _)); exact BK237.out) hb); replace HB := Aside0.mk (below_step bG hb); (try clear hb); have hcz26_0 := cZ BK235 0 (.int .i64 a0_0); have hcz26_1 := cZ BK235 1 (.int .i64 a0_1); have hfz26_0 := blk_frozen BK235.out 0; have hfz26_1 := blk_frozen BK235.out 1; have hcz27_0 := cZ BK237 0 (.string ((rd_T31 l1 x12_1).f0)); have hcz27_1 := cZ BK237 1 (.int .i64 ((rd_T31 l1 x12_1).f1)); have hcz27_2 := cZ BK237 2 (.int .i64 ((rd_T31 l1 x12_1).f2)); have hfz27_0 := blk_frozen BK237.out 0; have hfz27_1 := blk_frozen BK237.out 1; have hfz27_2 := blk_frozen BK237.out 2) | (go_at_call 62; (with_reducible refine (spec_hiTold.calls a0_0 a0_1 ((rd_T31 l1 x12_1).f1) ((rd_T31 l1 x12_1).f2) false _ A11.out).mono ?_); rintro e w28 ⟨rfl, hb⟩; have n0_ := Aside0.mk (blk_below (g := gb235) (o := .cells #[.int .i64 a0_0, .int .i64 a0_1] 23 (0, 0)) bK hb); have n1_ := Aside0.mk (blk_below (g := gb237) (o := .cells #[.string ((rd_T31 l1 x12_1).f0), .int .i64 ((rd_T31 l1 x12_1).f1), .int .i64 ((rd_T31 l1 x12_1).f2)] 31 (0, 0)) bK hb); have n2_ := Aside0.mk (below_step bG hb); clear BK235; clear BK237; clear HB; have BK235 := n0_; have BK237 := n1_; have HB := n2_; clear n0_ n1_ n2_; (try clear hb)))
       go_ret
       exact ⟨rE, bG⟩
     ·replace c10 := Bool.eq_false_iff.mpr c10
      subst c10
      replace H := zf H
      obtain rfl := Option.some.inj H
      have p236 : 0 ≤ (x12_1 : Int) := oD
      have q236 : x12_1 < (l1.length : Int) := oD
      obtain ⟨ad236, e236, hx236_0, hx236_1, hx236_2⟩ := at_T31 HR1.out x12_1 p236 q236
      cases e236
      replace hx236_0 := (HB.out.cell (World.block_lt_of_cell? w _ hx236_0)).trans hx236_0
      replace hx236_1 := (HB.out.cell (World.block_lt_of_cell? w _ hx236_1)).trans hx236_1
      replace hx236_2 := (HB.out.cell (World.block_lt_of_cell? w _ hx236_2)).trans hx236_2
      replace p236 := eq_true p236
      replace q236 := eq_true q236
      go_wp2_with (first | ((with_reducible refine gate_dst (N := 6) rfl ?_); refine box_event ?hg (N := 6) ?hd (cs := #[.string (⟨#[]⟩ : ByteArray), .int .i64 0, .int .i64 0]) (t := 31) ?hr ?_; (case hd => rfl); (case hg => rfl); (case hr => first | (go_simp; done) | (go_simp; rfl)); intro gb237 hg w29 hbox hb; have n0_ := Aside0.mk (blk_below (g := gb235) (o := .cells #[.int .i64 a0_0, .int .i64 a0_1] 23 (0, 0)) bK hb); have n1_ := Aside0.mk (below_step bG hb); have n2_ := Aside0.mk (hbox); have n3_ := Aside0.mk ((by rw [hg]; exact (below_size bG) : w.heap.size ≤ gb237)); have n4_ := Aside0.mk ((by rw [hg]; exact (below_size bG) : w.heap.size ≤ gb237)); have n5_ := Aside0.mk ((by rw [hg]; exact Nat.ne_of_lt (blk_lt (g := gb235) (o := .cells #[.int .i64 a0_0, .int .i64 a0_1] 23 (0, 0)) bK) : gb235 ≠ gb237)); have n6_ := Aside0.mk ((by rw [hg]; exact Nat.ne_of_gt (blk_lt (g := gb235) (o := .cells #[.int .i64 a0_0, .int .i64 a0_1] 23 (0, 0)) bK) : gb237 ≠ gb235)); clear BK235; clear HB; have BK235 := n0_; have HB := n1_; have BK237 := n2_; have GW237 := n3_; have GE237 := n4_; have NB235_237 := n5_; have NB237_235 := n6_; clear n0_ n1_ n2_ n3_ n4_ n5_ n6_; clear hb hbox hg; have hnb30 := NB237_235.out; have hnc30 := NB235_237.out; have hcz31_0 := cZ BK237 0 (.string (⟨#[]⟩ : ByteArray)); have hcz31_1 := cZ BK237 1 (.int .i64 0); have hcz31_2 := cZ BK237 2 (.int .i64 0); have hfz31_0 := blk_frozen BK237.out 0; have hfz31_1 := blk_frozen BK237.out 1; have hfz31_2 := blk_frozen BK237.out 2; have hcz32_0 := cZ BK235 0 (.int .i64 a0_0); have hcz32_1 := cZ BK235 1 (.int .i64 a0_1); have hfz32_0 := blk_frozen BK235.out 0; have hfz32_1 := blk_frozen BK235.out 1) | ((with_reducible refine gate_callee (f := 46) rfl ?_); refine goesL_ (some 19) rfl rfl Try.func46 (by kernel_rfl) rfl #[.agg #[.int .i64 a0_0, .int .i64 a0_1], .string ((rd_T31 l1 x12_1).f0)] rfl lM ?_; (with_reducible refine (spec_whCode.calls k1 a0_0 a0_1 ((rd_T31 l1 x12_1).f0) false _ A9.out).mono ?_); rintro e w33 ⟨rfl, hb⟩; refine ⟨_, rfl, ?_⟩; replace BK235 := Aside0.mk (blk_below (g := gb235) (o := .cells #[.int .i64 a0_0, .int .i64 a0_1] 23 (0, 0)) (by (with_reducible repeat (first | refine blk_drewN ?_ _ | refine blk_drew ?_ | refine blk_alloc ?_ _)); refine blk_far ?_ NB235_237.out _; (with_reducible repeat (first | refine blk_drewN ?_ _ | refine blk_drew ?_ | refine blk_alloc ?_ _)); refine blk_far ?_ NB235_237.out _; (with_reducible repeat (first | refine blk_drewN ?_ _ | refine blk_drew ?_ | refine blk_alloc ?_ _)); refine blk_far ?_ NB235_237.out _; (with_reducible repeat (first | refine blk_drewN ?_ _ | refine blk_drew ?_ | refine blk_alloc ?_ _)); exact BK235.out) hb); replace BK237 := Aside0.mk (blk_below (g := gb237) (o := .cells #[.string ((rd_T31 l1 x12_1).f0), .int .i64 ((rd_T31 l1 x12_1).f1), .int .i64 ((rd_T31 l1 x12_1).f2)] 31 (0, 0)) (by (with_reducible repeat (first | refine blk_drewN ?_ _ | refine blk_drew ?_ | refine blk_alloc ?_ _)); refine blk_put (cs := #[.string ((rd_T31 l1 x12_1).f0), .int .i64 ((rd_T31 l1 x12_1).f1), .int .i64 0]) ?_ 2 _ rfl; (with_reducible repeat (first | refine blk_drewN ?_ _ | refine blk_drew ?_ | refine blk_alloc ?_ _)); refine blk_put (cs := #[.string ((rd_T31 l1 x12_1).f0), .int .i64 0, .int .i64 0]) ?_ 1 _ rfl; (with_reducible repeat (first | refine blk_drewN ?_ _ | refine blk_drew ?_ | refine blk_alloc ?_ _)); refine blk_put (cs := #[.string (⟨#[]⟩ : ByteArray), .int .i64 0, .int .i64 0]) ?_ 0 _ rfl; (with_reducible repeat (first | refine blk_drewN ?_ _ | refine blk_drew ?_ | refine blk_alloc ?_ _)); exact BK237.out) hb); replace HB := Aside0.mk (below_step bG hb); (try clear hb)))
      go_ret
      exact ⟨rE, bG⟩
    ·rw [if_neg c6] at H
     have c6b0 : decide (x12_1 < (l1.length : Int)) = false := decide_eq_false c6
     clear c6
     obtain rfl := Option.some.inj H
     go_wp2
     go_ret
     exact ⟨rE, bG⟩

/-! ### spec_hiAsked: function 70 -/
def spec_hiAsked.f (k : Nat) (a0_0 : Int) (a0_1 : Int) (l1 : List (S31)) : Option (Bool) := (spec_hiLock.f k a0_0 a0_1 1000).bind fun t241 => (if t241 = true then ((spec_hiGood.f k a0_0 a0_1 l1).bind fun t242 => (some t242)) else (some false))
theorem spec_hiAsked.mono : ∀ a0 a1 a2 k, LeO (spec_hiAsked.f k a0 a1 a2) (spec_hiAsked.f (k + 1) a0 a1 a2) := by
 intro a0 a1 a2 k
 unfold spec_hiAsked.f
 repeat' first
   | (with_reducible first | exact spec_hiGood.mono _ _ _ _ | exact spec_hiLock.mono _ _ _ _ | exact LeO.refl _ | exact LeO.none _ | refine LeO.ite ?_ ?_ | refine LeO.bind ?_ (fun _ => ?_))
   | exact spec_hiGood.mono _ _ _ _
   | exact spec_hiLock.mono _ _ _ _
   | exact LeO.none _
   | refine LeO.ite ?_ ?_
   | refine LeO.bind ?_ (fun _ => ?_)
theorem spec_hiAsked.calls (k : Nat) (a0_0 : Int) (a0_1 : Int) (A1 : Option Addr) (c1 : Nat) (l1 : List (S31)) (r : Bool) (w : World) (hr1 : Kd.C k31 w A1 l1.length l1) (hc1 : l1.length ≤ c1) (h : spec_hiAsked.f k a0_0 a0_1 l1 = some r) :
  Calls Try.prog 70 #[.agg #[.int .i64 a0_0, .int .i64 a0_1], .slice A1 l1.length c1] w fun e w' => e = .returned (.bool r) ∧ Below w.heap.size w w' := by
 have hu23 := Try.underlying23
 have HR1 := Aside0.mk hr1
 have HC1 := Aside0.mk hc1
 clear hr1 hc1
 have HB := Aside0.mk (Below.refl w.heap.size w)
 have H := h
 unfold spec_hiAsked.f at H
 clear h
 replace H := Option.bind_eq_some_iff.mp H
 obtain ⟨t241, A30, H⟩ := H
 (try dsimp only at H)
 have A3 := Aside0.mk A30
 clear A30
 by_cases c4 : t241 = true
 ·subst c4
  replace H := zt H
  replace H := Option.bind_eq_some_iff.mp H
  obtain ⟨t242, A50, H⟩ := H
  (try dsimp only at H)
  have A5 := Aside0.mk A50
  clear A50
  obtain rfl := Option.some.inj H
  go_enter Try.func70, Try.ntmps70
  go_wp2_with (first | ((with_reducible refine gate_dst (N := 2) rfl ?_); refine box_event ?hg (N := 2) ?hd (cs := #[.int .i64 a0_0, .int .i64 a0_1]) (t := 23) ?hr ?_; (case hd => rfl); (case hg => rfl); (case hr => first | (go_simp; done) | (go_simp; rfl)); intro gb240 hg w6 hbox hb; have BK240 := Aside0.mk (hbox); have GW240 : Aside0 (w.heap.size ≤ gb240) := gW hg; have GE240 := GW240; replace HB := Aside0.mk (below_step bB hb); clear hb hbox hg; have hcz7_0 := cZ BK240 0 (.int .i64 a0_0); have hcz7_1 := cZ BK240 1 (.int .i64 a0_1); have hfz7_0 := blk_frozen BK240.out 0; have hfz7_1 := blk_frozen BK240.out 1) | ((with_reducible refine gate_callee (f := 45) rfl ?_); refine goesL_ (some 6) rfl rfl Try.func45 (by kernel_rfl) rfl #[.agg #[.int .i64 a0_0, .int .i64 a0_1], .int .i64 1000] rfl lM ?_; (with_reducible refine (spec_hiLock.calls k a0_0 a0_1 1000 true _ A3.out).mono ?_); rintro e w8 ⟨rfl, hb⟩; refine ⟨_, rfl, ?_⟩; replace BK240 := bW BK240 hb; replace HB := Aside0.mk (below_step bG hb); (try clear hb); have hcz9_0 := cZ BK240 0 (.int .i64 a0_0); have hcz9_1 := cZ BK240 1 (.int .i64 a0_1); have hfz9_0 := blk_frozen BK240.out 0; have hfz9_1 := blk_frozen BK240.out 1) | (go_at_call 74; (with_reducible refine (spec_hiGood.calls k a0_0 a0_1 _ _ l1 t242 _ ?side1 ?side2 A5.out).mono ?_); (case side1 => exact cS (Kd.C_below HR1.out HB.out)); (case side2 => exact HC1.out); rintro e w10 ⟨rfl, hb⟩; replace BK240 := bW BK240 hb; replace HB := Aside0.mk (below_step bG hb); (try clear hb)))
  go_ret
  exact ⟨rE, bG⟩
 ·replace c4 := Bool.eq_false_iff.mpr c4
  subst c4
  replace H := zf H
  obtain rfl := Option.some.inj H
  go_enter Try.func70, Try.ntmps70
  go_wp2_with (first | ((with_reducible refine gate_dst (N := 2) rfl ?_); refine box_event ?hg (N := 2) ?hd (cs := #[.int .i64 a0_0, .int .i64 a0_1]) (t := 23) ?hr ?_; (case hd => rfl); (case hg => rfl); (case hr => first | (go_simp; done) | (go_simp; rfl)); intro gb240 hg w11 hbox hb; have BK240 := Aside0.mk (hbox); have GW240 : Aside0 (w.heap.size ≤ gb240) := gW hg; have GE240 := GW240; replace HB := Aside0.mk (below_step bB hb); clear hb hbox hg; have hcz12_0 := cZ BK240 0 (.int .i64 a0_0); have hcz12_1 := cZ BK240 1 (.int .i64 a0_1); have hfz12_0 := blk_frozen BK240.out 0; have hfz12_1 := blk_frozen BK240.out 1) | ((with_reducible refine gate_callee (f := 45) rfl ?_); refine goesL_ (some 6) rfl rfl Try.func45 (by kernel_rfl) rfl #[.agg #[.int .i64 a0_0, .int .i64 a0_1], .int .i64 1000] rfl lM ?_; (with_reducible refine (spec_hiLock.calls k a0_0 a0_1 1000 false _ A3.out).mono ?_); rintro e w13 ⟨rfl, hb⟩; refine ⟨_, rfl, ?_⟩; replace BK240 := bW BK240 hb; replace HB := Aside0.mk (below_step bG hb); (try clear hb)))
  go_ret
  exact ⟨rE, bG⟩

end Go.Proofs.Ytcpnmiempaofdaa.F
