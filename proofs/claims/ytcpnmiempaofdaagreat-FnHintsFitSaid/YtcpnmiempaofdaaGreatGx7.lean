-- Printed by hp.py, a program of this session: a machine's side of laws, out of the translation; Lean checks it.
import Derived.Test.YtcpnmiempaofdaaGreatGx0
import Derived.Test.YtcpnmiempaofdaaGreatGx2
import Derived.Test.YtcpnmiempaofdaaGreatGx5
import Derived.Test.YtcpnmiempaofdaaGreatGx6
namespace Go.Proofs.YtcpnmiempaofdaaGreat.G
open Go.RowKit Go.Proofs.YtcpnmiempaofdaaGreatW.PrintWords Go.Proofs.YtcpnmiempaofdaaGreatW.PrintLast Go.Proofs.YtcpnmiempaofdaaGreatW.PrintMore
attribute [local go_sem] max2_int min2_int max_two min_two max_three min_three max_four min_four   -- for this text's walks alone
set_option maxHeartbeats 8000000
set_option maxRecDepth 100000
set_option linter.unusedVariables false
set_option linter.unusedSimpArgs false

/-! ### spec_hiFits: function 85 -/
def spec_hiFits.l0 : Nat → ByteArray → List (S35) → Int → Int → Option (Bool)
 | 0, _, _, _, _ => none
 | k + 1, x1, x9, x10, x11 => if x11 < x10 then (if 0 ≤ x11 then (if x11 < (x9.length : Int) then ((spec_hiOf.f ((rd_T35 x9 x11).f0) x1).bind fun bt271 => (if bt271.1 = ((rd_T35 x9 x11).f1) then (if bt271.2 = ((rd_T35 x9 x11).f2) then (spec_hiFits.l0 k x1 x9 x10 (wrap64 (x11 + 1))) else (some false)) else (some false))) else (none)) else (none)) else (some true)
def spec_hiFits.f (k : Nat) (l0 : List (S35)) (a1 : ByteArray) : Option (Bool) := spec_hiFits.l0 k a1 l0 (l0.length : Int) 0
theorem spec_hiFits.mono_l : ∀ k, (∀ y0 y1 y2 y3, LeO (spec_hiFits.l0 k y0 y1 y2 y3) (spec_hiFits.l0 (k + 1) y0 y1 y2 y3))
 | 0 => fun _ _ _ _ r h => by simp [spec_hiFits.l0] at h
 | k + 1 => by
  have ih0 := spec_hiFits.mono_l k
  ·intro y0 y1 y2 y3
   unfold spec_hiFits.l0
   repeat' first
   | (with_reducible first | exact ih0 _ _ _ _ | exact LeO.refl _ | exact LeO.none _ | refine LeO.ite ?_ ?_ | refine LeO.bind ?_ (fun _ => ?_))
   | exact ih0 _ _ _ _
   | exact LeO.none _
   | refine LeO.ite ?_ ?_
   | refine LeO.bind ?_ (fun _ => ?_)
theorem spec_hiFits.mono : ∀ a0 a1 k, LeO (spec_hiFits.f k a0 a1) (spec_hiFits.f (k + 1) a0 a1) := by
 intro a0 a1 k
 have ih0 := spec_hiFits.mono_l k
 unfold spec_hiFits.f
 repeat' first
   | (with_reducible first | exact ih0 _ _ _ _ | exact LeO.refl _ | exact LeO.none _ | refine LeO.ite ?_ ?_ | refine LeO.bind ?_ (fun _ => ?_))
   | exact ih0 _ _ _ _
   | exact LeO.none _
   | refine LeO.ite ?_ ?_
   | refine LeO.bind ?_ (fun _ => ?_)
theorem spec_hiFits.calls (k : Nat) (A0 : Option Addr) (c0 : Nat) (l0 : List (S35)) (a1 : ByteArray) (r : Bool) (w : World) (hr0 : Kd.C k35 w A0 l0.length l0) (hc0 : l0.length ≤ c0) (h : spec_hiFits.f k l0 a1 = some r) :
  Calls Tryz.prog 85 #[.slice A0 l0.length c0, .string a1] w fun e w' => e = .returned (.bool r) ∧ Below w.heap.size w w' := by
 have hu35 := Tryz.underlying35
 have HR0 := Aside0.mk hr0
 have HC0 := Aside0.mk hc0
 clear hr0 hc0
 have HB := Aside0.mk (Below.refl w.heap.size w)
 have H := h
 unfold spec_hiFits.f at H
 clear h
 have H' := Aside0.mk H
 clear H
 go_enter Tryz.func85, Tryz.ntmps85
 go_wp2
 go_loopg [11] k (fun kq v11 w' => ∃ (x11_1 : Int), v11 = .int .i64 x11_1 ∧ Aside0 (spec_hiFits.l0 kq a1 l0 (l0.length : Int) x11_1 = some r) ∧ Aside0 (kq ≤ k) ∧ Aside0 (Below w.heap.size w w'))
 case atStart => exact ⟨(0), fR, H', ⟨Nat.le_refl _⟩, ⟨bB⟩⟩
 case round =>
  clear H'
  try clear p2
  obtain ⟨x11_1, rfl, HA, HK1, HB⟩ := hrel
  cases gk with
  | zero => exact absurd HA.out (by simp [spec_hiFits.l0])
  | succ k1 =>
   have H := HA.out
   clear HA
   simp only [spec_hiFits.l0] at H
   by_cases c3 : x11_1 < (l0.length : Int)
   ·rw [if_pos c3] at H
    have c3b0 : decide (x11_1 < (l0.length : Int)) = true := decide_eq_true c3
    clear c3
    replace H := nz H; obtain ⟨c4, H⟩ := H
    have c4b0 : decide (0 ≤ x11_1) = true := decide_eq_true c4
    clear c4
    replace H := nz H; obtain ⟨c5, H⟩ := H
    have c5b0 : decide (x11_1 < (l0.length : Int)) = true := decide_eq_true c5
    clear c5
    replace H := Option.bind_eq_some_iff.mp H
    obtain ⟨⟨t271, t272⟩, A60, H⟩ := H
    (try dsimp only at H)
    have A6 := Aside0.mk A60
    clear A60
    by_cases c7 : t271 = ((rd_T35 l0 x11_1).f1)
    ·rw [if_pos c7] at H
     have c7b0 : (t271 == ((rd_T35 l0 x11_1).f1)) = true := beq_iff_eq.mpr c7
     have c7b1 : (t271 != ((rd_T35 l0 x11_1).f1)) = false := bne_eq_false_iff_eq.mpr c7
     clear c7
     by_cases c8 : t272 = ((rd_T35 l0 x11_1).f2)
     ·rw [if_pos c8] at H
      have c8b0 : (t272 == ((rd_T35 l0 x11_1).f2)) = true := beq_iff_eq.mpr c8
      have c8b1 : (t272 != ((rd_T35 l0 x11_1).f2)) = false := bne_eq_false_iff_eq.mpr c8
      clear c8
      have H' := Aside0.mk H
      clear H
      have p269 : 0 ≤ (x11_1 : Int) := oD
      have q269 : x11_1 < (l0.length : Int) := oD
      obtain ⟨ad269, e269, hx269_0, hx269_1, hx269_2⟩ := at_T35 HR0.out x11_1 p269 q269
      cases e269
      replace hx269_0 := (HB.out.cell (World.block_lt_of_cell? w _ hx269_0)).trans hx269_0
      replace hx269_1 := (HB.out.cell (World.block_lt_of_cell? w _ hx269_1)).trans hx269_1
      replace hx269_2 := (HB.out.cell (World.block_lt_of_cell? w _ hx269_2)).trans hx269_2
      replace p269 := eq_true p269
      replace q269 := eq_true q269
      go_wp2_with (first | ((with_reducible refine gate_dst (N := 6) rfl ?_); refine box_event ?hg (N := 6) ?hd (cs := #[.string (⟨#[]⟩ : ByteArray), .int .i64 0, .int .i64 0]) (t := 35) ?hr ?_; (case hd => rfl); (case hg => rfl); (case hr => first | (go_simp; done) | (go_simp; rfl)); intro gb270 hg w9 hbox hb; have BK270 := Aside0.mk (hbox); have GW270 : Aside0 (w.heap.size ≤ gb270) := gW hg; have GE270 := GW270; replace HB := Aside0.mk (below_step bB hb); clear hb hbox hg; have hcz10_0 := cZ BK270 0 (.string (⟨#[]⟩ : ByteArray)); have hcz10_1 := cZ BK270 1 (.int .i64 0); have hcz10_2 := cZ BK270 2 (.int .i64 0); have hfz10_0 := blk_frozen BK270.out 0; have hfz10_1 := blk_frozen BK270.out 1; have hfz10_2 := blk_frozen BK270.out 2) | ((with_reducible refine gate_callee (f := 75) rfl ?_); refine goesL_ (some 19) rfl rfl Tryz.func75 (by kernel_rfl) rfl #[.string ((rd_T35 l0 x11_1).f0), .string a1] rfl lM ?_; (with_reducible refine (spec_hiOf.calls ((rd_T35 l0 x11_1).f0) a1 t271 t272 _ A6.out).mono ?_); rintro e w11 ⟨rfl, hb⟩; refine ⟨_, rfl, ?_⟩; replace BK270 := Aside0.mk (blk_below (g := gb270) (o := .cells #[.string ((rd_T35 l0 x11_1).f0), .int .i64 ((rd_T35 l0 x11_1).f1), .int .i64 ((rd_T35 l0 x11_1).f2)] 35 (0, 0)) (by (with_reducible repeat (first | refine blk_drewN ?_ _ | refine blk_drew ?_ | refine blk_alloc ?_ _)); refine blk_put (cs := #[.string ((rd_T35 l0 x11_1).f0), .int .i64 ((rd_T35 l0 x11_1).f1), .int .i64 0]) ?_ 2 _ rfl; (with_reducible repeat (first | refine blk_drewN ?_ _ | refine blk_drew ?_ | refine blk_alloc ?_ _)); refine blk_put (cs := #[.string ((rd_T35 l0 x11_1).f0), .int .i64 0, .int .i64 0]) ?_ 1 _ rfl; (with_reducible repeat (first | refine blk_drewN ?_ _ | refine blk_drew ?_ | refine blk_alloc ?_ _)); refine blk_put (cs := #[.string (⟨#[]⟩ : ByteArray), .int .i64 0, .int .i64 0]) ?_ 0 _ rfl; (with_reducible repeat (first | refine blk_drewN ?_ _ | refine blk_drew ?_ | refine blk_alloc ?_ _)); exact BK270.out) hb); replace HB := Aside0.mk (below_step bG hb); (try clear hb); have hcz12_0 := cZ BK270 0 (.string ((rd_T35 l0 x11_1).f0)); have hcz12_1 := cZ BK270 1 (.int .i64 ((rd_T35 l0 x11_1).f1)); have hcz12_2 := cZ BK270 2 (.int .i64 ((rd_T35 l0 x11_1).f2)); have hfz12_0 := blk_frozen BK270.out 0; have hfz12_1 := blk_frozen BK270.out 1; have hfz12_2 := blk_frozen BK270.out 2))
      go_roundg k1
      case measure => have := HK1.out; omega
      case rel => exact ⟨(wrap64 (x11_1 + 1)), fR, H', ⟨by have := HK1.out; omega⟩, ⟨bG⟩⟩
     ·rw [if_neg c8] at H
      have c8b0 : (t272 == ((rd_T35 l0 x11_1).f2)) = false := beq_eq_false_iff_ne.mpr c8
      have c8b1 : (t272 != ((rd_T35 l0 x11_1).f2)) = true := bne_iff_ne.mpr c8
      obtain rfl := Option.some.inj H
      have p269 : 0 ≤ (x11_1 : Int) := oD
      have q269 : x11_1 < (l0.length : Int) := oD
      obtain ⟨ad269, e269, hx269_0, hx269_1, hx269_2⟩ := at_T35 HR0.out x11_1 p269 q269
      cases e269
      replace hx269_0 := (HB.out.cell (World.block_lt_of_cell? w _ hx269_0)).trans hx269_0
      replace hx269_1 := (HB.out.cell (World.block_lt_of_cell? w _ hx269_1)).trans hx269_1
      replace hx269_2 := (HB.out.cell (World.block_lt_of_cell? w _ hx269_2)).trans hx269_2
      replace p269 := eq_true p269
      replace q269 := eq_true q269
      go_wp2_with (first | ((with_reducible refine gate_dst (N := 6) rfl ?_); refine box_event ?hg (N := 6) ?hd (cs := #[.string (⟨#[]⟩ : ByteArray), .int .i64 0, .int .i64 0]) (t := 35) ?hr ?_; (case hd => rfl); (case hg => rfl); (case hr => first | (go_simp; done) | (go_simp; rfl)); intro gb270 hg w13 hbox hb; have BK270 := Aside0.mk (hbox); have GW270 : Aside0 (w.heap.size ≤ gb270) := gW hg; have GE270 := GW270; replace HB := Aside0.mk (below_step bB hb); clear hb hbox hg; have hcz14_0 := cZ BK270 0 (.string (⟨#[]⟩ : ByteArray)); have hcz14_1 := cZ BK270 1 (.int .i64 0); have hcz14_2 := cZ BK270 2 (.int .i64 0); have hfz14_0 := blk_frozen BK270.out 0; have hfz14_1 := blk_frozen BK270.out 1; have hfz14_2 := blk_frozen BK270.out 2) | ((with_reducible refine gate_callee (f := 75) rfl ?_); refine goesL_ (some 19) rfl rfl Tryz.func75 (by kernel_rfl) rfl #[.string ((rd_T35 l0 x11_1).f0), .string a1] rfl lM ?_; (with_reducible refine (spec_hiOf.calls ((rd_T35 l0 x11_1).f0) a1 t271 t272 _ A6.out).mono ?_); rintro e w15 ⟨rfl, hb⟩; refine ⟨_, rfl, ?_⟩; replace BK270 := Aside0.mk (blk_below (g := gb270) (o := .cells #[.string ((rd_T35 l0 x11_1).f0), .int .i64 ((rd_T35 l0 x11_1).f1), .int .i64 ((rd_T35 l0 x11_1).f2)] 35 (0, 0)) (by (with_reducible repeat (first | refine blk_drewN ?_ _ | refine blk_drew ?_ | refine blk_alloc ?_ _)); refine blk_put (cs := #[.string ((rd_T35 l0 x11_1).f0), .int .i64 ((rd_T35 l0 x11_1).f1), .int .i64 0]) ?_ 2 _ rfl; (with_reducible repeat (first | refine blk_drewN ?_ _ | refine blk_drew ?_ | refine blk_alloc ?_ _)); refine blk_put (cs := #[.string ((rd_T35 l0 x11_1).f0), .int .i64 0, .int .i64 0]) ?_ 1 _ rfl; (with_reducible repeat (first | refine blk_drewN ?_ _ | refine blk_drew ?_ | refine blk_alloc ?_ _)); refine blk_put (cs := #[.string (⟨#[]⟩ : ByteArray), .int .i64 0, .int .i64 0]) ?_ 0 _ rfl; (with_reducible repeat (first | refine blk_drewN ?_ _ | refine blk_drew ?_ | refine blk_alloc ?_ _)); exact BK270.out) hb); replace HB := Aside0.mk (below_step bG hb); (try clear hb); have hcz16_0 := cZ BK270 0 (.string ((rd_T35 l0 x11_1).f0)); have hcz16_1 := cZ BK270 1 (.int .i64 ((rd_T35 l0 x11_1).f1)); have hcz16_2 := cZ BK270 2 (.int .i64 ((rd_T35 l0 x11_1).f2)); have hfz16_0 := blk_frozen BK270.out 0; have hfz16_1 := blk_frozen BK270.out 1; have hfz16_2 := blk_frozen BK270.out 2))
      go_ret
      exact ⟨rE, bG⟩
    ·rw [if_neg c7] at H
     have c7b0 : (t271 == ((rd_T35 l0 x11_1).f1)) = false := beq_eq_false_iff_ne.mpr c7
     have c7b1 : (t271 != ((rd_T35 l0 x11_1).f1)) = true := bne_iff_ne.mpr c7
     obtain rfl := Option.some.inj H
     have p269 : 0 ≤ (x11_1 : Int) := oD
     have q269 : x11_1 < (l0.length : Int) := oD
     obtain ⟨ad269, e269, hx269_0, hx269_1, hx269_2⟩ := at_T35 HR0.out x11_1 p269 q269
     cases e269
     replace hx269_0 := (HB.out.cell (World.block_lt_of_cell? w _ hx269_0)).trans hx269_0
     replace hx269_1 := (HB.out.cell (World.block_lt_of_cell? w _ hx269_1)).trans hx269_1
     replace hx269_2 := (HB.out.cell (World.block_lt_of_cell? w _ hx269_2)).trans hx269_2
     replace p269 := eq_true p269
     replace q269 := eq_true q269
     go_wp2_with (first | ((with_reducible refine gate_dst (N := 6) rfl ?_); refine box_event ?hg (N := 6) ?hd (cs := #[.string (⟨#[]⟩ : ByteArray), .int .i64 0, .int .i64 0]) (t := 35) ?hr ?_; (case hd => rfl); (case hg => rfl); (case hr => first | (go_simp; done) | (go_simp; rfl)); intro gb270 hg w17 hbox hb; have BK270 := Aside0.mk (hbox); have GW270 : Aside0 (w.heap.size ≤ gb270) := gW hg; have GE270 := GW270; replace HB := Aside0.mk (below_step bB hb); clear hb hbox hg; have hcz18_0 := cZ BK270 0 (.string (⟨#[]⟩ : ByteArray)); have hcz18_1 := cZ BK270 1 (.int .i64 0); have hcz18_2 := cZ BK270 2 (.int .i64 0); have hfz18_0 := blk_frozen BK270.out 0; have hfz18_1 := blk_frozen BK270.out 1; have hfz18_2 := blk_frozen BK270.out 2) | ((with_reducible refine gate_callee (f := 75) rfl ?_); refine goesL_ (some 19) rfl rfl Tryz.func75 (by kernel_rfl) rfl #[.string ((rd_T35 l0 x11_1).f0), .string a1] rfl lM ?_; (with_reducible refine (spec_hiOf.calls ((rd_T35 l0 x11_1).f0) a1 t271 t272 _ A6.out).mono ?_); rintro e w19 ⟨rfl, hb⟩; refine ⟨_, rfl, ?_⟩; replace BK270 := Aside0.mk (blk_below (g := gb270) (o := .cells #[.string ((rd_T35 l0 x11_1).f0), .int .i64 ((rd_T35 l0 x11_1).f1), .int .i64 ((rd_T35 l0 x11_1).f2)] 35 (0, 0)) (by (with_reducible repeat (first | refine blk_drewN ?_ _ | refine blk_drew ?_ | refine blk_alloc ?_ _)); refine blk_put (cs := #[.string ((rd_T35 l0 x11_1).f0), .int .i64 ((rd_T35 l0 x11_1).f1), .int .i64 0]) ?_ 2 _ rfl; (with_reducible repeat (first | refine blk_drewN ?_ _ | refine blk_drew ?_ | refine blk_alloc ?_ _)); refine blk_put (cs := #[.string ((rd_T35 l0 x11_1).f0), .int .i64 0, .int .i64 0]) ?_ 1 _ rfl; (with_reducible repeat (first | refine blk_drewN ?_ _ | refine blk_drew ?_ | refine blk_alloc ?_ _)); refine blk_put (cs := #[.string (⟨#[]⟩ : ByteArray), .int .i64 0, .int .i64 0]) ?_ 0 _ rfl; (with_reducible repeat (first | refine blk_drewN ?_ _ | refine blk_drew ?_ | refine blk_alloc ?_ _)); exact BK270.out) hb); replace HB := Aside0.mk (below_step bG hb); (try clear hb); have hcz20_0 := cZ BK270 0 (.string ((rd_T35 l0 x11_1).f0)); have hcz20_1 := cZ BK270 1 (.int .i64 ((rd_T35 l0 x11_1).f1)); have hcz20_2 := cZ BK270 2 (.int .i64 ((rd_T35 l0 x11_1).f2)); have hfz20_0 := blk_frozen BK270.out 0; have hfz20_1 := blk_frozen BK270.out 1; have hfz20_2 := blk_frozen BK270.out 2))
     go_ret
     exact ⟨rE, bG⟩
   ·rw [if_neg c3] at H
    have c3b0 : decide (x11_1 < (l0.length : Int)) = false := decide_eq_false c3
    clear c3
    obtain rfl := Option.some.inj H
    go_wp2
    go_ret
    exact ⟨rE, bB⟩

/-! ### spec_hiFitting: function 73 -/
def spec_hiFitting.l0 : Nat → List (S35) → List ByteArray → List ByteArray → Int → Int → Option (List ByteArray)
 | 0, _, _, _, _, _ => none
 | k + 1, x1, x5, x8, x9, x10 => if x10 < x9 then (if 0 ≤ x10 then (if x10 < (x8.length : Int) then ((spec_hiFits.f k x1 (rdOf ByteArray.empty x8 x10)).bind fun t274 => (if t274 = true then (if x5.length < 8796093022208 then (spec_hiFitting.l0 k x1 (x5 ++ [rdOf ByteArray.empty x8 x10]) x8 x9 (wrap64 (x10 + 1))) else (none)) else (spec_hiFitting.l0 k x1 x5 x8 x9 (wrap64 (x10 + 1))))) else (none)) else (none)) else (some x5)
def spec_hiFitting.f (k : Nat) (l0 : List ByteArray) (l1 : List (S35)) : Option (List ByteArray) := spec_hiFitting.l0 k l1 ([] : List ByteArray) l0 (l0.length : Int) 0
theorem spec_hiFitting.mono_l : ∀ k, (∀ y0 y1 y2 y3 y4, LeO (spec_hiFitting.l0 k y0 y1 y2 y3 y4) (spec_hiFitting.l0 (k + 1) y0 y1 y2 y3 y4))
 | 0 => fun _ _ _ _ _ r h => by simp [spec_hiFitting.l0] at h
 | k + 1 => by
  have ih0 := spec_hiFitting.mono_l k
  ·intro y0 y1 y2 y3 y4
   unfold spec_hiFitting.l0
   repeat' first
   | (with_reducible first | exact ih0 _ _ _ _ _ | exact spec_hiFits.mono _ _ _ | exact LeO.refl _ | exact LeO.none _ | refine LeO.ite ?_ ?_ | refine LeO.bind ?_ (fun _ => ?_))
   | exact ih0 _ _ _ _ _
   | exact spec_hiFits.mono _ _ _
   | exact LeO.none _
   | refine LeO.ite ?_ ?_
   | refine LeO.bind ?_ (fun _ => ?_)
theorem spec_hiFitting.mono : ∀ a0 a1 k, LeO (spec_hiFitting.f k a0 a1) (spec_hiFitting.f (k + 1) a0 a1) := by
 intro a0 a1 k
 have ih0 := spec_hiFitting.mono_l k
 unfold spec_hiFitting.f
 repeat' first
   | (with_reducible first | exact ih0 _ _ _ _ _ | exact spec_hiFits.mono _ _ _ | exact LeO.refl _ | exact LeO.none _ | refine LeO.ite ?_ ?_ | refine LeO.bind ?_ (fun _ => ?_))
   | exact ih0 _ _ _ _ _
   | exact spec_hiFits.mono _ _ _
   | exact LeO.none _
   | refine LeO.ite ?_ ?_
   | refine LeO.bind ?_ (fun _ => ?_)
theorem spec_hiFitting.calls (k : Nat) (A0 : Option Addr) (c0 : Nat) (l0 : List ByteArray) (A1 : Option Addr) (c1 : Nat) (l1 : List (S35)) (r : List ByteArray) (w : World) (hr0 : Kd.C Kd.string w A0 l0.length l0) (hc0 : l0.length ≤ c0) (hr1 : Kd.C k35 w A1 l1.length l1) (hc1 : l1.length ≤ c1) (h : spec_hiFitting.f k l0 l1 = some r) :
  Calls Tryz.prog 73 #[.slice A0 l0.length c0, .slice A1 l1.length c1] w fun e w' => ∃ v0_ : Value, e = .returned (v0_) ∧ Kd.R Kd.string 9 w' w.heap.size (fun _ => True) v0_ r ∧ Below w.heap.size w w' := by
 have HR0 := Aside0.mk hr0
 have HC0 := Aside0.mk hc0
 clear hr0 hc0
 have HR1 := Aside0.mk hr1
 have HC1 := Aside0.mk hc1
 clear hr1 hc1
 have HB := Aside0.mk (Below.refl w.heap.size w)
 have H := h
 unfold spec_hiFitting.f at H
 clear h
 have H' := Aside0.mk H
 clear H
 go_enter Tryz.func73, Tryz.ntmps73
 go_wp2
 go_loopg [5, 10] k (fun kq v5 v10 w' => ∃ (x5_1 : List ByteArray) (x10_1 : Int), v10 = .int .i64 x10_1 ∧ Aside0 (spec_hiFitting.l0 kq l1 x5_1 l0 (l0.length : Int) x10_1 = some r) ∧ Aside0 (kq ≤ k) ∧ Aside0 (Kd.R Kd.string 9 w' w.heap.size (fun _ => True) v5 x5_1) ∧ Aside0 (Below w.heap.size w w'))
 case atStart => exact ⟨(([] : List ByteArray)), (0), fR, H', ⟨Nat.le_refl _⟩, ⟨by first | exact Kd.R_nil _ _ _ _ _ | exact Kd.N_nil _ _ _ _ _ | exact Kd.V_nil _ _ _ _ _ | exact Kd.Q_nil _ _ _ _ _ | exact Kd.S_nil _ _ _ _ _⟩, ⟨bB⟩⟩
 case round =>
  clear H'
  try clear c1
  try clear p2
  obtain ⟨x5_1, x10_1, rfl, HA, HK1, HO_5, HB⟩ := hrel
  cases gk with
  | zero => exact absurd HA.out (by simp [spec_hiFitting.l0])
  | succ k1 =>
   have H := HA.out
   clear HA
   simp only [spec_hiFitting.l0] at H
   by_cases c3 : x10_1 < (l0.length : Int)
   ·rw [if_pos c3] at H
    have c3b0 : decide (x10_1 < (l0.length : Int)) = true := decide_eq_true c3
    clear c3
    replace H := nz H; obtain ⟨c4, H⟩ := H
    have c4b0 : decide (0 ≤ x10_1) = true := decide_eq_true c4
    clear c4
    replace H := nz H; obtain ⟨c5, H⟩ := H
    have c5b0 : decide (x10_1 < (l0.length : Int)) = true := decide_eq_true c5
    clear c5
    replace H := Option.bind_eq_some_iff.mp H
    obtain ⟨t274, A60, H⟩ := H
    (try dsimp only at H)
    have A6 := Aside0.mk A60
    clear A60
    by_cases c7 : t274 = true
    ·subst c7
     replace H := zt H
     replace H := nz H; obtain ⟨c8, H⟩ := H
     have LMc8 := Aside0.mk c8
     clear c8
     obtain ⟨y275, hy275⟩ : ∃ y_ : List ByteArray, y_ = (x5_1 ++ [rdOf ByteArray.empty l0 x10_1]) := ⟨_, rfl⟩
     replace H : (spec_hiFitting.l0 k1 l1 y275 l0 (l0.length : Int) (wrap64 (x10_1 + 1))) = some r := hZ hy275 H
     have Ny275 := Aside0.mk hy275
     clear hy275
     have H' := Aside0.mk H
     clear H
     have p273 : 0 ≤ (x10_1 : Int) := oD
     have q273 : x10_1 < (l0.length : Int) := oD
     obtain ⟨ad273, e273, hx273_0⟩ := Kd.at_string HR0.out x10_1 p273 q273
     cases e273
     replace hx273_0 := (HB.out.cell (World.block_lt_of_cell? w _ hx273_0)).trans hx273_0
     replace p273 := eq_true p273
     replace q273 := eq_true q273
     go_wp2_with (first | ((with_reducible refine gate_callee (f := 85) rfl ?_); refine goesL_ (some 16) rfl rfl Tryz.func85 (by kernel_rfl) rfl #[.slice A1 l1.length c1, .string (rdOf ByteArray.empty l0 x10_1)] rfl lM ?_; (with_reducible refine (spec_hiFits.calls k1 _ _ l1 (rdOf ByteArray.empty l0 x10_1) true _ ?side1 ?side2 A6.out).mono ?_); (case side1 => exact cS (Kd.C_below HR1.out HB.out)); (case side2 => exact HC1.out); rintro e w9 ⟨rfl, hb⟩; refine ⟨_, rfl, ?_⟩; replace HO_5 := Aside0.mk (Kd.R_below (kR HO_5) hb); replace HB := Aside0.mk (below_step bB hb); (try clear hb)) | ((with_reducible refine gate_builtin (b := .append) (xs := #[.tmp 17, .tmp 19]) rfl ?_); at_builtin; refine Kd.R_append Kd.string (w0 := w) w.heap.size rfl (.tmp 17) (.tmp 19) 38 9 (.string ⟨#[]⟩) 16 rfl Tryz.underlying38 info9 rfl (by decide) (by omega) u5 x5_1 (rdOf ByteArray.empty l0 x10_1) [.string (rdOf ByteArray.empty l0 x10_1)] (fun _ => True) (fun _ => False) rfl rfl ?aP (fun _ hk => hk.elim) ?aF ?aO ?aB ?aS ?aL ?_; (case aP => exact rfl); (case aB => exact bB); (case aF => exact (fun _ _ => trivial)); (case aO => exact (kR HO_5)); (case aS => exact (below_size bB)); (case aL => have := LMc8.out; omega); intro v276 w10 ho hb hg hat; rw [← Ny275.out] at ho; have n0_ := Aside0.mk (hb); have n1_ := Aside0.mk (ho); clear HB; clear HO_5; have HB := n0_; have HO277 := n1_; clear n0_ n1_; clear ho hb hg hat))
     go_roundg k1
     case measure => have := HK1.out; omega
     case rel => exact ⟨(y275), (wrap64 (x10_1 + 1)), fR, H', ⟨by have := HK1.out; omega⟩, ⟨kR HO277⟩, ⟨bB⟩⟩
    ·replace c7 := Bool.eq_false_iff.mpr c7
     subst c7
     replace H := zf H
     have H' := Aside0.mk H
     clear H
     have p273 : 0 ≤ (x10_1 : Int) := oD
     have q273 : x10_1 < (l0.length : Int) := oD
     obtain ⟨ad273, e273, hx273_0⟩ := Kd.at_string HR0.out x10_1 p273 q273
     cases e273
     replace hx273_0 := (HB.out.cell (World.block_lt_of_cell? w _ hx273_0)).trans hx273_0
     replace p273 := eq_true p273
     replace q273 := eq_true q273
     go_wp2_with (first | ((with_reducible refine gate_callee (f := 85) rfl ?_); refine goesL_ (some 16) rfl rfl Tryz.func85 (by kernel_rfl) rfl #[.slice A1 l1.length c1, .string (rdOf ByteArray.empty l0 x10_1)] rfl lM ?_; (with_reducible refine (spec_hiFits.calls k1 _ _ l1 (rdOf ByteArray.empty l0 x10_1) false _ ?side1 ?side2 A6.out).mono ?_); (case side1 => exact cS (Kd.C_below HR1.out HB.out)); (case side2 => exact HC1.out); rintro e w11 ⟨rfl, hb⟩; refine ⟨_, rfl, ?_⟩; replace HO_5 := Aside0.mk (Kd.R_below (kR HO_5) hb); replace HB := Aside0.mk (below_step bB hb); (try clear hb)))
     go_roundg k1
     case measure => have := HK1.out; omega
     case rel => exact ⟨(x5_1), (wrap64 (x10_1 + 1)), fR, H', ⟨by have := HK1.out; omega⟩, ⟨kR HO_5⟩, ⟨bB⟩⟩
   ·rw [if_neg c3] at H
    have c3b0 : decide (x10_1 < (l0.length : Int)) = false := decide_eq_false c3
    clear c3
    obtain rfl := Option.some.inj H
    go_wp2
    go_ret
    exact ⟨_, rE, kR HO_5, bB⟩

/-! ### spec_hiTold: function 71 -/
def spec_hiTold.f (a0_0 : Int) (a0_1 : Int) (a1 : Int) (a2 : Int) : Option (Bool) := (spec_l1In.f a1 0 a0_0).bind fun t279 => (if t279 = true then ((spec_l1In.f a2 0 (wrap64 (a0_0 - a1))).bind fun t280 => (some t280)) else (some false))
theorem spec_hiTold.calls (a0_0 : Int) (a0_1 : Int) (a1 : Int) (a2 : Int) (r : Bool) (w : World) (h : spec_hiTold.f a0_0 a0_1 a1 a2 = some r) :
  Calls Tryz.prog 71 #[.agg #[.int .i64 a0_0, .int .i64 a0_1], .int .i64 a1, .int .i64 a2] w fun e w' => e = .returned (.bool r) ∧ Below w.heap.size w w' := by
 have hu25 := Tryz.underlying25
 have HB := Aside0.mk (Below.refl w.heap.size w)
 have H := h
 unfold spec_hiTold.f at H
 clear h
 replace H := Option.bind_eq_some_iff.mp H
 obtain ⟨t279, A40, H⟩ := H
 (try dsimp only at H)
 have A4 := Aside0.mk A40
 clear A40
 by_cases c5 : t279 = true
 ·subst c5
  replace H := zt H
  replace H := Option.bind_eq_some_iff.mp H
  obtain ⟨t280, A60, H⟩ := H
  (try dsimp only at H)
  have A6 := Aside0.mk A60
  clear A60
  obtain rfl := Option.some.inj H
  go_enter Tryz.func71, Tryz.ntmps71
  go_wp2_with (first | ((with_reducible refine gate_dst (N := 3) rfl ?_); refine box_event ?hg (N := 3) ?hd (cs := #[.int .i64 a0_0, .int .i64 a0_1]) (t := 25) ?hr ?_; (case hd => rfl); (case hg => rfl); (case hr => first | (go_simp; done) | (go_simp; rfl)); intro gb278 hg w7 hbox hb; have BK278 := Aside0.mk (hbox); have GW278 : Aside0 (w.heap.size ≤ gb278) := gW hg; have GE278 := GW278; replace HB := Aside0.mk (below_step bB hb); clear hb hbox hg; have hcz8_0 := cZ BK278 0 (.int .i64 a0_0); have hcz8_1 := cZ BK278 1 (.int .i64 a0_1); have hfz8_0 := blk_frozen BK278.out 0; have hfz8_1 := blk_frozen BK278.out 1) | ((with_reducible refine gate_callee (f := 99) rfl ?_); refine goesL_ (some 10) rfl rfl Tryz.func99 (by kernel_rfl) rfl #[.int .i64 a1, .int .i64 0, .int .i64 a0_0] rfl lM ?_; (with_reducible refine (spec_l1In.calls a1 0 a0_0 true _ A4.out).mono ?_); rintro e w' ⟨rfl, ⟨nd, rfl⟩⟩; refine ⟨_, rfl, ?_⟩) | (go_at_call 99; (with_reducible refine (spec_l1In.calls a2 0 (wrap64 (a0_0 - a1)) t280 _ A6.out).mono ?_); rintro e w' ⟨rfl, ⟨nd, rfl⟩⟩))
  go_ret
  exact ⟨rE, bG⟩
 ·replace c5 := Bool.eq_false_iff.mpr c5
  subst c5
  replace H := zf H
  obtain rfl := Option.some.inj H
  go_enter Tryz.func71, Tryz.ntmps71
  go_wp2_with (first | ((with_reducible refine gate_dst (N := 3) rfl ?_); refine box_event ?hg (N := 3) ?hd (cs := #[.int .i64 a0_0, .int .i64 a0_1]) (t := 25) ?hr ?_; (case hd => rfl); (case hg => rfl); (case hr => first | (go_simp; done) | (go_simp; rfl)); intro gb278 hg w9 hbox hb; have BK278 := Aside0.mk (hbox); have GW278 : Aside0 (w.heap.size ≤ gb278) := gW hg; have GE278 := GW278; replace HB := Aside0.mk (below_step bB hb); clear hb hbox hg; have hcz10_0 := cZ BK278 0 (.int .i64 a0_0); have hcz10_1 := cZ BK278 1 (.int .i64 a0_1); have hfz10_0 := blk_frozen BK278.out 0; have hfz10_1 := blk_frozen BK278.out 1) | ((with_reducible refine gate_callee (f := 99) rfl ?_); refine goesL_ (some 10) rfl rfl Tryz.func99 (by kernel_rfl) rfl #[.int .i64 a1, .int .i64 0, .int .i64 a0_0] rfl lM ?_; (with_reducible refine (spec_l1In.calls a1 0 a0_0 false _ A4.out).mono ?_); rintro e w' ⟨rfl, ⟨nd, rfl⟩⟩; refine ⟨_, rfl, ?_⟩))
  go_ret
  exact ⟨rE, bG⟩

/-! ### spec_hiGood: function 84 -/
def spec_hiGood.l0 : Nat → List (S35) → Int → Int → Int → Int → Option (Bool)
 | 0, _, _, _, _, _ => none
 | k + 1, x10, x11, x12, x282000, x282001 => if x12 < x11 then (if 0 ≤ x12 then (if x12 < (x10.length : Int) then ((spec_whCode.f k x282000 x282001 ((rd_T35 x10 x12).f0)).bind fun t284 => (if t284 = true then ((spec_hiTold.f x282000 x282001 ((rd_T35 x10 x12).f1) ((rd_T35 x10 x12).f2)).bind fun t285 => (if t285 = true then (spec_hiGood.l0 k x10 x11 (wrap64 (x12 + 1)) x282000 x282001) else (some false))) else (some false))) else (none)) else (none)) else (some true)
def spec_hiGood.f (k : Nat) (a0_0 : Int) (a0_1 : Int) (l1 : List (S35)) : Option (Bool) := if (l1.length : Int) > 10 then (some false) else (spec_hiGood.l0 k l1 (l1.length : Int) 0 a0_0 a0_1)
theorem spec_hiGood.mono_l : ∀ k, (∀ y0 y1 y2 y3 y4, LeO (spec_hiGood.l0 k y0 y1 y2 y3 y4) (spec_hiGood.l0 (k + 1) y0 y1 y2 y3 y4))
 | 0 => fun _ _ _ _ _ r h => by simp [spec_hiGood.l0] at h
 | k + 1 => by
  have ih0 := spec_hiGood.mono_l k
  ·intro y0 y1 y2 y3 y4
   unfold spec_hiGood.l0
   repeat' first
   | (with_reducible first | exact ih0 _ _ _ _ _ | exact spec_whCode.mono _ _ _ _ | exact LeO.refl _ | exact LeO.none _ | refine LeO.ite ?_ ?_ | refine LeO.bind ?_ (fun _ => ?_))
   | exact ih0 _ _ _ _ _
   | exact spec_whCode.mono _ _ _ _
   | exact LeO.none _
   | refine LeO.ite ?_ ?_
   | refine LeO.bind ?_ (fun _ => ?_)
theorem spec_hiGood.mono : ∀ a0 a1 a2 k, LeO (spec_hiGood.f k a0 a1 a2) (spec_hiGood.f (k + 1) a0 a1 a2) := by
 intro a0 a1 a2 k
 have ih0 := spec_hiGood.mono_l k
 unfold spec_hiGood.f
 repeat' first
   | (with_reducible first | exact ih0 _ _ _ _ _ | exact spec_whCode.mono _ _ _ _ | exact LeO.refl _ | exact LeO.none _ | refine LeO.ite ?_ ?_ | refine LeO.bind ?_ (fun _ => ?_))
   | exact ih0 _ _ _ _ _
   | exact spec_whCode.mono _ _ _ _
   | exact LeO.none _
   | refine LeO.ite ?_ ?_
   | refine LeO.bind ?_ (fun _ => ?_)
theorem spec_hiGood.calls (k : Nat) (a0_0 : Int) (a0_1 : Int) (A1 : Option Addr) (c1 : Nat) (l1 : List (S35)) (r : Bool) (w : World) (hr1 : Kd.C k35 w A1 l1.length l1) (hc1 : l1.length ≤ c1) (h : spec_hiGood.f k a0_0 a0_1 l1 = some r) :
  Calls Tryz.prog 84 #[.agg #[.int .i64 a0_0, .int .i64 a0_1], .slice A1 l1.length c1] w fun e w' => e = .returned (.bool r) ∧ Below w.heap.size w w' := by
 have hu25 := Tryz.underlying25
 have hu35 := Tryz.underlying35
 have HR1 := Aside0.mk hr1
 have HC1 := Aside0.mk hc1
 clear hr1 hc1
 have HB := Aside0.mk (Below.refl w.heap.size w)
 have H := h
 unfold spec_hiGood.f at H
 clear h
 by_cases c3 : (l1.length : Int) > 10
 ·rw [if_pos c3] at H
  have c3b0 : decide (10 < (l1.length : Int)) = true := decide_eq_true c3
  have c3b1 : decide (10 < l1.length) = true := decide_eq_true (by omega)
  clear c3
  obtain rfl := Option.some.inj H
  go_enter Tryz.func84, Tryz.ntmps84
  go_wp2_with (first | ((with_reducible refine gate_dst (N := 2) rfl ?_); refine box_event ?hg (N := 2) ?hd (cs := #[.int .i64 a0_0, .int .i64 a0_1]) (t := 25) ?hr ?_; (case hd => rfl); (case hg => rfl); (case hr => first | (go_simp; done) | (go_simp; rfl)); intro gb281 hg w4 hbox hb; have BK281 := Aside0.mk (hbox); have GW281 : Aside0 (w.heap.size ≤ gb281) := gW hg; have GE281 := GW281; replace HB := Aside0.mk (below_step bB hb); clear hb hbox hg))
  go_ret
  exact ⟨rE, bG⟩
 ·rw [if_neg c3] at H
  have c3b0 : decide (10 < (l1.length : Int)) = false := decide_eq_false c3
  have c3b1 : decide (10 < l1.length) = false := decide_eq_false (by omega)
  clear c3
  have H' := Aside0.mk H
  clear H
  go_enter Tryz.func84, Tryz.ntmps84
  go_wp2_with (first | ((with_reducible refine gate_dst (N := 2) rfl ?_); refine box_event ?hg (N := 2) ?hd (cs := #[.int .i64 a0_0, .int .i64 a0_1]) (t := 25) ?hr ?_; (case hd => rfl); (case hg => rfl); (case hr => first | (go_simp; done) | (go_simp; rfl)); intro gb281 hg w5 hbox hb; have BK281 := Aside0.mk (hbox); have GW281 : Aside0 (w.heap.size ≤ gb281) := gW hg; have GE281 := GW281; replace HB := Aside0.mk (below_step bB hb); clear hb hbox hg))
  go_loopg [12] k (fun kq v12 w' => ∃ (x12_1 : Int), v12 = .int .i64 x12_1 ∧ Aside0 (spec_hiGood.l0 kq l1 (l1.length : Int) x12_1 a0_0 a0_1 = some r) ∧ Aside0 (kq ≤ k) ∧ Aside0 (w'.heap[gb281]? = some (.cells #[.int .i64 a0_0, .int .i64 a0_1] 25 (0, 0))) ∧ Aside0 (Below w.heap.size w w'))
  case atStart => exact ⟨(0), fR, H', ⟨Nat.le_refl _⟩, ⟨bK⟩, ⟨bG⟩⟩
  case round =>
   clear H'
   try clear c1
   try clear p2
   try clear c3
   try clear c3b0
   try clear c3b1
   obtain ⟨x12_1, rfl, HA, HK1, BK281, HB⟩ := hrel
   cases gk with
   | zero => exact absurd HA.out (by simp [spec_hiGood.l0])
   | succ k1 =>
    have H := HA.out
    clear HA
    simp only [spec_hiGood.l0] at H
    by_cases c6 : x12_1 < (l1.length : Int)
    ·rw [if_pos c6] at H
     have c6b0 : decide (x12_1 < (l1.length : Int)) = true := decide_eq_true c6
     clear c6
     replace H := nz H; obtain ⟨c7, H⟩ := H
     have c7b0 : decide (0 ≤ x12_1) = true := decide_eq_true c7
     clear c7
     replace H := nz H; obtain ⟨c8, H⟩ := H
     have c8b0 : decide (x12_1 < (l1.length : Int)) = true := decide_eq_true c8
     clear c8
     replace H := Option.bind_eq_some_iff.mp H
     obtain ⟨t284, A90, H⟩ := H
     (try dsimp only at H)
     have A9 := Aside0.mk A90
     clear A90
     by_cases c10 : t284 = true
     ·subst c10
      replace H := zt H
      replace H := Option.bind_eq_some_iff.mp H
      obtain ⟨t285, A110, H⟩ := H
      (try dsimp only at H)
      have A11 := Aside0.mk A110
      clear A110
      by_cases c12 : t285 = true
      ·subst c12
       replace H := zt H
       have H' := Aside0.mk H
       clear H
       have p282 : 0 ≤ (x12_1 : Int) := oD
       have q282 : x12_1 < (l1.length : Int) := oD
       obtain ⟨ad282, e282, hx282_0, hx282_1, hx282_2⟩ := at_T35 HR1.out x12_1 p282 q282
       cases e282
       replace hx282_0 := (HB.out.cell (World.block_lt_of_cell? w _ hx282_0)).trans hx282_0
       replace hx282_1 := (HB.out.cell (World.block_lt_of_cell? w _ hx282_1)).trans hx282_1
       replace hx282_2 := (HB.out.cell (World.block_lt_of_cell? w _ hx282_2)).trans hx282_2
       replace p282 := eq_true p282
       replace q282 := eq_true q282
       go_wp2_with (first | ((with_reducible refine gate_dst (N := 6) rfl ?_); refine box_event ?hg (N := 6) ?hd (cs := #[.string (⟨#[]⟩ : ByteArray), .int .i64 0, .int .i64 0]) (t := 35) ?hr ?_; (case hd => rfl); (case hg => rfl); (case hr => first | (go_simp; done) | (go_simp; rfl)); intro gb283 hg w13 hbox hb; have n0_ := Aside0.mk (blk_below (g := gb281) (o := .cells #[.int .i64 a0_0, .int .i64 a0_1] 25 (0, 0)) bK hb); have n1_ := Aside0.mk (below_step bG hb); have n2_ := Aside0.mk (hbox); have n3_ := Aside0.mk ((by rw [hg]; exact (below_size bG) : w.heap.size ≤ gb283)); have n4_ := Aside0.mk ((by rw [hg]; exact (below_size bG) : w.heap.size ≤ gb283)); have n5_ := Aside0.mk ((by rw [hg]; exact Nat.ne_of_lt (blk_lt (g := gb281) (o := .cells #[.int .i64 a0_0, .int .i64 a0_1] 25 (0, 0)) bK) : gb281 ≠ gb283)); have n6_ := Aside0.mk ((by rw [hg]; exact Nat.ne_of_gt (blk_lt (g := gb281) (o := .cells #[.int .i64 a0_0, .int .i64 a0_1] 25 (0, 0)) bK) : gb283 ≠ gb281)); clear BK281; clear HB; have BK281 := n0_; have HB := n1_; have BK283 := n2_; have GW283 := n3_; have GE283 := n4_; have NB281_283 := n5_; have NB283_281 := n6_; clear n0_ n1_ n2_ n3_ n4_ n5_ n6_; clear hb hbox hg; have hnb14 := NB283_281.out; have hnc14 := NB281_283.out; have hcz15_0 := cZ BK283 0 (.string (⟨#[]⟩ : ByteArray)); have hcz15_1 := cZ BK283 1 (.int .i64 0); have hcz15_2 := cZ BK283 2 (.int .i64 0); have hfz15_0 := blk_frozen BK283.out 0; have hfz15_1 := blk_frozen BK283.out 1; have hfz15_2 := blk_frozen BK283.out 2; have hcz16_0 := cZ BK281 0 (.int .i64 a0_0); have hcz16_1 := cZ BK281 1 (.int .i64 a0_1); have hfz16_0 := blk_frozen BK281.out 0; have hfz16_1 := blk_frozen BK281.out 1) | ((with_reducible refine gate_callee (f := 54) rfl ?_); refine goesL_ (some 19) rfl rfl Tryz.func54 (by kernel_rfl) rfl #[.agg #[.int .i64 a0_0, .int .i64 a0_1], .string ((rd_T35 l1 x12_1).f0)] rfl lM ?_; (with_reducible refine (spec_whCode.calls k1 a0_0 a0_1 ((rd_T35 l1 x12_1).f0) true _ A9.out).mono ?_); rintro e w17 ⟨rfl, hb⟩; refine ⟨_, rfl, ?_⟩; replace BK281 := Aside0.mk (blk_below (g := gb281) (o := .cells #[.int .i64 a0_0, .int .i64 a0_1] 25 (0, 0)) (by (with_reducible repeat (first | refine blk_drewN ?_ _ | refine blk_drew ?_ | refine blk_alloc ?_ _)); refine blk_far ?_ NB281_283.out _; (with_reducible repeat (first | refine blk_drewN ?_ _ | refine blk_drew ?_ | refine blk_alloc ?_ _)); refine blk_far ?_ NB281_283.out _; (with_reducible repeat (first | refine blk_drewN ?_ _ | refine blk_drew ?_ | refine blk_alloc ?_ _)); refine blk_far ?_ NB281_283.out _; (with_reducible repeat (first | refine blk_drewN ?_ _ | refine blk_drew ?_ | refine blk_alloc ?_ _)); exact BK281.out) hb); replace BK283 := Aside0.mk (blk_below (g := gb283) (o := .cells #[.string ((rd_T35 l1 x12_1).f0), .int .i64 ((rd_T35 l1 x12_1).f1), .int .i64 ((rd_T35 l1 x12_1).f2)] 35 (0, 0)) (by (with_reducible repeat (first | refine blk_drewN ?_ _ | refine blk_drew ?_ | refine blk_alloc ?_ _)); refine blk_put (cs := #[.string ((rd_T35 l1 x12_1).f0), .int .i64 ((rd_T35 l1 x12_1).f1), .int .i64 0]) ?_ 2 _ rfl; (with_reducible repeat (first | refine blk_drewN ?_ _ | refine blk_drew ?_ | refine blk_alloc ?_ _)); refine blk_put (cs := #[.string ((rd_T35 l1 x12_1).f0), .int .i64 0, .int .i64 0]) ?_ 1 _ rfl; (with_reducible repeat (first | refine blk_drewN ?_ _ | refine blk_drew ?_ | refine blk_alloc ?_ _)); refine blk_put (cs := #[.string (⟨#[]⟩ : ByteArray), .int .i64 0, .int .i64 0]) ?_ 0 _ rfl; (with_reducible repeat (first | refine blk_drewN ?_ _ | refine blk_drew ?_ | refine blk_alloc ?_ _)); exact BK283.out) hb); replace HB := Aside0.mk (below_step bG hb); (try clear hb); have hcz18_0 := cZ BK281 0 (.int .i64 a0_0); have hcz18_1 := cZ BK281 1 (.int .i64 a0_1); have hfz18_0 := blk_frozen BK281.out 0; have hfz18_1 := blk_frozen BK281.out 1; have hcz19_0 := cZ BK283 0 (.string ((rd_T35 l1 x12_1).f0)); have hcz19_1 := cZ BK283 1 (.int .i64 ((rd_T35 l1 x12_1).f1)); have hcz19_2 := cZ BK283 2 (.int .i64 ((rd_T35 l1 x12_1).f2)); have hfz19_0 := blk_frozen BK283.out 0; have hfz19_1 := blk_frozen BK283.out 1; have hfz19_2 := blk_frozen BK283.out 2) | (go_at_call 71; (with_reducible refine (spec_hiTold.calls a0_0 a0_1 ((rd_T35 l1 x12_1).f1) ((rd_T35 l1 x12_1).f2) true _ A11.out).mono ?_); rintro e w20 ⟨rfl, hb⟩; have n0_ := Aside0.mk (blk_below (g := gb281) (o := .cells #[.int .i64 a0_0, .int .i64 a0_1] 25 (0, 0)) bK hb); have n1_ := Aside0.mk (blk_below (g := gb283) (o := .cells #[.string ((rd_T35 l1 x12_1).f0), .int .i64 ((rd_T35 l1 x12_1).f1), .int .i64 ((rd_T35 l1 x12_1).f2)] 35 (0, 0)) bK hb); have n2_ := Aside0.mk (below_step bG hb); clear BK281; clear BK283; clear HB; have BK281 := n0_; have BK283 := n1_; have HB := n2_; clear n0_ n1_ n2_; (try clear hb)))
       go_roundg k1
       case measure => have := HK1.out; omega
       case rel => exact ⟨(wrap64 (x12_1 + 1)), fR, H', ⟨by have := HK1.out; omega⟩, ⟨bK⟩, ⟨bG⟩⟩
      ·replace c12 := Bool.eq_false_iff.mpr c12
       subst c12
       replace H := zf H
       obtain rfl := Option.some.inj H
       have p282 : 0 ≤ (x12_1 : Int) := oD
       have q282 : x12_1 < (l1.length : Int) := oD
       obtain ⟨ad282, e282, hx282_0, hx282_1, hx282_2⟩ := at_T35 HR1.out x12_1 p282 q282
       cases e282
       replace hx282_0 := (HB.out.cell (World.block_lt_of_cell? w _ hx282_0)).trans hx282_0
       replace hx282_1 := (HB.out.cell (World.block_lt_of_cell? w _ hx282_1)).trans hx282_1
       replace hx282_2 := (HB.out.cell (World.block_lt_of_cell? w _ hx282_2)).trans hx282_2
       replace p282 := eq_true p282
       replace q282 := eq_true q282
       go_wp2_with (first | ((with_reducible refine gate_dst (N := 6) rfl ?_); refine box_event ?hg (N := 6) ?hd (cs := #[.string (⟨#[]⟩ : ByteArray), .int .i64 0, .int .i64 0]) (t := 35) ?hr ?_; (case hd => rfl); (case hg => rfl); (case hr => first | (go_simp; done) | (go_simp; rfl)); intro gb283 hg w21 hbox hb; have n0_ := Aside0.mk (blk_below (g := gb281) (o := .cells #[.int .i64 a0_0, .int .i64 a0_1] 25 (0, 0)) bK hb); have n1_ := Aside0.mk (below_step bG hb); have n2_ := Aside0.mk (hbox); have n3_ := Aside0.mk ((by rw [hg]; exact (below_size bG) : w.heap.size ≤ gb283)); have n4_ := Aside0.mk ((by rw [hg]; exact (below_size bG) : w.heap.size ≤ gb283)); have n5_ := Aside0.mk ((by rw [hg]; exact Nat.ne_of_lt (blk_lt (g := gb281) (o := .cells #[.int .i64 a0_0, .int .i64 a0_1] 25 (0, 0)) bK) : gb281 ≠ gb283)); have n6_ := Aside0.mk ((by rw [hg]; exact Nat.ne_of_gt (blk_lt (g := gb281) (o := .cells #[.int .i64 a0_0, .int .i64 a0_1] 25 (0, 0)) bK) : gb283 ≠ gb281)); clear BK281; clear HB; have BK281 := n0_; have HB := n1_; have BK283 := n2_; have GW283 := n3_; have GE283 := n4_; have NB281_283 := n5_; have NB283_281 := n6_; clear n0_ n1_ n2_ n3_ n4_ n5_ n6_; clear hb hbox hg; have hnb22 := NB283_281.out; have hnc22 := NB281_283.out; have hcz23_0 := cZ BK283 0 (.string (⟨#[]⟩ : ByteArray)); have hcz23_1 := cZ BK283 1 (.int .i64 0); have hcz23_2 := cZ BK283 2 (.int .i64 0); have hfz23_0 := blk_frozen BK283.out 0; have hfz23_1 := blk_frozen BK283.out 1; have hfz23_2 := blk_frozen BK283.out 2; have hcz24_0 := cZ BK281 0 (.int .i64 a0_0); have hcz24_1 := cZ BK281 1 (.int .i64 a0_1); have hfz24_0 := blk_frozen BK281.out 0; have hfz24_1 := blk_frozen BK281.out 1) | ((with_reducible refine gate_callee (f := 54) rfl ?_); refine goesL_ (some 19) rfl rfl Tryz.func54 (by kernel_rfl) rfl #[.agg #[.int .i64 a0_0, .int .i64 a0_1], .string ((rd_T35 l1 x12_1).f0)] rfl lM ?_; (with_reducible refine (spec_whCode.calls k1 a0_0 a0_1 ((rd_T35 l1 x12_1).f0) true _ A9.out).mono ?_); rintro e w25 ⟨rfl, hb⟩; refine ⟨_, rfl, ?_⟩; replace BK281 := Aside0.mk (blk_below (g := gb281) (o := .cells #[.int .i64 a0_0, .int .i64 a0_1] 25 (0, 0)) (by (with_reducible repeat (first | refine blk_drewN ?_ _ | refine blk_drew ?_ | refine blk_alloc ?_ _)); refine blk_far ?_ NB281_283.out _; (with_reducible repeat (first | refine blk_drewN ?_ _ | refine blk_drew ?_ | refine blk_alloc ?_ _)); refine blk_far ?_ NB281_283.out _; (with_reducible repeat (first | refine blk_drewN ?_ _ | refine blk_drew ?_ | refine blk_alloc ?_ _)); refine blk_far ?_ NB281_283.out _; (with_reducible repeat (first | refine blk_drewN ?_ _ | refine blk_drew ?_ | refine blk_alloc ?_ _)); exact BK281.out) hb); replace BK283 := Aside0.mk (blk_below (g := gb283) (o := .cells #[.string ((rd_T35 l1 x12_1).f0), .int .i64 ((rd_T35 l1 x12_1).f1), .int .i64 ((rd_T35 l1 x12_1).f2)] 35 (0, 0)) (by (with_reducible repeat (first | refine blk_drewN ?_ _ | refine blk_drew ?_ | refine blk_alloc ?_ _)); refine blk_put (cs := #[.string ((rd_T35 l1 x12_1).f0), .int .i64 ((rd_T35 l1 x12_1).f1), .int .i64 0]) ?_ 2 _ rfl; (with_reducible repeat (first | refine blk_drewN ?_ _ | refine blk_drew ?_ | refine blk_alloc ?_ _)); refine blk_put (cs := #[.string ((rd_T35 l1 x12_1).f0), .int .i64 0, .int .i64 0]) ?_ 1 _ rfl; (with_reducible repeat (first | refine blk_drewN ?_ _ | refine blk_drew ?_ | refine blk_alloc ?_ _)); refine blk_put (cs := #[.string (⟨#[]⟩ : ByteArray), .int .i64 0, .int .i64 0]) ?_ 0 _ rfl; (with_reducible repeat (first | refine blk_drewN ?_ _ | refine blk_drew ?_ | refine blk_alloc ?_ _)); exact BK283.out) hb); replace HB := Aside0.mk (below_step bG hb); (try clear hb); have hcz26_0 := cZ BK281 0 (.int .i64 a0_0); have hcz26_1 := cZ BK281 1 (.int .i64 a0_1); have hfz26_0 := blk_frozen BK281.out 0; have hfz26_1 := blk_frozen BK281.out 1; have hcz27_0 := cZ BK283 0 (.string ((rd_T35 l1 x12_1).f0)); have hcz27_1 := cZ BK283 1 (.int .i64 ((rd_T35 l1 x12_1).f1)); have hcz27_2 := cZ BK283 2 (.int .i64 ((rd_T35 l1 x12_1).f2)); have hfz27_0 := blk_frozen BK283.out 0; have hfz27_1 := blk_frozen BK283.out 1; have hfz27_2 := blk_frozen BK283.out 2) | (go_at_call 71; (with_reducible refine (spec_hiTold.calls a0_0 a0_1 ((rd_T35 l1 x12_1).f1) ((rd_T35 l1 x12_1).f2) false _ A11.out).mono ?_); rintro e w28 ⟨rfl, hb⟩; have n0_ := Aside0.mk (blk_below (g := gb281) (o := .cells #[.int .i64 a0_0, .int .i64 a0_1] 25 (0, 0)) bK hb); have n1_ := Aside0.mk (blk_below (g := gb283) (o := .cells #[.string ((rd_T35 l1 x12_1).f0), .int .i64 ((rd_T35 l1 x12_1).f1), .int .i64 ((rd_T35 l1 x12_1).f2)] 35 (0, 0)) bK hb); have n2_ := Aside0.mk (below_step bG hb); clear BK281; clear BK283; clear HB; have BK281 := n0_; have BK283 := n1_; have HB := n2_; clear n0_ n1_ n2_; (try clear hb)))
       go_ret
       exact ⟨rE, bG⟩
     ·replace c10 := Bool.eq_false_iff.mpr c10
      subst c10
      replace H := zf H
      obtain rfl := Option.some.inj H
      have p282 : 0 ≤ (x12_1 : Int) := oD
      have q282 : x12_1 < (l1.length : Int) := oD
      obtain ⟨ad282, e282, hx282_0, hx282_1, hx282_2⟩ := at_T35 HR1.out x12_1 p282 q282
      cases e282
      replace hx282_0 := (HB.out.cell (World.block_lt_of_cell? w _ hx282_0)).trans hx282_0
      replace hx282_1 := (HB.out.cell (World.block_lt_of_cell? w _ hx282_1)).trans hx282_1
      replace hx282_2 := (HB.out.cell (World.block_lt_of_cell? w _ hx282_2)).trans hx282_2
      replace p282 := eq_true p282
      replace q282 := eq_true q282
      go_wp2_with (first | ((with_reducible refine gate_dst (N := 6) rfl ?_); refine box_event ?hg (N := 6) ?hd (cs := #[.string (⟨#[]⟩ : ByteArray), .int .i64 0, .int .i64 0]) (t := 35) ?hr ?_; (case hd => rfl); (case hg => rfl); (case hr => first | (go_simp; done) | (go_simp; rfl)); intro gb283 hg w29 hbox hb; have n0_ := Aside0.mk (blk_below (g := gb281) (o := .cells #[.int .i64 a0_0, .int .i64 a0_1] 25 (0, 0)) bK hb); have n1_ := Aside0.mk (below_step bG hb); have n2_ := Aside0.mk (hbox); have n3_ := Aside0.mk ((by rw [hg]; exact (below_size bG) : w.heap.size ≤ gb283)); have n4_ := Aside0.mk ((by rw [hg]; exact (below_size bG) : w.heap.size ≤ gb283)); have n5_ := Aside0.mk ((by rw [hg]; exact Nat.ne_of_lt (blk_lt (g := gb281) (o := .cells #[.int .i64 a0_0, .int .i64 a0_1] 25 (0, 0)) bK) : gb281 ≠ gb283)); have n6_ := Aside0.mk ((by rw [hg]; exact Nat.ne_of_gt (blk_lt (g := gb281) (o := .cells #[.int .i64 a0_0, .int .i64 a0_1] 25 (0, 0)) bK) : gb283 ≠ gb281)); clear BK281; clear HB; have BK281 := n0_; have HB := n1_; have BK283 := n2_; have GW283 := n3_; have GE283 := n4_; have NB281_283 := n5_; have NB283_281 := n6_; clear n0_ n1_ n2_ n3_ n4_ n5_ n6_; clear hb hbox hg; have hnb30 := NB283_281.out; have hnc30 := NB281_283.out; have hcz31_0 := cZ BK283 0 (.string (⟨#[]⟩ : ByteArray)); have hcz31_1 := cZ BK283 1 (.int .i64 0); have hcz31_2 := cZ BK283 2 (.int .i64 0); have hfz31_0 := blk_frozen BK283.out 0; have hfz31_1 := blk_frozen BK283.out 1; have hfz31_2 := blk_frozen BK283.out 2; have hcz32_0 := cZ BK281 0 (.int .i64 a0_0); have hcz32_1 := cZ BK281 1 (.int .i64 a0_1); have hfz32_0 := blk_frozen BK281.out 0; have hfz32_1 := blk_frozen BK281.out 1) | ((with_reducible refine gate_callee (f := 54) rfl ?_); refine goesL_ (some 19) rfl rfl Tryz.func54 (by kernel_rfl) rfl #[.agg #[.int .i64 a0_0, .int .i64 a0_1], .string ((rd_T35 l1 x12_1).f0)] rfl lM ?_; (with_reducible refine (spec_whCode.calls k1 a0_0 a0_1 ((rd_T35 l1 x12_1).f0) false _ A9.out).mono ?_); rintro e w33 ⟨rfl, hb⟩; refine ⟨_, rfl, ?_⟩; replace BK281 := Aside0.mk (blk_below (g := gb281) (o := .cells #[.int .i64 a0_0, .int .i64 a0_1] 25 (0, 0)) (by (with_reducible repeat (first | refine blk_drewN ?_ _ | refine blk_drew ?_ | refine blk_alloc ?_ _)); refine blk_far ?_ NB281_283.out _; (with_reducible repeat (first | refine blk_drewN ?_ _ | refine blk_drew ?_ | refine blk_alloc ?_ _)); refine blk_far ?_ NB281_283.out _; (with_reducible repeat (first | refine blk_drewN ?_ _ | refine blk_drew ?_ | refine blk_alloc ?_ _)); refine blk_far ?_ NB281_283.out _; (with_reducible repeat (first | refine blk_drewN ?_ _ | refine blk_drew ?_ | refine blk_alloc ?_ _)); exact BK281.out) hb); replace BK283 := Aside0.mk (blk_below (g := gb283) (o := .cells #[.string ((rd_T35 l1 x12_1).f0), .int .i64 ((rd_T35 l1 x12_1).f1), .int .i64 ((rd_T35 l1 x12_1).f2)] 35 (0, 0)) (by (with_reducible repeat (first | refine blk_drewN ?_ _ | refine blk_drew ?_ | refine blk_alloc ?_ _)); refine blk_put (cs := #[.string ((rd_T35 l1 x12_1).f0), .int .i64 ((rd_T35 l1 x12_1).f1), .int .i64 0]) ?_ 2 _ rfl; (with_reducible repeat (first | refine blk_drewN ?_ _ | refine blk_drew ?_ | refine blk_alloc ?_ _)); refine blk_put (cs := #[.string ((rd_T35 l1 x12_1).f0), .int .i64 0, .int .i64 0]) ?_ 1 _ rfl; (with_reducible repeat (first | refine blk_drewN ?_ _ | refine blk_drew ?_ | refine blk_alloc ?_ _)); refine blk_put (cs := #[.string (⟨#[]⟩ : ByteArray), .int .i64 0, .int .i64 0]) ?_ 0 _ rfl; (with_reducible repeat (first | refine blk_drewN ?_ _ | refine blk_drew ?_ | refine blk_alloc ?_ _)); exact BK283.out) hb); replace HB := Aside0.mk (below_step bG hb); (try clear hb)))
      go_ret
      exact ⟨rE, bG⟩
    ·rw [if_neg c6] at H
     have c6b0 : decide (x12_1 < (l1.length : Int)) = false := decide_eq_false c6
     clear c6
     obtain rfl := Option.some.inj H
     go_wp2
     go_ret
     exact ⟨rE, bG⟩

/-! ### spec_hiAsked: function 80 -/
def spec_hiAsked.f (k : Nat) (a0_0 : Int) (a0_1 : Int) (l1 : List (S35)) : Option (Bool) := (spec_hiLock.f k a0_0 a0_1 1000).bind fun t287 => (if t287 = true then ((spec_hiGood.f k a0_0 a0_1 l1).bind fun t288 => (some t288)) else (some false))
theorem spec_hiAsked.mono : ∀ a0 a1 a2 k, LeO (spec_hiAsked.f k a0 a1 a2) (spec_hiAsked.f (k + 1) a0 a1 a2) := by
 intro a0 a1 a2 k
 unfold spec_hiAsked.f
 repeat' first
   | (with_reducible first | exact spec_hiGood.mono _ _ _ _ | exact spec_hiLock.mono _ _ _ _ | exact LeO.refl _ | exact LeO.none _ | refine LeO.ite ?_ ?_ | refine LeO.bind ?_ (fun _ => ?_))
   | exact spec_hiGood.mono _ _ _ _
   | exact spec_hiLock.mono _ _ _ _
   | exact LeO.none _
   | refine LeO.ite ?_ ?_
   | refine LeO.bind ?_ (fun _ => ?_)
theorem spec_hiAsked.calls (k : Nat) (a0_0 : Int) (a0_1 : Int) (A1 : Option Addr) (c1 : Nat) (l1 : List (S35)) (r : Bool) (w : World) (hr1 : Kd.C k35 w A1 l1.length l1) (hc1 : l1.length ≤ c1) (h : spec_hiAsked.f k a0_0 a0_1 l1 = some r) :
  Calls Tryz.prog 80 #[.agg #[.int .i64 a0_0, .int .i64 a0_1], .slice A1 l1.length c1] w fun e w' => e = .returned (.bool r) ∧ Below w.heap.size w w' := by
 have hu25 := Tryz.underlying25
 have HR1 := Aside0.mk hr1
 have HC1 := Aside0.mk hc1
 clear hr1 hc1
 have HB := Aside0.mk (Below.refl w.heap.size w)
 have H := h
 unfold spec_hiAsked.f at H
 clear h
 replace H := Option.bind_eq_some_iff.mp H
 obtain ⟨t287, A30, H⟩ := H
 (try dsimp only at H)
 have A3 := Aside0.mk A30
 clear A30
 by_cases c4 : t287 = true
 ·subst c4
  replace H := zt H
  replace H := Option.bind_eq_some_iff.mp H
  obtain ⟨t288, A50, H⟩ := H
  (try dsimp only at H)
  have A5 := Aside0.mk A50
  clear A50
  obtain rfl := Option.some.inj H
  go_enter Tryz.func80, Tryz.ntmps80
  go_wp2_with (first | ((with_reducible refine gate_dst (N := 2) rfl ?_); refine box_event ?hg (N := 2) ?hd (cs := #[.int .i64 a0_0, .int .i64 a0_1]) (t := 25) ?hr ?_; (case hd => rfl); (case hg => rfl); (case hr => first | (go_simp; done) | (go_simp; rfl)); intro gb286 hg w6 hbox hb; have BK286 := Aside0.mk (hbox); have GW286 : Aside0 (w.heap.size ≤ gb286) := gW hg; have GE286 := GW286; replace HB := Aside0.mk (below_step bB hb); clear hb hbox hg; have hcz7_0 := cZ BK286 0 (.int .i64 a0_0); have hcz7_1 := cZ BK286 1 (.int .i64 a0_1); have hfz7_0 := blk_frozen BK286.out 0; have hfz7_1 := blk_frozen BK286.out 1) | ((with_reducible refine gate_callee (f := 53) rfl ?_); refine goesL_ (some 6) rfl rfl Tryz.func53 (by kernel_rfl) rfl #[.agg #[.int .i64 a0_0, .int .i64 a0_1], .int .i64 1000] rfl lM ?_; (with_reducible refine (spec_hiLock.calls k a0_0 a0_1 1000 true _ A3.out).mono ?_); rintro e w8 ⟨rfl, hb⟩; refine ⟨_, rfl, ?_⟩; replace BK286 := bW BK286 hb; replace HB := Aside0.mk (below_step bG hb); (try clear hb); have hcz9_0 := cZ BK286 0 (.int .i64 a0_0); have hcz9_1 := cZ BK286 1 (.int .i64 a0_1); have hfz9_0 := blk_frozen BK286.out 0; have hfz9_1 := blk_frozen BK286.out 1) | (go_at_call 84; (with_reducible refine (spec_hiGood.calls k a0_0 a0_1 _ _ l1 t288 _ ?side1 ?side2 A5.out).mono ?_); (case side1 => exact cS (Kd.C_below HR1.out HB.out)); (case side2 => exact HC1.out); rintro e w10 ⟨rfl, hb⟩; replace BK286 := bW BK286 hb; replace HB := Aside0.mk (below_step bG hb); (try clear hb)))
  go_ret
  exact ⟨rE, bG⟩
 ·replace c4 := Bool.eq_false_iff.mpr c4
  subst c4
  replace H := zf H
  obtain rfl := Option.some.inj H
  go_enter Tryz.func80, Tryz.ntmps80
  go_wp2_with (first | ((with_reducible refine gate_dst (N := 2) rfl ?_); refine box_event ?hg (N := 2) ?hd (cs := #[.int .i64 a0_0, .int .i64 a0_1]) (t := 25) ?hr ?_; (case hd => rfl); (case hg => rfl); (case hr => first | (go_simp; done) | (go_simp; rfl)); intro gb286 hg w11 hbox hb; have BK286 := Aside0.mk (hbox); have GW286 : Aside0 (w.heap.size ≤ gb286) := gW hg; have GE286 := GW286; replace HB := Aside0.mk (below_step bB hb); clear hb hbox hg; have hcz12_0 := cZ BK286 0 (.int .i64 a0_0); have hcz12_1 := cZ BK286 1 (.int .i64 a0_1); have hfz12_0 := blk_frozen BK286.out 0; have hfz12_1 := blk_frozen BK286.out 1) | ((with_reducible refine gate_callee (f := 53) rfl ?_); refine goesL_ (some 6) rfl rfl Tryz.func53 (by kernel_rfl) rfl #[.agg #[.int .i64 a0_0, .int .i64 a0_1], .int .i64 1000] rfl lM ?_; (with_reducible refine (spec_hiLock.calls k a0_0 a0_1 1000 false _ A3.out).mono ?_); rintro e w13 ⟨rfl, hb⟩; refine ⟨_, rfl, ?_⟩; replace BK286 := bW BK286 hb; replace HB := Aside0.mk (below_step bG hb); (try clear hb)))
  go_ret
  exact ⟨rE, bG⟩

/-! ### spec_whAsked: function 129 -/
def spec_whAsked.f (k : Nat) (a0_0 : Int) (a0_1 : Int) (a1 : ByteArray) : Option (Bool) := (spec_whGood.f a0_0 a0_1).bind fun t290 => (if t290 = true then ((spec_whCode.f k a0_0 a0_1 a1).bind fun t291 => (some t291)) else (some false))
theorem spec_whAsked.mono : ∀ a0 a1 a2 k, LeO (spec_whAsked.f k a0 a1 a2) (spec_whAsked.f (k + 1) a0 a1 a2) := by
 intro a0 a1 a2 k
 unfold spec_whAsked.f
 repeat' first
   | (with_reducible first | exact spec_whCode.mono _ _ _ _ | exact LeO.refl _ | exact LeO.none _ | refine LeO.ite ?_ ?_ | refine LeO.bind ?_ (fun _ => ?_))
   | exact spec_whCode.mono _ _ _ _
   | exact LeO.none _
   | refine LeO.ite ?_ ?_
   | refine LeO.bind ?_ (fun _ => ?_)
theorem spec_whAsked.calls (k : Nat) (a0_0 : Int) (a0_1 : Int) (a1 : ByteArray) (r : Bool) (w : World) (h : spec_whAsked.f k a0_0 a0_1 a1 = some r) :
  Calls Tryz.prog 129 #[.agg #[.int .i64 a0_0, .int .i64 a0_1], .string a1] w fun e w' => e = .returned (.bool r) ∧ Below w.heap.size w w' := by
 have hu25 := Tryz.underlying25
 have HB := Aside0.mk (Below.refl w.heap.size w)
 have H := h
 unfold spec_whAsked.f at H
 clear h
 replace H := Option.bind_eq_some_iff.mp H
 obtain ⟨t290, A30, H⟩ := H
 (try dsimp only at H)
 have A3 := Aside0.mk A30
 clear A30
 by_cases c4 : t290 = true
 ·subst c4
  replace H := zt H
  replace H := Option.bind_eq_some_iff.mp H
  obtain ⟨t291, A50, H⟩ := H
  (try dsimp only at H)
  have A5 := Aside0.mk A50
  clear A50
  obtain rfl := Option.some.inj H
  go_enter Tryz.func129, Tryz.ntmps129
  go_wp2_with (first | ((with_reducible refine gate_dst (N := 2) rfl ?_); refine box_event ?hg (N := 2) ?hd (cs := #[.int .i64 a0_0, .int .i64 a0_1]) (t := 25) ?hr ?_; (case hd => rfl); (case hg => rfl); (case hr => first | (go_simp; done) | (go_simp; rfl)); intro gb289 hg w6 hbox hb; have BK289 := Aside0.mk (hbox); have GW289 : Aside0 (w.heap.size ≤ gb289) := gW hg; have GE289 := GW289; replace HB := Aside0.mk (below_step bB hb); clear hb hbox hg; have hcz7_0 := cZ BK289 0 (.int .i64 a0_0); have hcz7_1 := cZ BK289 1 (.int .i64 a0_1); have hfz7_0 := blk_frozen BK289.out 0; have hfz7_1 := blk_frozen BK289.out 1) | ((with_reducible refine gate_callee (f := 97) rfl ?_); refine goesL_ (some 6) rfl rfl Tryz.func97 (by kernel_rfl) rfl #[.agg #[.int .i64 a0_0, .int .i64 a0_1]] rfl lM ?_; (with_reducible refine (spec_whGood.calls a0_0 a0_1 true _ A3.out).mono ?_); rintro e w8 ⟨rfl, hb⟩; refine ⟨_, rfl, ?_⟩; replace BK289 := bW BK289 hb; replace HB := Aside0.mk (below_step bG hb); (try clear hb); have hcz9_0 := cZ BK289 0 (.int .i64 a0_0); have hcz9_1 := cZ BK289 1 (.int .i64 a0_1); have hfz9_0 := blk_frozen BK289.out 0; have hfz9_1 := blk_frozen BK289.out 1) | (go_at_call 54; (with_reducible refine (spec_whCode.calls k a0_0 a0_1 a1 t291 _ A5.out).mono ?_); rintro e w10 ⟨rfl, hb⟩; replace BK289 := bW BK289 hb; replace HB := Aside0.mk (below_step bG hb); (try clear hb)))
  go_ret
  exact ⟨rE, bG⟩
 ·replace c4 := Bool.eq_false_iff.mpr c4
  subst c4
  replace H := zf H
  obtain rfl := Option.some.inj H
  go_enter Tryz.func129, Tryz.ntmps129
  go_wp2_with (first | ((with_reducible refine gate_dst (N := 2) rfl ?_); refine box_event ?hg (N := 2) ?hd (cs := #[.int .i64 a0_0, .int .i64 a0_1]) (t := 25) ?hr ?_; (case hd => rfl); (case hg => rfl); (case hr => first | (go_simp; done) | (go_simp; rfl)); intro gb289 hg w11 hbox hb; have BK289 := Aside0.mk (hbox); have GW289 : Aside0 (w.heap.size ≤ gb289) := gW hg; have GE289 := GW289; replace HB := Aside0.mk (below_step bB hb); clear hb hbox hg; have hcz12_0 := cZ BK289 0 (.int .i64 a0_0); have hcz12_1 := cZ BK289 1 (.int .i64 a0_1); have hfz12_0 := blk_frozen BK289.out 0; have hfz12_1 := blk_frozen BK289.out 1) | ((with_reducible refine gate_callee (f := 97) rfl ?_); refine goesL_ (some 6) rfl rfl Tryz.func97 (by kernel_rfl) rfl #[.agg #[.int .i64 a0_0, .int .i64 a0_1]] rfl lM ?_; (with_reducible refine (spec_whGood.calls a0_0 a0_1 false _ A3.out).mono ?_); rintro e w13 ⟨rfl, hb⟩; refine ⟨_, rfl, ?_⟩; replace BK289 := bW BK289 hb; replace HB := Aside0.mk (below_step bG hb); (try clear hb)))
  go_ret
  exact ⟨rE, bG⟩

end Go.Proofs.YtcpnmiempaofdaaGreat.G
