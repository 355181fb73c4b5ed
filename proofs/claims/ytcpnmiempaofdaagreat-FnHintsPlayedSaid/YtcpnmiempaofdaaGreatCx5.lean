-- Printed by hp.py, a program of this session: a machine's side of laws, out of the translation; Lean checks it.
import Derived.Test.YtcpnmiempaofdaaGreatCx0
import Derived.Test.YtcpnmiempaofdaaGreatCx3
import Derived.Test.YtcpnmiempaofdaaGreatCx4
namespace Go.Proofs.YtcpnmiempaofdaaGreat.C
open Go.RowKit Go.Proofs.YtcpnmiempaofdaaGreatW.PrintWords Go.Proofs.YtcpnmiempaofdaaGreatW.PrintLast Go.Proofs.YtcpnmiempaofdaaGreatW.PrintMore
attribute [local go_sem] max2_int min2_int max_two min_two max_three min_three max_four min_four   -- for this text's walks alone
set_option linter.unusedVariables false
set_option linter.unusedSimpArgs false

/-! ### impl_Lock_isTold: function 69 -/
def impl_Lock_isTold.f (a0_0 : Int) (a0_1 : Int) (a1 : Int) (a2 : Int) : Option (Bool) := (impl_within.f a1 0 a0_0).bind fun t195 => (if t195 = true then ((impl_within.f a2 0 (wrap64 (a0_0 - a1))).bind fun t196 => (some t196)) else (some false))
set_option maxHeartbeats 8000000 in
set_option maxRecDepth 100000 in
theorem impl_Lock_isTold.calls (a0_0 : Int) (a0_1 : Int) (a1 : Int) (a2 : Int) (r : Bool) (w : World) (h : impl_Lock_isTold.f a0_0 a0_1 a1 a2 = some r) :
  Calls Tryz.prog 69 #[.agg #[.int .i64 a0_0, .int .i64 a0_1], .int .i64 a1, .int .i64 a2] w fun e w' => e = .returned (.bool r) ∧ Below w.heap.size w w' := by
 have hu25 := Tryz.underlying25
 have HB := Aside0.mk (Below.refl w.heap.size w)
 have H : ((impl_within.f a1 0 a0_0).bind fun t195 => (if t195 = true then ((impl_within.f a2 0 (wrap64 (a0_0 - a1))).bind fun t196 => (some t196)) else (some false))) = some r := h
 clear h
 replace H := Option.bind_eq_some_iff.mp H
 obtain ⟨t195, A40, H⟩ := H
 replace H : (if t195 = true then ((impl_within.f a2 0 (wrap64 (a0_0 - a1))).bind fun t196 => (some t196)) else (some false)) = some r := H
 have A4 := Aside0.mk A40
 clear A40
 by_cases c5 : t195 = true
 ·subst c5
  have H1 : ((impl_within.f a2 0 (wrap64 (a0_0 - a1))).bind fun t196 => (some t196)) = some r := by rw [if_pos rfl] at H; exact H
  clear H
  have H := H1
  clear H1
  replace H := Option.bind_eq_some_iff.mp H
  obtain ⟨t196, A60, H⟩ := H
  replace H : (some t196) = some r := H
  have A6 := Aside0.mk A60
  clear A60
  obtain rfl := Option.some.inj H
  go_enter Tryz.func69, Tryz.ntmps69
  go_wp2_with (first | ((with_reducible refine gate_dst (N := 3) rfl ?_); refine box_event ?hg (N := 3) ?hd (cs := #[.int .i64 a0_0, .int .i64 a0_1]) (t := 25) ?hr ?_; (case hd => rfl); (case hg => rfl); (case hr => first | (go_simp; done) | (go_simp; rfl)); intro gb194 hg w7 hbox hb; have n0_ := Aside0.mk (below_step bB hb); have n1_ := Aside0.mk (hbox); have n2_ := Aside0.mk ((by rw [hg]; exact (below_size bB) : w.heap.size ≤ gb194)); have n3_ := Aside0.mk ((by rw [hg]; exact (below_size bB) : w.heap.size ≤ gb194)); clear HB; have HB := n0_; have BK194 := n1_; have GW194 := n2_; have GE194 := n3_; clear n0_ n1_ n2_ n3_; clear hb hbox hg; have hcz8_0 : w7.cell? ⟨gb194, 0, none⟩ = some (.int .i64 a0_0) := (blk_cell BK194.out 0).trans rfl; have hcz8_1 : w7.cell? ⟨gb194, 1, none⟩ = some (.int .i64 a0_1) := (blk_cell BK194.out 1).trans rfl; have hfz8_0 := blk_frozen BK194.out 0; have hfz8_1 := blk_frozen BK194.out 1) | ((with_reducible refine gate_callee (f := 108) rfl ?_); refine goesL_ (some 10) rfl rfl Tryz.func108 (by kernel_rfl) rfl #[.int .i64 a1, .int .i64 0, .int .i64 a0_0] rfl lM ?_; (with_reducible refine (impl_within.calls a1 0 a0_0 true _ A4.out).mono ?_); rintro e w' ⟨rfl, ⟨nd, rfl⟩⟩; refine ⟨_, rfl, ?_⟩) | (go_at_call 108; (with_reducible refine (impl_within.calls a2 0 (wrap64 (a0_0 - a1)) t196 _ A6.out).mono ?_); rintro e w' ⟨rfl, ⟨nd, rfl⟩⟩))
  go_ret
  exact ⟨by first | rfl | (simp [errW_none, errW_some] <;> rfl) | (simp [*, errW_none, errW_some] <;> rfl), bG⟩
 ·replace c5 := Bool.eq_false_iff.mpr c5
  subst c5
  have H1 : (some false) = some r := by rw [if_neg (show ¬ (false = true) by decide)] at H; exact H
  clear H
  have H := H1
  clear H1
  obtain rfl := Option.some.inj H
  go_enter Tryz.func69, Tryz.ntmps69
  go_wp2_with (first | ((with_reducible refine gate_dst (N := 3) rfl ?_); refine box_event ?hg (N := 3) ?hd (cs := #[.int .i64 a0_0, .int .i64 a0_1]) (t := 25) ?hr ?_; (case hd => rfl); (case hg => rfl); (case hr => first | (go_simp; done) | (go_simp; rfl)); intro gb194 hg w9 hbox hb; have n0_ := Aside0.mk (below_step bB hb); have n1_ := Aside0.mk (hbox); have n2_ := Aside0.mk ((by rw [hg]; exact (below_size bB) : w.heap.size ≤ gb194)); have n3_ := Aside0.mk ((by rw [hg]; exact (below_size bB) : w.heap.size ≤ gb194)); clear HB; have HB := n0_; have BK194 := n1_; have GW194 := n2_; have GE194 := n3_; clear n0_ n1_ n2_ n3_; clear hb hbox hg; have hcz10_0 : w9.cell? ⟨gb194, 0, none⟩ = some (.int .i64 a0_0) := (blk_cell BK194.out 0).trans rfl; have hcz10_1 : w9.cell? ⟨gb194, 1, none⟩ = some (.int .i64 a0_1) := (blk_cell BK194.out 1).trans rfl; have hfz10_0 := blk_frozen BK194.out 0; have hfz10_1 := blk_frozen BK194.out 1) | ((with_reducible refine gate_callee (f := 108) rfl ?_); refine goesL_ (some 10) rfl rfl Tryz.func108 (by kernel_rfl) rfl #[.int .i64 a1, .int .i64 0, .int .i64 a0_0] rfl lM ?_; (with_reducible refine (impl_within.calls a1 0 a0_0 false _ A4.out).mono ?_); rintro e w' ⟨rfl, ⟨nd, rfl⟩⟩; refine ⟨_, rfl, ?_⟩))
  go_ret
  exact ⟨by first | rfl | (simp [errW_none, errW_some] <;> rfl) | (simp [*, errW_none, errW_some] <;> rfl), bG⟩

/-! ### impl_areHints_1: function 102 -/
def areHints1 (k : Nat) (a b : Int) (x : S35) : Option Bool := (impl_Lock_isCode.f k a b x.f0).bind fun t => if t = true then (impl_Lock_isTold.f a b x.f1 x.f2).map (fun b => !b) else some true
set_option maxHeartbeats 4000000 in
set_option maxRecDepth 100000 in
theorem areHints1_calls (k : Nat) (a b : Int) (B : Nat) (x : S35) (r : Bool) (w : World) (hc0 : w.cell? ⟨B, 0, none⟩ = some (.int .i64 a)) (hc1 : w.cell? ⟨B, 1, none⟩ = some (.int .i64 b)) (h : areHints1 k a b x = some r) :
  Calls Tryz.prog 102 #[.agg #[.string x.f0, .int .i64 x.f1, .int .i64 x.f2], .pointer (some ⟨B, 0, none⟩)] w fun e w' => e = .returned (.bool r) ∧ Below w.heap.size w w' := by
 have hu75 := Tryz.underlying35
 have hu9 := Tryz.underlying9
 have hu26 := Tryz.underlying25
 unfold areHints1 at h
 obtain ⟨t, ht, h⟩ := Option.bind_eq_some_iff.mp h
 have hcode : ∀ W, Calls Tryz.prog 103 #[.agg #[.int .i64 a, .int .i64 b], .string x.f0] W _ := fun W => impl_Lock_isCode.calls k a b x.f0 t W ht
 have hlt : B < w.heap.size := World.block_lt_of_cell? w ⟨B, 0, none⟩ hc0
 have HS := Aside0.mk hlt
 have Hb0 := Aside0.mk (hw_cell_old w (.cells #[.string x.f0, .int .i64 x.f1, .int .i64 x.f2] 35) hc0)
 have Hb1 := Aside0.mk (hw_cell_old w (.cells #[.string x.f0, .int .i64 x.f1, .int .i64 x.f2] 35) hc1)
 have hbx0 := Hb0.out
 have hbx1 := Hb1.out
 clear ht hlt hc0 hc1
 cases t with
 | false =>
  rw [if_neg (by decide)] at h
  obtain rfl := Option.some.inj h
  clear h
  go_enter Tryz.func102, Tryz.ntmps102
  go_wp2_with (go_at_call 103; refine (hcode _).mono ?_; rintro e w1 ⟨rfl, hb⟩; have HB := Aside0.mk hb; clear hb)
  go_ret
  exact ⟨rfl, below_then (below_alloc (Below.refl _ _) _) (by simp) HB.out⟩
 | true =>
  rw [if_pos rfl] at h
  obtain ⟨t2, ht2, e1⟩ := Option.map_eq_some_iff.mp h
  subst e1
  have htold : ∀ W, Calls Tryz.prog 69 #[.agg #[.int .i64 a, .int .i64 b], .int .i64 x.f1, .int .i64 x.f2] W _ := fun W => impl_Lock_isTold.calls a b x.f1 x.f2 t2 W ht2
  clear h ht2
  go_enter Tryz.func102, Tryz.ntmps102
  go_wp2_with (first | (go_at_call 103; refine (hcode _).mono ?_; rintro e w1 ⟨rfl, hb⟩; have HB := Aside0.mk hb; have k0 := pw_cell_below hb Hb0.out; have k1 := pw_cell_below hb Hb1.out; have m1 := pw_cell_below hb (show (w.alloc (.cells #[.string x.f0, .int .i64 x.f1, .int .i64 x.f2] 35)).cell? ⟨w.heap.size, 1, none⟩ = some (.int .i64 x.f1) by simp); have m2 := pw_cell_below hb (show (w.alloc (.cells #[.string x.f0, .int .i64 x.f1, .int .i64 x.f2] 35)).cell? ⟨w.heap.size, 2, none⟩ = some (.int .i64 x.f2) by simp); clear hb) | (go_at_call 69; refine (htold _).mono ?_; rintro e w2 ⟨rfl, hb⟩; have HB2 := Aside0.mk hb; clear hb))
  go_ret
  exact ⟨rfl, below_then (below_then (below_alloc (Below.refl _ _) _) (by simp) HB.out) (by have := HB.out.size; simp at this; omega) HB2.out⟩


/-! ### impl_areHints: function 57 -/
def impl_areHints.f (k : Nat) (a b : Int) (l : List S35) : Option Bool := if l.length ≤ 1000000000000000000 then (impl_isHinted.f k a b []).bind fun t => if t = true then (if l.length ≤ 10 then (anyO (areHints1 k a b) l).map (fun b => !b) else some false) else some false else none
theorem areHints1_mono (k : Nat) (a b : Int) (x : S35) : LeO (areHints1 k a b x) (areHints1 (k + 1) a b x) := LeO.bind (impl_Lock_isCode.mono _ _ _ _) (fun _ => LeO.refl _)
theorem impl_areHints.mono : ∀ a b l k, LeO (impl_areHints.f k a b l) (impl_areHints.f (k + 1) a b l) := by
 intro a b l k
 unfold impl_areHints.f
 exact LeO.ite (LeO.bind (impl_isHinted.mono _ _ _ _) (fun _ => LeO.ite (LeO.ite (LeO.map _ (anyO_mono (fun x => areHints1_mono k a b x) _)) (LeO.refl _)) (LeO.refl _))) (LeO.none _)
set_option maxHeartbeats 4000000 in
set_option maxRecDepth 100000 in
theorem impl_areHints.calls (k : Nat) (a b : Int) (A1 : Option Addr) (c1 : Nat) (l1 : List S35) (r : Bool) (w : World) (hr1 : Kd.C k35 w A1 l1.length l1) (hc1 : l1.length ≤ c1) (h : impl_areHints.f k a b l1 = some r) :
  Calls Tryz.prog 57 #[.agg #[.int .i64 a, .int .i64 b], .slice A1 l1.length c1] w fun e w' => e = .returned (.bool r) ∧ Below w.heap.size w w' := by
 have hu26 := Tryz.underlying25
 unfold impl_areHints.f at h
 by_cases hlen : l1.length ≤ 1000000000000000000
 case neg => rw [if_neg hlen] at h; exact absurd h (by simp)
 rw [if_pos hlen] at h
 obtain ⟨t, ht, h⟩ := Option.bind_eq_some_iff.mp h
 have hhin : ∀ W, Calls Tryz.prog 51 #[.agg #[.int .i64 a, .int .i64 b], .slice none 0 0] W _ := fun W => impl_isHinted.calls k a b none 0 [] t W (Kd.C_nil _ _) (by simp) ht
 have HC := Aside0.mk (Kd.C_alloc hr1 (.cells #[.int .i64 a, .int .i64 b] 25))
 have c0 : (w.alloc (.cells #[.int .i64 a, .int .i64 b] 25)).cell? ⟨w.heap.size, 0, none⟩ = some (.int .i64 a) := by simp
 have cc1 : (w.alloc (.cells #[.int .i64 a, .int .i64 b] 25)).cell? ⟨w.heap.size, 1, none⟩ = some (.int .i64 b) := by simp
 have C0 := Aside0.mk c0
 have C1 := Aside0.mk cc1
 clear ht hr1 hc1 c0 cc1
 cases t with
 | false =>
  rw [if_neg (by decide)] at h
  obtain rfl := Option.some.inj h
  clear h
  go_enter Tryz.func57, Tryz.ntmps57
  go_wp2_with (go_at_call 51; refine (hhin _).mono ?_; rintro e w1 ⟨rfl, hb⟩; have HB := Aside0.mk hb; clear hb)
  go_ret
  exact ⟨rfl, below_then (below_alloc (Below.refl _ _) _) (by simp) HB.out⟩
 | true =>
  rw [if_pos rfl] at h
  by_cases hL : l1.length ≤ 10
  case neg =>
   rw [if_neg hL] at h
   obtain rfl := Option.some.inj h
   have hb2 : decide ((l1.length : Int) ≤ 10) = false := decide_eq_false (by omega)
   clear h hL
   go_enter Tryz.func57, Tryz.ntmps57
   go_wp2_with (go_at_call 51; refine (hhin _).mono ?_; rintro e w1 ⟨rfl, hb⟩; have HB := Aside0.mk hb; clear hb)
   go_ret
   exact ⟨rfl, below_then (below_alloc (Below.refl _ _) _) (by simp) HB.out⟩
  rw [if_pos hL] at h
  obtain ⟨b2, hb2, e1⟩ := Option.map_eq_some_iff.mp h
  subst e1
  have eg : ∀ args w, (callFunc 102 args).run Tryz.prog w = .ok (.enter 102 args) w := enters_of Tryz.func102 (by kernel_rfl) rfl
  have hcon : ∀ W, Below (w.heap.size + 1) (w.alloc (.cells #[.int .i64 a, .int .i64 b] 25)) W → Calls Tryz.prog 101 #[.slice A1 l1.length c1, .func (.func 102) #[] #[.pointer (some ⟨w.heap.size, 0, none⟩)]] W fun e w' => e = .returned (.bool b2) ∧ Below W.heap.size W w' := by
   intro W hW
   have hWs : (w.alloc (.cells #[.int .i64 a, .int .i64 b] 25)).heap.size = w.heap.size + 1 := World.size_alloc _ _
   have hW' : Below (w.alloc (.cells #[.int .i64 a, .int .i64 b] 25)).heap.size (w.alloc (.cells #[.int .i64 a, .int .i64 b] 25)) W := by rw [hWs]; exact hW
   exact conH_calls 102 #[.pointer (some ⟨w.heap.size, 0, none⟩)] (areHints1 k a b) A1 c1 l1 b2 W eg (Kd.C_below HC.out hW') hlen hb2 (fun x r W2 hx hB => areHints1_calls k a b w.heap.size x r W2 (pw_cell_below hB (pw_cell_below hW' C0.out)) (pw_cell_below hB (pw_cell_below hW' C1.out)) hx)
  have hbL : decide ((l1.length : Int) ≤ 10) = true := decide_eq_true (by omega)
  clear h hL hb2 eg hlen
  go_enter Tryz.func57, Tryz.ntmps57
  go_wp2_with (first | (go_at_call 51; refine (hhin _).mono ?_; rintro e w1 ⟨rfl, hb⟩; have HB := Aside0.mk hb; clear hb) | (go_at_call 101; refine (hcon _ (HB.out.mono (by simp))).mono ?_; rintro e w2 ⟨rfl, hb⟩; have HB2 := Aside0.mk hb; clear hb))
  go_ret
  exact ⟨by simp, below_then (below_then (below_alloc (Below.refl _ _) _) (by simp) HB.out) (by have := HB.out.size; simp at this; omega) HB2.out⟩


/-! ### impl_fits_1: function 111 -/
def fits1 (k : Nat) (c : ByteArray) (x : S35) : Option Bool := (impl_hint.f k x.f0 c).map fun r => !decide (r.1 = x.f1 ∧ r.2 = x.f2)
set_option maxHeartbeats 4000000 in
set_option maxRecDepth 100000 in
theorem fits1_calls (k : Nat) (c : ByteArray) (B : Nat) (x : S35) (r : Bool) (w : World) (hc0 : w.cell? ⟨B, 0, none⟩ = some (.string c)) (h : fits1 k c x = some r) :
  Calls Tryz.prog 111 #[.agg #[.string x.f0, .int .i64 x.f1, .int .i64 x.f2], .pointer (some ⟨B, 0, none⟩)] w fun e w' => e = .returned (.bool r) ∧ Below w.heap.size w w' := by
 have hu75 := Tryz.underlying35
 have hu9 := Tryz.underlying9
 unfold fits1 at h
 obtain ⟨⟨p, o⟩, hpo, e1⟩ := Option.map_eq_some_iff.mp h
 subst e1
 have hhint : ∀ W, Calls Tryz.prog 56 #[.string x.f0, .string c] W _ := fun W => impl_hint.calls k x.f0 c p o W hpo
 have hb0 := hw_cell_old w (.cells #[.string x.f0, .int .i64 x.f1, .int .i64 x.f2] 35) hc0
 clear h hpo hc0
 simp only
 by_cases hp : p = x.f1
 ·have hpb : (p != x.f1) = false := by simp [hp]
  by_cases ho : o = x.f2
  ·have hob : (o != x.f2) = false := by simp [ho]
   rw [decide_eq_true (show p = x.f1 ∧ o = x.f2 from ⟨hp, ho⟩)]
   clear hp ho
   go_enter Tryz.func111, Tryz.ntmps111
   go_wp2_with (go_at_call 56; refine (hhint _).mono ?_; rintro e w1 ⟨rfl, hb⟩; have HB := Aside0.mk hb; have m1 := pw_cell_below hb (show (w.alloc (.cells #[.string x.f0, .int .i64 x.f1, .int .i64 x.f2] 35)).cell? ⟨w.heap.size, 1, none⟩ = some (.int .i64 x.f1) by simp); have m2 := pw_cell_below hb (show (w.alloc (.cells #[.string x.f0, .int .i64 x.f1, .int .i64 x.f2] 35)).cell? ⟨w.heap.size, 2, none⟩ = some (.int .i64 x.f2) by simp); clear hb)
   go_ret
   exact ⟨rfl, below_then (below_alloc (Below.refl _ _) _) (by simp) HB.out⟩
  ·have hob : (o != x.f2) = true := by simp [ho]
   rw [decide_eq_false (show ¬ (p = x.f1 ∧ o = x.f2) from fun h => ho h.2)]
   clear hp ho
   go_enter Tryz.func111, Tryz.ntmps111
   go_wp2_with (go_at_call 56; refine (hhint _).mono ?_; rintro e w1 ⟨rfl, hb⟩; have HB := Aside0.mk hb; have m1 := pw_cell_below hb (show (w.alloc (.cells #[.string x.f0, .int .i64 x.f1, .int .i64 x.f2] 35)).cell? ⟨w.heap.size, 1, none⟩ = some (.int .i64 x.f1) by simp); have m2 := pw_cell_below hb (show (w.alloc (.cells #[.string x.f0, .int .i64 x.f1, .int .i64 x.f2] 35)).cell? ⟨w.heap.size, 2, none⟩ = some (.int .i64 x.f2) by simp); clear hb)
   go_ret
   exact ⟨rfl, below_then (below_alloc (Below.refl _ _) _) (by simp) HB.out⟩
 ·have hpb : (p != x.f1) = true := by simp [hp]
  rw [decide_eq_false (show ¬ (p = x.f1 ∧ o = x.f2) from fun h => hp h.1)]
  clear hp
  go_enter Tryz.func111, Tryz.ntmps111
  go_wp2_with (go_at_call 56; refine (hhint _).mono ?_; rintro e w1 ⟨rfl, hb⟩; have HB := Aside0.mk hb; have m1 := pw_cell_below hb (show (w.alloc (.cells #[.string x.f0, .int .i64 x.f1, .int .i64 x.f2] 35)).cell? ⟨w.heap.size, 1, none⟩ = some (.int .i64 x.f1) by simp); have m2 := pw_cell_below hb (show (w.alloc (.cells #[.string x.f0, .int .i64 x.f1, .int .i64 x.f2] 35)).cell? ⟨w.heap.size, 2, none⟩ = some (.int .i64 x.f2) by simp); clear hb)
  go_ret
  exact ⟨rfl, below_then (below_alloc (Below.refl _ _) _) (by simp) HB.out⟩


/-! ### impl_fits: function 77 -/
def impl_fits.f (k : Nat) (l : List S35) (c : ByteArray) : Option Bool := if l.length ≤ 1000000000000000000 then (anyO (fits1 k c) l).map (fun b => !b) else none
theorem fits1_mono (k : Nat) (c : ByteArray) (x : S35) : LeO (fits1 k c x) (fits1 (k + 1) c x) := LeO.map _ (impl_hint.mono _ _ _)
theorem impl_fits.mono : ∀ l c k, LeO (impl_fits.f k l c) (impl_fits.f (k + 1) l c) := by
 intro l c k
 unfold impl_fits.f
 exact LeO.ite (LeO.map _ (anyO_mono (fun x => fits1_mono k c x) _)) (LeO.none _)
set_option maxHeartbeats 4000000 in
set_option maxRecDepth 100000 in
theorem impl_fits.calls (k : Nat) (A0 : Option Addr) (c0 : Nat) (l0 : List S35) (a1 : ByteArray) (r : Bool) (w : World) (hr0 : Kd.C k35 w A0 l0.length l0) (hc0 : l0.length ≤ c0) (h : impl_fits.f k l0 a1 = some r) :
  Calls Tryz.prog 77 #[.slice A0 l0.length c0, .string a1] w fun e w' => e = .returned (.bool r) ∧ Below w.heap.size w w' := by
 have hu9 := Tryz.underlying9
 unfold impl_fits.f at h
 by_cases hlen : l0.length ≤ 1000000000000000000
 case neg => rw [if_neg hlen] at h; exact absurd h (by simp)
 rw [if_pos hlen] at h
 obtain ⟨b2, hb2, e1⟩ := Option.map_eq_some_iff.mp h
 subst e1
 have eg : ∀ args w, (callFunc 111 args).run Tryz.prog w = .ok (.enter 111 args) w := enters_of Tryz.func111 (by kernel_rfl) rfl
 have c0' : (w.alloc (.cells #[.string a1] 9)).cell? ⟨w.heap.size, 0, none⟩ = some (.string a1) := by simp
 have hcon : Calls Tryz.prog 101 #[.slice A0 l0.length c0, .func (.func 111) #[] #[.pointer (some ⟨w.heap.size, 0, none⟩)]] (w.alloc (.cells #[.string a1] 9)) fun e w' => e = .returned (.bool b2) ∧ Below (w.alloc (.cells #[.string a1] 9)).heap.size (w.alloc (.cells #[.string a1] 9)) w' :=
  conH_calls 111 #[.pointer (some ⟨w.heap.size, 0, none⟩)] (fits1 k a1) A0 c0 l0 b2 _ eg (Kd.C_alloc hr0 _) hlen hb2 (fun x r W2 hx hB => fits1_calls k a1 w.heap.size x r W2 (pw_cell_below hB c0') hx)
 clear h hb2 eg hlen hr0 hc0 c0'
 go_enter Tryz.func77, Tryz.ntmps77
 go_wp2_with (go_at_call 101; refine hcon.mono ?_; rintro e w2 ⟨rfl, hb⟩; have HB2 := Aside0.mk hb; clear hb)
 go_ret
 exact ⟨by simp, below_then (below_alloc (Below.refl _ _) _) (by simp) HB2.out⟩

/-! ### impl_Lock_fitting: function 58 -/
def impl_Lock_fitting.l0 : Nat → List (S35) → List ByteArray → Int → Int → Int → Int → Option (List ByteArray)
 | 0, _, _, _, _, _, _ => none
 | k + 1, x1, x5, x10, x11, x198000, x198001 => if x11 < x10 then ((impl_Lock_code.f k x198000 x198001 x11).bind fun t202 => ((impl_fits.f k x1 t202).bind fun t203 => (if t203 = true then (if x5.length < 8796093022208 then (impl_Lock_fitting.l0 k x1 (x5 ++ [t202]) x10 (wrap64 (x11 + 1)) x198000 x198001) else (none)) else (impl_Lock_fitting.l0 k x1 x5 x10 (wrap64 (x11 + 1)) x198000 x198001)))) else (some x5)
def impl_Lock_fitting.f (k : Nat) (a0_0 : Int) (a0_1 : Int) (l1 : List (S35)) : Option (List ByteArray) := (impl_Lock_count.f k a0_0 a0_1).bind fun t201 => (impl_Lock_fitting.l0 k l1 (([] : List ByteArray)) t201 0 a0_0 a0_1)
theorem impl_Lock_fitting.mono_l : ∀ k, (∀ y0 y1 y2 y3 y4 y5, LeO (impl_Lock_fitting.l0 k y0 y1 y2 y3 y4 y5) (impl_Lock_fitting.l0 (k + 1) y0 y1 y2 y3 y4 y5))
 | 0 => fun _ _ _ _ _ _ r h => by simp [impl_Lock_fitting.l0] at h
 | k + 1 => by
  have ih0 := impl_Lock_fitting.mono_l k
  ·intro y0 y1 y2 y3 y4 y5
   unfold impl_Lock_fitting.l0
   repeat' first
   | (with_reducible exact ih0 _ _ _ _ _ _)
   | (with_reducible exact impl_Lock_code.mono _ _ _ _)
   | (with_reducible exact impl_Lock_count.mono _ _ _)
   | (with_reducible exact impl_fits.mono _ _ _)
   | (with_reducible exact LeO.refl _)
   | (with_reducible exact LeO.none _)
   | (with_reducible refine LeO.ite ?_ ?_)
   | (with_reducible refine LeO.bind ?_ (fun _ => ?_))
   | exact ih0 _ _ _ _ _ _
   | exact impl_Lock_code.mono _ _ _ _
   | exact impl_Lock_count.mono _ _ _
   | exact impl_fits.mono _ _ _
   | exact LeO.none _
   | refine LeO.ite ?_ ?_
   | refine LeO.bind ?_ (fun _ => ?_)
theorem impl_Lock_fitting.mono : ∀ a0 a1 a2 k, LeO (impl_Lock_fitting.f k a0 a1 a2) (impl_Lock_fitting.f (k + 1) a0 a1 a2) := by
 intro a0 a1 a2 k
 have ih0 := impl_Lock_fitting.mono_l k
 unfold impl_Lock_fitting.f
 repeat' first
   | (with_reducible exact ih0 _ _ _ _ _ _)
   | (with_reducible exact impl_Lock_code.mono _ _ _ _)
   | (with_reducible exact impl_Lock_count.mono _ _ _)
   | (with_reducible exact impl_fits.mono _ _ _)
   | (with_reducible exact LeO.refl _)
   | (with_reducible exact LeO.none _)
   | (with_reducible refine LeO.ite ?_ ?_)
   | (with_reducible refine LeO.bind ?_ (fun _ => ?_))
   | exact ih0 _ _ _ _ _ _
   | exact impl_Lock_code.mono _ _ _ _
   | exact impl_Lock_count.mono _ _ _
   | exact impl_fits.mono _ _ _
   | exact LeO.none _
   | refine LeO.ite ?_ ?_
   | refine LeO.bind ?_ (fun _ => ?_)
set_option maxHeartbeats 8000000 in
set_option maxRecDepth 100000 in
theorem impl_Lock_fitting.calls (k : Nat) (a0_0 : Int) (a0_1 : Int) (A1 : Option Addr) (c1 : Nat) (l1 : List (S35)) (r : List ByteArray) (w : World) (hr1 : Kd.C k35 w A1 l1.length l1) (hc1 : l1.length ≤ c1) (h : impl_Lock_fitting.f k a0_0 a0_1 l1 = some r) :
  Calls Tryz.prog 58 #[.agg #[.int .i64 a0_0, .int .i64 a0_1], .slice A1 l1.length c1] w fun e w' => ∃ v0_ : Value, e = .returned (v0_) ∧ Kd.R Kd.string 9 w' w.heap.size (fun _ => True) v0_ r ∧ Below w.heap.size w w' := by
 have hu25 := Tryz.underlying25
 have HR1 := Aside0.mk hr1
 have HC1 := Aside0.mk hc1
 clear hr1 hc1
 have HB := Aside0.mk (Below.refl w.heap.size w)
 have H : ((impl_Lock_count.f k a0_0 a0_1).bind fun t201 => (impl_Lock_fitting.l0 k l1 (([] : List ByteArray)) t201 0 a0_0 a0_1)) = some r := h
 clear h
 obtain ⟨y198, hy198⟩ : ∃ y_ : List ByteArray, y_ = (([] : List ByteArray)) := ⟨_, rfl⟩
 replace H : ((impl_Lock_count.f k a0_0 a0_1).bind fun t201 => (impl_Lock_fitting.l0 k l1 y198 t201 0 a0_0 a0_1)) = some r := by first | (rw [hy198]; with_reducible exact H) | (have H2_ := (Option.bind_some _ _).symm.trans H; rw [hy198]; with_reducible exact H2_) | (have H2_ := (Option.bind_some _ _).symm.trans H; with_reducible exact H2_) | with_reducible exact H | (rw [hy198]; exact H) | exact H
 have Ny198 := Aside0.mk hy198
 clear hy198
 replace H := Option.bind_eq_some_iff.mp H
 obtain ⟨t201, A30, H⟩ := H
 replace H : (impl_Lock_fitting.l0 k l1 y198 t201 0 a0_0 a0_1) = some r := H
 have A3 := Aside0.mk A30
 clear A30
 have H' := Aside0.mk H
 clear H
 go_enter Tryz.func58, Tryz.ntmps58
 go_wp2_with (first | ((with_reducible refine gate_dst (N := 2) rfl ?_); refine box_event ?hg (N := 2) ?hd (cs := #[.int .i64 a0_0, .int .i64 a0_1]) (t := 25) ?hr ?_; (case hd => rfl); (case hg => rfl); (case hr => first | (go_simp; done) | (go_simp; rfl)); intro gb197 hg w4 hbox hb; have n0_ := Aside0.mk (below_step bB hb); have n1_ := Aside0.mk (hbox); have n2_ := Aside0.mk ((by rw [hg]; exact (below_size bB) : w.heap.size ≤ gb197)); have n3_ := Aside0.mk ((by rw [hg]; exact (below_size bB) : w.heap.size ≤ gb197)); clear HB; have HB := n0_; have BK197 := n1_; have GW197 := n2_; have GE197 := n3_; clear n0_ n1_ n2_ n3_; clear hb hbox hg) | ((with_reducible refine gate_dst (N := 8) rfl ?_); refine Kd.R_lit Kd.string _ 9 ?hg (N := 8) ?hd (xs := ([] : List ByteArray)) (inner := []) (ok := fun _ => True) (okp := fun _ => True) ?hr ?hp (fun _ hk => hk) trivial (Below.refl _ _) (Nat.le_refl _) (by simp) ?_; (case hd => rfl); (case hg => rfl); (case hr => first | (go_simp; done) | (go_simp; rfl)); (case hp => exact (Reps.none _ _)); intro v199 w5 ho6 hb hg_ hnew_; clear hg_ hnew_; (first | rw [← Ny198.out] at ho6 | (simp only [Int.reduceToNat] at ho6; rw [← Ny198.out] at ho6)); have n0_ := Aside0.mk (Kd.R_lower ho6 (below_size bG)); have n1_ := Aside0.mk (blk_below (g := gb197) (o := .cells #[.int .i64 a0_0, .int .i64 a0_1] 25 (0, 0)) bK hb); have n2_ := Aside0.mk (below_step bG hb); clear BK197; clear HB; have HO200 := n0_; have BK197 := n1_; have HB := n2_; clear n0_ n1_ n2_; clear hb ho6; have hcz7_0 : w5.cell? ⟨gb197, 0, none⟩ = some (.int .i64 a0_0) := (blk_cell BK197.out 0).trans rfl; have hcz7_1 : w5.cell? ⟨gb197, 1, none⟩ = some (.int .i64 a0_1) := (blk_cell BK197.out 1).trans rfl; have hfz7_0 := blk_frozen BK197.out 0; have hfz7_1 := blk_frozen BK197.out 1) | ((with_reducible refine gate_callee (f := 83) rfl ?_); refine goesL_ (some 10) rfl rfl Tryz.func83 (by kernel_rfl) rfl #[.agg #[.int .i64 a0_0, .int .i64 a0_1]] rfl lM ?_; (with_reducible refine (impl_Lock_count.calls k a0_0 a0_1 t201 _ A3.out).mono ?_); rintro e w8 ⟨rfl, hb⟩; refine ⟨_, rfl, ?_⟩; have n0_ := Aside0.mk (Kd.R_below (by (with_reducible repeat (first | apply Kd.R_alloc | apply Kd.R_drewN | apply Kd.R_drew)); exact HO200.out) hb); have n1_ := Aside0.mk (blk_below (g := gb197) (o := .cells #[.int .i64 a0_0, .int .i64 a0_1] 25 (0, 0)) bK hb); have n2_ := Aside0.mk (below_step bG hb); clear HO200; clear BK197; clear HB; have HO200 := n0_; have BK197 := n1_; have HB := n2_; clear n0_ n1_ n2_; (try clear hb); (try clear hb2); (try clear hk); (try clear hi)))
 go_loopg [5, 11] k (fun kq v5 v11 w' => ∃ (x5_1 : List ByteArray) (x11_1 : Int), v11 = .int .i64 x11_1 ∧ Aside0 (impl_Lock_fitting.l0 kq l1 x5_1 t201 x11_1 a0_0 a0_1 = some r) ∧ Aside0 (kq ≤ k) ∧ Aside0 (Kd.R Kd.string 9 w' w.heap.size (fun _ => True) v5 x5_1) ∧ Aside0 (w'.heap[gb197]? = some (.cells #[.int .i64 a0_0, .int .i64 a0_1] 25 (0, 0))) ∧ Aside0 (Below w.heap.size w w'))
 case atStart => exact ⟨(y198), (0), fR, H', ⟨Nat.le_refl _⟩, ⟨by (with_reducible repeat (first | apply Kd.R_alloc | apply Kd.R_drewN | apply Kd.R_drew)); exact HO200.out⟩, ⟨bK⟩, ⟨bG⟩⟩
 case round =>
  clear H'
  try clear c1
  try clear p2
  try clear c5
  try clear c8
  try clear hcz7_0
  try clear hcz7_1
  try clear hfz7_0
  try clear hfz7_1
  obtain ⟨x5_1, x11_1, rfl, HA, HK1, HO_5, BK197, HB⟩ := hrel
  cases gk with
  | zero => exact absurd HA.out (by simp [impl_Lock_fitting.l0])
  | succ k1 =>
   have H := HA.out
   clear HA
   simp only [impl_Lock_fitting.l0] at H
   by_cases c9 : x11_1 < t201
   ·rw [if_pos c9] at H
    have c9b0 : decide (x11_1 < t201) = true := decide_eq_true c9
    clear c9
    replace H := Option.bind_eq_some_iff.mp H
    obtain ⟨t202, A100, H⟩ := H
    replace H : ((impl_fits.f k1 l1 t202).bind fun t203 => (if t203 = true then (if x5_1.length < 8796093022208 then (impl_Lock_fitting.l0 k1 l1 (x5_1 ++ [t202]) t201 (wrap64 (x11_1 + 1)) a0_0 a0_1) else (none)) else (impl_Lock_fitting.l0 k1 l1 x5_1 t201 (wrap64 (x11_1 + 1)) a0_0 a0_1))) = some r := H
    have A10 := Aside0.mk A100
    clear A100
    replace H := Option.bind_eq_some_iff.mp H
    obtain ⟨t203, A110, H⟩ := H
    replace H : (if t203 = true then (if x5_1.length < 8796093022208 then (impl_Lock_fitting.l0 k1 l1 (x5_1 ++ [t202]) t201 (wrap64 (x11_1 + 1)) a0_0 a0_1) else (none)) else (impl_Lock_fitting.l0 k1 l1 x5_1 t201 (wrap64 (x11_1 + 1)) a0_0 a0_1)) = some r := H
    have A11 := Aside0.mk A110
    clear A110
    by_cases c12 : t203 = true
    ·subst c12
     have H1 : (if x5_1.length < 8796093022208 then (impl_Lock_fitting.l0 k1 l1 (x5_1 ++ [t202]) t201 (wrap64 (x11_1 + 1)) a0_0 a0_1) else (none)) = some r := by rw [if_pos rfl] at H; exact H
     clear H
     have H := H1
     clear H1
     by_cases c13 : x5_1.length < 8796093022208
     ·rw [if_pos c13] at H
      have LMc13 := Aside0.mk c13
      clear c13
      obtain ⟨y204, hy204⟩ : ∃ y_ : List ByteArray, y_ = (x5_1 ++ [t202]) := ⟨_, rfl⟩
      replace H : (impl_Lock_fitting.l0 k1 l1 y204 t201 (wrap64 (x11_1 + 1)) a0_0 a0_1) = some r := by first | (rw [hy204]; with_reducible exact H) | (have H2_ := (Option.bind_some _ _).symm.trans H; rw [hy204]; with_reducible exact H2_) | (have H2_ := (Option.bind_some _ _).symm.trans H; with_reducible exact H2_) | with_reducible exact H | (rw [hy204]; exact H) | exact H
      have Ny204 := Aside0.mk hy204
      clear hy204
      have H' := Aside0.mk H
      clear H
      have hcz14_0 : wr.cell? ⟨gb197, 0, none⟩ = some (.int .i64 a0_0) := (blk_cell BK197.out 0).trans rfl
      have hcz14_1 : wr.cell? ⟨gb197, 1, none⟩ = some (.int .i64 a0_1) := (blk_cell BK197.out 1).trans rfl
      have hfz14_0 := blk_frozen BK197.out 0
      have hfz14_1 := blk_frozen BK197.out 1
      go_wp2_with (first | ((with_reducible refine gate_callee (f := 70) rfl ?_); refine goesL_ (some 16) rfl rfl Tryz.func70 (by kernel_rfl) rfl #[.agg #[.int .i64 a0_0, .int .i64 a0_1], .int .i64 x11_1] rfl lM ?_; (with_reducible refine (impl_Lock_code.calls k1 a0_0 a0_1 x11_1 t202 _ A10.out).mono ?_); rintro e w15 ⟨rfl, hb⟩; refine ⟨_, rfl, ?_⟩; have n0_ := Aside0.mk (Kd.R_below (by (with_reducible repeat (first | apply Kd.R_alloc | apply Kd.R_drewN | apply Kd.R_drew)); exact HO_5.out) hb); have n1_ := Aside0.mk (blk_below (g := gb197) (o := .cells #[.int .i64 a0_0, .int .i64 a0_1] 25 (0, 0)) bK hb); have n2_ := Aside0.mk (below_step bG hb); clear HO_5; clear BK197; clear HB; have HO_5 := n0_; have BK197 := n1_; have HB := n2_; clear n0_ n1_ n2_; (try clear hb); (try clear hb2); (try clear hk); (try clear hi)) | ((with_reducible refine gate_callee (f := 77) rfl ?_); refine goesL_ (some 19) rfl rfl Tryz.func77 (by kernel_rfl) rfl #[.slice A1 l1.length c1, .string t202] rfl lM ?_; (with_reducible refine (impl_fits.calls k1 _ _ l1 t202 true _ ?side1 ?side2 A11.out).mono ?_); (case side1 => repeat (first | exact (Kd.C_below HR1.out HB.out) | (with_reducible refine Kd.C_alloc ?_ _) | (with_reducible refine Kd.C_drewN ?_ _) | (with_reducible refine Kd.C_drew ?_))); (case side2 => exact HC1.out); rintro e w16 ⟨rfl, hb⟩; refine ⟨_, rfl, ?_⟩; have n0_ := Aside0.mk (Kd.R_below (by (with_reducible repeat (first | apply Kd.R_alloc | apply Kd.R_drewN | apply Kd.R_drew)); exact HO_5.out) hb); have n1_ := Aside0.mk (blk_below (g := gb197) (o := .cells #[.int .i64 a0_0, .int .i64 a0_1] 25 (0, 0)) bK hb); have n2_ := Aside0.mk (below_step bG hb); clear HO_5; clear BK197; clear HB; have HO_5 := n0_; have BK197 := n1_; have HB := n2_; clear n0_ n1_ n2_; (try clear hb); (try clear hb2); (try clear hk); (try clear hi)) | ((with_reducible refine gate_builtin (b := .append) (xs := #[.tmp 20, .tmp 22]) rfl ?_); at_builtin; refine Kd.R_append Kd.string (w0 := w) w.heap.size rfl (.tmp 20) (.tmp 22) 38 9 (.string ⟨#[]⟩) 16 rfl Tryz.underlying38 info9 rfl (by decide) (by omega) u5 x5_1 t202 [.string t202] (fun _ => True) (fun _ => False) rfl rfl ?aP (fun _ hk => hk.elim) ?aF ?aO ?aB ?aS ?aL ?_; (case aP => exact rfl); (case aB => exact bG); (case aF => exact (fun _ _ => trivial)); (case aO => exact (by (with_reducible repeat (first | apply Kd.R_alloc | apply Kd.R_drewN | apply Kd.R_drew)); exact HO_5.out)); (case aS => exact (below_size bG)); (case aL => have := LMc13.out; omega); intro v205 w17 ho hb hg hat; rw [← Ny204.out] at ho; have n0_ := Aside0.mk (blk_grown (g := gb197) (o := .cells #[.int .i64 a0_0, .int .i64 a0_1] 25 (0, 0)) bK hg (Kd.R_ne HO_5.out BK197.out (by decide))); have n1_ := Aside0.mk (hb); have n2_ := Aside0.mk (ho); clear BK197; clear HB; clear HO_5; have BK197 := n0_; have HB := n1_; have HO206 := n2_; clear n0_ n1_ n2_; clear ho hb hg hat))
      go_roundg k1
      case measure => have := HK1.out; omega
      case rel => exact ⟨(y204), (wrap64 (x11_1 + 1)), fR, H', ⟨by have := HK1.out; omega⟩, ⟨by (with_reducible repeat (first | apply Kd.R_alloc | apply Kd.R_drewN | apply Kd.R_drew)); exact HO206.out⟩, ⟨bK⟩, ⟨bG⟩⟩
     ·rw [if_neg c13] at H
      exact absurd H (by simp)
    ·replace c12 := Bool.eq_false_iff.mpr c12
     subst c12
     have H1 : (impl_Lock_fitting.l0 k1 l1 x5_1 t201 (wrap64 (x11_1 + 1)) a0_0 a0_1) = some r := by rw [if_neg (show ¬ (false = true) by decide)] at H; exact H
     clear H
     have H := H1
     clear H1
     have H' := Aside0.mk H
     clear H
     have hcz18_0 : wr.cell? ⟨gb197, 0, none⟩ = some (.int .i64 a0_0) := (blk_cell BK197.out 0).trans rfl
     have hcz18_1 : wr.cell? ⟨gb197, 1, none⟩ = some (.int .i64 a0_1) := (blk_cell BK197.out 1).trans rfl
     have hfz18_0 := blk_frozen BK197.out 0
     have hfz18_1 := blk_frozen BK197.out 1
     go_wp2_with (first | ((with_reducible refine gate_callee (f := 70) rfl ?_); refine goesL_ (some 16) rfl rfl Tryz.func70 (by kernel_rfl) rfl #[.agg #[.int .i64 a0_0, .int .i64 a0_1], .int .i64 x11_1] rfl lM ?_; (with_reducible refine (impl_Lock_code.calls k1 a0_0 a0_1 x11_1 t202 _ A10.out).mono ?_); rintro e w19 ⟨rfl, hb⟩; refine ⟨_, rfl, ?_⟩; have n0_ := Aside0.mk (Kd.R_below (by (with_reducible repeat (first | apply Kd.R_alloc | apply Kd.R_drewN | apply Kd.R_drew)); exact HO_5.out) hb); have n1_ := Aside0.mk (blk_below (g := gb197) (o := .cells #[.int .i64 a0_0, .int .i64 a0_1] 25 (0, 0)) bK hb); have n2_ := Aside0.mk (below_step bG hb); clear HO_5; clear BK197; clear HB; have HO_5 := n0_; have BK197 := n1_; have HB := n2_; clear n0_ n1_ n2_; (try clear hb); (try clear hb2); (try clear hk); (try clear hi)) | ((with_reducible refine gate_callee (f := 77) rfl ?_); refine goesL_ (some 19) rfl rfl Tryz.func77 (by kernel_rfl) rfl #[.slice A1 l1.length c1, .string t202] rfl lM ?_; (with_reducible refine (impl_fits.calls k1 _ _ l1 t202 false _ ?side1 ?side2 A11.out).mono ?_); (case side1 => repeat (first | exact (Kd.C_below HR1.out HB.out) | (with_reducible refine Kd.C_alloc ?_ _) | (with_reducible refine Kd.C_drewN ?_ _) | (with_reducible refine Kd.C_drew ?_))); (case side2 => exact HC1.out); rintro e w20 ⟨rfl, hb⟩; refine ⟨_, rfl, ?_⟩; have n0_ := Aside0.mk (Kd.R_below (by (with_reducible repeat (first | apply Kd.R_alloc | apply Kd.R_drewN | apply Kd.R_drew)); exact HO_5.out) hb); have n1_ := Aside0.mk (blk_below (g := gb197) (o := .cells #[.int .i64 a0_0, .int .i64 a0_1] 25 (0, 0)) bK hb); have n2_ := Aside0.mk (below_step bG hb); clear HO_5; clear BK197; clear HB; have HO_5 := n0_; have BK197 := n1_; have HB := n2_; clear n0_ n1_ n2_; (try clear hb); (try clear hb2); (try clear hk); (try clear hi)))
     go_roundg k1
     case measure => have := HK1.out; omega
     case rel => exact ⟨(x5_1), (wrap64 (x11_1 + 1)), fR, H', ⟨by have := HK1.out; omega⟩, ⟨by (with_reducible repeat (first | apply Kd.R_alloc | apply Kd.R_drewN | apply Kd.R_drew)); exact HO_5.out⟩, ⟨bK⟩, ⟨bG⟩⟩
   ·rw [if_neg c9] at H
    have c9b0 : decide (x11_1 < t201) = false := decide_eq_false c9
    clear c9
    obtain rfl := Option.some.inj H
    go_wp2
    go_ret
    exact ⟨_, by first | rfl | (simp [errW_none, errW_some] <;> rfl) | (simp [*, errW_none, errW_some] <;> rfl), by (with_reducible repeat (first | apply Kd.R_alloc | apply Kd.R_drewN | apply Kd.R_drew)); exact HO_5.out, bG⟩

/-! ### slices_IndexFunc_string_string: function 116 -/
/-- The elements that a test keeps (true: strike). -/
def filO {α : Type} (p : α → Option Bool) : List α → Option (List α)
 | [] => some []
 | x :: xs => (p x).bind fun b => if b = true then filO p xs else (filO p xs).map (fun r => x :: r)
def idxN {α : Type} (p : α → Option Bool) : Nat → List α → Option Int
 | _, [] => some (-1)
 | k, x :: xs => (p x).bind fun b => if b = true then some (k : Int) else idxN p (k + 1) xs
theorem filO_mono {α : Type} {p p' : α → Option Bool} (h : ∀ x, LeO (p x) (p' x)) : ∀ l, LeO (filO p l) (filO p' l)
 | [] => LeO.refl _
 | x :: xs => LeO.bind (h x) (fun _ => LeO.ite (filO_mono h xs) (LeO.map _ (filO_mono h xs)))
theorem filO_idx {α : Type} (p : α → Option Bool) : ∀ (l r : List α) (k : Nat), filO p l = some r → (idxN p k l = some (-1) ∧ r = l) ∨ ∃ k0 rest, k0 < l.length ∧ idxN p k l = some ((k + k0 : Nat) : Int) ∧ filO p (l.drop (k0 + 1)) = some rest ∧ r = l.take k0 ++ rest
 | [], r, k, h => .inl ⟨rfl, by simpa [filO] using h.symm⟩
 | x :: xs, r, k, h => by
  rw [filO] at h
  obtain ⟨b, hb, h⟩ := Option.bind_eq_some_iff.mp h
  cases b with
  | true =>
   rw [if_pos rfl] at h
   exact .inr ⟨0, r, by simp, by simp [idxN, hb], by simpa using h, by simp⟩
  | false =>
   rw [if_neg (by decide)] at h
   obtain ⟨r', hr', rfl⟩ := Option.map_eq_some_iff.mp h
   rcases filO_idx p xs r' (k + 1) hr' with ⟨h1, h2⟩ | ⟨k0, rest, h1, h2, h3, h4⟩
   ·exact .inl ⟨by simp [idxN, hb, h1], by rw [h2]⟩
   ·refine .inr ⟨k0 + 1, rest, by simpa using h1, ?_, by simpa using h3, by rw [h4]; simp⟩
    simp only [idxN, hb, Option.bind_some]
    rw [if_neg (by decide), h2]
    congr 1
    omega
set_option maxHeartbeats 4000000 in
set_option maxRecDepth 100000 in
theorem idxS_calls (g : Nat) (caps : Array Value) (p : ByteArray → Option Bool) (I : World → Prop) (A0 : Option Addr) (c0 : Nat) (l0 : List ByteArray) (v : Int) (w : World) (eg : ∀ args w, (callFunc g args).run Tryz.prog w = .ok (.enter g args) w)
  (hr0 : Kd.C Kd.string w A0 l0.length l0) (hlen : l0.length ≤ 1000000000000000000) (h : idxN p 0 l0 = some v) (hI : I w) (hmono : ∀ W W', I W → Below W.heap.size W W' → I W')
  (hp : ∀ (x : ByteArray) (b : Bool) (W : World), p x = some b → I W → Calls Tryz.prog g (#[.string x] ++ caps) W fun e w' => e = .returned (.bool b) ∧ Below W.heap.size W w') :
  Calls Tryz.prog 116 #[.slice A0 l0.length c0, .func (.func g) #[] caps] w fun e w' => e = .returned (.int .i64 v) ∧ Below w.heap.size w w' ∧ I w' := by
 have hu9 := Tryz.underlying9
 have HR0 := Aside0.mk hr0
 have HH := Aside0.mk h
 have HI0 := Aside0.mk hI
 have HM := Aside0.mk hmono
 clear hr0 h hI hmono
 go_enter Tryz.func116, Tryz.ntmps116
 go_wp2
 go_loopg [5, 8] l0.length (fun gg _ s8 wr => ∃ kk : Nat, kk ≤ l0.length ∧ l0.length - kk ≤ gg ∧ s8 = .int .i64 kk ∧ Aside0 (Below w.heap.size w wr) ∧ Aside0 (I wr) ∧ Aside0 (idxN p kk (l0.drop kk) = some v))
 case atStart => exact ⟨0, Nat.zero_le _, by omega, rfl, ⟨Below.refl _ _⟩, HI0, HH⟩
 case round =>
  obtain ⟨kk, hkk, hg, rfl, HB, HI, HA⟩ := hrel
  clear HH HI0
  by_cases hlt : kk < l0.length
  ·have hltz : (kk : Int) < (l0.length : Int) := by omega
   obtain ⟨ad, e1, hx0⟩ := Kd.at_string (Kd.C_below HR0.out HB.out) (kk : Int) (by omega) hltz
   rw [Int.toNat_natCast] at hx0
   have hget : rdOf ByteArray.empty l0 (kk : Int) = l0[kk] := by simp [rdOf, List.getD, hlt]
   rw [hget] at hx0
   cases e1
   have H := HA.out
   clear HA
   rw [List.drop_eq_getElem_cons hlt, idxN] at H
   replace H := Option.bind_eq_some_iff.mp H
   obtain ⟨b, hb, H⟩ := H
   have hcall := hp l0[kk] b wr hb HI.out
   clear hp hb hget
   generalize l0[kk] = x at hx0 hcall
   have HX := Aside0.mk H
   clear H
   cases b with
   | true =>
    go_wp2_with (go_at_fn g; refine hcall.mono ?_; rintro e w' ⟨rfl, hb⟩; have HB2 := Aside0.mk (below_then HB.out HB.out.size hb); have HI2 := Aside0.mk (HM.out _ _ HI.out hb); clear hb)
    go_ret
    refine ⟨?_, HB2.out, HI2.out⟩
    have := HX.out
    simp only [if_true, Option.some.injEq] at this
    subst this
    rfl
   | false =>
    go_wp2_with (go_at_fn g; refine hcall.mono ?_; rintro e w' ⟨rfl, hb⟩; have HB2 := Aside0.mk (below_then HB.out HB.out.size hb); have HI2 := Aside0.mk (HM.out _ _ HI.out hb); clear hb)
    go_roundg (l0.length - (kk + 1))
    case measure => omega
    case rel =>
     refine ⟨kk + 1, by omega, by omega, by go_num, HB2, HI2, ⟨?_⟩⟩
     have := HX.out
     rwa [if_neg (by decide)] at this
  ·have hltz : ¬ (kk : Int) < (l0.length : Int) := by omega
   have : kk = l0.length := by omega
   subst this
   clear hp
   go_wp2
   go_ret
   refine ⟨?_, HB.out, HI.out⟩
   have := HA.out
   rw [List.drop_length, idxN] at this
   simp only [Option.some.injEq] at this
   subst this
   rfl


/-! ### slices_DeleteFunc_string_string: function 95 -/
/-- A row's tail, written anew. -/
theorem R_tail {e base b n c : Nat} {ok : Nat → Prop} : ∀ (m i : Nat) (W : World) (l : List ByteArray) (x : ByteArray), Kd.R Kd.string e W base ok (.slice (some ⟨b, 0, none⟩) n c) l → i + m ≤ n →
  ∃ l', Kd.R Kd.string e (W.setCells b i (List.replicate m (.string x))) base ok (.slice (some ⟨b, 0, none⟩) n c) l' ∧ l'.take i = l.take i
 | 0, _, _, l, _, h, _ => ⟨l, h, rfl⟩
 | m + 1, i, W, l, x, h, hi => by
  have h1 := Kd.R_putn (enc := Value.string) h (i : Int) x
  rw [Int.toNat_natCast] at h1
  obtain ⟨l', h2, h3⟩ := R_tail m (i + 1) _ _ x h1 (by omega)
  refine ⟨l', h2, ?_⟩
  have h4 := congrArg (List.take i) h3
  rw [List.take_take, List.take_take, Nat.min_eq_left (by omega)] at h4
  rw [h4, List.take_set_of_le (Nat.le_refl _)]
set_option maxHeartbeats 4000000 in
set_option maxRecDepth 100000 in
theorem delS_calls (g : Nat) (caps : Array Value) (p : ByteArray → Option Bool) (I : World → Prop) (base b n c : Nat) (l res : List ByteArray) (w : World) (eg : ∀ args w, (callFunc g args).run Tryz.prog w = .ok (.enter g args) w)
  (hr : Kd.R Kd.string 9 w base (fun k => k = b) (.slice (some ⟨b, 0, none⟩) n c) l) (hlen : n ≤ 1000000000000000000) (h : filO p l = some res) (hI : I w) (hmono : ∀ W W', I W → Below W.heap.size W W' → I W')
  (hset : ∀ W j v, I W → I (W.setCell ⟨b, j, none⟩ v))
  (hp : ∀ (x : ByteArray) (b : Bool) (W : World), p x = some b → I W → Calls Tryz.prog g (#[.string x] ++ caps) W fun e w' => e = .returned (.bool b) ∧ Below W.heap.size W w') :
  Calls Tryz.prog 95 #[.slice (some ⟨b, 0, none⟩) n c, .func (.func g) #[] caps] w fun e w' => e = .returned (.slice (some ⟨b, 0, none⟩) res.length c) ∧ Kd.R Kd.string 9 w' base (fun k => k = b) (.slice (some ⟨b, 0, none⟩) res.length c) res ∧ I w' := by
 have hu9 := Tryz.underlying9
 have hu46 := Tryz.underlying38
 obtain ⟨hn, hnc, hC⟩ := Kd.R_reads' hr
 subst hn
 have HR := Aside0.mk hr
 have HM := Aside0.mk hmono
 have HS := Aside0.mk hset
 clear hr hset hmono
 rcases filO_idx p l res 0 h with ⟨h1, h2⟩ | ⟨k0, rest, h1, h2, h3, h4⟩
 ·subst h2
  have hidx := idxS_calls g caps p I (some ⟨b, 0, none⟩) c res (-1) w eg hC hlen h1 hI HM.out hp
  clear h1 hC hI hp h hlen eg
  go_enter Tryz.func95, Tryz.ntmps95
  go_wp2_with (go_at_call 116; refine hidx.mono ?_; rintro e w' ⟨rfl, hb, hi⟩; have HB := Aside0.mk hb; have HI := Aside0.mk hi; clear hb hi)
  go_ret
  exact ⟨rfl, Kd.R_below HR.out HB.out, HI.out⟩
 ·rw [Nat.zero_add] at h2
  have hidx := idxS_calls g caps p I (some ⟨b, 0, none⟩) c l (k0 : Int) w eg hC hlen h2 hI HM.out hp
  have H3 := Aside0.mk h3
  have H4 := Aside0.mk h4
  have hne1 : ((k0 : Int) == -1) = false := beq_eq_false_iff_ne.2 (by omega)
  clear h2 hC hI h h3 h4
  obtain ⟨n, hn⟩ : ∃ n, n = l.length := ⟨_, rfl⟩
  rw [← hn] at hidx HR hnc hlen h1 ⊢
  have HN := Aside0.mk hn
  clear hn
  go_enter Tryz.func95, Tryz.ntmps95
  go_wp2_with (go_at_call 116; refine hidx.mono ?_; rintro e w' ⟨rfl, hb, hi⟩; have HB := Aside0.mk hb; have HI := Aside0.mk hi; clear hb hi)
  have HR1 := Aside0.mk (Kd.R_below HR.out HB.out)
  clear HR HB hidx
  go_loopg [5, 6, 7] n (fun gg s5 s6 _ wr => ∃ (i j : Nat) (dk rest : List ByteArray), s5 = .int .i64 i ∧ s6 = .int .i64 j ∧ j ≤ n ∧ i < j ∧ n - j ≤ gg ∧ Aside0 (I wr) ∧ Aside0 (Kd.R Kd.string 9 wr base (fun k => k = b) (.slice (some ⟨b, 0, none⟩) n c) dk) ∧ Aside0 (dk.drop j = l.drop j) ∧ Aside0 (filO p (l.drop j) = some rest) ∧ Aside0 (res = dk.take i ++ rest))
  case atStart => exact ⟨k0, k0 + 1, l, rest, rfl, by go_num, by omega, by omega, by omega, HI, HR1, ⟨rfl⟩, H3, H4⟩
  case round =>
   clear HR1 HI H3 H4 rest
   obtain ⟨i, j, dk, rest, rfl, rfl, hjn, hij, hgg, HI, HRk, HD, HF, HE⟩ := hrel
   have hdl : n = dk.length := (Kd.R_reads' HRk.out).1
   have HDL := Aside0.mk hdl
   clear hdl
   by_cases hlt : j < n
   ·have hltz : (j : Int) < (n : Int) := by omega
    have hjl : j < l.length := by rw [← HN.out]; exact hlt
    have hjd : j < dk.length := by rw [← HDL.out]; exact hlt
    obtain ⟨cj, _⟩ := Kd.R_celln ByteArray.empty HRk.out (j : Int) (by omega) hltz
    obtain ⟨ci, fi⟩ := Kd.R_celln ByteArray.empty HRk.out (i : Int) (by omega) (by omega)
    rw [Int.toNat_natCast] at cj ci fi
    have hgj : rdOf ByteArray.empty dk (j : Int) = l[j] := by
     have h0 := congrArg List.head? HD.out
     rw [List.drop_eq_getElem_cons hjl, List.drop_eq_getElem_cons hjd] at h0
     have h1 : dk[j] = l[j] := Option.some.inj h0
     rw [← h1]
     simp [rdOf, List.getD, hjd]
    rw [hgj] at cj
    obtain ⟨x, hx⟩ : ∃ x, x = l[j] := ⟨_, rfl⟩
    rw [← hx] at cj
    generalize rdOf ByteArray.empty dk (i : Int) = old at ci
    have H := HF.out
    clear HF
    rw [List.drop_eq_getElem_cons hjl, filO, ← hx] at H
    obtain ⟨bb, hb, H⟩ := Option.bind_eq_some_iff.mp H
    have hcall := hp x bb wr hb HI.out
    have HD2 : dk.drop (j + 1) = l.drop (j + 1) := by
     have h0 := congrArg List.tail HD.out
     rwa [List.tail_drop, List.tail_drop] at h0
    have HD' := Aside0.mk HD2
    clear hb hgj HD2 HD hx
    have HX := Aside0.mk H
    clear H hjl hjd
    cases bb with
    | false =>
     have HX2 := HX.out
     rw [if_neg (by decide)] at HX2
     obtain ⟨rest', hr', hre⟩ := Option.map_eq_some_iff.mp HX2
     have HF' := Aside0.mk hr'
     have HRE := Aside0.mk hre
     clear HX HX2 hr' hre
     have ci' := fun W' (hb : Below wr.heap.size wr W') => pw_cell_below hb ci
     have fi' := fun W' (hb : Below wr.heap.size wr W') => (hb.frozen (p := ⟨b, i, none⟩) (World.block_lt_of_cell? wr ⟨b, i, none⟩ ci)).trans fi
     have CI := Aside0.mk ci'
     have FI := Aside0.mk fi'
     clear ci' fi' ci fi
     go_wp2_with (go_at_fn g; refine hcall.mono ?_; rintro e w' ⟨rfl, hb⟩; have HRb := Aside0.mk (Kd.R_below HRk.out hb); have HI2 := Aside0.mk (HM.out _ _ HI.out hb); have ci := CI.out _ hb; have fi := FI.out _ hb; clear hb)
     go_roundg (n - (j + 1))
     case measure => omega
     case rel =>
      refine ⟨i + 1, j + 1, dk.set i x, rest', by go_num, by go_num, by omega, by omega, by omega, ⟨HS.out _ _ _ HI2.out⟩, ⟨?_⟩, ⟨?_⟩, HF', ⟨?_⟩⟩
      ·have := Kd.R_putn (enc := Value.string) HRb.out (i : Int) x
       rwa [Int.toNat_natCast] at this
      ·rw [List.drop_set_of_lt (by omega)]
       exact HD'.out
      ·rw [HE.out, ← HRE.out, List.take_add_one, List.take_set_of_le (Nat.le_refl _), List.getElem?_set_self (by rw [← HDL.out]; omega)]
       simp
    | true =>
     have HX2 := HX.out
     rw [if_pos rfl] at HX2
     have HF' := Aside0.mk HX2
     clear HX HX2 ci fi
     go_wp2_with (go_at_fn g; refine hcall.mono ?_; rintro e w' ⟨rfl, hb⟩; have HRb := Aside0.mk (Kd.R_below HRk.out hb); have HI2 := Aside0.mk (HM.out _ _ HI.out hb); clear hb)
     go_roundg (n - (j + 1))
     case measure => omega
     case rel => exact ⟨i, j + 1, dk, rest, rfl, by go_num, by omega, by omega, by omega, HI2, HRb, HD', HF', HE⟩
   ·obtain rfl : j = n := by omega
    have hltz : ¬ (j : Int) < (j : Int) := by omega
    have hrest : rest = [] := by
     have := HF.out
     rw [List.drop_eq_nil_of_le (by rw [← HN.out]; exact Nat.le_refl _), filO] at this
     exact (Option.some.inj this).symm
    have hcl : ∀ ty, (Builtin.clear_ #[38] ty #[.slice (some ⟨b, i, none⟩) (j - i) (c - i)]).run Tryz.prog wr = .ok (.tuple #[]) (wr.setCells b i (List.replicate (j - i) (.string ByteArray.empty))) :=
     fun ty => Lib.run_clear_slice wr _ _ ty _ hu46 (fun w => by kernel_rfl) rfl rfl b i _ _ (by omega) (fun t ht => by have := (Kd.R_celln ByteArray.empty HRk.out ((i + t : Nat) : Int) (by omega) (by omega)).1; rw [Int.toNat_natCast] at this; rw [this]; rfl) (fun t ht => by have := (Kd.R_celln ByteArray.empty HRk.out ((i + t : Nat) : Int) (by omega) (by omega)).2; rwa [Int.toNat_natCast] at this)
    obtain ⟨l', ht1, ht2⟩ := R_tail (j - i) i wr dk ByteArray.empty HRk.out (by omega)
    have hset2 : ∀ (m q : Nat) (W : World), I W → I (W.setCells b q (List.replicate m (.string ByteArray.empty))) := by
     intro m
     induction m with
     | zero => exact fun q W h => h
     | succ m ih => exact fun q W h => ih (q + 1) _ (HS.out W q _ h)
    have HI9 := Aside0.mk (hset2 (j - i) i wr HI.out)
    have hres : res = l'.take i := by rw [ht2, HE.out, hrest, List.append_nil]
    have hrl : res.length = i := by rw [HE.out, hrest, List.append_nil, List.length_take, ← HDL.out]; omega
    have HR9 := Aside0.mk (Kd.R_take ht1 (m := i) (by have := (Kd.R_reads' ht1).1; omega))
    have HRES := Aside0.mk hres
    have HRL := Aside0.mk hrl
    clear hset2 ht1 ht2 hres hrl hrest hp
    go_wp2
    go_ret
    rw [HRL.out]
    refine ⟨rfl, ?_, HI9.out⟩
    rw [HRES.out]
    exact HR9.out


/-! ### impl_Lock_play_1: function 96 -/
def play1 (k : Nat) (h : S35) (x : ByteArray) : Option Bool := (impl_fits.f k [h] x).map (fun b => !b)
theorem play1_mono (k : Nat) (h : S35) (x : ByteArray) : LeO (play1 k h x) (play1 (k + 1) h x) := LeO.map _ (impl_fits.mono _ _ _)
theorem play1_lit (W : World) (h : S35) (n : Nat) (hn : n = W.heap.size) : Kd.C k35 (W.alloc (.cells #[.string h.f0, .int .i64 h.f1, .int .i64 h.f2] 35)) (some ⟨n, 0, none⟩) 1 [h] :=
 (Kd.R_reads' (hw_R_lit k35 W 35 0 n (xs := [h]) (inner := [.string h.f0, .int .i64 h.f1, .int .i64 h.f2]) (ok := fun _ => True) (okp := fun _ => False) hn
  (Reps.c3 (k35_mkM W 0 _ h) (Reps.none _ _)) (fun _ hk => hk.elim) trivial (Nat.zero_le _) (by simp))).2.2
set_option maxHeartbeats 4000000 in
set_option maxRecDepth 100000 in
theorem play1_calls (k B : Nat) (h : S35) (x : ByteArray) (r : Bool) (w : World) (hb : w.heap[B]? = some (.cells #[.string h.f0, .int .i64 h.f1, .int .i64 h.f2] 35 (0, 0))) (hr : play1 k h x = some r) :
  Calls Tryz.prog 96 #[.string x, .pointer (some ⟨B, 0, none⟩)] w fun e w' => e = .returned (.bool r) ∧ Below w.heap.size w w' := by
 have hu75 := Tryz.underlying35
 have hu9 := Tryz.underlying9
 unfold play1 at hr
 obtain ⟨t, ht, e1⟩ := Option.map_eq_some_iff.mp hr
 subst e1
 have hc0 : w.cell? ⟨B, 0, none⟩ = some (.string h.f0) := (blk_cell hb 0).trans rfl
 have hc1 : w.cell? ⟨B, 1, none⟩ = some (.int .i64 h.f1) := (blk_cell hb 1).trans rfl
 have hc2 : w.cell? ⟨B, 2, none⟩ = some (.int .i64 h.f2) := (blk_cell hb 2).trans rfl
 have hf : ∀ W A0, Kd.C k35 W A0 1 [h] → Calls Tryz.prog 77 #[.slice A0 1 1, .string x] W fun e w' => e = .returned (.bool t) ∧ Below W.heap.size W w' := fun W A0 hc => impl_fits.calls k A0 1 [h] x t W hc (by simp) ht
 have hl := play1_lit w h w.heap.size rfl
 clear hb hr ht
 go_enter Tryz.func96, Tryz.ntmps96
 go_wp2_with (go_at_call 77; refine (hf _ _ hl).mono ?_; rintro e w1 ⟨rfl, hb⟩; have HB := Aside0.mk hb; clear hb)
 go_ret
 exact ⟨rfl, below_then (below_alloc (Below.refl _ _) _) (by simp) HB.out⟩


/-! ### impl_Lock_play: function 52 -/
def playL (k : Nat) (code : ByteArray) : Nat → List S35 → List ByteArray → Option (List S35 × Bool)
 | 0, _, _ => none
 | m + 1, out, left => if out.length < 200 then
   (if 0 < left.length ∧ left.length ≤ 1000000000000000000 then
    (impl_hint.f k (rdOf ByteArray.empty left 0) code).bind fun t =>
     if (rdOf ByteArray.empty left 0).toList = code.toList then some (out ++ [⟨rdOf ByteArray.empty left 0, t.1, t.2⟩], true)
     else (filO (play1 k ⟨rdOf ByteArray.empty left 0, t.1, t.2⟩) left).bind fun l2 => playL k code m (out ++ [⟨rdOf ByteArray.empty left 0, t.1, t.2⟩]) l2
   else none) else some ([], false)
def impl_Lock_play.f (k : Nat) (a b : Int) (c : ByteArray) : Option (List S35 × Bool) := (impl_Lock_fitting.f k a b []).bind fun l => playL k c 202 [] l
theorem playL_mono (k : Nat) (c : ByteArray) : ∀ m out l, LeO (playL k c m out l) (playL (k + 1) c m out l)
 | 0, _, _ => LeO.refl _
 | m + 1, out, l => LeO.ite (LeO.ite (LeO.bind (impl_hint.mono _ _ _) (fun t => LeO.ite (LeO.refl _) (LeO.bind (filO_mono (fun x => play1_mono k _ x) _) (fun l2 => playL_mono k c m _ l2)))) (LeO.refl _)) (LeO.refl _)
theorem impl_Lock_play.mono : ∀ a b c k, LeO (impl_Lock_play.f k a b c) (impl_Lock_play.f (k + 1) a b c) := fun a b c k => LeO.bind (impl_Lock_fitting.mono _ _ _ _) (fun l => playL_mono k c _ _ l)
theorem play_put {w3 : World} {B : Nat} (h : w3.heap[B]? = some (.cells #[.string (⟨#[]⟩ : ByteArray), .int .i64 0, .int .i64 0] 35 (0, 0))) (g : ByteArray) (p o : Int) :
  (((w3.setCell ⟨B, 0, none⟩ (.string g)).setCell ⟨B, 1, none⟩ (.int .i64 p)).setCell ⟨B, 2, none⟩ (.int .i64 o)).heap[B]? = some (.cells #[.string g, .int .i64 p, .int .i64 o] 35 (0, 0)) :=
 blk_put (cs := #[.string g, .int .i64 p, .int .i64 0]) (blk_put (cs := #[.string g, .int .i64 0, .int .i64 0]) (blk_put (cs := #[.string (⟨#[]⟩ : ByteArray), .int .i64 0, .int .i64 0]) h 0 _ rfl) 1 _ rfl) 2 _ rfl
theorem play_far {α : Type} {d : Kd α} {e base : Nat} {ok : Nat → Prop} {w3 : World} {v : Value} {xs : List α} (h : d.R e w3 base ok v xs) (B : Nat) (hne : ∀ k, ok k → k ≠ B) (g : ByteArray) (p o : Int) :
  d.R e (((w3.setCell ⟨B, 0, none⟩ (.string g)).setCell ⟨B, 1, none⟩ (.int .i64 p)).setCell ⟨B, 2, none⟩ (.int .i64 o)) base ok v xs :=
 Kd.R_far (p := ⟨B, 2, none⟩) (Kd.R_far (p := ⟨B, 1, none⟩) (Kd.R_far (p := ⟨B, 0, none⟩) h hne (.string g)) hne (.int .i64 p)) hne (.int .i64 o)
theorem play_bel {w w3 : World} {B : Nat} (h : Below w.heap.size w w3) (hB : w.heap.size ≤ B) (g : ByteArray) (p o : Int) :
  Below w.heap.size w (((w3.setCell ⟨B, 0, none⟩ (.string g)).setCell ⟨B, 1, none⟩ (.int .i64 p)).setCell ⟨B, 2, none⟩ (.int .i64 o)) := below_set (below_set (below_set h hB) hB) hB
theorem play_fresh {w3 : World} {B b : Nat} (hb : b < w3.heap.size) (h : w3.heap[B]? = some (.cells #[.string (⟨#[]⟩ : ByteArray), .int .i64 0, .int .i64 0] 35 (0, 0))) (g : ByteArray) (p o : Int) (k : Nat)
  (hk : (((w3.setCell ⟨B, 0, none⟩ (.string g)).setCell ⟨B, 1, none⟩ (.int .i64 p)).setCell ⟨B, 2, none⟩ (.int .i64 o)).heap.size ≤ k) : k ≠ b ∧ k ≠ B := by
 have h1 := blk_lt h
 simp only [World.size_setCell] at hk
 omega
structure playInv (w0 : World) (B : Nat) (h : S35) (b : Nat) (v : Value) (out : List S35) (W : World) : Prop where
 blk : W.heap[B]? = some (.cells #[.string h.f0, .int .i64 h.f1, .int .i64 h.f2] 35 (0, 0))
 bel : Below w0.heap.size w0 W
 row : Kd.R k35 35 W w0.heap.size (fun k => k ≠ b) v out
theorem playInv.grow {w0 : World} {B : Nat} {h : S35} {b : Nat} {v : Value} {out : List S35} {W W' : World} (hi : playInv w0 B h b v out W) (hb : Below W.heap.size W W') : playInv w0 B h b v out W' :=
 ⟨blk_below hi.blk hb, below_then hi.bel hi.bel.size hb, Kd.R_below hi.row hb⟩
theorem playInv.set {w0 : World} {B : Nat} {h : S35} {b : Nat} {v : Value} {out : List S35} {W : World} (hi : playInv w0 B h b v out W) (hB : B ≠ b) (hb : w0.heap.size ≤ b) (j : Nat) (u : Value) : playInv w0 B h b v out (W.setCell ⟨b, j, none⟩ u) :=
 ⟨blk_far hi.blk hB u, below_set hi.bel hb, Kd.R_far hi.row (p := ⟨b, j, none⟩) (fun _ hk => hk) u⟩
set_option maxHeartbeats 8000000 in
set_option maxRecDepth 100000 in
theorem impl_Lock_play.calls (k : Nat) (a b : Int) (c : ByteArray) (r : List S35) (r2 : Bool) (w : World) (h : impl_Lock_play.f k a b c = some (r, r2)) :
  Calls Tryz.prog 52 #[.agg #[.int .i64 a, .int .i64 b], .string c] w fun e w' => ∃ v0_ : Value, e = .returned (.tuple #[v0_, .bool r2]) ∧ Kd.R k35 35 w' w.heap.size (fun _ => True) v0_ r ∧ Below w.heap.size w w' := by
 have hu26 := Tryz.underlying25
 have hu75 := Tryz.underlying35
 have hu9 := Tryz.underlying9
 have hin75 : (Tryz.prog.info? 35).map (fun i => (i.zero, i.size, i.bytes)) = some (some (.agg #[(.string ⟨#[]⟩), (.int .i64 0), (.int .i64 0)]), 3, 32) := by kernel_rfl
 unfold impl_Lock_play.f at h
 obtain ⟨l, hl, h⟩ := Option.bind_eq_some_iff.mp h
 have hfit : ∀ W, Calls Tryz.prog 58 #[.agg #[.int .i64 a, .int .i64 b], .slice none 0 0] W _ := fun W => impl_Lock_fitting.calls k a b none 0 [] l W (Kd.C_nil _ _) (by simp) hl
 by_cases hl0 : 0 < l.length
 case neg => exact absurd h (by rw [playL, if_pos (by simp), if_neg (by omega)]; simp)
 have HL0 := Aside0.mk hl0
 have H := Aside0.mk h
 clear h hl hl0
 have HIN := Aside0.mk hin75
 clear hin75
 go_enter Tryz.func52, Tryz.ntmps52
 go_wp2_with (go_at_call 58; refine (hfit _).mono ?_; rintro e w1 ⟨vl, rfl, hr, hb⟩; have HL := Aside0.mk hr; have HB := Aside0.mk hb; clear hr hb)
 have HB1 : Aside0 (Below w.heap.size w w1) := ⟨below_then (below_alloc (below_alloc (Below.refl _ _) _) _) (by simp only [World.size_alloc]; omega) HB.out⟩
 obtain ⟨b', cp, rfl, hb1, hb2, _⟩ := Kd.R_form HL.out HL0.out
 simp only [World.size_alloc] at hb1
 have HLb : Aside0 (Kd.R Kd.string 9 w1 w.heap.size (fun k => k = b') (.slice (some ⟨b', 0, none⟩) l.length cp) l) := ⟨Kd.R_reok rfl (Kd.R_lower HL.out (by simp only [World.size_alloc]; omega)) (fun k hk => by simpa [Value.ownBlock] using hk.symm)⟩
 have HO : Aside0 (Kd.R k35 35 w1 w.heap.size (fun k => k ≠ b') (.slice (some ⟨w.heap.size + 1, 0, none⟩) 0 0) []) := ⟨Kd.R_below (hw_R_lit k35 (w.alloc (.cells #[.int .i64 a, .int .i64 b] 25)) 35 w.heap.size (w.heap.size + 1) (xs := []) (inner := []) (okp := fun _ => False) (by simp) (Reps.none _ _) (fun _ hk => hk.elim) (by simp only [World.size_alloc]; omega) (by simp only [World.size_alloc]; omega) (by simp)) HB.out⟩
 have HBW : Aside0 (w.heap.size ≤ b') := ⟨by omega⟩
 clear HB hfit HL hb1 hb2
 go_loopg [6, 7] 202 (fun gg v6 v7 wr => ∃ (out : List S35) (left : List ByteArray) (n : Nat), v7 = .slice (some ⟨b', 0, none⟩) n cp ∧ Aside0 (playL k c gg out left = some (r, r2)) ∧ Aside0 (Below w.heap.size w wr) ∧ Aside0 (Kd.R k35 35 wr w.heap.size (fun k => k ≠ b') v6 out) ∧ Aside0 (Kd.R Kd.string 9 wr w.heap.size (fun k => k = b') (.slice (some ⟨b', 0, none⟩) n cp) left))
 case atStart => exact ⟨[], l, l.length, rfl, H, HB1, HO, HLb⟩
 case round =>
  clear H HB1 HO HLb HL0
  obtain ⟨out, left, n, rfl, HP, HB, HO, HL⟩ := hrel
  cases gk with
  | zero => exact absurd HP.out (by simp [playL])
  | succ m =>
   have H := HP.out
   clear HP
   rw [playL] at H
   obtain ⟨A6, c6, e6⟩ := Kd.R_slice HO.out
   subst e6
   by_cases h200 : out.length < 200
   ·rw [if_pos h200] at H
    have h200z : decide ((out.length : Int) < 200) = true := decide_eq_true (by omega)
    have h200' : out.length < 200 := h200
    have HLEN := Aside0.mk h200
    clear h200 h200'
    by_cases hlen : 0 < left.length ∧ left.length ≤ 1000000000000000000
    case neg => rw [if_neg hlen] at H; exact absurd H (by simp)
    rw [if_pos hlen] at H
    obtain ⟨⟨p, o⟩, hh, H⟩ := Option.bind_eq_some_iff.mp H
    dsimp only at H
    obtain ⟨hn, hnc, _⟩ := Kd.R_reads' HL.out
    have hn0 : 0 < n := by omega
    have hbs : b' < wr.heap.size := Kd.R_lt HL.out b' rfl
    have HBS := Aside0.mk hbs
    have HLn : Aside0 (n ≤ 1000000000000000000) := ⟨by omega⟩
    clear hn hnc hbs
    obtain ⟨cx, _⟩ := Kd.R_celln ByteArray.empty HL.out (0 : Int) (by omega) (by omega)
    rw [show ((0 : Int)).toNat = 0 from rfl] at cx
    obtain ⟨g, hg⟩ : ∃ g, g = rdOf ByteArray.empty left 0 := ⟨_, rfl⟩
    rw [← hg] at cx H hh
    have hhint : ∀ W, Calls Tryz.prog 56 #[.string g, .string c] W fun e w' => e = .returned (.tuple #[.int .i64 p, .int .i64 o]) ∧ Below W.heap.size W w' := fun W => impl_hint.calls k g c p o W hh
    clear hg hh hlen
    by_cases he : g.toList = c.toList
    ·rw [if_pos he] at H
     have hb0 : (g.toList == c.toList) = true := beq_iff_eq.mpr he
     have hb1 : (g.toList != c.toList) = false := bne_eq_false_iff_eq.mpr he
     clear he
     obtain ⟨h1, h2⟩ : out ++ [⟨g, p, o⟩] = r ∧ true = r2 := by simpa using H
     subst h2
     have HE := Aside0.mk h1
     clear h1 H
     go_wp2_with (first | (go_at_call 56; refine (hhint _).mono ?_; rintro e w2 ⟨rfl, hb⟩; have n0 := Aside0.mk (Kd.R_below HO.out hb); have n1 := Aside0.mk (Kd.R_below HL.out hb); have n2 := Aside0.mk (below_then HB.out HB.out.size hb); have n3 := Aside0.mk (Nat.lt_of_lt_of_le HBS.out hb.size); clear HO HL HB HBS hb; have HO := n0; have HL := n1; have HB := n2; have HBS := n3; clear n0 n1 n2 n3) | ((with_reducible refine gate_dst (N := 11) rfl ?_); refine box_event ?hg (N := 11) ?hd (cs := #[.string (⟨#[]⟩ : ByteArray), .int .i64 0, .int .i64 0]) (t := 35) ?hr ?_; (case hd => rfl); (case hg => rfl); (case hr => first | (go_simp; done) | (go_simp; rfl)); intro B hg w3 hbox hb; have n0 := Aside0.mk (Kd.R_below (Kd.R_elderB HO.out B (Nat.le_of_eq hg.symm)) hb); have n1 := Aside0.mk (Kd.R_below HL.out hb); have n2 := Aside0.mk (below_then HB.out HB.out.size hb); have BK := Aside0.mk hbox; have GE : Aside0 (w.heap.size ≤ B) := ⟨by rw [hg]; exact HB.out.size⟩; have NB : Aside0 (B ≠ b') := ⟨by rw [hg]; exact Nat.ne_of_gt HBS.out⟩; have n3 := Aside0.mk (Nat.lt_of_lt_of_le HBS.out hb.size); clear HO HL HB HBS hb hbox hg; have HO := n0; have HL := n1; have HB := n2; have HBS := n3; clear n0 n1 n2 n3; have hcz0 : w3.cell? ⟨B, 0, none⟩ = some (.string (⟨#[]⟩ : ByteArray)) := (blk_cell BK.out 0).trans rfl; have hcz1 : w3.cell? ⟨B, 1, none⟩ = some (.int .i64 0) := (blk_cell BK.out 1).trans rfl; have hcz2 : w3.cell? ⟨B, 2, none⟩ = some (.int .i64 0) := (blk_cell BK.out 2).trans rfl; have hfz0 := blk_frozen BK.out 0; have hfz1 := blk_frozen BK.out 1; have hfz2 := blk_frozen BK.out 2) | ((with_reducible refine gate_builtin (b := .append) (xs := #[.tmp 31, .tmp 33]) rfl ?_); at_builtin; refine Kd.R_append k35 (w0 := w) w.heap.size rfl (.tmp 31) (.tmp 33) 28 35 (.agg #[(.string ⟨#[]⟩), (.int .i64 0), (.int .i64 0)]) 32 rfl Tryz.underlying28 HIN.out rfl (by decide) (by omega) (.slice A6 out.length c6) out (⟨g, p, o⟩ : S35) [.string g, .int .i64 p, .int .i64 o] (fun k_ => k_ ≠ b' ∧ k_ ≠ B) (fun _ => False) rfl (by first | (go_simp; done) | (go_simp; rfl)) ?aP (fun _ hk => hk.elim) ?aF ?aO ?aB ?aS ?aL ?_; (case aP => exact k35_mkM _ _ _ (⟨g, p, o⟩ : S35)); (case aF => exact (fun k_ hk => play_fresh HBS.out BK.out g p o k_ hk)); (case aO => exact play_far HO.out B (fun _ hk => hk.2) g p o); (case aB => exact play_bel HB.out GE.out g p o); (case aS => exact (play_bel HB.out GE.out g p o).size); (case aL => have := HLEN.out; omega); intro v1 w4 ho hb hg hat; have n0 := Aside0.mk (Kd.R_mono ho (fun _ hk => hk.1)); have n1 := Aside0.mk (Kd.R_grown (play_far HL.out B (fun k_ hk => by rw [hk]; exact (Ne.symm NB.out)) g p o) hg (fun k_ hk he => (HO.out.1 k_ he.symm).1 hk)); have n2 := Aside0.mk hb; have n3 := Aside0.mk (blk_grown (play_put BK.out g p o) hg (fun he => (HO.out.1 B he.symm).2 rfl)); clear HO HL HB BK HBS ho hb hg hat; have HO := n0; have HL := n1; have HB := n2; have BK := n3; clear n0 n1 n2 n3))
     go_ret2
     exact ⟨_, rfl, by rw [← HE.out]; exact Kd.R_mono HO.out (fun _ _ => trivial), HB.out⟩
    ·rw [if_neg he] at H
     have hb0 : (g.toList == c.toList) = false := beq_eq_false_iff_ne.mpr he
     have hb1 : (g.toList != c.toList) = true := bne_iff_ne.mpr he
     obtain ⟨l2, hf, H⟩ := Option.bind_eq_some_iff.mp H
     have HF := Aside0.mk hf
     have HP := Aside0.mk H
     clear H hf he
     have hdel : ∀ (B : Nat) (v : Value) (W : World), B ≠ b' → playInv w B ⟨g, p, o⟩ b' v (out ++ [⟨g, p, o⟩]) W → Kd.R Kd.string 9 W w.heap.size (fun k => k = b') (.slice (some ⟨b', 0, none⟩) n cp) left → Calls Tryz.prog 95 #[.slice (some ⟨b', 0, none⟩) n cp, .func (.func 96) #[] #[.pointer (some ⟨B, 0, none⟩)]] W fun e w' => e = .returned (.slice (some ⟨b', 0, none⟩) l2.length cp) ∧ Kd.R Kd.string 9 w' w.heap.size (fun k => k = b') (.slice (some ⟨b', 0, none⟩) l2.length cp) l2 ∧ playInv w B ⟨g, p, o⟩ b' v (out ++ [⟨g, p, o⟩]) w' :=
      fun B v W hne hi hr => delS_calls 96 #[.pointer (some ⟨B, 0, none⟩)] (play1 k ⟨g, p, o⟩) (playInv w B ⟨g, p, o⟩ b' v (out ++ [⟨g, p, o⟩])) w.heap.size b' n cp left l2 W (fun _ _ => rfl) hr HLn.out HF.out hi (fun _ _ hi hb => hi.grow hb) (fun _ j u hi => hi.set hne HBW.out j u) (fun x bb W hx hi => play1_calls k B ⟨g, p, o⟩ x bb W hi.blk hx)
     have HDEL := Aside0.mk hdel
     clear hdel
     go_wp2_with (first | (go_at_call 56; refine (hhint _).mono ?_; rintro e w2 ⟨rfl, hb⟩; have n0 := Aside0.mk (Kd.R_below HO.out hb); have n1 := Aside0.mk (Kd.R_below HL.out hb); have n2 := Aside0.mk (below_then HB.out HB.out.size hb); have n3 := Aside0.mk (Nat.lt_of_lt_of_le HBS.out hb.size); clear HO HL HB HBS hb; have HO := n0; have HL := n1; have HB := n2; have HBS := n3; clear n0 n1 n2 n3) | ((with_reducible refine gate_dst (N := 11) rfl ?_); refine box_event ?hg (N := 11) ?hd (cs := #[.string (⟨#[]⟩ : ByteArray), .int .i64 0, .int .i64 0]) (t := 35) ?hr ?_; (case hd => rfl); (case hg => rfl); (case hr => first | (go_simp; done) | (go_simp; rfl)); intro B hg w3 hbox hb; have n0 := Aside0.mk (Kd.R_below (Kd.R_elderB HO.out B (Nat.le_of_eq hg.symm)) hb); have n1 := Aside0.mk (Kd.R_below HL.out hb); have n2 := Aside0.mk (below_then HB.out HB.out.size hb); have BK := Aside0.mk hbox; have GE : Aside0 (w.heap.size ≤ B) := ⟨by rw [hg]; exact HB.out.size⟩; have NB : Aside0 (B ≠ b') := ⟨by rw [hg]; exact Nat.ne_of_gt HBS.out⟩; have n3 := Aside0.mk (Nat.lt_of_lt_of_le HBS.out hb.size); clear HO HL HB HBS hb hbox hg; have HO := n0; have HL := n1; have HB := n2; have HBS := n3; clear n0 n1 n2 n3; have hcz0 : w3.cell? ⟨B, 0, none⟩ = some (.string (⟨#[]⟩ : ByteArray)) := (blk_cell BK.out 0).trans rfl; have hcz1 : w3.cell? ⟨B, 1, none⟩ = some (.int .i64 0) := (blk_cell BK.out 1).trans rfl; have hcz2 : w3.cell? ⟨B, 2, none⟩ = some (.int .i64 0) := (blk_cell BK.out 2).trans rfl; have hfz0 := blk_frozen BK.out 0; have hfz1 := blk_frozen BK.out 1; have hfz2 := blk_frozen BK.out 2) | ((with_reducible refine gate_builtin (b := .append) (xs := #[.tmp 31, .tmp 33]) rfl ?_); at_builtin; refine Kd.R_append k35 (w0 := w) w.heap.size rfl (.tmp 31) (.tmp 33) 28 35 (.agg #[(.string ⟨#[]⟩), (.int .i64 0), (.int .i64 0)]) 32 rfl Tryz.underlying28 HIN.out rfl (by decide) (by omega) (.slice A6 out.length c6) out (⟨g, p, o⟩ : S35) [.string g, .int .i64 p, .int .i64 o] (fun k_ => k_ ≠ b' ∧ k_ ≠ B) (fun _ => False) rfl (by first | (go_simp; done) | (go_simp; rfl)) ?aP (fun _ hk => hk.elim) ?aF ?aO ?aB ?aS ?aL ?_; (case aP => exact k35_mkM _ _ _ (⟨g, p, o⟩ : S35)); (case aF => exact (fun k_ hk => play_fresh HBS.out BK.out g p o k_ hk)); (case aO => exact play_far HO.out B (fun _ hk => hk.2) g p o); (case aB => exact play_bel HB.out GE.out g p o); (case aS => exact (play_bel HB.out GE.out g p o).size); (case aL => have := HLEN.out; omega); intro v1 w4 ho hb hg hat; have n0 := Aside0.mk (Kd.R_mono ho (fun _ hk => hk.1)); have n1 := Aside0.mk (Kd.R_grown (play_far HL.out B (fun k_ hk => by rw [hk]; exact (Ne.symm NB.out)) g p o) hg (fun k_ hk he => (HO.out.1 k_ he.symm).1 hk)); have n2 := Aside0.mk hb; have n3 := Aside0.mk (blk_grown (play_put BK.out g p o) hg (fun he => (HO.out.1 B he.symm).2 rfl)); clear HO HL HB BK HBS ho hb hg hat; have HO := n0; have HL := n1; have HB := n2; have BK := n3; clear n0 n1 n2 n3) | (go_at_call 95; refine (HDEL.out _ _ _ NB.out ⟨BK.out, HB.out, HO.out⟩ HL.out).mono ?_; rintro e w5 ⟨rfl, hr, hi⟩; have HL9 := Aside0.mk hr; have HI9 := Aside0.mk hi; clear hr hi))
     go_roundg m
     case measure => omega
     case rel => exact ⟨out ++ [⟨g, p, o⟩], l2, l2.length, rfl, HP, ⟨HI9.out.bel⟩, ⟨HI9.out.row⟩, HL9⟩
   ·rw [if_neg h200] at H
    have h200z : decide ((out.length : Int) < 200) = false := decide_eq_false (by omega)
    obtain ⟨h1, h2⟩ : [] = r ∧ false = r2 := by simpa using H
    subst h1 h2
    clear H h200
    go_wp2
    go_ret2
    exact ⟨_, rfl, Kd.R_nil _ _ _ _ _, HB.out⟩

/-! ### impl_PlayFirst: function 7 -/
def impl_PlayFirst.f (k : Nat) (a0_0 : Int) (a0_1 : Int) (a1 : ByteArray) : Option ((List (S35)) × Bool) := (impl_isHinted.f k a0_0 a0_1 (([a1] : List ByteArray))).bind fun t211 => (if t211 = true then ((impl_Lock_play.f k a0_0 a0_1 a1).bind fun bt212 => (some (bt212.1, bt212.2))) else (some (([] : List (S35)), false)))
theorem impl_PlayFirst.mono : ∀ a0 a1 a2 k, LeO (impl_PlayFirst.f k a0 a1 a2) (impl_PlayFirst.f (k + 1) a0 a1 a2) := by
 intro a0 a1 a2 k
 unfold impl_PlayFirst.f
 repeat' first
   | (with_reducible exact impl_Lock_play.mono _ _ _ _)
   | (with_reducible exact impl_isHinted.mono _ _ _ _)
   | (with_reducible exact LeO.refl _)
   | (with_reducible exact LeO.none _)
   | (with_reducible refine LeO.ite ?_ ?_)
   | (with_reducible refine LeO.bind ?_ (fun _ => ?_))
   | exact impl_Lock_play.mono _ _ _ _
   | exact impl_isHinted.mono _ _ _ _
   | exact LeO.none _
   | refine LeO.ite ?_ ?_
   | refine LeO.bind ?_ (fun _ => ?_)
set_option maxHeartbeats 8000000 in
set_option maxRecDepth 100000 in
theorem impl_PlayFirst.calls (k : Nat) (a0_0 : Int) (a0_1 : Int) (a1 : ByteArray) (r1 : List (S35)) (r2 : Bool) (w : World) (h : impl_PlayFirst.f k a0_0 a0_1 a1 = some (r1, r2)) :
  Calls Tryz.prog 7 #[.agg #[.int .i64 a0_0, .int .i64 a0_1], .string a1] w fun e w' => ∃ v0_ : Value, e = .returned (.tuple #[v0_, .bool r2]) ∧ Kd.R k35 35 w' w.heap.size (fun _ => True) v0_ r1 ∧ Below w.heap.size w w' := by
 have hu25 := Tryz.underlying25
 have HB := Aside0.mk (Below.refl w.heap.size w)
 have H : ((impl_isHinted.f k a0_0 a0_1 (([a1] : List ByteArray))).bind fun t211 => (if t211 = true then ((impl_Lock_play.f k a0_0 a0_1 a1).bind fun bt212 => (some (bt212.1, bt212.2))) else (some (([] : List (S35)), false)))) = some (r1, r2) := h
 clear h
 obtain ⟨y208, hy208⟩ : ∃ y_ : List ByteArray, y_ = (([a1] : List ByteArray)) := ⟨_, rfl⟩
 replace H : ((impl_isHinted.f k a0_0 a0_1 y208).bind fun t211 => (if t211 = true then ((impl_Lock_play.f k a0_0 a0_1 a1).bind fun bt212 => (some (bt212.1, bt212.2))) else (some (([] : List (S35)), false)))) = some (r1, r2) := by first | (rw [hy208]; with_reducible exact H) | (have H2_ := (Option.bind_some _ _).symm.trans H; rw [hy208]; with_reducible exact H2_) | (have H2_ := (Option.bind_some _ _).symm.trans H; with_reducible exact H2_) | with_reducible exact H | (rw [hy208]; exact H) | exact H
 have Ny208 := Aside0.mk hy208
 clear hy208
 replace H := Option.bind_eq_some_iff.mp H
 obtain ⟨t211, A30, H⟩ := H
 replace H : (if t211 = true then ((impl_Lock_play.f k a0_0 a0_1 a1).bind fun bt212 => (some (bt212.1, bt212.2))) else (some (([] : List (S35)), false))) = some (r1, r2) := H
 have A3 := Aside0.mk A30
 clear A30
 by_cases c4 : t211 = true
 ·subst c4
  have H1 : ((impl_Lock_play.f k a0_0 a0_1 a1).bind fun bt212 => (some (bt212.1, bt212.2))) = some (r1, r2) := by rw [if_pos rfl] at H; exact H
  clear H
  have H := H1
  clear H1
  replace H := Option.bind_eq_some_iff.mp H
  obtain ⟨⟨t212, t215⟩, A50, H⟩ := H
  replace H : (some (t212, t215)) = some (r1, r2) := H
  have A5 := Aside0.mk A50
  clear A50
  simp only [Option.some.injEq, Prod.mk.injEq] at H
  obtain ⟨rfl, rfl⟩ := H
  go_enter Tryz.func7, Tryz.ntmps7
  go_wp2_with (first | ((with_reducible refine gate_dst (N := 2) rfl ?_); refine box_event ?hg (N := 2) ?hd (cs := #[.int .i64 a0_0, .int .i64 a0_1]) (t := 25) ?hr ?_; (case hd => rfl); (case hg => rfl); (case hr => first | (go_simp; done) | (go_simp; rfl)); intro gb207 hg w6 hbox hb; have n0_ := Aside0.mk (below_step bB hb); have n1_ := Aside0.mk (hbox); have n2_ := Aside0.mk ((by rw [hg]; exact (below_size bB) : w.heap.size ≤ gb207)); have n3_ := Aside0.mk ((by rw [hg]; exact (below_size bB) : w.heap.size ≤ gb207)); clear HB; have HB := n0_; have BK207 := n1_; have GW207 := n2_; have GE207 := n3_; clear n0_ n1_ n2_ n3_; clear hb hbox hg; have hcz7_0 : w6.cell? ⟨gb207, 0, none⟩ = some (.int .i64 a0_0) := (blk_cell BK207.out 0).trans rfl; have hcz7_1 : w6.cell? ⟨gb207, 1, none⟩ = some (.int .i64 a0_1) := (blk_cell BK207.out 1).trans rfl; have hfz7_0 := blk_frozen BK207.out 0; have hfz7_1 := blk_frozen BK207.out 1) | ((with_reducible refine gate_dst (N := 8) rfl ?_); refine Kd.R_lit Kd.string _ 9 ?hg (N := 8) ?hd (xs := ([a1] : List ByteArray)) (inner := [.string a1]) (ok := fun _ => True) (okp := fun _ => True) ?hr ?hp (fun _ hk => hk) trivial (Below.refl _ _) (Nat.le_refl _) (by simp) ?_; (case hd => rfl); (case hg => rfl); (case hr => first | (go_simp; done) | (go_simp; rfl)); (case hp => exact (Reps.one (show Kd.M Kd.string _ _ _ a1 [.string a1] from rfl) (Reps.none _ _))); intro v209 w8 ho9 hb hg_ hnew_; clear hg_ hnew_; (first | rw [← Ny208.out] at ho9 | (simp only [Int.reduceToNat] at ho9; rw [← Ny208.out] at ho9)); have n0_ := Aside0.mk (Kd.R_lower ho9 (below_size bG)); have n1_ := Aside0.mk (blk_below (g := gb207) (o := .cells #[.int .i64 a0_0, .int .i64 a0_1] 25 (0, 0)) bK hb); have n2_ := Aside0.mk (below_step bG hb); clear BK207; clear HB; have HO210 := n0_; have BK207 := n1_; have HB := n2_; clear n0_ n1_ n2_; clear hb ho9; obtain ⟨Ao10, co10, eo10⟩ := Kd.R_slice HO210.out; subst eo10) | ((with_reducible refine gate_callee (f := 51) rfl ?_); refine goesL_ (some 9) rfl rfl Tryz.func51 (by kernel_rfl) rfl #[.agg #[.int .i64 a0_0, .int .i64 a0_1], .slice Ao10 y208.length co10] rfl lM ?_; (with_reducible refine (impl_isHinted.calls k a0_0 a0_1 _ _ y208 true _ ?side1 ?side2 A3.out).mono ?_); (case side1 => repeat (first | exact (Kd.R_reads' HO210.out).2.2 | (with_reducible refine Kd.C_alloc ?_ _) | (with_reducible refine Kd.C_drewN ?_ _) | (with_reducible refine Kd.C_drew ?_))); (case side2 => exact (Kd.R_reads' HO210.out).2.1); rintro e w11 ⟨rfl, hb⟩; refine ⟨_, rfl, ?_⟩; have n0_ := Aside0.mk (Kd.R_below (by (with_reducible repeat (first | apply Kd.R_alloc | apply Kd.R_drewN | apply Kd.R_drew)); exact HO210.out) hb); have n1_ := Aside0.mk (blk_below (g := gb207) (o := .cells #[.int .i64 a0_0, .int .i64 a0_1] 25 (0, 0)) bK hb); have n2_ := Aside0.mk (below_step bG hb); clear HO210; clear BK207; clear HB; have HO210 := n0_; have BK207 := n1_; have HB := n2_; clear n0_ n1_ n2_; (try clear hb); (try clear hb2); (try clear hk); (try clear hi); have hcz12_0 : w11.cell? ⟨gb207, 0, none⟩ = some (.int .i64 a0_0) := (blk_cell BK207.out 0).trans rfl; have hcz12_1 : w11.cell? ⟨gb207, 1, none⟩ = some (.int .i64 a0_1) := (blk_cell BK207.out 1).trans rfl; have hfz12_0 := blk_frozen BK207.out 0; have hfz12_1 := blk_frozen BK207.out 1) | ((with_reducible refine gate_callee (f := 52) rfl ?_); refine goesL_ (some 13) rfl rfl Tryz.func52 (by kernel_rfl) rfl #[.agg #[.int .i64 a0_0, .int .i64 a0_1], .string a1] rfl lM ?_; (with_reducible refine (impl_Lock_play.calls k a0_0 a0_1 a1 t212 t215 _ A5.out).mono ?_); rintro e w13 ⟨v213, rfl, ho0, hb⟩; refine ⟨_, rfl, ?_⟩; have n0_ := Aside0.mk (Kd.R_below (by (with_reducible repeat (first | apply Kd.R_alloc | apply Kd.R_drewN | apply Kd.R_drew)); exact HO210.out) hb); have n1_ := Aside0.mk (Kd.R_lower ho0 (below_size bG)); have n2_ := Aside0.mk (blk_below (g := gb207) (o := .cells #[.int .i64 a0_0, .int .i64 a0_1] 25 (0, 0)) bK hb); have n3_ := Aside0.mk (below_step bG hb); clear HO210; clear BK207; clear HB; have HO210 := n0_; have HO214 := n1_; have BK207 := n2_; have HB := n3_; clear n0_ n1_ n2_ n3_; (try clear hb); (try clear hb2); (try clear hk); (try clear hi); (try clear ho0)))
  go_ret2
  exact ⟨_, by first | rfl | (simp [errW_none, errW_some] <;> rfl) | (simp [*, errW_none, errW_some] <;> rfl), by (with_reducible repeat (first | apply Kd.R_alloc | apply Kd.R_drewN | apply Kd.R_drew)); exact HO214.out, bG⟩
 ·replace c4 := Bool.eq_false_iff.mpr c4
  subst c4
  have H1 : (some (([] : List (S35)), false)) = some (r1, r2) := by rw [if_neg (show ¬ (false = true) by decide)] at H; exact H
  clear H
  have H := H1
  clear H1
  simp only [Option.some.injEq, Prod.mk.injEq] at H
  obtain ⟨rfl, rfl⟩ := H
  go_enter Tryz.func7, Tryz.ntmps7
  go_wp2_with (first | ((with_reducible refine gate_dst (N := 2) rfl ?_); refine box_event ?hg (N := 2) ?hd (cs := #[.int .i64 a0_0, .int .i64 a0_1]) (t := 25) ?hr ?_; (case hd => rfl); (case hg => rfl); (case hr => first | (go_simp; done) | (go_simp; rfl)); intro gb207 hg w14 hbox hb; have n0_ := Aside0.mk (below_step bB hb); have n1_ := Aside0.mk (hbox); have n2_ := Aside0.mk ((by rw [hg]; exact (below_size bB) : w.heap.size ≤ gb207)); have n3_ := Aside0.mk ((by rw [hg]; exact (below_size bB) : w.heap.size ≤ gb207)); clear HB; have HB := n0_; have BK207 := n1_; have GW207 := n2_; have GE207 := n3_; clear n0_ n1_ n2_ n3_; clear hb hbox hg; have hcz15_0 : w14.cell? ⟨gb207, 0, none⟩ = some (.int .i64 a0_0) := (blk_cell BK207.out 0).trans rfl; have hcz15_1 : w14.cell? ⟨gb207, 1, none⟩ = some (.int .i64 a0_1) := (blk_cell BK207.out 1).trans rfl; have hfz15_0 := blk_frozen BK207.out 0; have hfz15_1 := blk_frozen BK207.out 1) | ((with_reducible refine gate_dst (N := 8) rfl ?_); refine Kd.R_lit Kd.string _ 9 ?hg (N := 8) ?hd (xs := ([a1] : List ByteArray)) (inner := [.string a1]) (ok := fun _ => True) (okp := fun _ => True) ?hr ?hp (fun _ hk => hk) trivial (Below.refl _ _) (Nat.le_refl _) (by simp) ?_; (case hd => rfl); (case hg => rfl); (case hr => first | (go_simp; done) | (go_simp; rfl)); (case hp => exact (Reps.one (show Kd.M Kd.string _ _ _ a1 [.string a1] from rfl) (Reps.none _ _))); intro v209 w16 ho17 hb hg_ hnew_; clear hg_ hnew_; (first | rw [← Ny208.out] at ho17 | (simp only [Int.reduceToNat] at ho17; rw [← Ny208.out] at ho17)); have n0_ := Aside0.mk (Kd.R_lower ho17 (below_size bG)); have n1_ := Aside0.mk (blk_below (g := gb207) (o := .cells #[.int .i64 a0_0, .int .i64 a0_1] 25 (0, 0)) bK hb); have n2_ := Aside0.mk (below_step bG hb); clear BK207; clear HB; have HO210 := n0_; have BK207 := n1_; have HB := n2_; clear n0_ n1_ n2_; clear hb ho17; obtain ⟨Ao18, co18, eo18⟩ := Kd.R_slice HO210.out; subst eo18) | ((with_reducible refine gate_callee (f := 51) rfl ?_); refine goesL_ (some 9) rfl rfl Tryz.func51 (by kernel_rfl) rfl #[.agg #[.int .i64 a0_0, .int .i64 a0_1], .slice Ao18 y208.length co18] rfl lM ?_; (with_reducible refine (impl_isHinted.calls k a0_0 a0_1 _ _ y208 false _ ?side1 ?side2 A3.out).mono ?_); (case side1 => repeat (first | exact (Kd.R_reads' HO210.out).2.2 | (with_reducible refine Kd.C_alloc ?_ _) | (with_reducible refine Kd.C_drewN ?_ _) | (with_reducible refine Kd.C_drew ?_))); (case side2 => exact (Kd.R_reads' HO210.out).2.1); rintro e w19 ⟨rfl, hb⟩; refine ⟨_, rfl, ?_⟩; have n0_ := Aside0.mk (Kd.R_below (by (with_reducible repeat (first | apply Kd.R_alloc | apply Kd.R_drewN | apply Kd.R_drew)); exact HO210.out) hb); have n1_ := Aside0.mk (blk_below (g := gb207) (o := .cells #[.int .i64 a0_0, .int .i64 a0_1] 25 (0, 0)) bK hb); have n2_ := Aside0.mk (below_step bG hb); clear HO210; clear BK207; clear HB; have HO210 := n0_; have BK207 := n1_; have HB := n2_; clear n0_ n1_ n2_; (try clear hb); (try clear hb2); (try clear hk); (try clear hi)))
  go_ret2
  exact ⟨_, by first | rfl | (simp [errW_none, errW_some] <;> rfl) | (simp [*, errW_none, errW_some] <;> rfl), by first | exact Kd.R_nil _ _ _ _ _ | exact Kd.N_nil _ _ _ _ _ | exact Kd.V_nil _ _ _ _ _ | exact Kd.Q_nil _ _ _ _ _ | exact Kd.S_nil _ _ _ _ _, bG⟩

/-! ### spec_l1In: function 99 -/
def spec_l1In.f (a0 : Int) (a1 : Int) (a2 : Int) : Option (Bool) := if a0 ≥ a1 then (some (decide (a0 ≤ a2))) else (some false)
set_option maxHeartbeats 8000000 in
set_option maxRecDepth 100000 in
theorem spec_l1In.calls (a0 : Int) (a1 : Int) (a2 : Int) (r : Bool) (w : World) (h : spec_l1In.f a0 a1 a2 = some r) :
  Calls Tryz.prog 99 #[.int .i64 a0, .int .i64 a1, .int .i64 a2] w fun e w' => e = .returned (.bool r) ∧ Drawn0 w w' := by
 have H : (if a0 ≥ a1 then (some (decide (a0 ≤ a2))) else (some false)) = some r := h
 clear h
 by_cases c4 : a0 ≥ a1
 ·rw [if_pos c4] at H
  have c4b0 : decide (a1 ≤ a0) = true := decide_eq_true c4
  clear c4
  obtain rfl := Option.some.inj H
  go_enter Tryz.func99, Tryz.ntmps99
  go_wp2
  go_ret
  exact ⟨fR, by repeat (first | exact Drawn0.refl _ | apply Drawn0.step)⟩
 ·rw [if_neg c4] at H
  have c4b0 : decide (a1 ≤ a0) = false := decide_eq_false c4
  clear c4
  obtain rfl := Option.some.inj H
  go_enter Tryz.func99, Tryz.ntmps99
  go_wp2
  go_ret
  exact ⟨fR, by repeat (first | exact Drawn0.refl _ | apply Drawn0.step)⟩

/-! ### spec_whGood: function 97 -/
def spec_whGood.f (a0_0 : Int) (a0_1 : Int) : Option (Bool) := (spec_l1In.f a0_0 1 6).bind fun t217 => (if t217 = true then ((spec_l1In.f a0_1 2 10).bind fun t218 => (some t218)) else (some false))
set_option maxHeartbeats 8000000 in
set_option maxRecDepth 100000 in
theorem spec_whGood.calls (a0_0 : Int) (a0_1 : Int) (r : Bool) (w : World) (h : spec_whGood.f a0_0 a0_1 = some r) :
  Calls Tryz.prog 97 #[.agg #[.int .i64 a0_0, .int .i64 a0_1]] w fun e w' => e = .returned (.bool r) ∧ Below w.heap.size w w' := by
 have hu25 := Tryz.underlying25
 have HB := Aside0.mk (Below.refl w.heap.size w)
 have H : ((spec_l1In.f a0_0 1 6).bind fun t217 => (if t217 = true then ((spec_l1In.f a0_1 2 10).bind fun t218 => (some t218)) else (some false))) = some r := h
 clear h
 replace H := Option.bind_eq_some_iff.mp H
 obtain ⟨t217, A20, H⟩ := H
 replace H : (if t217 = true then ((spec_l1In.f a0_1 2 10).bind fun t218 => (some t218)) else (some false)) = some r := H
 have A2 := Aside0.mk A20
 clear A20
 by_cases c3 : t217 = true
 ·subst c3
  have H1 : ((spec_l1In.f a0_1 2 10).bind fun t218 => (some t218)) = some r := by rw [if_pos rfl] at H; exact H
  clear H
  have H := H1
  clear H1
  replace H := Option.bind_eq_some_iff.mp H
  obtain ⟨t218, A40, H⟩ := H
  replace H : (some t218) = some r := H
  have A4 := Aside0.mk A40
  clear A40
  obtain rfl := Option.some.inj H
  go_enter Tryz.func97, Tryz.ntmps97
  go_wp2_with (first | ((with_reducible refine gate_dst (N := 1) rfl ?_); refine box_event ?hg (N := 1) ?hd (cs := #[.int .i64 a0_0, .int .i64 a0_1]) (t := 25) ?hr ?_; (case hd => rfl); (case hg => rfl); (case hr => first | (go_simp; done) | (go_simp; rfl)); intro gb216 hg w5 hbox hb; have n0_ := Aside0.mk (below_step bB hb); have n1_ := Aside0.mk (hbox); have n2_ := Aside0.mk ((by rw [hg]; exact (below_size bB) : w.heap.size ≤ gb216)); have n3_ := Aside0.mk ((by rw [hg]; exact (below_size bB) : w.heap.size ≤ gb216)); clear HB; have HB := n0_; have BK216 := n1_; have GW216 := n2_; have GE216 := n3_; clear n0_ n1_ n2_ n3_; clear hb hbox hg; have hcz6_0 : w5.cell? ⟨gb216, 0, none⟩ = some (.int .i64 a0_0) := (blk_cell BK216.out 0).trans rfl; have hcz6_1 : w5.cell? ⟨gb216, 1, none⟩ = some (.int .i64 a0_1) := (blk_cell BK216.out 1).trans rfl; have hfz6_0 := blk_frozen BK216.out 0; have hfz6_1 := blk_frozen BK216.out 1) | ((with_reducible refine gate_callee (f := 99) rfl ?_); refine goesL_ (some 5) rfl rfl Tryz.func99 (by kernel_rfl) rfl #[.int .i64 a0_0, .int .i64 1, .int .i64 6] rfl lM ?_; (with_reducible refine (spec_l1In.calls a0_0 1 6 true _ A2.out).mono ?_); rintro e w' ⟨rfl, ⟨nd, rfl⟩⟩; refine ⟨_, rfl, ?_⟩) | (go_at_call 99; (with_reducible refine (spec_l1In.calls a0_1 2 10 t218 _ A4.out).mono ?_); rintro e w' ⟨rfl, ⟨nd, rfl⟩⟩))
  go_ret
  exact ⟨by first | rfl | (simp [errW_none, errW_some] <;> rfl) | (simp [*, errW_none, errW_some] <;> rfl), bG⟩
 ·replace c3 := Bool.eq_false_iff.mpr c3
  subst c3
  have H1 : (some false) = some r := by rw [if_neg (show ¬ (false = true) by decide)] at H; exact H
  clear H
  have H := H1
  clear H1
  obtain rfl := Option.some.inj H
  go_enter Tryz.func97, Tryz.ntmps97
  go_wp2_with (first | ((with_reducible refine gate_dst (N := 1) rfl ?_); refine box_event ?hg (N := 1) ?hd (cs := #[.int .i64 a0_0, .int .i64 a0_1]) (t := 25) ?hr ?_; (case hd => rfl); (case hg => rfl); (case hr => first | (go_simp; done) | (go_simp; rfl)); intro gb216 hg w7 hbox hb; have n0_ := Aside0.mk (below_step bB hb); have n1_ := Aside0.mk (hbox); have n2_ := Aside0.mk ((by rw [hg]; exact (below_size bB) : w.heap.size ≤ gb216)); have n3_ := Aside0.mk ((by rw [hg]; exact (below_size bB) : w.heap.size ≤ gb216)); clear HB; have HB := n0_; have BK216 := n1_; have GW216 := n2_; have GE216 := n3_; clear n0_ n1_ n2_ n3_; clear hb hbox hg; have hcz8_0 : w7.cell? ⟨gb216, 0, none⟩ = some (.int .i64 a0_0) := (blk_cell BK216.out 0).trans rfl; have hcz8_1 : w7.cell? ⟨gb216, 1, none⟩ = some (.int .i64 a0_1) := (blk_cell BK216.out 1).trans rfl; have hfz8_0 := blk_frozen BK216.out 0; have hfz8_1 := blk_frozen BK216.out 1) | ((with_reducible refine gate_callee (f := 99) rfl ?_); refine goesL_ (some 5) rfl rfl Tryz.func99 (by kernel_rfl) rfl #[.int .i64 a0_0, .int .i64 1, .int .i64 6] rfl lM ?_; (with_reducible refine (spec_l1In.calls a0_0 1 6 false _ A2.out).mono ?_); rintro e w' ⟨rfl, ⟨nd, rfl⟩⟩; refine ⟨_, rfl, ?_⟩))
  go_ret
  exact ⟨by first | rfl | (simp [errW_none, errW_some] <;> rfl) | (simp [*, errW_none, errW_some] <;> rfl), bG⟩

end Go.Proofs.YtcpnmiempaofdaaGreat.C
