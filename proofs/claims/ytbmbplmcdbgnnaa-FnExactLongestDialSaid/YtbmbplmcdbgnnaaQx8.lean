-- Printed by hp.py, a program of this session: a machine's side of laws, out of the translation; Lean checks it.
import Derived.Test.YtbmbplmcdbgnnaaQx0
import Derived.Test.YtbmbplmcdbgnnaaQx1
import Derived.Test.YtbmbplmcdbgnnaaQx2
import Derived.Test.YtbmbplmcdbgnnaaQx3
import Derived.Test.YtbmbplmcdbgnnaaQx6
import Derived.Test.YtbmbplmcdbgnnaaQx7
namespace Go.Proofs.Ytbmbplmcdbgnnaa.Q
open Go.RowKit Go.Proofs.YtbmbplmcdbgnnaaW.PrintWords Go.Proofs.YtbmbplmcdbgnnaaW.PrintLast Go.Proofs.YtbmbplmcdbgnnaaW.PrintMore
attribute [local go_sem] max2_int min2_int max_two min_two max_three min_three max_four min_four   -- for this text's walks alone
set_option linter.unusedVariables false
set_option linter.unusedSimpArgs false

/-! ### spec_diBest: function 49 -/
def spec_diBest.l0 : Nat → Int → Int → Bool → List Int → Int → List (List Int) → Int → Int → Option (List Int × Int)
  | 0, _, _, _, _, _, _, _, _ => none
  | k + 1, x0, x1, x3, x10, x11, x17, x18, x19 => if x19 < x18 then (if 0 ≤ x19 then (if x19 < (x17.length : Int) then ((spec_diOpen.f k x0 x1 (rd_L1 x17 x19)).bind fun t319 => ((spec_diLength.f k t319).bind fun t322 => (if (x10.length : Int) = 0 then (spec_diBest.l0 k x0 x1 x3 (rd_L1 x17 x19) t322 x17 x18 (wrap64 (x19 + 1))) else (if x3 = true then (if t322 < x11 then (spec_diBest.l0 k x0 x1 x3 (rd_L1 x17 x19) t322 x17 x18 (wrap64 (x19 + 1))) else (spec_diBest.l0 k x0 x1 x3 x10 x11 x17 x18 (wrap64 (x19 + 1)))) else (if t322 > x11 then (spec_diBest.l0 k x0 x1 x3 (rd_L1 x17 x19) t322 x17 x18 (wrap64 (x19 + 1))) else (spec_diBest.l0 k x0 x1 x3 x10 x11 x17 x18 (wrap64 (x19 + 1)))))))) else (none)) else (none)) else (some (x10, x11))
def spec_diBest.f (k : Nat) (a0 : Int) (a1 : Int) (a2 : Int) (a3 : Bool) : Option (List Int × Int) := (spec_diAll.f a0 a2).bind fun t315 => (spec_diBest.l0 k a0 a1 a3 ([] : List Int) 0 t315 (t315.length : Int) 0)
theorem spec_diBest.mono_l : ∀ k, (∀ y0 y1 y2 y3 y4 y5 y6 y7, LeO (spec_diBest.l0 k y0 y1 y2 y3 y4 y5 y6 y7) (spec_diBest.l0 (k + 1) y0 y1 y2 y3 y4 y5 y6 y7))
  | 0 => fun _ _ _ _ _ _ _ _ r h => by simp [spec_diBest.l0] at h
  | k + 1 => by
    have ih0 := spec_diBest.mono_l k
    · intro y0 y1 y2 y3 y4 y5 y6 y7
      unfold spec_diBest.l0
      repeat' first
      | (with_reducible exact ih0 _ _ _ _ _ _ _ _)
      | (with_reducible exact spec_diLength.mono _ _)
      | (with_reducible exact spec_diOpen.mono _ _ _ _)
      | (with_reducible exact LeO.refl _)
      | (with_reducible exact LeO.none _)
      | (with_reducible refine LeO.ite ?_ ?_)
      | (with_reducible refine LeO.bind ?_ (fun _ => ?_))
      | exact ih0 _ _ _ _ _ _ _ _
      | exact spec_diLength.mono _ _
      | exact spec_diOpen.mono _ _ _ _
      | exact LeO.none _
      | refine LeO.ite ?_ ?_
      | refine LeO.bind ?_ (fun _ => ?_)
theorem spec_diBest.mono : ∀ a0 a1 a2 a3 k, LeO (spec_diBest.f k a0 a1 a2 a3) (spec_diBest.f (k + 1) a0 a1 a2 a3) := by
  intro a0 a1 a2 a3 k
  have ih0 := spec_diBest.mono_l k
  unfold spec_diBest.f
  repeat' first
      | (with_reducible exact ih0 _ _ _ _ _ _ _ _)
      | (with_reducible exact spec_diLength.mono _ _)
      | (with_reducible exact spec_diOpen.mono _ _ _ _)
      | (with_reducible exact LeO.refl _)
      | (with_reducible exact LeO.none _)
      | (with_reducible refine LeO.ite ?_ ?_)
      | (with_reducible refine LeO.bind ?_ (fun _ => ?_))
      | exact ih0 _ _ _ _ _ _ _ _
      | exact spec_diLength.mono _ _
      | exact spec_diOpen.mono _ _ _ _
      | exact LeO.none _
      | refine LeO.ite ?_ ?_
      | refine LeO.bind ?_ (fun _ => ?_)
set_option maxHeartbeats 8000000 in
set_option maxRecDepth 100000 in
theorem spec_diBest.calls (k : Nat) (a0 : Int) (a1 : Int) (a2 : Int) (a3 : Bool) (r1 : List Int) (r2 : Int) (w : World) (h : spec_diBest.f k a0 a1 a2 a3 = some (r1, r2)) :
    Calls Try.prog 49 #[.int .i64 a0, .int .i64 a1, .int .i64 a2, .bool a3] w fun e w' => ∃ v0_ : Value, e = .returned (.tuple #[v0_, .int .i64 r2]) ∧ Kd.V (Kd.int .i64) 3 w' w.heap.size (fun k_ => (w.heap.size ≤ k_)) v0_ r1 ∧ Below w.heap.size w w' := by
  have HB := Aside0.mk (Below.refl w.heap.size w)
  have H : ((spec_diAll.f a0 a2).bind fun t315 => (spec_diBest.l0 k a0 a1 a3 ([] : List Int) 0 t315 (t315.length : Int) 0)) = some (r1, r2) := h
  clear h
  replace H := Option.bind_eq_some_iff.mp H
  obtain ⟨t315, A50, H⟩ := H
  replace H : (spec_diBest.l0 k a0 a1 a3 ([] : List Int) 0 t315 (t315.length : Int) 0) = some (r1, r2) := H
  have A5 := Aside0.mk A50
  clear A50
  have H' := Aside0.mk H
  clear H
  go_enter Try.func49, Try.ntmps49
  go_wp2_with (first | ((with_reducible refine gate_callee (f := 36) rfl ?_); refine goesL_ (some 17) rfl rfl Try.func36 (by kernel_rfl) rfl #[.int .i64 a0, .int .i64 a2] rfl (by (try simp only [List.map_toArray, List.map_cons, List.map_nil]); first | done | rfl | (simp only [List.length_drop, List.length_take]; rfl)) ?_; (with_reducible refine (spec_diAll.calls a0 a2 t315 _ A5.out).mono ?_); rintro e w6 ⟨v316, rfl, ho0, hb⟩; refine ⟨_, rfl, ?_⟩; have n0_ := Aside0.mk (Kd.N_lower (Kd.N_mono (ok' := fun k_ => (w.heap.size ≤ k_)) ho0 (fun k_ hk_ => (Nat.le_trans (below_size (by repeat (first | (with_reducible first | exact HB.out | apply below_alloc | apply pw_below_drewN | apply below_drew1) | exact HB.out))) hk_))) (below_size (by repeat (first | (with_reducible first | exact HB.out | apply below_alloc | apply pw_below_drewN | apply below_drew1) | exact HB.out)))); have n1_ := Aside0.mk (below_step (by repeat (first | (with_reducible first | exact HB.out | apply below_alloc | apply pw_below_drewN | apply below_drew1) | exact HB.out)) hb); clear HB; have HO317 := n0_; have HB := n1_; clear n0_ n1_; (try clear hb); (try clear hb2); (try clear hk); (try clear hi); (try clear ho0); obtain ⟨Ao7, co7, eo7⟩ := Kd.N_slice HO317.out; subst eo7))
  go_loopg [10, 11, 19] k (fun kq v10 v11 v19 w' => ∃ (x10_1 : List Int) (x11_1 : Int) (x19_1 : Int), v11 = .int .i64 x11_1 ∧ v19 = .int .i64 x19_1 ∧ Aside0 (spec_diBest.l0 kq a0 a1 a3 x10_1 x11_1 t315 (t315.length : Int) x19_1 = some (r1, r2)) ∧ Aside0 (kq ≤ k) ∧ Aside0 (Kd.V (Kd.int .i64) 3 w' w.heap.size (fun k_ => (w.heap.size ≤ k_) ∧ some k_ ≠ ((.slice Ao7 t315.length co7) : Value).ownBlock) v10 x10_1) ∧ Aside0 (Kd.N (Kd.slice 3 (Kd.int .i64)) 22 w' w.heap.size (fun k_ => (w.heap.size ≤ k_)) (.slice Ao7 t315.length co7) t315) ∧ Aside0 (Below w.heap.size w w'))
  case atStart => exact ⟨(([] : List Int)), (0), (0), (by first | rfl | (simp; done) | (simp [*]; done)), (by first | rfl | (simp; done) | (simp [*]; done)), H', ⟨Nat.le_refl _⟩, ⟨Kd.R_V (base := 0) (by first | exact Kd.R_nil _ _ _ _ _ | exact Kd.N_nil _ _ _ _ _ | exact Kd.V_nil _ _ _ _ _ | exact Kd.Q_nil _ _ _ _ _ | exact Kd.S_nil _ _ _ _ _)⟩, ⟨by (with_reducible repeat (first | apply Kd.N_alloc | apply Kd.N_drewN | apply Kd.N_drew)); exact HO317.out⟩, ⟨by repeat (first | (with_reducible first | exact HB.out | apply below_alloc | apply pw_below_drewN | apply below_drew1) | exact HB.out)⟩⟩
  case round =>
    clear H'
    try clear p2
    try clear c3
    try clear c4
    obtain ⟨x10_1, x11_1, x19_1, rfl, rfl, HA, HK1, HO_10, HO_17, HB⟩ := hrel
    cases gk with
    | zero => exact absurd HA.out (by simp [spec_diBest.l0])
    | succ k1 =>
      have H := HA.out
      clear HA
      simp only [spec_diBest.l0] at H
      by_cases c8 : x19_1 < (t315.length : Int)
      · rw [if_pos c8] at H
        have c8b0 : decide (x19_1 < (t315.length : Int)) = true := decide_eq_true c8
        clear c8
        by_cases c9 : 0 ≤ x19_1
        · rw [if_pos c9] at H
          have c9b0 : decide (0 ≤ x19_1) = true := decide_eq_true c9
          clear c9
          by_cases c10 : x19_1 < (t315.length : Int)
          · rw [if_pos c10] at H
            have c10b0 : decide (x19_1 < (t315.length : Int)) = true := decide_eq_true c10
            clear c10
            replace H := Option.bind_eq_some_iff.mp H
            obtain ⟨t319, A110, H⟩ := H
            replace H : ((spec_diLength.f k1 t319).bind fun t322 => (if (x10_1.length : Int) = 0 then (spec_diBest.l0 k1 a0 a1 a3 (rd_L1 t315 x19_1) t322 t315 (t315.length : Int) (wrap64 (x19_1 + 1))) else (if a3 = true then (if t322 < x11_1 then (spec_diBest.l0 k1 a0 a1 a3 (rd_L1 t315 x19_1) t322 t315 (t315.length : Int) (wrap64 (x19_1 + 1))) else (spec_diBest.l0 k1 a0 a1 a3 x10_1 x11_1 t315 (t315.length : Int) (wrap64 (x19_1 + 1)))) else (if t322 > x11_1 then (spec_diBest.l0 k1 a0 a1 a3 (rd_L1 t315 x19_1) t322 t315 (t315.length : Int) (wrap64 (x19_1 + 1))) else (spec_diBest.l0 k1 a0 a1 a3 x10_1 x11_1 t315 (t315.length : Int) (wrap64 (x19_1 + 1))))))) = some (r1, r2) := H
            have A11 := Aside0.mk A110
            clear A110
            replace H := Option.bind_eq_some_iff.mp H
            obtain ⟨t322, A120, H⟩ := H
            replace H : (if (x10_1.length : Int) = 0 then (spec_diBest.l0 k1 a0 a1 a3 (rd_L1 t315 x19_1) t322 t315 (t315.length : Int) (wrap64 (x19_1 + 1))) else (if a3 = true then (if t322 < x11_1 then (spec_diBest.l0 k1 a0 a1 a3 (rd_L1 t315 x19_1) t322 t315 (t315.length : Int) (wrap64 (x19_1 + 1))) else (spec_diBest.l0 k1 a0 a1 a3 x10_1 x11_1 t315 (t315.length : Int) (wrap64 (x19_1 + 1)))) else (if t322 > x11_1 then (spec_diBest.l0 k1 a0 a1 a3 (rd_L1 t315 x19_1) t322 t315 (t315.length : Int) (wrap64 (x19_1 + 1))) else (spec_diBest.l0 k1 a0 a1 a3 x10_1 x11_1 t315 (t315.length : Int) (wrap64 (x19_1 + 1)))))) = some (r1, r2) := H
            have A12 := Aside0.mk A120
            clear A120
            by_cases c13 : (x10_1.length : Int) = 0
            · rw [if_pos c13] at H
              have c13b0 : ((x10_1.length : Int) == 0) = true := beq_iff_eq.mpr c13
              have c13b1 : ((x10_1.length : Int) != 0) = false := bne_eq_false_iff_eq.mpr c13
              clear c13
              have H' := Aside0.mk H
              clear H
              have p318 : 0 ≤ (x19_1 : Int) := of_decide_eq_true (by first | (with_reducible assumption) | assumption)
              have q318 : x19_1 < (t315.length : Int) := of_decide_eq_true (by first | (with_reducible assumption) | assumption)
              obtain ⟨ad318, A318_0, c318_0, e318, hx318_0, hl318_0, hi318_0⟩ := at_L1 (Kd.N_reads' HO_17.out).2.2 x19_1 p318 q318
              cases e318
              obtain ⟨ce318, hce318, hMe318, hcc318⟩ := Kd.N_get HO_17.out [] x19_1 p318 (by first | exact q318 | exact of_decide_eq_true (by first | (with_reducible assumption) | assumption) | (have e_ := (Kd.N_reads' HO_17.out).1; omega))
              obtain ⟨ua318_0, uc318_0, rfl, ul318_0, ge318_0⟩ := Kd.FK_slice_open hMe318
              have hv318_0 := hcc318 0 _ rfl
              rw [Nat.add_zero, show ((Kd.slice 3 (Kd.int .i64))).sz = 1 from rfl, Nat.mul_one] at hv318_0
              replace hv318_0 := Option.some.inj (hv318_0.symm.trans hx318_0)
              injection hv318_0 with hva_ hvn_ hvc_
              rw [hva_] at ge318_0
              rw [hvc_] at ul318_0
              have HL318_0 := Aside0.mk (show Kd.V (Kd.int .i64) 3 _ w.heap.size _ _ (rd_L1 t315 x19_1) from Kd.V_mk ul318_0 ge318_0)
              clear hva_ hvn_ hvc_ ge318_0 ul318_0
              clear hcc318 hce318
              have HR318_0 := Aside0.mk hi318_0
              have HC318_0 := Aside0.mk hl318_0
              clear hi318_0 hl318_0
              replace p318 := eq_true p318
              replace q318 := eq_true q318
              go_wp2_with (first | ((with_reducible refine gate_callee (f := 30) rfl ?_); refine goesL_ (some 26) rfl rfl Try.func30 (by kernel_rfl) rfl #[.int .i64 a0, .int .i64 a1, .slice A318_0 (rd_L1 t315 x19_1).length c318_0] rfl (by (try simp only [List.map_toArray, List.map_cons, List.map_nil]); first | done | rfl | (simp only [List.length_drop, List.length_take]; rfl)) ?_; (with_reducible refine (spec_diOpen.calls k1 a0 a1 _ _ (rd_L1 t315 x19_1) t319 _ ?side1 ?side2 A11.out).mono ?_); (case side1 => repeat (first | exact (by repeat (first | (with_reducible exact HR318_0.out) | (with_reducible refine Kd.C_alloc ?_ _) | (with_reducible refine Kd.C_drewN ?_ _) | (with_reducible refine Kd.C_drew ?_) | exact HR318_0.out)) | (with_reducible refine Kd.C_alloc ?_ _) | (with_reducible refine Kd.C_drewN ?_ _) | (with_reducible refine Kd.C_drew ?_))); (case side2 => exact HC318_0.out); rintro e w14 ⟨v320, rfl, ho0, hb⟩; refine ⟨_, rfl, ?_⟩; have n0_ := Aside0.mk (Kd.V_elder' (by (with_reducible repeat (first | apply Kd.V_alloc | apply Kd.V_drewN | apply Kd.V_drew)); exact HO_10.out) (Kd.R_base ho0) hb); have n1_ := Aside0.mk (Kd.N_elder' (by (with_reducible repeat (first | apply Kd.N_alloc | apply Kd.N_drewN | apply Kd.N_drew)); exact HO_17.out) (Kd.R_base ho0) hb); have n2_ := Aside0.mk (Kd.V_elder' (by (with_reducible repeat (first | apply Kd.V_alloc | apply Kd.V_drewN | apply Kd.V_drew)); exact HL318_0.out) (Kd.R_base ho0) hb); have n3_ := Aside0.mk (Kd.R_lower (Kd.R_newM (M := fun k_ => (w.heap.size ≤ k_)) ho0 (below_size (by repeat (first | (with_reducible first | exact HB.out | apply below_alloc | apply pw_below_drewN | apply below_drew1) | exact HB.out))) (fun k_ h_ => h_)) (below_size (by repeat (first | (with_reducible first | exact HB.out | apply below_alloc | apply pw_below_drewN | apply below_drew1) | exact HB.out)))); have n4_ := Aside0.mk (Kd.C_below (by repeat (first | (with_reducible exact HR318_0.out) | (with_reducible refine Kd.C_alloc ?_ _) | (with_reducible refine Kd.C_drewN ?_ _) | (with_reducible refine Kd.C_drew ?_) | exact HR318_0.out)) hb); have n5_ := Aside0.mk (below_step (by repeat (first | (with_reducible first | exact HB.out | apply below_alloc | apply pw_below_drewN | apply below_drew1) | exact HB.out)) hb); clear HO_10; clear HO_17; clear HL318_0; clear HR318_0; clear HB; have HO_10 := n0_; have HO_17 := n1_; have HL318_0 := n2_; have HO321 := n3_; have HR318_0 := n4_; have HB := n5_; clear n0_ n1_ n2_ n3_ n4_ n5_; (try clear hb); (try clear hb2); (try clear hk); (try clear hi); (try clear ho0); obtain ⟨Ao15, co15, eo15⟩ := Kd.R_slice HO321.out; subst eo15) | ((with_reducible refine gate_callee (f := 37) rfl ?_); refine goesL_ (some 27) rfl rfl Try.func37 (by kernel_rfl) rfl #[.slice Ao15 t319.length co15] rfl (by (try simp only [List.map_toArray, List.map_cons, List.map_nil]); first | done | rfl | (simp only [List.length_drop, List.length_take]; rfl)) ?_; (with_reducible refine (spec_diLength.calls k1 _ _ t319 t322 _ ?side1 ?side2 A12.out).mono ?_); (case side1 => repeat (first | exact (Kd.R_reads' HO321.out).2.2 | (with_reducible refine Kd.C_alloc ?_ _) | (with_reducible refine Kd.C_drewN ?_ _) | (with_reducible refine Kd.C_drew ?_))); (case side2 => exact (Kd.R_reads' HO321.out).2.1); rintro e w' ⟨rfl, ⟨nd, rfl⟩⟩; refine ⟨_, rfl, ?_⟩; obtain ⟨Ao16, co16, eo16⟩ := Kd.V_slice HO_10.out; subst eo16))
              go_roundg k1
              case measure => have := HK1.out; omega
              case rel => exact ⟨(rd_L1 t315 x19_1), (t322), (wrap64 (x19_1 + 1)), (by first | rfl | (simp; done) | (simp [*]; done)), (by first | rfl | (simp; done) | (simp [*]; done)), H', ⟨by have := HK1.out; omega⟩, ⟨by (with_reducible repeat (first | apply Kd.V_alloc | apply Kd.V_drewN | apply Kd.V_drew)); exact Kd.V_mono HL318_0.out (fun _ hk => ⟨hk.1.1, hk.1.2⟩)⟩, ⟨by (with_reducible repeat (first | apply Kd.N_alloc | apply Kd.N_drewN | apply Kd.N_drew)); exact Kd.N_mono HO_17.out (fun _ hk => hk.1)⟩, ⟨by repeat (first | (with_reducible first | exact HB.out | apply below_alloc | apply pw_below_drewN | apply below_drew1) | exact HB.out)⟩⟩
            · rw [if_neg c13] at H
              have c13b0 : ((x10_1.length : Int) == 0) = false := beq_eq_false_iff_ne.mpr c13
              have c13b1 : ((x10_1.length : Int) != 0) = true := bne_iff_ne.mpr c13
              have c13b2 : ¬ (x10_1 = []) := fun h_ => c13 (by rw [h_]; rfl)
              by_cases c17 : a3 = true
              · subst c17
                have H1 : (if t322 < x11_1 then (spec_diBest.l0 k1 a0 a1 true (rd_L1 t315 x19_1) t322 t315 (t315.length : Int) (wrap64 (x19_1 + 1))) else (spec_diBest.l0 k1 a0 a1 true x10_1 x11_1 t315 (t315.length : Int) (wrap64 (x19_1 + 1)))) = some (r1, r2) := by rw [if_pos rfl] at H; exact H
                clear H
                have H := H1
                clear H1
                by_cases c18 : t322 < x11_1
                · rw [if_pos c18] at H
                  have c18b0 : decide (t322 < x11_1) = true := decide_eq_true c18
                  clear c18
                  have H' := Aside0.mk H
                  clear H
                  have p318 : 0 ≤ (x19_1 : Int) := of_decide_eq_true (by first | (with_reducible assumption) | assumption)
                  have q318 : x19_1 < (t315.length : Int) := of_decide_eq_true (by first | (with_reducible assumption) | assumption)
                  obtain ⟨ad318, A318_0, c318_0, e318, hx318_0, hl318_0, hi318_0⟩ := at_L1 (Kd.N_reads' HO_17.out).2.2 x19_1 p318 q318
                  cases e318
                  obtain ⟨ce318, hce318, hMe318, hcc318⟩ := Kd.N_get HO_17.out [] x19_1 p318 (by first | exact q318 | exact of_decide_eq_true (by first | (with_reducible assumption) | assumption) | (have e_ := (Kd.N_reads' HO_17.out).1; omega))
                  obtain ⟨ua318_0, uc318_0, rfl, ul318_0, ge318_0⟩ := Kd.FK_slice_open hMe318
                  have hv318_0 := hcc318 0 _ rfl
                  rw [Nat.add_zero, show ((Kd.slice 3 (Kd.int .i64))).sz = 1 from rfl, Nat.mul_one] at hv318_0
                  replace hv318_0 := Option.some.inj (hv318_0.symm.trans hx318_0)
                  injection hv318_0 with hva_ hvn_ hvc_
                  rw [hva_] at ge318_0
                  rw [hvc_] at ul318_0
                  have HL318_0 := Aside0.mk (show Kd.V (Kd.int .i64) 3 _ w.heap.size _ _ (rd_L1 t315 x19_1) from Kd.V_mk ul318_0 ge318_0)
                  clear hva_ hvn_ hvc_ ge318_0 ul318_0
                  clear hcc318 hce318
                  have HR318_0 := Aside0.mk hi318_0
                  have HC318_0 := Aside0.mk hl318_0
                  clear hi318_0 hl318_0
                  replace p318 := eq_true p318
                  replace q318 := eq_true q318
                  go_wp2_with (first | ((with_reducible refine gate_callee (f := 30) rfl ?_); refine goesL_ (some 26) rfl rfl Try.func30 (by kernel_rfl) rfl #[.int .i64 a0, .int .i64 a1, .slice A318_0 (rd_L1 t315 x19_1).length c318_0] rfl (by (try simp only [List.map_toArray, List.map_cons, List.map_nil]); first | done | rfl | (simp only [List.length_drop, List.length_take]; rfl)) ?_; (with_reducible refine (spec_diOpen.calls k1 a0 a1 _ _ (rd_L1 t315 x19_1) t319 _ ?side1 ?side2 A11.out).mono ?_); (case side1 => repeat (first | exact (by repeat (first | (with_reducible exact HR318_0.out) | (with_reducible refine Kd.C_alloc ?_ _) | (with_reducible refine Kd.C_drewN ?_ _) | (with_reducible refine Kd.C_drew ?_) | exact HR318_0.out)) | (with_reducible refine Kd.C_alloc ?_ _) | (with_reducible refine Kd.C_drewN ?_ _) | (with_reducible refine Kd.C_drew ?_))); (case side2 => exact HC318_0.out); rintro e w19 ⟨v320, rfl, ho0, hb⟩; refine ⟨_, rfl, ?_⟩; have n0_ := Aside0.mk (Kd.V_elder' (by (with_reducible repeat (first | apply Kd.V_alloc | apply Kd.V_drewN | apply Kd.V_drew)); exact HO_10.out) (Kd.R_base ho0) hb); have n1_ := Aside0.mk (Kd.N_elder' (by (with_reducible repeat (first | apply Kd.N_alloc | apply Kd.N_drewN | apply Kd.N_drew)); exact HO_17.out) (Kd.R_base ho0) hb); have n2_ := Aside0.mk (Kd.V_elder' (by (with_reducible repeat (first | apply Kd.V_alloc | apply Kd.V_drewN | apply Kd.V_drew)); exact HL318_0.out) (Kd.R_base ho0) hb); have n3_ := Aside0.mk (Kd.R_lower (Kd.R_newM (M := fun k_ => (w.heap.size ≤ k_)) ho0 (below_size (by repeat (first | (with_reducible first | exact HB.out | apply below_alloc | apply pw_below_drewN | apply below_drew1) | exact HB.out))) (fun k_ h_ => h_)) (below_size (by repeat (first | (with_reducible first | exact HB.out | apply below_alloc | apply pw_below_drewN | apply below_drew1) | exact HB.out)))); have n4_ := Aside0.mk (Kd.C_below (by repeat (first | (with_reducible exact HR318_0.out) | (with_reducible refine Kd.C_alloc ?_ _) | (with_reducible refine Kd.C_drewN ?_ _) | (with_reducible refine Kd.C_drew ?_) | exact HR318_0.out)) hb); have n5_ := Aside0.mk (below_step (by repeat (first | (with_reducible first | exact HB.out | apply below_alloc | apply pw_below_drewN | apply below_drew1) | exact HB.out)) hb); clear HO_10; clear HO_17; clear HL318_0; clear HR318_0; clear HB; have HO_10 := n0_; have HO_17 := n1_; have HL318_0 := n2_; have HO321 := n3_; have HR318_0 := n4_; have HB := n5_; clear n0_ n1_ n2_ n3_ n4_ n5_; (try clear hb); (try clear hb2); (try clear hk); (try clear hi); (try clear ho0); obtain ⟨Ao20, co20, eo20⟩ := Kd.R_slice HO321.out; subst eo20) | ((with_reducible refine gate_callee (f := 37) rfl ?_); refine goesL_ (some 27) rfl rfl Try.func37 (by kernel_rfl) rfl #[.slice Ao20 t319.length co20] rfl (by (try simp only [List.map_toArray, List.map_cons, List.map_nil]); first | done | rfl | (simp only [List.length_drop, List.length_take]; rfl)) ?_; (with_reducible refine (spec_diLength.calls k1 _ _ t319 t322 _ ?side1 ?side2 A12.out).mono ?_); (case side1 => repeat (first | exact (Kd.R_reads' HO321.out).2.2 | (with_reducible refine Kd.C_alloc ?_ _) | (with_reducible refine Kd.C_drewN ?_ _) | (with_reducible refine Kd.C_drew ?_))); (case side2 => exact (Kd.R_reads' HO321.out).2.1); rintro e w' ⟨rfl, ⟨nd, rfl⟩⟩; refine ⟨_, rfl, ?_⟩; obtain ⟨Ao21, co21, eo21⟩ := Kd.V_slice HO_10.out; subst eo21))
                  go_roundg k1
                  case measure => have := HK1.out; omega
                  case rel => exact ⟨(rd_L1 t315 x19_1), (t322), (wrap64 (x19_1 + 1)), (by first | rfl | (simp; done) | (simp [*]; done)), (by first | rfl | (simp; done) | (simp [*]; done)), H', ⟨by have := HK1.out; omega⟩, ⟨by (with_reducible repeat (first | apply Kd.V_alloc | apply Kd.V_drewN | apply Kd.V_drew)); exact Kd.V_mono HL318_0.out (fun _ hk => ⟨hk.1.1, hk.1.2⟩)⟩, ⟨by (with_reducible repeat (first | apply Kd.N_alloc | apply Kd.N_drewN | apply Kd.N_drew)); exact Kd.N_mono HO_17.out (fun _ hk => hk.1)⟩, ⟨by repeat (first | (with_reducible first | exact HB.out | apply below_alloc | apply pw_below_drewN | apply below_drew1) | exact HB.out)⟩⟩
                · rw [if_neg c18] at H
                  have c18b0 : decide (t322 < x11_1) = false := decide_eq_false c18
                  clear c18
                  have H' := Aside0.mk H
                  clear H
                  have p318 : 0 ≤ (x19_1 : Int) := of_decide_eq_true (by first | (with_reducible assumption) | assumption)
                  have q318 : x19_1 < (t315.length : Int) := of_decide_eq_true (by first | (with_reducible assumption) | assumption)
                  obtain ⟨ad318, A318_0, c318_0, e318, hx318_0, hl318_0, hi318_0⟩ := at_L1 (Kd.N_reads' HO_17.out).2.2 x19_1 p318 q318
                  cases e318
                  obtain ⟨ce318, hce318, hMe318, hcc318⟩ := Kd.N_get HO_17.out [] x19_1 p318 (by first | exact q318 | exact of_decide_eq_true (by first | (with_reducible assumption) | assumption) | (have e_ := (Kd.N_reads' HO_17.out).1; omega))
                  obtain ⟨ua318_0, uc318_0, rfl, ul318_0, ge318_0⟩ := Kd.FK_slice_open hMe318
                  have hv318_0 := hcc318 0 _ rfl
                  rw [Nat.add_zero, show ((Kd.slice 3 (Kd.int .i64))).sz = 1 from rfl, Nat.mul_one] at hv318_0
                  replace hv318_0 := Option.some.inj (hv318_0.symm.trans hx318_0)
                  injection hv318_0 with hva_ hvn_ hvc_
                  rw [hva_] at ge318_0
                  rw [hvc_] at ul318_0
                  have HL318_0 := Aside0.mk (show Kd.V (Kd.int .i64) 3 _ w.heap.size _ _ (rd_L1 t315 x19_1) from Kd.V_mk ul318_0 ge318_0)
                  clear hva_ hvn_ hvc_ ge318_0 ul318_0
                  clear hcc318 hce318
                  have HR318_0 := Aside0.mk hi318_0
                  have HC318_0 := Aside0.mk hl318_0
                  clear hi318_0 hl318_0
                  replace p318 := eq_true p318
                  replace q318 := eq_true q318
                  go_wp2_with (first | ((with_reducible refine gate_callee (f := 30) rfl ?_); refine goesL_ (some 26) rfl rfl Try.func30 (by kernel_rfl) rfl #[.int .i64 a0, .int .i64 a1, .slice A318_0 (rd_L1 t315 x19_1).length c318_0] rfl (by (try simp only [List.map_toArray, List.map_cons, List.map_nil]); first | done | rfl | (simp only [List.length_drop, List.length_take]; rfl)) ?_; (with_reducible refine (spec_diOpen.calls k1 a0 a1 _ _ (rd_L1 t315 x19_1) t319 _ ?side1 ?side2 A11.out).mono ?_); (case side1 => repeat (first | exact (by repeat (first | (with_reducible exact HR318_0.out) | (with_reducible refine Kd.C_alloc ?_ _) | (with_reducible refine Kd.C_drewN ?_ _) | (with_reducible refine Kd.C_drew ?_) | exact HR318_0.out)) | (with_reducible refine Kd.C_alloc ?_ _) | (with_reducible refine Kd.C_drewN ?_ _) | (with_reducible refine Kd.C_drew ?_))); (case side2 => exact HC318_0.out); rintro e w22 ⟨v320, rfl, ho0, hb⟩; refine ⟨_, rfl, ?_⟩; have n0_ := Aside0.mk (Kd.V_elder' (by (with_reducible repeat (first | apply Kd.V_alloc | apply Kd.V_drewN | apply Kd.V_drew)); exact HO_10.out) (Kd.R_base ho0) hb); have n1_ := Aside0.mk (Kd.N_elder' (by (with_reducible repeat (first | apply Kd.N_alloc | apply Kd.N_drewN | apply Kd.N_drew)); exact HO_17.out) (Kd.R_base ho0) hb); have n2_ := Aside0.mk (Kd.V_elder' (by (with_reducible repeat (first | apply Kd.V_alloc | apply Kd.V_drewN | apply Kd.V_drew)); exact HL318_0.out) (Kd.R_base ho0) hb); have n3_ := Aside0.mk (Kd.R_lower (Kd.R_newM (M := fun k_ => (w.heap.size ≤ k_)) ho0 (below_size (by repeat (first | (with_reducible first | exact HB.out | apply below_alloc | apply pw_below_drewN | apply below_drew1) | exact HB.out))) (fun k_ h_ => h_)) (below_size (by repeat (first | (with_reducible first | exact HB.out | apply below_alloc | apply pw_below_drewN | apply below_drew1) | exact HB.out)))); have n4_ := Aside0.mk (Kd.C_below (by repeat (first | (with_reducible exact HR318_0.out) | (with_reducible refine Kd.C_alloc ?_ _) | (with_reducible refine Kd.C_drewN ?_ _) | (with_reducible refine Kd.C_drew ?_) | exact HR318_0.out)) hb); have n5_ := Aside0.mk (below_step (by repeat (first | (with_reducible first | exact HB.out | apply below_alloc | apply pw_below_drewN | apply below_drew1) | exact HB.out)) hb); clear HO_10; clear HO_17; clear HL318_0; clear HR318_0; clear HB; have HO_10 := n0_; have HO_17 := n1_; have HL318_0 := n2_; have HO321 := n3_; have HR318_0 := n4_; have HB := n5_; clear n0_ n1_ n2_ n3_ n4_ n5_; (try clear hb); (try clear hb2); (try clear hk); (try clear hi); (try clear ho0); obtain ⟨Ao23, co23, eo23⟩ := Kd.R_slice HO321.out; subst eo23) | ((with_reducible refine gate_callee (f := 37) rfl ?_); refine goesL_ (some 27) rfl rfl Try.func37 (by kernel_rfl) rfl #[.slice Ao23 t319.length co23] rfl (by (try simp only [List.map_toArray, List.map_cons, List.map_nil]); first | done | rfl | (simp only [List.length_drop, List.length_take]; rfl)) ?_; (with_reducible refine (spec_diLength.calls k1 _ _ t319 t322 _ ?side1 ?side2 A12.out).mono ?_); (case side1 => repeat (first | exact (Kd.R_reads' HO321.out).2.2 | (with_reducible refine Kd.C_alloc ?_ _) | (with_reducible refine Kd.C_drewN ?_ _) | (with_reducible refine Kd.C_drew ?_))); (case side2 => exact (Kd.R_reads' HO321.out).2.1); rintro e w' ⟨rfl, ⟨nd, rfl⟩⟩; refine ⟨_, rfl, ?_⟩; obtain ⟨Ao24, co24, eo24⟩ := Kd.V_slice HO_10.out; subst eo24))
                  go_roundg k1
                  case measure => have := HK1.out; omega
                  case rel => exact ⟨(x10_1), (x11_1), (wrap64 (x19_1 + 1)), (by first | rfl | (simp; done) | (simp [*]; done)), (by first | rfl | (simp; done) | (simp [*]; done)), H', ⟨by have := HK1.out; omega⟩, ⟨by (with_reducible repeat (first | apply Kd.V_alloc | apply Kd.V_drewN | apply Kd.V_drew)); exact Kd.V_mono HO_10.out (fun _ hk => ⟨hk.1.1, hk.1.2⟩)⟩, ⟨by (with_reducible repeat (first | apply Kd.N_alloc | apply Kd.N_drewN | apply Kd.N_drew)); exact Kd.N_mono HO_17.out (fun _ hk => hk.1)⟩, ⟨by repeat (first | (with_reducible first | exact HB.out | apply below_alloc | apply pw_below_drewN | apply below_drew1) | exact HB.out)⟩⟩
              · replace c17 := Bool.eq_false_iff.mpr c17
                subst c17
                have H1 : (if t322 > x11_1 then (spec_diBest.l0 k1 a0 a1 false (rd_L1 t315 x19_1) t322 t315 (t315.length : Int) (wrap64 (x19_1 + 1))) else (spec_diBest.l0 k1 a0 a1 false x10_1 x11_1 t315 (t315.length : Int) (wrap64 (x19_1 + 1)))) = some (r1, r2) := by rw [if_neg (show ¬ (false = true) by decide)] at H; exact H
                clear H
                have H := H1
                clear H1
                by_cases c25 : t322 > x11_1
                · rw [if_pos c25] at H
                  have c25b0 : decide (x11_1 < t322) = true := decide_eq_true c25
                  clear c25
                  have H' := Aside0.mk H
                  clear H
                  have p318 : 0 ≤ (x19_1 : Int) := of_decide_eq_true (by first | (with_reducible assumption) | assumption)
                  have q318 : x19_1 < (t315.length : Int) := of_decide_eq_true (by first | (with_reducible assumption) | assumption)
                  obtain ⟨ad318, A318_0, c318_0, e318, hx318_0, hl318_0, hi318_0⟩ := at_L1 (Kd.N_reads' HO_17.out).2.2 x19_1 p318 q318
                  cases e318
                  obtain ⟨ce318, hce318, hMe318, hcc318⟩ := Kd.N_get HO_17.out [] x19_1 p318 (by first | exact q318 | exact of_decide_eq_true (by first | (with_reducible assumption) | assumption) | (have e_ := (Kd.N_reads' HO_17.out).1; omega))
                  obtain ⟨ua318_0, uc318_0, rfl, ul318_0, ge318_0⟩ := Kd.FK_slice_open hMe318
                  have hv318_0 := hcc318 0 _ rfl
                  rw [Nat.add_zero, show ((Kd.slice 3 (Kd.int .i64))).sz = 1 from rfl, Nat.mul_one] at hv318_0
                  replace hv318_0 := Option.some.inj (hv318_0.symm.trans hx318_0)
                  injection hv318_0 with hva_ hvn_ hvc_
                  rw [hva_] at ge318_0
                  rw [hvc_] at ul318_0
                  have HL318_0 := Aside0.mk (show Kd.V (Kd.int .i64) 3 _ w.heap.size _ _ (rd_L1 t315 x19_1) from Kd.V_mk ul318_0 ge318_0)
                  clear hva_ hvn_ hvc_ ge318_0 ul318_0
                  clear hcc318 hce318
                  have HR318_0 := Aside0.mk hi318_0
                  have HC318_0 := Aside0.mk hl318_0
                  clear hi318_0 hl318_0
                  replace p318 := eq_true p318
                  replace q318 := eq_true q318
                  go_wp2_with (first | ((with_reducible refine gate_callee (f := 30) rfl ?_); refine goesL_ (some 26) rfl rfl Try.func30 (by kernel_rfl) rfl #[.int .i64 a0, .int .i64 a1, .slice A318_0 (rd_L1 t315 x19_1).length c318_0] rfl (by (try simp only [List.map_toArray, List.map_cons, List.map_nil]); first | done | rfl | (simp only [List.length_drop, List.length_take]; rfl)) ?_; (with_reducible refine (spec_diOpen.calls k1 a0 a1 _ _ (rd_L1 t315 x19_1) t319 _ ?side1 ?side2 A11.out).mono ?_); (case side1 => repeat (first | exact (by repeat (first | (with_reducible exact HR318_0.out) | (with_reducible refine Kd.C_alloc ?_ _) | (with_reducible refine Kd.C_drewN ?_ _) | (with_reducible refine Kd.C_drew ?_) | exact HR318_0.out)) | (with_reducible refine Kd.C_alloc ?_ _) | (with_reducible refine Kd.C_drewN ?_ _) | (with_reducible refine Kd.C_drew ?_))); (case side2 => exact HC318_0.out); rintro e w26 ⟨v320, rfl, ho0, hb⟩; refine ⟨_, rfl, ?_⟩; have n0_ := Aside0.mk (Kd.V_elder' (by (with_reducible repeat (first | apply Kd.V_alloc | apply Kd.V_drewN | apply Kd.V_drew)); exact HO_10.out) (Kd.R_base ho0) hb); have n1_ := Aside0.mk (Kd.N_elder' (by (with_reducible repeat (first | apply Kd.N_alloc | apply Kd.N_drewN | apply Kd.N_drew)); exact HO_17.out) (Kd.R_base ho0) hb); have n2_ := Aside0.mk (Kd.V_elder' (by (with_reducible repeat (first | apply Kd.V_alloc | apply Kd.V_drewN | apply Kd.V_drew)); exact HL318_0.out) (Kd.R_base ho0) hb); have n3_ := Aside0.mk (Kd.R_lower (Kd.R_newM (M := fun k_ => (w.heap.size ≤ k_)) ho0 (below_size (by repeat (first | (with_reducible first | exact HB.out | apply below_alloc | apply pw_below_drewN | apply below_drew1) | exact HB.out))) (fun k_ h_ => h_)) (below_size (by repeat (first | (with_reducible first | exact HB.out | apply below_alloc | apply pw_below_drewN | apply below_drew1) | exact HB.out)))); have n4_ := Aside0.mk (Kd.C_below (by repeat (first | (with_reducible exact HR318_0.out) | (with_reducible refine Kd.C_alloc ?_ _) | (with_reducible refine Kd.C_drewN ?_ _) | (with_reducible refine Kd.C_drew ?_) | exact HR318_0.out)) hb); have n5_ := Aside0.mk (below_step (by repeat (first | (with_reducible first | exact HB.out | apply below_alloc | apply pw_below_drewN | apply below_drew1) | exact HB.out)) hb); clear HO_10; clear HO_17; clear HL318_0; clear HR318_0; clear HB; have HO_10 := n0_; have HO_17 := n1_; have HL318_0 := n2_; have HO321 := n3_; have HR318_0 := n4_; have HB := n5_; clear n0_ n1_ n2_ n3_ n4_ n5_; (try clear hb); (try clear hb2); (try clear hk); (try clear hi); (try clear ho0); obtain ⟨Ao27, co27, eo27⟩ := Kd.R_slice HO321.out; subst eo27) | ((with_reducible refine gate_callee (f := 37) rfl ?_); refine goesL_ (some 27) rfl rfl Try.func37 (by kernel_rfl) rfl #[.slice Ao27 t319.length co27] rfl (by (try simp only [List.map_toArray, List.map_cons, List.map_nil]); first | done | rfl | (simp only [List.length_drop, List.length_take]; rfl)) ?_; (with_reducible refine (spec_diLength.calls k1 _ _ t319 t322 _ ?side1 ?side2 A12.out).mono ?_); (case side1 => repeat (first | exact (Kd.R_reads' HO321.out).2.2 | (with_reducible refine Kd.C_alloc ?_ _) | (with_reducible refine Kd.C_drewN ?_ _) | (with_reducible refine Kd.C_drew ?_))); (case side2 => exact (Kd.R_reads' HO321.out).2.1); rintro e w' ⟨rfl, ⟨nd, rfl⟩⟩; refine ⟨_, rfl, ?_⟩; obtain ⟨Ao28, co28, eo28⟩ := Kd.V_slice HO_10.out; subst eo28))
                  go_roundg k1
                  case measure => have := HK1.out; omega
                  case rel => exact ⟨(rd_L1 t315 x19_1), (t322), (wrap64 (x19_1 + 1)), (by first | rfl | (simp; done) | (simp [*]; done)), (by first | rfl | (simp; done) | (simp [*]; done)), H', ⟨by have := HK1.out; omega⟩, ⟨by (with_reducible repeat (first | apply Kd.V_alloc | apply Kd.V_drewN | apply Kd.V_drew)); exact Kd.V_mono HL318_0.out (fun _ hk => ⟨hk.1.1, hk.1.2⟩)⟩, ⟨by (with_reducible repeat (first | apply Kd.N_alloc | apply Kd.N_drewN | apply Kd.N_drew)); exact Kd.N_mono HO_17.out (fun _ hk => hk.1)⟩, ⟨by repeat (first | (with_reducible first | exact HB.out | apply below_alloc | apply pw_below_drewN | apply below_drew1) | exact HB.out)⟩⟩
                · rw [if_neg c25] at H
                  have c25b0 : decide (x11_1 < t322) = false := decide_eq_false c25
                  clear c25
                  have H' := Aside0.mk H
                  clear H
                  have p318 : 0 ≤ (x19_1 : Int) := of_decide_eq_true (by first | (with_reducible assumption) | assumption)
                  have q318 : x19_1 < (t315.length : Int) := of_decide_eq_true (by first | (with_reducible assumption) | assumption)
                  obtain ⟨ad318, A318_0, c318_0, e318, hx318_0, hl318_0, hi318_0⟩ := at_L1 (Kd.N_reads' HO_17.out).2.2 x19_1 p318 q318
                  cases e318
                  obtain ⟨ce318, hce318, hMe318, hcc318⟩ := Kd.N_get HO_17.out [] x19_1 p318 (by first | exact q318 | exact of_decide_eq_true (by first | (with_reducible assumption) | assumption) | (have e_ := (Kd.N_reads' HO_17.out).1; omega))
                  obtain ⟨ua318_0, uc318_0, rfl, ul318_0, ge318_0⟩ := Kd.FK_slice_open hMe318
                  have hv318_0 := hcc318 0 _ rfl
                  rw [Nat.add_zero, show ((Kd.slice 3 (Kd.int .i64))).sz = 1 from rfl, Nat.mul_one] at hv318_0
                  replace hv318_0 := Option.some.inj (hv318_0.symm.trans hx318_0)
                  injection hv318_0 with hva_ hvn_ hvc_
                  rw [hva_] at ge318_0
                  rw [hvc_] at ul318_0
                  have HL318_0 := Aside0.mk (show Kd.V (Kd.int .i64) 3 _ w.heap.size _ _ (rd_L1 t315 x19_1) from Kd.V_mk ul318_0 ge318_0)
                  clear hva_ hvn_ hvc_ ge318_0 ul318_0
                  clear hcc318 hce318
                  have HR318_0 := Aside0.mk hi318_0
                  have HC318_0 := Aside0.mk hl318_0
                  clear hi318_0 hl318_0
                  replace p318 := eq_true p318
                  replace q318 := eq_true q318
                  go_wp2_with (first | ((with_reducible refine gate_callee (f := 30) rfl ?_); refine goesL_ (some 26) rfl rfl Try.func30 (by kernel_rfl) rfl #[.int .i64 a0, .int .i64 a1, .slice A318_0 (rd_L1 t315 x19_1).length c318_0] rfl (by (try simp only [List.map_toArray, List.map_cons, List.map_nil]); first | done | rfl | (simp only [List.length_drop, List.length_take]; rfl)) ?_; (with_reducible refine (spec_diOpen.calls k1 a0 a1 _ _ (rd_L1 t315 x19_1) t319 _ ?side1 ?side2 A11.out).mono ?_); (case side1 => repeat (first | exact (by repeat (first | (with_reducible exact HR318_0.out) | (with_reducible refine Kd.C_alloc ?_ _) | (with_reducible refine Kd.C_drewN ?_ _) | (with_reducible refine Kd.C_drew ?_) | exact HR318_0.out)) | (with_reducible refine Kd.C_alloc ?_ _) | (with_reducible refine Kd.C_drewN ?_ _) | (with_reducible refine Kd.C_drew ?_))); (case side2 => exact HC318_0.out); rintro e w29 ⟨v320, rfl, ho0, hb⟩; refine ⟨_, rfl, ?_⟩; have n0_ := Aside0.mk (Kd.V_elder' (by (with_reducible repeat (first | apply Kd.V_alloc | apply Kd.V_drewN | apply Kd.V_drew)); exact HO_10.out) (Kd.R_base ho0) hb); have n1_ := Aside0.mk (Kd.N_elder' (by (with_reducible repeat (first | apply Kd.N_alloc | apply Kd.N_drewN | apply Kd.N_drew)); exact HO_17.out) (Kd.R_base ho0) hb); have n2_ := Aside0.mk (Kd.V_elder' (by (with_reducible repeat (first | apply Kd.V_alloc | apply Kd.V_drewN | apply Kd.V_drew)); exact HL318_0.out) (Kd.R_base ho0) hb); have n3_ := Aside0.mk (Kd.R_lower (Kd.R_newM (M := fun k_ => (w.heap.size ≤ k_)) ho0 (below_size (by repeat (first | (with_reducible first | exact HB.out | apply below_alloc | apply pw_below_drewN | apply below_drew1) | exact HB.out))) (fun k_ h_ => h_)) (below_size (by repeat (first | (with_reducible first | exact HB.out | apply below_alloc | apply pw_below_drewN | apply below_drew1) | exact HB.out)))); have n4_ := Aside0.mk (Kd.C_below (by repeat (first | (with_reducible exact HR318_0.out) | (with_reducible refine Kd.C_alloc ?_ _) | (with_reducible refine Kd.C_drewN ?_ _) | (with_reducible refine Kd.C_drew ?_) | exact HR318_0.out)) hb); have n5_ := Aside0.mk (below_step (by repeat (first | (with_reducible first | exact HB.out | apply below_alloc | apply pw_below_drewN | apply below_drew1) | exact HB.out)) hb); clear HO_10; clear HO_17; clear HL318_0; clear HR318_0; clear HB; have HO_10 := n0_; have HO_17 := n1_; have HL318_0 := n2_; have HO321 := n3_; have HR318_0 := n4_; have HB := n5_; clear n0_ n1_ n2_ n3_ n4_ n5_; (try clear hb); (try clear hb2); (try clear hk); (try clear hi); (try clear ho0); obtain ⟨Ao30, co30, eo30⟩ := Kd.R_slice HO321.out; subst eo30) | ((with_reducible refine gate_callee (f := 37) rfl ?_); refine goesL_ (some 27) rfl rfl Try.func37 (by kernel_rfl) rfl #[.slice Ao30 t319.length co30] rfl (by (try simp only [List.map_toArray, List.map_cons, List.map_nil]); first | done | rfl | (simp only [List.length_drop, List.length_take]; rfl)) ?_; (with_reducible refine (spec_diLength.calls k1 _ _ t319 t322 _ ?side1 ?side2 A12.out).mono ?_); (case side1 => repeat (first | exact (Kd.R_reads' HO321.out).2.2 | (with_reducible refine Kd.C_alloc ?_ _) | (with_reducible refine Kd.C_drewN ?_ _) | (with_reducible refine Kd.C_drew ?_))); (case side2 => exact (Kd.R_reads' HO321.out).2.1); rintro e w' ⟨rfl, ⟨nd, rfl⟩⟩; refine ⟨_, rfl, ?_⟩; obtain ⟨Ao31, co31, eo31⟩ := Kd.V_slice HO_10.out; subst eo31))
                  go_roundg k1
                  case measure => have := HK1.out; omega
                  case rel => exact ⟨(x10_1), (x11_1), (wrap64 (x19_1 + 1)), (by first | rfl | (simp; done) | (simp [*]; done)), (by first | rfl | (simp; done) | (simp [*]; done)), H', ⟨by have := HK1.out; omega⟩, ⟨by (with_reducible repeat (first | apply Kd.V_alloc | apply Kd.V_drewN | apply Kd.V_drew)); exact Kd.V_mono HO_10.out (fun _ hk => ⟨hk.1.1, hk.1.2⟩)⟩, ⟨by (with_reducible repeat (first | apply Kd.N_alloc | apply Kd.N_drewN | apply Kd.N_drew)); exact Kd.N_mono HO_17.out (fun _ hk => hk.1)⟩, ⟨by repeat (first | (with_reducible first | exact HB.out | apply below_alloc | apply pw_below_drewN | apply below_drew1) | exact HB.out)⟩⟩
          · rw [if_neg c10] at H
            exact absurd H (by simp)
        · rw [if_neg c9] at H
          exact absurd H (by simp)
      · rw [if_neg c8] at H
        have c8b0 : decide (x19_1 < (t315.length : Int)) = false := decide_eq_false c8
        clear c8
        simp only [Option.some.injEq, Prod.mk.injEq] at H
        obtain ⟨rfl, rfl⟩ := H
        go_wp2
        go_ret2
        exact ⟨_, by first | rfl | (simp [errW_none, errW_some] <;> rfl) | (simp [*, errW_none, errW_some] <;> rfl), by (with_reducible repeat (first | apply Kd.V_alloc | apply Kd.V_drewN | apply Kd.V_drew)); exact Kd.V_mono HO_10.out (fun _ hk => hk.1), by repeat (first | (with_reducible first | exact HB.out | apply below_alloc | apply pw_below_drewN | apply below_drew1) | exact HB.out)⟩

/-! ### spec_LongestDial: function 24 -/
def spec_LongestDial.f (k : Nat) (a0 : Int) (a1 : Int) (a2 : Int) : Option (List Int × Int × Bool) := (spec_diFew.f a0 a1 a2).bind fun t323 => (if t323 = true then ((spec_diBest.f k a0 a1 a2 false).bind fun bt324 => (some (bt324.1, bt324.2, true))) else (some (([] : List Int), 0, false)))
theorem spec_LongestDial.mono : ∀ a0 a1 a2 k, LeO (spec_LongestDial.f k a0 a1 a2) (spec_LongestDial.f (k + 1) a0 a1 a2) := by
  intro a0 a1 a2 k
  unfold spec_LongestDial.f
  repeat' first
      | (with_reducible exact spec_diBest.mono _ _ _ _ _)
      | (with_reducible exact LeO.refl _)
      | (with_reducible exact LeO.none _)
      | (with_reducible refine LeO.ite ?_ ?_)
      | (with_reducible refine LeO.bind ?_ (fun _ => ?_))
      | exact spec_diBest.mono _ _ _ _ _
      | exact LeO.none _
      | refine LeO.ite ?_ ?_
      | refine LeO.bind ?_ (fun _ => ?_)
set_option maxHeartbeats 8000000 in
set_option maxRecDepth 100000 in
theorem spec_LongestDial.calls (k : Nat) (a0 : Int) (a1 : Int) (a2 : Int) (r1 : List Int) (r2 : Int) (r3 : Bool) (w : World) (h : spec_LongestDial.f k a0 a1 a2 = some (r1, r2, r3)) :
    Calls Try.prog 24 #[.int .i64 a0, .int .i64 a1, .int .i64 a2] w fun e w' => ∃ v0_ : Value, e = .returned (.tuple #[v0_, .int .i64 r2, .bool r3]) ∧ Kd.V (Kd.int .i64) 3 w' w.heap.size (fun k_ => (w.heap.size ≤ k_)) v0_ r1 ∧ Below w.heap.size w w' := by
  have HB := Aside0.mk (Below.refl w.heap.size w)
  have H : ((spec_diFew.f a0 a1 a2).bind fun t323 => (if t323 = true then ((spec_diBest.f k a0 a1 a2 false).bind fun bt324 => (some (bt324.1, bt324.2, true))) else (some (([] : List Int), 0, false)))) = some (r1, r2, r3) := h
  clear h
  replace H := Option.bind_eq_some_iff.mp H
  obtain ⟨t323, A40, H⟩ := H
  replace H : (if t323 = true then ((spec_diBest.f k a0 a1 a2 false).bind fun bt324 => (some (bt324.1, bt324.2, true))) else (some (([] : List Int), 0, false))) = some (r1, r2, r3) := H
  have A4 := Aside0.mk A40
  clear A40
  by_cases c5 : t323 = true
  · subst c5
    have H1 : ((spec_diBest.f k a0 a1 a2 false).bind fun bt324 => (some (bt324.1, bt324.2, true))) = some (r1, r2, r3) := by rw [if_pos rfl] at H; exact H
    clear H
    have H := H1
    clear H1
    replace H := Option.bind_eq_some_iff.mp H
    obtain ⟨⟨t324, t327⟩, A60, H⟩ := H
    replace H : (some (t324, t327, true)) = some (r1, r2, r3) := H
    have A6 := Aside0.mk A60
    clear A60
    simp only [Option.some.injEq, Prod.mk.injEq] at H
    obtain ⟨rfl, rfl, rfl⟩ := H
    go_enter Try.func24, Try.ntmps24
    go_wp2_with (first | ((with_reducible refine gate_callee (f := 34) rfl ?_); refine goesL_ (some 14) rfl rfl Try.func34 (by kernel_rfl) rfl #[.int .i64 a0, .int .i64 a1, .int .i64 a2] rfl (by (try simp only [List.map_toArray, List.map_cons, List.map_nil]); first | done | rfl | (simp only [List.length_drop, List.length_take]; rfl)) ?_; (with_reducible refine (spec_diFew.calls a0 a1 a2 true _ A4.out).mono ?_); rintro e w' ⟨rfl, ⟨nd, rfl⟩⟩; refine ⟨_, rfl, ?_⟩) | ((with_reducible refine gate_callee (f := 49) rfl ?_); refine goesL_ (some 20) rfl rfl Try.func49 (by kernel_rfl) rfl #[.int .i64 a0, .int .i64 a1, .int .i64 a2, .bool false] rfl (by (try simp only [List.map_toArray, List.map_cons, List.map_nil]); first | done | rfl | (simp only [List.length_drop, List.length_take]; rfl)) ?_; (with_reducible refine (spec_diBest.calls k a0 a1 a2 false t324 t327 _ A6.out).mono ?_); rintro e w7 ⟨v325, rfl, ho0, hb⟩; refine ⟨_, rfl, ?_⟩; have n0_ := Aside0.mk (Kd.V_lower (Kd.V_mono (ok' := fun k_ => (w.heap.size ≤ k_)) ho0 (fun k_ hk_ => (Nat.le_trans (below_size (by repeat (first | (with_reducible first | exact HB.out | apply below_alloc | apply pw_below_drewN | apply below_drew1) | exact HB.out))) hk_))) (below_size (by repeat (first | (with_reducible first | exact HB.out | apply below_alloc | apply pw_below_drewN | apply below_drew1) | exact HB.out)))); have n1_ := Aside0.mk (below_step (by repeat (first | (with_reducible first | exact HB.out | apply below_alloc | apply pw_below_drewN | apply below_drew1) | exact HB.out)) hb); clear HB; have HO326 := n0_; have HB := n1_; clear n0_ n1_; (try clear hb); (try clear hb2); (try clear hk); (try clear hi); (try clear ho0)))
    go_ret3
    exact ⟨_, by first | rfl | (simp [errW_none, errW_some] <;> rfl) | (simp [*, errW_none, errW_some] <;> rfl), by (with_reducible repeat (first | apply Kd.V_alloc | apply Kd.V_drewN | apply Kd.V_drew)); exact HO326.out, by repeat (first | (with_reducible first | exact HB.out | apply below_alloc | apply pw_below_drewN | apply below_drew1) | exact HB.out)⟩
  · replace c5 := Bool.eq_false_iff.mpr c5
    subst c5
    have H1 : (some (([] : List Int), 0, false)) = some (r1, r2, r3) := by rw [if_neg (show ¬ (false = true) by decide)] at H; exact H
    clear H
    have H := H1
    clear H1
    simp only [Option.some.injEq, Prod.mk.injEq] at H
    obtain ⟨rfl, rfl, rfl⟩ := H
    go_enter Try.func24, Try.ntmps24
    go_wp2_with (first | ((with_reducible refine gate_callee (f := 34) rfl ?_); refine goesL_ (some 14) rfl rfl Try.func34 (by kernel_rfl) rfl #[.int .i64 a0, .int .i64 a1, .int .i64 a2] rfl (by (try simp only [List.map_toArray, List.map_cons, List.map_nil]); first | done | rfl | (simp only [List.length_drop, List.length_take]; rfl)) ?_; (with_reducible refine (spec_diFew.calls a0 a1 a2 false _ A4.out).mono ?_); rintro e w' ⟨rfl, ⟨nd, rfl⟩⟩; refine ⟨_, rfl, ?_⟩))
    go_ret3
    exact ⟨_, by first | rfl | (simp [errW_none, errW_some] <;> rfl) | (simp [*, errW_none, errW_some] <;> rfl), Kd.R_V (base := 0) (by first | exact Kd.R_nil _ _ _ _ _ | exact Kd.N_nil _ _ _ _ _ | exact Kd.V_nil _ _ _ _ _ | exact Kd.Q_nil _ _ _ _ _ | exact Kd.S_nil _ _ _ _ _), by repeat (first | (with_reducible first | exact HB.out | apply below_alloc | apply pw_below_drewN | apply below_drew1) | exact HB.out)⟩

/-! ### impl_extreme_1: function 64 -/
structure extInv (w0 : World) (m s sg : Int) (Bm Bs Bg Bb Bl : Nat) (st : List Int × Int) (W : World) : Prop where
  bel : Below w0.heap.size w0 W
  cm : W.cell? ⟨Bm, 0, none⟩ = some (.int .i64 m)
  cs : W.cell? ⟨Bs, 0, none⟩ = some (.int .i64 s)
  cg : W.cell? ⟨Bg, 0, none⟩ = some (.int .i64 sg)
  cl : W.cell? ⟨Bl, 0, none⟩ = some (.int .i64 st.2)
  fl : W.frozen? ⟨Bl, 0, none⟩ = false
  cb : ∃ v, W.cell? ⟨Bb, 0, none⟩ = some v ∧ W.frozen? ⟨Bb, 0, none⟩ = false ∧ (st.1 = [] → v = .slice none 0 0) ∧ Kd.R (Kd.int .i64) 3 W w0.heap.size (fun k => k ≠ Bb ∧ k ≠ Bl) v st.1
theorem extInv.grow {w0 : World} {m s sg : Int} {Bm Bs Bg Bb Bl : Nat} {st : List Int × Int} {W W' : World} (h : extInv w0 m s sg Bm Bs Bg Bb Bl st W) (hb : Below W.heap.size W W') : extInv w0 m s sg Bm Bs Bg Bb Bl st W' := by
  obtain ⟨h1, h2, h3, h4, h5, h6, v, h7, h8, h9, h10⟩ := h
  exact ⟨h1.trans (hb.mono h1.size), pw_cell_below hb h2, pw_cell_below hb h3, pw_cell_below hb h4, pw_cell_below hb h5, (hb.frozen (p := ⟨Bl, 0, none⟩) (World.block_lt_of_cell? W ⟨Bl, 0, none⟩ h5)).trans h6,
    v, pw_cell_below hb h7, (hb.frozen (p := ⟨Bb, 0, none⟩) (World.block_lt_of_cell? W ⟨Bb, 0, none⟩ h7)).trans h8, h9, Kd.R_below h10 hb⟩
theorem extInv.set {w0 : World} {m s sg : Int} {Bm Bs Bg Bb Bl : Nat} {st : List Int × Int} {W : World} (h : extInv w0 m s sg Bm Bs Bg Bb Bl st W) (hb : w0.heap.size ≤ Bb) (hl : w0.heap.size ≤ Bl) (hne : Bb ≠ Bl) (m1 : Bm ≠ Bb) (m2 : Bm ≠ Bl) (s1 : Bs ≠ Bb) (s2 : Bs ≠ Bl) (g1 : Bg ≠ Bb) (g2 : Bg ≠ Bl)
    {A : Option Addr} {c : Nat} {l : List Int} {t : Int} (hl0 : l ≠ []) (hR : Kd.R (Kd.int .i64) 3 W w0.heap.size (fun k => k ≠ Bb ∧ k ≠ Bl) (.slice A l.length c) l) :
    extInv w0 m s sg Bm Bs Bg Bb Bl (l, t) ((W.setCell ⟨Bb, 0, none⟩ (.slice A l.length c)).setCell ⟨Bl, 0, none⟩ (.int .i64 t)) := by
  obtain ⟨h1, h2, h3, h4, h5, h6, v, h7, h8, h9, h10⟩ := h
  have two : ∀ (B : Nat) (u : Value), B ≠ Bb → B ≠ Bl → W.cell? ⟨B, 0, none⟩ = some u → ((W.setCell ⟨Bb, 0, none⟩ (.slice A l.length c)).setCell ⟨Bl, 0, none⟩ (.int .i64 t)).cell? ⟨B, 0, none⟩ = some u := fun B u e1 e2 hu => by
    rw [World.cell?_setCell_other _ _ _ _ (hw_ne (Ne.symm e2)), World.cell?_setCell_other _ _ _ _ (hw_ne (Ne.symm e1))]; exact hu
  refine ⟨below_set (below_set h1 hb) hl, two _ _ m1 m2 h2, two _ _ s1 s2 h3, two _ _ g1 g2 h4, World.cell?_setCell_same _ _ _ ((World.cell?_setCell_other _ _ _ _ (hw_ne hne)).trans h5), by rw [World.frozen?_setCell, World.frozen?_setCell]; exact h6,
    .slice A l.length c, (World.cell?_setCell_other _ _ _ _ (hw_ne (Ne.symm hne))).trans (World.cell?_setCell_same _ _ _ h7), by rw [World.frozen?_setCell, World.frozen?_setCell]; exact h8, fun e => absurd e hl0, Kd.R_far (Kd.R_far hR (fun k hk => hk.1) _) (fun k hk => hk.2) _⟩
def extStep (K : Nat) (m s sg : Int) (st : List Int × Int) (c : List Int) : Option (List Int × Int) :=
  if c = [] then none else (impl_opening.f K m s c).bind fun o => (impl_length.f K o.1).bind fun t => some (if st.1 = [] ∨ wrap64 (sg * t) < wrap64 (sg * st.2) then (c, t) else st)
set_option maxHeartbeats 4000000 in
set_option maxRecDepth 100000 in
theorem ext1_calls (K : Nat) (m s sg : Int) (Bm Bs Bg Bb Bl Bz : Nat) (w0 : World) (hb : w0.heap.size ≤ Bb) (hl : w0.heap.size ≤ Bl) (hne : Bb ≠ Bl) (m1 : Bm ≠ Bb) (m2 : Bm ≠ Bl) (s1 : Bs ≠ Bb) (s2 : Bs ≠ Bl) (g1 : Bg ≠ Bb) (g2 : Bg ≠ Bl) (zb : Bb < Bz) (zl : Bl < Bz)
    (st st' : List Int × Int) (A : Option Addr) (c : Nat) (x : List Int) (W : World) (hst : extStep K m s sg st x = some st') (hI : extInv w0 m s sg Bm Bs Bg Bb Bl st W) (hc : x.length ≤ c) (hr : Kd.R (Kd.int .i64) 3 W Bz (fun _ => True) (.slice A x.length c) x) :
    Calls Try.prog 64 #[.slice A x.length c, .pointer (some ⟨Bm, 0, none⟩), .pointer (some ⟨Bs, 0, none⟩), .pointer (some ⟨Bb, 0, none⟩), .pointer (some ⟨Bg, 0, none⟩), .pointer (some ⟨Bl, 0, none⟩)] W fun e W' => e = .returned (.tuple #[]) ∧ extInv w0 m s sg Bm Bs Bg Bb Bl st' W' ∧ W.heap.size ≤ W'.heap.size := by
  unfold extStep at hst
  by_cases hx : x = []
  case pos => rw [if_pos hx] at hst; exact absurd hst (by simp)
  rw [if_neg hx] at hst
  obtain ⟨⟨o, ob⟩, ho, hst⟩ := Option.bind_eq_some_iff.mp hst
  obtain ⟨t, ht, hst⟩ := Option.bind_eq_some_iff.mp hst
  have HE := Aside0.mk (Option.some.inj hst)
  have hop := impl_opening.calls K m s A c x o ob W (Kd.R_reads' hr).2.2 hc ho
  have hlen : ∀ (A1 : Option Addr) (c1 : Nat) (W1 : World), Kd.C (Kd.int .i64) W1 A1 o.length o → o.length ≤ c1 → Calls Try.prog 43 #[.slice A1 o.length c1] W1 fun e w' => e = .returned (.int .i64 t) ∧ Drawn0 W1 w' := fun A1 c1 W1 g1 g2 => impl_length.calls K A1 c1 o t W1 g1 g2 ht
  have HI := Aside0.mk hI
  have HX := Aside0.mk hx
  have HRx := Aside0.mk (Kd.R_lower (Kd.R_mono (Kd.R_bound hr) (ok' := fun k => k ≠ Bb ∧ k ≠ Bl) (fun k hk => ⟨by have := hk.2.1; omega, by have := hk.2.1; omega⟩)) (show w0.heap.size ≤ Bz by omega))
  have cm := hI.cm
  have cs := hI.cs
  clear hr hc ho ht hst hI hx
  go_enter Try.func64, Try.ntmps64
  go_wp2_with (go_at_call 33; refine hop.mono ?_; rintro e w1 ⟨v0, rfl, hr, hb1⟩; obtain ⟨A1, c1, rfl⟩ := Kd.R_slice hr; have HR := Aside0.mk hr; have HB := Aside0.mk hb1; clear hr hb1)
  have hln := hlen A1 c1 w1 (Kd.R_reads' HR.out).2.2 (Kd.R_reads' HR.out).2.1
  have HI1 := Aside0.mk (HI.out.grow HB.out)
  have HRx1 := Aside0.mk (Kd.R_below HRx.out HB.out)
  have hsz := HB.out.size
  clear hlen HI HRx HB hop cm cs
  obtain ⟨v, cb, fb, hv, hRb⟩ := HI1.out.cb
  have cg := HI1.out.cg
  have cl := HI1.out.cl
  have fl := HI1.out.fl
  have HV := Aside0.mk hv
  have HRb := Aside0.mk hRb
  have hne' : (⟨Bb, 0, none⟩ : Addr) ≠ ⟨Bl, 0, none⟩ := hw_ne hne
  clear hv hRb
  by_cases h0 : st.1 = []
  · obtain rfl := HV.out h0
    have hnil : ∀ W, (binOp .eql 22 (.slice none 0 0) (.slice none 0 0)).run Try.prog W = .ok (.bool true) W := fun W => Lib.run_eql_slice_nil W _ _ none 0 0 0 0 Try.underlying22
    have hst' : st' = (x, t) := by have := HE.out; rw [if_pos (.inl h0)] at this; exact this.symm
    subst hst'
    clear h0 HV
    go_wp2_with (go_at_call 43; refine hln.mono ?_; rintro e w' ⟨rfl, ⟨nd, rfl⟩⟩)
    go_end0
    exact ⟨rfl, (HI1.out.grow (pw_below_drewN (Below.refl _ _) nd)).set hb hl hne m1 m2 s1 s2 g1 g2 HX.out (Kd.R_drewN HRx1.out nd), by simpa using hsz⟩
  · obtain ⟨g, cp, rfl, _⟩ := Kd.R_form HRb.out (List.length_pos_iff.mpr h0)
    clear HV
    have hnil : ∀ W, (binOp .eql 22 (.slice (some ⟨g, 0, none⟩) st.1.length cp) (.slice none 0 0)).run Try.prog W = .ok (.bool false) W := fun W => Lib.run_eql_slice_nil W _ _ (some ⟨g, 0, none⟩) _ _ 0 0 Try.underlying22
    by_cases hlt : wrap64 (sg * t) < wrap64 (sg * st.2)
    · have hst' : st' = (x, t) := by have := HE.out; rw [if_pos (.inr hlt)] at this; exact this.symm
      subst hst'
      clear h0
      go_wp2_with (go_at_call 43; refine hln.mono ?_; rintro e w' ⟨rfl, ⟨nd, rfl⟩⟩)
      go_end0
      exact ⟨rfl, (HI1.out.grow (pw_below_drewN (Below.refl _ _) nd)).set hb hl hne m1 m2 s1 s2 g1 g2 HX.out (Kd.R_drewN HRx1.out nd), by simpa using hsz⟩
    · have hst' : st' = st := by have := HE.out; rw [if_neg (by rintro (h | h); exact h0 h; exact hlt h)] at this; exact this.symm
      subst hst'
      clear h0
      go_wp2_with (go_at_call 43; refine hln.mono ?_; rintro e w' ⟨rfl, ⟨nd, rfl⟩⟩)
      go_end0
      exact ⟨rfl, HI1.out.grow (pw_below_drewN (Below.refl _ _) nd), by simpa using hsz⟩


/-! ### impl_extreme: function 50 -/
theorem extStep_mono (k : Nat) (m s sg : Int) (st : List Int × Int) (c : List Int) : LeO (extStep k m s sg st c) (extStep (k + 1) m s sg st c) := LeO.ite (LeO.none _) (LeO.bind (impl_opening.mono _ _ _ _) (fun o => LeO.bind (impl_length.mono _ _) (fun _ => LeO.refl _)))
def impl_extreme.f (k : Nat) (a0 a1 a2 a3 : Int) : Option (List Int × Int × Bool) :=
  if ((2 ≤ a0 ∧ a0 ≤ 100) ∧ 0 ≤ a1 ∧ a1 ≤ a0 - 1) ∧ a0 ≤ 12 ∧ 1 ≤ a2 ∧ a2 ≤ 3 then
    (impl_power.f k a0 a2).bind fun t => if t = ((a0.toNat ^ a2.toNat : Nat) : Int) ∧ t ≤ 2000 then (foldO (extStep k a0 a1 a3) ([], 0) (dall a0.toNat a2.toNat)).map (fun p => (p.1, p.2, true)) else none
  else some ([], 0, false)
theorem impl_extreme.mono : ∀ a0 a1 a2 a3 k, LeO (impl_extreme.f k a0 a1 a2 a3) (impl_extreme.f (k + 1) a0 a1 a2 a3) := by
  intro a0 a1 a2 a3 k
  unfold impl_extreme.f
  exact LeO.ite (LeO.bind (impl_power.mono _ _ _) (fun _ => LeO.ite (LeO.map _ (foldO_mono (fun s x => extStep_mono k a0 a1 a3 s x) _ _)) (LeO.none _))) (LeO.refl _)
set_option maxHeartbeats 8000000 in
set_option maxRecDepth 100000 in
theorem impl_extreme.calls (k : Nat) (a0 a1 a2 a3 : Int) (r1 : List Int) (r2 : Int) (r3 : Bool) (w : World) (h : impl_extreme.f k a0 a1 a2 a3 = some (r1, r2, r3)) :
    Calls Try.prog 50 #[.int .i64 a0, .int .i64 a1, .int .i64 a2, .int .i64 a3] w fun e w' => ∃ v0_ : Value, e = .returned (.tuple #[v0_, .int .i64 r2, .bool r3]) ∧ Kd.R (Kd.int .i64) 3 w' w.heap.size (fun _ => True) v0_ r1 ∧ Below w.heap.size w w' := by
  unfold impl_extreme.f at h
  have hdial : ∀ (W : World) (B : Nat) (b : Bool), decide ((2 ≤ a0 ∧ a0 ≤ 100) ∧ 0 ≤ a1 ∧ a1 ≤ a0 - 1) = b → Kd.C (Kd.int .i64) W (some ⟨B, 0, none⟩) 1 [a1] → Calls Try.prog 38 #[.int .i64 a0, .slice (some ⟨B, 0, none⟩) 1 1] W fun e w' => e = .returned (.bool b) ∧ Below W.heap.size W w' :=
    fun W B b hb hc => impl_isDial.calls a0 (some ⟨B, 0, none⟩) 1 [a1] b W hc (by simp) (by rw [dial_one, hb])
  have hfew : ∀ (W : World) (b : Bool), decide (1 ≤ a2 ∧ a2 ≤ 3) = b → Calls Try.prog 39 #[.int .i64 a2] W fun e w' => e = .returned (.bool b) ∧ Drawn0 W w' :=
    fun W b hb => impl_isFew.calls a2 b W (by rw [← hb]; unfold impl_isFew.f impl_within.f; by_cases h : a2 ≥ 1 <;> simp [h])
  by_cases hD : (2 ≤ a0 ∧ a0 ≤ 100) ∧ 0 ≤ a1 ∧ a1 ≤ a0 - 1
  case neg =>
    rw [if_neg (fun hc => hD hc.1)] at h
    obtain ⟨rfl, rfl, rfl⟩ : [] = r1 ∧ 0 = r2 ∧ false = r3 := by simpa using h
    have hd := fun W B => hdial W B false (decide_eq_false hD)
    clear h hdial hfew hD
    go_enter Try.func50, Try.ntmps50
    go_wp2_with (go_at_call 38; refine (hd _ _ (hw_C_lit1 _ _ _ _ (by simp))).mono ?_; rintro e w1 ⟨rfl, hb⟩; have HB := Aside0.mk hb; have hsz := hb.size; have hc1 : w1.cell? ⟨w.heap.size, 0, none⟩ = some (.int .i64 a0) := pw_cell_below hb (hw_cell_old _ _ (hw_cell_old _ _ (hw_cell_old _ _ (hw_cell_at _ _ _ _ rfl)))); clear hb)
    go_ret3
    exact ⟨_, rfl, Kd.R_nil _ _ _ _ _, below_then (by repeat (first | exact Below.refl _ _ | apply below_alloc)) (by simp; omega) HB.out⟩
  by_cases hM : a0 ≤ 12
  case neg =>
    rw [if_neg (fun hc => hM hc.2.1)] at h
    obtain ⟨rfl, rfl, rfl⟩ : [] = r1 ∧ 0 = r2 ∧ false = r3 := by simpa using h
    have hd := fun W B => hdial W B true (decide_eq_true hD)
    have hM' : 12 < a0 := by omega
    clear h hdial hfew hD hM
    go_enter Try.func50, Try.ntmps50
    go_wp2_with (go_at_call 38; refine (hd _ _ (hw_C_lit1 _ _ _ _ (by simp))).mono ?_; rintro e w1 ⟨rfl, hb⟩; have HB := Aside0.mk hb; have hsz := hb.size; have hc1 : w1.cell? ⟨w.heap.size, 0, none⟩ = some (.int .i64 a0) := pw_cell_below hb (hw_cell_old _ _ (hw_cell_old _ _ (hw_cell_old _ _ (hw_cell_at _ _ _ _ rfl)))); clear hb)
    go_ret3
    exact ⟨_, rfl, Kd.R_nil _ _ _ _ _, below_then (by repeat (first | exact Below.refl _ _ | apply below_alloc)) (by simp; omega) HB.out⟩
  by_cases hF : 1 ≤ a2 ∧ a2 ≤ 3
  case neg =>
    rw [if_neg (fun hc => hF hc.2.2)] at h
    obtain ⟨rfl, rfl, rfl⟩ : [] = r1 ∧ 0 = r2 ∧ false = r3 := by simpa using h
    have hd := fun W B => hdial W B true (decide_eq_true hD)
    have hf := fun W => hfew W false (decide_eq_false hF)
    have hM' : decide (12 < a0) = false := decide_eq_false (by omega)
    clear h hdial hfew hD hM hF
    go_enter Try.func50, Try.ntmps50
    go_wp2_with (first | (go_at_call 38; refine (hd _ _ (hw_C_lit1 _ _ _ _ (by simp))).mono ?_; rintro e w1 ⟨rfl, hb⟩; have HB := Aside0.mk hb; have hsz := hb.size; have hc1 : w1.cell? ⟨w.heap.size, 0, none⟩ = some (.int .i64 a0) := pw_cell_below hb (hw_cell_old _ _ (hw_cell_old _ _ (hw_cell_old _ _ (hw_cell_at _ _ _ _ rfl)))); clear hb) | (go_at_call 39; refine (hf _).mono ?_; rintro e w' ⟨rfl, ⟨nd, rfl⟩⟩))
    go_ret3
    refine ⟨_, rfl, Kd.R_nil _ _ _ _ _, ?_⟩
    apply pw_below_drewN
    exact below_then (by repeat (first | exact Below.refl _ _ | apply below_alloc)) (by simp; omega) HB.out
  rw [if_pos ⟨hD, hM, hF⟩] at h
  obtain ⟨t, ht, h⟩ := Option.bind_eq_some_iff.mp h
  by_cases hT : t = ((a0.toNat ^ a2.toNat : Nat) : Int) ∧ t ≤ 2000
  case neg => rw [if_neg hT] at h; exact absurd h (by simp)
  rw [if_pos hT] at h
  obtain ⟨st, hst, e1⟩ := Option.map_eq_some_iff.mp h
  obtain ⟨rfl, rfl, rfl⟩ : st.1 = r1 ∧ st.2 = r2 ∧ true = r3 := by simpa using e1
  obtain ⟨rfl, hT2⟩ := hT
  have hd := fun W B => hdial W B true (decide_eq_true hD)
  have hf := fun W => hfew W true (decide_eq_true hF)
  have hM' : decide (12 < a0) = false := decide_eq_false (by omega)
  have eg : ∀ args w, (callFunc 64 args).run Try.prog w = .ok (.enter 64 args) w := enters_of Try.func64 (by kernel_rfl) rfl
  have hcod : ∀ (Bb : Nat) (W : World), w.heap.size + 1 + 1 < Bb → Bb + 1 < W.heap.size → extInv w a0 a1 a3 w.heap.size (w.heap.size + 1) (w.heap.size + 1 + 1) Bb (Bb + 1) ([], 0) W → Calls Try.prog 41 #[.int .i64 a0, .int .i64 a2, .func (.func 64) #[] #[.pointer (some ⟨w.heap.size, 0, none⟩), .pointer (some ⟨w.heap.size + 1, 0, none⟩), .pointer (some ⟨Bb, 0, none⟩), .pointer (some ⟨w.heap.size + 1 + 1, 0, none⟩), .pointer (some ⟨Bb + 1, 0, none⟩)]] W fun e W' => e = .returned (.tuple #[]) ∧ extInv w a0 a1 a3 w.heap.size (w.heap.size + 1) (w.heap.size + 1 + 1) Bb (Bb + 1) st W' := by
    intro Bb W hB hW hI
    have x0 : ((a0.toNat : Nat) : Int) = a0 := by omega
    have x2 : ((a2.toNat : Nat) : Int) = a2 := by omega
    have := dialCodes_calls 64 #[.pointer (some ⟨w.heap.size, 0, none⟩), .pointer (some ⟨w.heap.size + 1, 0, none⟩), .pointer (some ⟨Bb, 0, none⟩), .pointer (some ⟨w.heap.size + 1 + 1, 0, none⟩), .pointer (some ⟨Bb + 1, 0, none⟩)] k a0.toNat (a0.toNat ^ a2.toNat) a2.toNat (extStep k a0 a1 a3) (fun st W => extInv w a0 a1 a3 w.heap.size (w.heap.size + 1) (w.heap.size + 1 + 1) Bb (Bb + 1) st W) ([], 0) st W eg (by omega) (by omega) rfl (by omega) (by rw [x0, x2]; exact ht)
      (fun s W W' h1 h2 => h1.grow h2) (fun s s' A c l W1 hst hI hle hc hR => ext1_calls k a0 a1 a3 _ _ _ Bb (Bb + 1) W.heap.size w (by omega) (by omega) (by omega) (by omega) (by omega) (by omega) (by omega) (by omega) (by omega) (by omega) (by omega) s s' A c l W1 hst hI hc hR) hI hst
    rw [x0, x2] at this
    exact this
  clear h hdial hfew hD hM hF eg ht hst e1 hT2
  go_enter Try.func50, Try.ntmps50
  go_wp2_with (first | (go_at_call 38; refine (hd _ _ (hw_C_lit1 _ _ _ _ (by simp))).mono ?_; rintro e w1 ⟨rfl, hb⟩; have HB := Aside0.mk hb; have hsz := hb.size; have hc1 : w1.cell? ⟨w.heap.size, 0, none⟩ = some (.int .i64 a0) := pw_cell_below hb (hw_cell_old _ _ (hw_cell_old _ _ (hw_cell_old _ _ (hw_cell_at _ _ _ _ rfl)))); have hc2 : w1.cell? ⟨w.heap.size + 1, 0, none⟩ = some (.int .i64 a1) := pw_cell_below hb (hw_cell_old _ _ (hw_cell_old _ _ (hw_cell_at _ (.int .i64 a1) 3 (w.heap.size + 1) (by simp)))); have hc3 : w1.cell? ⟨w.heap.size + 1 + 1, 0, none⟩ = some (.int .i64 a3) := pw_cell_below hb (hw_cell_old _ _ (hw_cell_at _ (.int .i64 a3) 3 (w.heap.size + 1 + 1) (by simp))); clear hb) | (go_at_call 39; refine (hf _).mono ?_; rintro e w' ⟨rfl, ⟨nd, rfl⟩⟩; go_loud (have hsz2 : w.heap.size + 1 + 1 + 1 + 1 ≤ w1.heap.size := (by have h9_ := hsz; simp only [World.size_alloc] at h9_; exact h9_); have b1 : (((w1.drewN nd).alloc (.cells #[.slice none 0 0] 22)).alloc (.cells #[.int .i64 0] 3)).cell? ⟨w1.heap.size, 0, none⟩ = some (.slice none 0 0) := hw_cell_old _ _ (hw_cell_at _ _ _ _ rfl); have b2 : (((w1.drewN nd).alloc (.cells #[.slice none 0 0] 22)).alloc (.cells #[.int .i64 0] 3)).frozen? ⟨w1.heap.size, 0, none⟩ = false := hw_frozen_old _ _ (hw_cell_at _ _ _ _ rfl) (hw_frozen_at _ _ _ _ rfl); have b3 : (((w1.drewN nd).alloc (.cells #[.slice none 0 0] 22)).alloc (.cells #[.int .i64 0] 3)).cell? ⟨w1.heap.size + 1, 0, none⟩ = some (.int .i64 0) := hw_cell_at _ _ _ _ (by simp); have b4 : (((w1.drewN nd).alloc (.cells #[.slice none 0 0] 22)).alloc (.cells #[.int .i64 0] 3)).frozen? ⟨w1.heap.size + 1, 0, none⟩ = false := hw_frozen_at _ _ _ _ (by simp); have c1_ : ((w1.drewN nd).alloc (.cells #[.slice none 0 0] 22)).cell? ⟨w1.heap.size, 0, none⟩ = some (.slice none 0 0) := hw_cell_at _ _ _ _ rfl; have c2_ : ((w1.drewN nd).alloc (.cells #[.slice none 0 0] 22)).frozen? ⟨w1.heap.size, 0, none⟩ = false := hw_frozen_at _ _ _ _ rfl; have b5 : ((((w1.drewN nd).alloc (.cells #[.slice none 0 0] 22)).setCell ⟨w1.heap.size, 0, none⟩ (.slice none 0 0)).alloc (.cells #[.int .i64 0] 3)).cell? ⟨w1.heap.size + 1, 0, none⟩ = some (.int .i64 0) := hw_cell_at _ _ _ _ (by simp); have b5f : ((((w1.drewN nd).alloc (.cells #[.slice none 0 0] 22)).setCell ⟨w1.heap.size, 0, none⟩ (.slice none 0 0)).alloc (.cells #[.int .i64 0] 3)).frozen? ⟨w1.heap.size + 1, 0, none⟩ = false := hw_frozen_at _ _ _ _ (by simp); have b7 : ((((w1.drewN nd).alloc (.cells #[.slice none 0 0] 22)).setCell ⟨w1.heap.size, 0, none⟩ (.slice none 0 0)).alloc (.cells #[.int .i64 0] 3)).cell? ⟨w1.heap.size, 0, none⟩ = some (.slice none 0 0) := hw_cell_old _ _ (World.cell?_setCell_same _ _ _ c1_); have b7f : ((((w1.drewN nd).alloc (.cells #[.slice none 0 0] 22)).setCell ⟨w1.heap.size, 0, none⟩ (.slice none 0 0)).alloc (.cells #[.int .i64 0] 3)).frozen? ⟨w1.heap.size, 0, none⟩ = false := hw_frozen_old _ _ (World.cell?_setCell_same _ _ _ c1_) (by rw [World.frozen?_setCell]; exact c2_); have two : ∀ (B : Nat) (u : Value), B < w1.heap.size → w1.cell? ⟨B, 0, none⟩ = some u → ((((w1.drewN nd).alloc (.cells #[.slice none 0 0] 22)).setCell ⟨w1.heap.size, 0, none⟩ (.slice none 0 0)).alloc (.cells #[.int .i64 0] 3)).cell? ⟨B, 0, none⟩ = some u := (fun B u hB hu => hw_cell_old _ _ ((World.cell?_setCell_other _ _ _ _ (hw_ne (by omega))).trans (hw_cell_old _ _ hu))); have b6 := two w.heap.size _ (by omega) hc1; have B5 := Aside0.mk b5; have B5f := Aside0.mk b5f; have B7 := Aside0.mk b7; have B7f := Aside0.mk b7f; clear b5 b5f b7 b7f; have TWO := Aside0.mk two; clear two)) | (go_at_call 41; go_loud (refine (hcod w1.heap.size _ (by omega) (by simp) ?hI).mono ?_; (case hI => exact ⟨below_alloc (below_set (below_alloc (pw_below_drewN (below_then (by repeat (first | exact Below.refl _ _ | apply below_alloc)) (by simp; omega) HB.out) _) _) (by omega)) _, b6, TWO.out _ _ (by omega) hc2, TWO.out _ _ (by omega) hc3, B5.out, B5f.out, .slice none 0 0, B7.out, B7f.out, fun _ => rfl, Kd.R_nil _ _ _ _ _⟩); rintro e w2 ⟨rfl, hI2⟩; have HI2 := Aside0.mk hI2; have hcl := hI2.cl; obtain ⟨vb, hcb, _, _, hRb⟩ := hI2.cb; have HRB := Aside0.mk hRb; clear hI2 hRb)))
  go_quiet (fail)
  go_wp2
  go_ret3
  exact ⟨_, rfl, Kd.R_mono (Kd.R_drewN HRB.out _) (fun _ _ => trivial), pw_below_drewN HI2.out.bel _⟩


/-! ### impl_LongestDial: function 25 -/
def impl_LongestDial.f (k : Nat) (a0 : Int) (a1 : Int) (a2 : Int) : Option (List Int × Int × Bool) := (impl_extreme.f k a0 a1 a2 (-1)).bind fun bt328 => (some (bt328.1, bt328.2.1, bt328.2.2))
theorem impl_LongestDial.mono : ∀ a0 a1 a2 k, LeO (impl_LongestDial.f k a0 a1 a2) (impl_LongestDial.f (k + 1) a0 a1 a2) := by
  intro a0 a1 a2 k
  unfold impl_LongestDial.f
  repeat' first
      | (with_reducible exact impl_extreme.mono _ _ _ _ _)
      | (with_reducible exact LeO.refl _)
      | (with_reducible exact LeO.none _)
      | (with_reducible refine LeO.ite ?_ ?_)
      | (with_reducible refine LeO.bind ?_ (fun _ => ?_))
      | exact impl_extreme.mono _ _ _ _ _
      | exact LeO.none _
      | refine LeO.ite ?_ ?_
      | refine LeO.bind ?_ (fun _ => ?_)
set_option maxHeartbeats 8000000 in
set_option maxRecDepth 100000 in
theorem impl_LongestDial.calls (k : Nat) (a0 : Int) (a1 : Int) (a2 : Int) (r1 : List Int) (r2 : Int) (r3 : Bool) (w : World) (h : impl_LongestDial.f k a0 a1 a2 = some (r1, r2, r3)) :
    Calls Try.prog 25 #[.int .i64 a0, .int .i64 a1, .int .i64 a2] w fun e w' => ∃ v0_ : Value, e = .returned (.tuple #[v0_, .int .i64 r2, .bool r3]) ∧ Kd.R (Kd.int .i64) 3 w' w.heap.size (fun _ => True) v0_ r1 ∧ Below w.heap.size w w' := by
  have HB := Aside0.mk (Below.refl w.heap.size w)
  have H : ((impl_extreme.f k a0 a1 a2 (-1)).bind fun bt328 => (some (bt328.1, bt328.2.1, bt328.2.2))) = some (r1, r2, r3) := h
  clear h
  replace H := Option.bind_eq_some_iff.mp H
  obtain ⟨⟨t328, t329, t330⟩, A40, H⟩ := H
  replace H : (some (t328, t329, t330)) = some (r1, r2, r3) := H
  have A4 := Aside0.mk A40
  clear A40
  simp only [Option.some.injEq, Prod.mk.injEq] at H
  obtain ⟨rfl, rfl, rfl⟩ := H
  go_enter Try.func25, Try.ntmps25
  go_wp2_with (first | ((with_reducible refine gate_callee (f := 50) rfl ?_); refine goesL_ (some 12) rfl rfl Try.func50 (by kernel_rfl) rfl #[.int .i64 a0, .int .i64 a1, .int .i64 a2, .int .i64 (-1)] rfl (by (try simp only [List.map_toArray, List.map_cons, List.map_nil]); first | done | rfl | (simp only [List.length_drop, List.length_take]; rfl)) ?_; (with_reducible refine (impl_extreme.calls k a0 a1 a2 (-1) t328 t329 t330 _ A4.out).mono ?_); rintro e w5 ⟨v331, rfl, ho0, hb⟩; refine ⟨_, rfl, ?_⟩; have n0_ := Aside0.mk (Kd.R_lower ho0 (below_size (by repeat (first | (with_reducible first | exact HB.out | apply below_alloc | apply pw_below_drewN | apply below_drew1) | exact HB.out)))); have n1_ := Aside0.mk (below_step (by repeat (first | (with_reducible first | exact HB.out | apply below_alloc | apply pw_below_drewN | apply below_drew1) | exact HB.out)) hb); clear HB; have HO332 := n0_; have HB := n1_; clear n0_ n1_; (try clear hb); (try clear hb2); (try clear hk); (try clear hi); (try clear ho0)))
  go_ret3
  exact ⟨_, by first | rfl | (simp [errW_none, errW_some] <;> rfl) | (simp [*, errW_none, errW_some] <;> rfl), by (with_reducible repeat (first | apply Kd.R_alloc | apply Kd.R_drewN | apply Kd.R_drew)); exact HO332.out, by repeat (first | (with_reducible first | exact HB.out | apply below_alloc | apply pw_below_drewN | apply below_drew1) | exact HB.out)⟩

end Go.Proofs.Ytbmbplmcdbgnnaa.Q
