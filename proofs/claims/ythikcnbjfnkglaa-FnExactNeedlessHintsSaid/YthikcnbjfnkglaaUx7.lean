-- Printed by hp.py, a program of this session: a machine's side of laws, out of the translation; Lean checks it.
import Derived.Test.YthikcnbjfnkglaaUx0
import Derived.Test.YthikcnbjfnkglaaUx6
namespace Go.Proofs.Ythikcnbjfnkglaa.U
open Go.RowKit Go.Proofs.YthikcnbjfnkglaaW.PrintWords Go.Proofs.YthikcnbjfnkglaaW.PrintLast Go.Proofs.YthikcnbjfnkglaaW.PrintMore
attribute [local go_sem] max2_int min2_int max_two min_two max_three min_three max_four min_four   -- for this text's walks alone
set_option linter.unusedVariables false
set_option linter.unusedSimpArgs false

/-! ### impl_digits: function 92 -/
def impl_digits.l0 : Nat → ByteArray → List Int → Int → Int → Option (List Int)
  | 0, _, _, _, _ => none
  | k + 1, x0, x3, x7, x8 => if x8 < x7 then (if 0 ≤ x8 then (if x8 < (x0.size : Int) then (if x3.length < 17592186044416 then (impl_digits.l0 k x0 (x3 ++ [((bt x0 x8) - 48) % 256]) x7 (wrap64 (x8 + 1))) else (none)) else (none)) else (none)) else (some x3)
def impl_digits.f (k : Nat) (a0 : ByteArray) : Option (List Int) := impl_digits.l0 k a0 (([] : List Int)) (a0.size : Int) 0
theorem impl_digits.mono_l : ∀ k, (∀ y0 y1 y2 y3, LeO (impl_digits.l0 k y0 y1 y2 y3) (impl_digits.l0 (k + 1) y0 y1 y2 y3))
  | 0 => fun _ _ _ _ r h => by simp [impl_digits.l0] at h
  | k + 1 => by
    have ih0 := impl_digits.mono_l k
    · intro y0 y1 y2 y3
      unfold impl_digits.l0
      repeat' first
      | (with_reducible exact ih0 _ _ _ _)
      | (with_reducible exact LeO.refl _)
      | (with_reducible exact LeO.none _)
      | (with_reducible refine LeO.ite ?_ ?_)
      | (with_reducible refine LeO.bind ?_ (fun _ => ?_))
      | exact ih0 _ _ _ _
      | exact LeO.none _
      | refine LeO.ite ?_ ?_
      | refine LeO.bind ?_ (fun _ => ?_)
theorem impl_digits.mono : ∀ a0 k, LeO (impl_digits.f k a0) (impl_digits.f (k + 1) a0) := by
  intro a0 k
  have ih0 := impl_digits.mono_l k
  unfold impl_digits.f
  repeat' first
      | (with_reducible exact ih0 _ _ _ _)
      | (with_reducible exact LeO.refl _)
      | (with_reducible exact LeO.none _)
      | (with_reducible refine LeO.ite ?_ ?_)
      | (with_reducible refine LeO.bind ?_ (fun _ => ?_))
      | exact ih0 _ _ _ _
      | exact LeO.none _
      | refine LeO.ite ?_ ?_
      | refine LeO.bind ?_ (fun _ => ?_)
set_option maxHeartbeats 8000000 in
set_option maxRecDepth 100000 in
theorem impl_digits.calls (k : Nat) (a0 : ByteArray) (r : List Int) (w : World) (h : impl_digits.f k a0 = some r) :
    Calls Try.prog 92 #[.string a0] w fun e w' => ∃ v0_ : Value, e = .returned (v0_) ∧ Kd.R (Kd.int .i64) 3 w' w.heap.size (fun _ => True) v0_ r ∧ Below w.heap.size w w' := by
  have HB := Aside0.mk (Below.refl w.heap.size w)
  have H : (impl_digits.l0 k a0 (([] : List Int)) (a0.size : Int) 0) = some r := h
  clear h
  obtain ⟨y240, hy240⟩ : ∃ y_ : List Int, y_ = (([] : List Int)) := ⟨_, rfl⟩
  replace H : (impl_digits.l0 k a0 y240 (a0.size : Int) 0) = some r := by first | (rw [hy240]; with_reducible exact H) | (have H2_ := (Option.bind_some _ _).symm.trans H; rw [hy240]; with_reducible exact H2_) | (have H2_ := (Option.bind_some _ _).symm.trans H; with_reducible exact H2_) | with_reducible exact H | (rw [hy240]; exact H) | exact H
  have Ny240 := Aside0.mk hy240
  clear hy240
  have H' := Aside0.mk H
  clear H
  go_enter Try.func92, Try.ntmps92
  go_wp2_with (first | ((with_reducible refine gate_dst (N := 5) rfl ?_); refine Kd.R_lit (Kd.int .i64) _ 3 ?hg (N := 5) ?hd (xs := ([] : List Int)) (inner := []) (ok := fun _ => True) (okp := fun _ => True) ?hr ?hp (fun _ hk => hk) trivial (Below.refl _ _) (Nat.le_refl _) (by simp) ?_; (case hd => rfl); (case hg => rfl); (case hr => first | (go_simp; done) | (go_simp; rfl)); (case hp => exact (Reps.none _ _)); intro v241 w2 ho3 hb hg_ hnew_; clear hg_ hnew_; (first | rw [← Ny240.out] at ho3 | (simp only [Int.reduceToNat] at ho3; rw [← Ny240.out] at ho3)); have n0_ := Aside0.mk (Kd.R_lower ho3 (below_size (by repeat (first | (with_reducible first | exact HB.out | apply below_alloc | apply pw_below_drewN | apply below_drew1) | exact HB.out)))); have n1_ := Aside0.mk (below_step (by repeat (first | (with_reducible first | exact HB.out | apply below_alloc | apply pw_below_drewN | apply below_drew1) | exact HB.out)) hb); clear HB; have HO242 := n0_; have HB := n1_; clear n0_ n1_; clear hb ho3))
  go_loopg [3, 8] k (fun kq v3 v8 w' => ∃ (x3_1 : List Int) (x8_1 : Int), v8 = .int .i64 x8_1 ∧ Aside0 (impl_digits.l0 kq a0 x3_1 (a0.size : Int) x8_1 = some r) ∧ Aside0 (kq ≤ k) ∧ Aside0 (Kd.R (Kd.int .i64) 3 w' w.heap.size (fun _ => True) v3 x3_1) ∧ Aside0 (Below w.heap.size w w'))
  case atStart => exact ⟨(y240), (0), (by first | rfl | (simp; done) | (simp [*]; done)), H', ⟨Nat.le_refl _⟩, ⟨by (with_reducible repeat (first | apply Kd.R_alloc | apply Kd.R_drewN | apply Kd.R_drew)); exact HO242.out⟩, ⟨by repeat (first | (with_reducible first | exact HB.out | apply below_alloc | apply pw_below_drewN | apply below_drew1) | exact HB.out)⟩⟩
  case round =>
    clear H'
    try clear p2
    obtain ⟨x3_1, x8_1, rfl, HA, HK1, HO_3, HB⟩ := hrel
    cases gk with
    | zero => exact absurd HA.out (by simp [impl_digits.l0])
    | succ k1 =>
      have H := HA.out
      clear HA
      simp only [impl_digits.l0] at H
      by_cases c4 : x8_1 < (a0.size : Int)
      · rw [if_pos c4] at H
        have c4b0 : decide (x8_1 < (a0.size : Int)) = true := decide_eq_true c4
        clear c4
        by_cases c5 : 0 ≤ x8_1
        · rw [if_pos c5] at H
          have c5b0 : decide (0 ≤ x8_1) = true := decide_eq_true c5
          clear c5
          by_cases c6 : x8_1 < (a0.size : Int)
          · rw [if_pos c6] at H
            have c6b0 : decide (x8_1 < (a0.size : Int)) = true := decide_eq_true c6
            clear c6
            by_cases c8 : x3_1.length < 17592186044416
            · rw [if_pos c8] at H
              have LMc8 := Aside0.mk c8
              clear c8
              obtain ⟨y243, hy243⟩ : ∃ y_ : List Int, y_ = (x3_1 ++ [((bt a0 x8_1) - 48) % 256]) := ⟨_, rfl⟩
              replace H : (impl_digits.l0 k1 a0 y243 (a0.size : Int) (wrap64 (x8_1 + 1))) = some r := by first | (rw [hy243]; with_reducible exact H) | (have H2_ := (Option.bind_some _ _).symm.trans H; rw [hy243]; with_reducible exact H2_) | (have H2_ := (Option.bind_some _ _).symm.trans H; with_reducible exact H2_) | with_reducible exact H | (rw [hy243]; exact H) | exact H
              have Ny243 := Aside0.mk hy243
              clear hy243
              have H' := Aside0.mk H
              clear H
              have p7 : 0 ≤ (x8_1 : Int) := of_decide_eq_true (by first | (with_reducible assumption) | assumption)
              have q7 : x8_1 < (a0.size : Int) := of_decide_eq_true (by first | (with_reducible assumption) | assumption)
              have hx7 := bt_at a0 x8_1
              replace p7 := eq_true p7
              replace q7 := eq_true q7
              go_wp2_with (first | ((with_reducible refine gate_builtin (b := .append) (xs := #[.tmp 11, .tmp 17]) rfl ?_); at_builtin; refine Kd.R_append (Kd.int .i64) (w0 := w) w.heap.size rfl (.tmp 11) (.tmp 17) 56 3 (.int .i64 0) 8 rfl Try.underlying56 info3 rfl (by decide) (by omega) u3 x3_1 (((bt a0 x8_1) - 48) % 256) [.int .i64 (((bt a0 x8_1) - 48) % 256)] (fun _ => True) (fun _ => False) rfl rfl ?aP (fun _ hk => hk.elim) ?aF ?aO ?aB ?aS ?aL ?_; (case aP => exact rfl); (case aB => exact (by repeat (first | (with_reducible first | exact HB.out | apply below_alloc | apply pw_below_drewN | apply below_drew1) | exact HB.out))); (case aF => exact (fun _ _ => trivial)); (case aO => exact (by (with_reducible repeat (first | apply Kd.R_alloc | apply Kd.R_drewN | apply Kd.R_drew)); exact HO_3.out)); (case aS => exact (below_size (by repeat (first | (with_reducible first | exact HB.out | apply below_alloc | apply pw_below_drewN | apply below_drew1) | exact HB.out)))); (case aL => have := LMc8.out; omega); intro v244 w9 ho hb hg hat; rw [← Ny243.out] at ho; have n0_ := Aside0.mk (hb); have n1_ := Aside0.mk (ho); clear HB; clear HO_3; have HB := n0_; have HO245 := n1_; clear n0_ n1_; clear ho hb hg hat))
              go_roundg k1
              case measure => have := HK1.out; omega
              case rel => exact ⟨(y243), (wrap64 (x8_1 + 1)), (by first | rfl | (simp; done) | (simp [*]; done)), H', ⟨by have := HK1.out; omega⟩, ⟨by (with_reducible repeat (first | apply Kd.R_alloc | apply Kd.R_drewN | apply Kd.R_drew)); exact HO245.out⟩, ⟨by repeat (first | (with_reducible first | exact HB.out | apply below_alloc | apply pw_below_drewN | apply below_drew1) | exact HB.out)⟩⟩
            · rw [if_neg c8] at H
              exact absurd H (by simp)
          · rw [if_neg c6] at H
            exact absurd H (by simp)
        · rw [if_neg c5] at H
          exact absurd H (by simp)
      · rw [if_neg c4] at H
        have c4b0 : decide (x8_1 < (a0.size : Int)) = false := decide_eq_false c4
        clear c4
        obtain rfl := Option.some.inj H
        go_wp2
        go_ret
        exact ⟨_, by first | rfl | (simp [errW_none, errW_some] <;> rfl) | (simp [*, errW_none, errW_some] <;> rfl), by (with_reducible repeat (first | apply Kd.R_alloc | apply Kd.R_drewN | apply Kd.R_drew)); exact HO_3.out, by repeat (first | (with_reducible first | exact HB.out | apply below_alloc | apply pw_below_drewN | apply below_drew1) | exact HB.out)⟩

/-! ### impl_hint: function 58 -/
/-- The first loop of impl.hint: over the digits of the code. -/
def hintL1 (g c : ByteArray) : List Int → Int → Int → List Int → Option (Int × List Int)
  | [], _, p, u => some (p, u)
  | d :: ds, i, p, u => if (0 ≤ i ∧ i < g.size ∧ i < c.size) ∧ (0 ≤ d ∧ d < 10) ∧ (0 ≤ p ∧ p ≤ 100000) ∧ 0 ≤ rd u d ∧ rd u d ≤ 100000 then hintL1 g c ds (i + 1) (if bt g i = bt c i then p + 1 else p) (u.set d.toNat (rd u d + 1)) else none
/-- The second one: over those of the guess. -/
def hintL2 : List Int → Int → List Int → Option Int
  | [], cm, _ => some cm
  | d :: ds, cm, u => if (0 ≤ d ∧ d < 10) ∧ (0 ≤ cm ∧ cm ≤ 100000) ∧ 0 ≤ rd u d ∧ rd u d ≤ 100000 then (if 0 < rd u d then hintL2 ds (cm + 1) (u.set d.toNat (rd u d - 1)) else hintL2 ds cm u) else none
def impl_hint.f (k : Nat) (g c : ByteArray) : Option (Int × Int) :=
  (impl_digits.f k c).bind fun dc => (impl_digits.f k g).bind fun dg => if dc.length ≤ 1000 ∧ dg.length ≤ 1000 then (hintL1 g c dc 0 0 (List.replicate 10 0)).bind fun pu => (hintL2 dg 0 pu.2).bind fun cm => if 0 ≤ pu.1 ∧ pu.1 ≤ 200000 ∧ 0 ≤ cm ∧ cm ≤ 200000 then some (pu.1, cm - pu.1) else none else none
theorem impl_hint.mono : ∀ a0 a1 k, LeO (impl_hint.f k a0 a1) (impl_hint.f (k + 1) a0 a1) := by
  intro a0 a1 k
  unfold impl_hint.f
  exact LeO.bind (impl_digits.mono _ _) (fun _ => LeO.bind (impl_digits.mono _ _) (fun _ => LeO.refl _))
structure hintInv (w W : World) (B : Nat) (u : List Int) : Prop where
  bel : Below w.heap.size w W
  len : u.length = 10
  cells : ∀ d : Nat, d < 10 → W.cell? ⟨B, d, none⟩ = some (.int .i64 (rd u (d : Int))) ∧ W.frozen? ⟨B, d, none⟩ = false
theorem hintInv.grow {w W W' : World} {B : Nat} {u : List Int} (h : hintInv w W B u) (hb : Below W.heap.size W W') : hintInv w W' B u :=
  ⟨h.bel.trans (hb.mono h.bel.size), h.len, fun d hd => ⟨pw_cell_below hb (h.cells d hd).1, (hb.frozen (p := ⟨B, d, none⟩) (World.block_lt_of_cell? W ⟨B, d, none⟩ (h.cells d hd).1)).trans (h.cells d hd).2⟩⟩
theorem hintInv.drew {w W : World} {B : Nat} {u : List Int} (h : hintInv w W B u) (q : Nat) : hintInv w (W.drewN q) B u := h.grow (pw_below_drewN (Below.refl _ _) q)
theorem hintInv.set {w W : World} {B : Nat} {u : List Int} (h : hintInv w W B u) (hB : w.heap.size ≤ B) (d : Nat) (hd : d < 10) (x : Int) : hintInv w (W.setCell ⟨B, d, none⟩ (.int .i64 x)) B (u.set d x) := by
  refine ⟨below_set h.bel hB, by rw [List.length_set]; exact h.len, fun j hj => ⟨?_, by rw [World.frozen?_setCell]; exact (h.cells j hj).2⟩⟩
  by_cases e : d = j
  · subst e
    rw [World.cell?_setCell_same _ _ _ (h.cells d hd).1]
    have : rd (u.set d x) (d : Int) = x := by simp [rd, List.getD, h.len, hd]
    rw [this]
  · rw [World.cell?_setCell_other _ _ _ _ (fun h2 => e (congrArg Addr.off h2)), (h.cells j hj).1]
    have : rd (u.set d x) (j : Int) = rd u (j : Int) := by simp [rd, List.getD, List.getElem?_set_ne e]
    rw [this]
set_option maxHeartbeats 8000000 in
set_option maxRecDepth 100000 in
theorem impl_hint.calls (k : Nat) (a0 a1 : ByteArray) (r1 r2 : Int) (w : World) (h : impl_hint.f k a0 a1 = some (r1, r2)) :
    Calls Try.prog 58 #[.string a0, .string a1] w fun e w' => e = .returned (.tuple #[.int .i64 r1, .int .i64 r2]) ∧ Below w.heap.size w w' := by
  unfold impl_hint.f at h
  obtain ⟨dc, hdc, h⟩ := Option.bind_eq_some_iff.mp h
  obtain ⟨dg, hdg, h⟩ := Option.bind_eq_some_iff.mp h
  by_cases hL : dc.length ≤ 1000 ∧ dg.length ≤ 1000
  case neg => rw [if_neg hL] at h; exact absurd h (by simp)
  rw [if_pos hL] at h
  obtain ⟨⟨p, u⟩, h1, h⟩ := Option.bind_eq_some_iff.mp h
  obtain ⟨cm, h2, h⟩ := Option.bind_eq_some_iff.mp h
  simp only at h h2
  by_cases hP : 0 ≤ p ∧ p ≤ 200000 ∧ 0 ≤ cm ∧ cm ≤ 200000
  case neg => rw [if_neg hP] at h; exact absurd h (by simp)
  rw [if_pos hP] at h
  simp only [Option.some.injEq, Prod.mk.injEq] at h
  obtain ⟨rfl, rfl⟩ := h
  obtain ⟨hL1, hL2⟩ := hL
  have hcc : ∀ W, Calls Try.prog 92 #[.string a1] W _ := fun W => impl_digits.calls k a1 dc W hdc
  have hcg : ∀ W, Calls Try.prog 92 #[.string a0] W _ := fun W => impl_digits.calls k a0 dg W hdg
  have H1 := Aside0.mk h1
  have H2 := Aside0.mk h2
  have HP := Aside0.mk hP
  have HHC := Aside0.mk hcg
  clear hdc hdg h1 h2 hP hcg
  go_enter Try.func58, Try.ntmps58
  go_wp2_with (go_at_call 92; refine (hcc _).mono ?_; rintro e w1 ⟨v15, rfl, hr, hb⟩; obtain ⟨A15, c15, rfl⟩ := Kd.R_slice hr; have HR := Aside0.mk hr; have HB := Aside0.mk hb; clear hr hb)
  have hsz : w.heap.size + 1 ≤ w1.heap.size := by have := HB.out.size; rw [World.size_alloc] at this; exact this
  have HI : Aside0 (hintInv w w1 w.heap.size (List.replicate 10 0)) := by
    refine ⟨hintInv.grow (W := w.alloc _) ⟨below_alloc (Below.refl _ _) _, by simp, fun d hd => ?_⟩ HB.out⟩
    have hd2 : d = 0 ∨ d = 1 ∨ d = 2 ∨ d = 3 ∨ d = 4 ∨ d = 5 ∨ d = 6 ∨ d = 7 ∨ d = 8 ∨ d = 9 := by omega
    rcases hd2 with rfl | rfl | rfl | rfl | rfl | rfl | rfl | rfl | rfl | rfl <;> exact ⟨by simp [rd], by simp⟩
  have HR2 := Aside0.mk (Kd.R_mono (Kd.R_bound HR.out) (ok' := fun k => w.heap.size < k) (fun k hk => by have := hk.2.1; rw [World.size_alloc] at this; omega))
  obtain ⟨B0, hB0⟩ : ∃ B0, B0 = (w.alloc (Obj.cells #[Value.int .i64 0, .int .i64 0, .int .i64 0, .int .i64 0, .int .i64 0, .int .i64 0, .int .i64 0, .int .i64 0, .int .i64 0, .int .i64 0] 104)).heap.size := ⟨_, rfl⟩
  rw [← hB0] at HR2
  clear hB0 HR HB hcc
  go_loopg [6, 17] dc.length (fun gg v6 v17 wr => ∃ (i : Nat) (pl : Int) (us : List Int), v6 = .int .i64 pl ∧ v17 = .int .i64 (i : Int) ∧ i ≤ dc.length ∧ dc.length - i ≤ gg ∧ Aside0 (hintL1 a0 a1 (dc.drop i) (i : Int) pl us = some (p, u)) ∧ Aside0 (hintInv w wr w.heap.size us) ∧ Aside0 (Kd.R (Kd.int .i64) 3 wr B0 (fun k => w.heap.size < k) (.slice A15 dc.length c15) dc))
  case atStart => exact ⟨0, 0, List.replicate 10 0, rfl, rfl, by omega, by omega, H1, HI, HR2⟩
  case round =>
    clear H1 HI HR2 hsz
    obtain ⟨i, pl, us, rfl, rfl, hi, hgi, H1, HI, HR⟩ := hrel
    by_cases hlt : i < dc.length
    · have hltz : (i : Int) < (dc.length : Int) := by omega
      have h1 := H1.out
      clear H1
      rw [List.drop_eq_getElem_cons hlt, hintL1] at h1
      obtain ⟨ad, e1, hx⟩ := Kd.at_int (Kd.R_reads' HR.out).2.2 (i : Int) (by omega) hltz
      rw [Int.toNat_natCast, show rd dc (i : Int) = dc[i] by simp [rd, List.getD, hlt]] at hx
      generalize dc[i] = d at h1 hx
      by_cases hg : (0 ≤ (i : Int) ∧ (i : Int) < a0.size ∧ (i : Int) < a1.size) ∧ (0 ≤ d ∧ d < 10) ∧ (0 ≤ pl ∧ pl ≤ 100000) ∧ 0 ≤ rd us d ∧ rd us d ≤ 100000
      case neg => rw [if_neg hg] at h1; exact absurd h1 (by simp)
      rw [if_pos hg] at h1
      have HX1 := Aside0.mk h1
      obtain ⟨⟨p6, q6, q7⟩, ⟨hd0, hd1⟩, ⟨hp0, hp1⟩, hu0, hu1⟩ := hg
      obtain ⟨dn, rfl⟩ := Int.eq_ofNat_of_zero_le hd0
      have hdn : dn < 10 := by omega
      obtain ⟨hcell, hfr⟩ := HI.out.cells dn hdn
      have HS := Aside0.mk (HI.out.set (Nat.le_refl _) dn hdn (rd us (dn : Int) + 1))
      have HRs := Aside0.mk (Kd.R_far HR.out (p := ⟨w.heap.size, dn, none⟩) (fun k hk => by simp only; omega) (.int .i64 (rd us (dn : Int) + 1)))
      obtain ⟨g15, cp, e15, _⟩ := Kd.R_form HR.out (by omega)
      obtain ⟨rfl, rfl⟩ : A15 = some ⟨g15, 0, none⟩ ∧ c15 = cp := by injection e15 with a b c; exact ⟨a, c⟩
      have e2 : (⟨g15, 0, none⟩ : Addr) = ad := by injection e1
      subst e2
      rw [add_at, Nat.zero_add] at hx
      have hs0 : i < a0.size := by omega
      have hs1 : i < a1.size := by omega
      have eb0 : bt a0 (i : Int) = ((a0[i]'hs0).toNat : Int) := by unfold bt; simp [hs0]
      have eb1 : bt a1 (i : Int) = ((a1[i]'hs1).toNat : Int) := by unfold bt; simp [hs1]
      clear h1 e1 e15
      by_cases hc : bt a0 (i : Int) = bt a1 (i : Int)
      · have hcb : (((a0[i]'hs0).toNat : Int) == ((a1[i]'hs1).toNat : Int)) = true := by rw [eb0, eb1] at hc; simpa using hc
        rw [if_pos hc] at HX1
        clear hc eb0 eb1
        go_wp2
        go_quiet (fail)
        go_wp2
        go_roundg (dc.length - (i + 1))
        case measure => omega
        case rel => exact ⟨i + 1, _, us.set dn (rd us (dn : Int) + 1), rfl, by go_num, by omega, by omega, HX1, ⟨hintInv.drew HS.out nq⟩, ⟨by have := Kd.R_drewN HRs.out nq; exact this⟩⟩
      · have hcb : (((a0[i]'hs0).toNat : Int) == ((a1[i]'hs1).toNat : Int)) = false := by rw [eb0, eb1] at hc; simpa using hc
        rw [if_neg hc] at HX1
        clear hc eb0 eb1
        go_wp2
        go_quiet (fail)
        go_wp2
        go_roundg (dc.length - (i + 1))
        case measure => omega
        case rel => exact ⟨i + 1, _, us.set dn (rd us (dn : Int) + 1), rfl, by go_num, by omega, by omega, HX1, ⟨hintInv.drew HS.out nq⟩, ⟨by have := Kd.R_drewN HRs.out nq; exact this⟩⟩
    · obtain rfl : i = dc.length := by omega
      have hltz : ¬ (dc.length : Int) < (dc.length : Int) := by omega
      have h1 := H1.out
      rw [List.drop_length, hintL1] at h1
      simp only [Option.some.injEq, Prod.mk.injEq] at h1
      obtain ⟨rfl, rfl⟩ := h1
      obtain ⟨W1, hW1⟩ : ∃ W1, W1 = wr := ⟨_, rfl⟩
      rw [← hW1] at HI ⊢
      have hcg := HHC.out W1
      clear H1 HR hW1 HHC hgi hi
      go_wp2_with (go_at_call 92; refine hcg.mono ?_; rintro e w1 ⟨v38, rfl, hr, hb⟩; obtain ⟨A38, c38, rfl⟩ := Kd.R_slice hr; have HR := Aside0.mk hr; have HI2 := Aside0.mk (HI.out.grow hb); clear hr hb)
      have HR2 := Aside0.mk (Kd.R_mono (Kd.R_bound HR.out) (ok' := fun k => w.heap.size < k) (fun k hk => by have := hk.2.1; have h9 := HI.out.cells 0 (by omega); have := World.block_lt_of_cell? _ _ h9.1; simp only at this; omega))
      obtain ⟨B1, hB1⟩ : ∃ B1, B1 = W1.heap.size := ⟨_, rfl⟩
      rw [← hB1] at HR2
      clear hB1 HR HI
      go_loopg [7, 40] dg.length (fun gg v7 v40 wr => ∃ (i : Nat) (cn : Int) (vs : List Int), v7 = .int .i64 cn ∧ v40 = .int .i64 (i : Int) ∧ i ≤ dg.length ∧ dg.length - i ≤ gg ∧ Aside0 (hintL2 (dg.drop i) cn vs = some cm) ∧ Aside0 (hintInv w wr w.heap.size vs) ∧ Aside0 (Kd.R (Kd.int .i64) 3 wr B1 (fun k => w.heap.size < k) (.slice A38 dg.length c38) dg))
      case atStart => exact ⟨0, 0, us, rfl, rfl, by omega, by omega, H2, HI2, HR2⟩
      case round =>
        clear H2 HI2 HR2
        obtain ⟨i, cn, vs, rfl, rfl, hi, hgi, H1, HI, HR⟩ := hrel
        by_cases hlt : i < dg.length
        · have hltz : (i : Int) < (dg.length : Int) := by omega
          have h1 := H1.out
          clear H1
          rw [List.drop_eq_getElem_cons hlt, hintL2] at h1
          obtain ⟨ad, e1, hx⟩ := Kd.at_int (Kd.R_reads' HR.out).2.2 (i : Int) (by omega) hltz
          rw [Int.toNat_natCast, show rd dg (i : Int) = dg[i] by simp [rd, List.getD, hlt]] at hx
          generalize dg[i] = d at h1 hx
          by_cases hg : (0 ≤ d ∧ d < 10) ∧ (0 ≤ cn ∧ cn ≤ 100000) ∧ 0 ≤ rd vs d ∧ rd vs d ≤ 100000
          case neg => rw [if_neg hg] at h1; exact absurd h1 (by simp)
          rw [if_pos hg] at h1
          obtain ⟨⟨hd0, hd1⟩, ⟨hp0, hp1⟩, hu0, hu1⟩ := hg
          obtain ⟨dn, rfl⟩ := Int.eq_ofNat_of_zero_le hd0
          have hdn : dn < 10 := by omega
          obtain ⟨hcell, hfr⟩ := HI.out.cells dn hdn
          have HS := Aside0.mk (HI.out.set (Nat.le_refl _) dn hdn (rd vs (dn : Int) - 1))
          have HRs := Aside0.mk (Kd.R_far HR.out (p := ⟨w.heap.size, dn, none⟩) (fun k hk => by simp only; omega) (.int .i64 (rd vs (dn : Int) - 1)))
          obtain ⟨g38, cp, e38, _⟩ := Kd.R_form HR.out (by omega)
          obtain ⟨rfl, rfl⟩ : A38 = some ⟨g38, 0, none⟩ ∧ c38 = cp := by injection e38 with a b c; exact ⟨a, c⟩
          have e2 : (⟨g38, 0, none⟩ : Addr) = ad := by injection e1
          subst e2
          rw [add_at, Nat.zero_add] at hx
          clear e1 e38
          by_cases hc : 0 < rd vs (dn : Int)
          · rw [if_pos hc] at h1
            have HX1 := Aside0.mk h1
            clear h1
            go_wp2
            go_roundg (dg.length - (i + 1))
            case measure => omega
            case rel => exact ⟨i + 1, cn + 1, vs.set dn (rd vs (dn : Int) - 1), rfl, by go_num, by omega, by omega, HX1, HS, HRs⟩
          · rw [if_neg hc] at h1
            have HX1 := Aside0.mk h1
            clear h1
            go_wp2
            go_roundg (dg.length - (i + 1))
            case measure => omega
            case rel => exact ⟨i + 1, cn, vs, rfl, by go_num, by omega, by omega, HX1, HI, HR⟩
        · obtain rfl : i = dg.length := by omega
          have hltz : ¬ (dg.length : Int) < (dg.length : Int) := by omega
          have h1 := H1.out
          rw [List.drop_length, hintL2] at h1
          simp only [Option.some.injEq] at h1
          subst h1
          obtain ⟨hq1, hq2, hq3, hq4⟩ := HP.out
          clear H1 HR HP
          go_wp2
          go_ret2
          exact ⟨rfl, HI.out.bel⟩

/-! ### impl_fits_1: function 101 -/
def fits1 (k : Nat) (c : ByteArray) (x : S75) : Option Bool := (impl_hint.f k x.f0 c).map fun r => !decide (r.1 = x.f1 ∧ r.2 = x.f2)
set_option maxHeartbeats 4000000 in
set_option maxRecDepth 100000 in
theorem fits1_calls (k : Nat) (c : ByteArray) (B : Nat) (x : S75) (r : Bool) (w : World) (hc0 : w.cell? ⟨B, 0, none⟩ = some (.string c)) (h : fits1 k c x = some r) :
    Calls Try.prog 101 #[.agg #[.string x.f0, .int .i64 x.f1, .int .i64 x.f2], .pointer (some ⟨B, 0, none⟩)] w fun e w' => e = .returned (.bool r) ∧ Below w.heap.size w w' := by
  have hu75 := Try.underlying75
  have hu9 := Try.underlying9
  unfold fits1 at h
  obtain ⟨⟨p, o⟩, hpo, e1⟩ := Option.map_eq_some_iff.mp h
  subst e1
  have hhint : ∀ W, Calls Try.prog 58 #[.string x.f0, .string c] W _ := fun W => impl_hint.calls k x.f0 c p o W hpo
  have hb0 := hw_cell_old w (.cells #[.string x.f0, .int .i64 x.f1, .int .i64 x.f2] 75) hc0
  clear h hpo hc0
  simp only
  by_cases hp : p = x.f1
  · have hpb : (p != x.f1) = false := by simp [hp]
    by_cases ho : o = x.f2
    · have hob : (o != x.f2) = false := by simp [ho]
      rw [decide_eq_true (show p = x.f1 ∧ o = x.f2 from ⟨hp, ho⟩)]
      clear hp ho
      go_enter Try.func101, Try.ntmps101
      go_wp2_with (go_at_call 58; refine (hhint _).mono ?_; rintro e w1 ⟨rfl, hb⟩; have HB := Aside0.mk hb; have m1 := pw_cell_below hb (show (w.alloc (.cells #[.string x.f0, .int .i64 x.f1, .int .i64 x.f2] 75)).cell? ⟨w.heap.size, 1, none⟩ = some (.int .i64 x.f1) by simp); have m2 := pw_cell_below hb (show (w.alloc (.cells #[.string x.f0, .int .i64 x.f1, .int .i64 x.f2] 75)).cell? ⟨w.heap.size, 2, none⟩ = some (.int .i64 x.f2) by simp); clear hb)
      go_ret
      exact ⟨rfl, below_then (below_alloc (Below.refl _ _) _) (by simp) HB.out⟩
    · have hob : (o != x.f2) = true := by simp [ho]
      rw [decide_eq_false (show ¬ (p = x.f1 ∧ o = x.f2) from fun h => ho h.2)]
      clear hp ho
      go_enter Try.func101, Try.ntmps101
      go_wp2_with (go_at_call 58; refine (hhint _).mono ?_; rintro e w1 ⟨rfl, hb⟩; have HB := Aside0.mk hb; have m1 := pw_cell_below hb (show (w.alloc (.cells #[.string x.f0, .int .i64 x.f1, .int .i64 x.f2] 75)).cell? ⟨w.heap.size, 1, none⟩ = some (.int .i64 x.f1) by simp); have m2 := pw_cell_below hb (show (w.alloc (.cells #[.string x.f0, .int .i64 x.f1, .int .i64 x.f2] 75)).cell? ⟨w.heap.size, 2, none⟩ = some (.int .i64 x.f2) by simp); clear hb)
      go_ret
      exact ⟨rfl, below_then (below_alloc (Below.refl _ _) _) (by simp) HB.out⟩
  · have hpb : (p != x.f1) = true := by simp [hp]
    rw [decide_eq_false (show ¬ (p = x.f1 ∧ o = x.f2) from fun h => hp h.1)]
    clear hp
    go_enter Try.func101, Try.ntmps101
    go_wp2_with (go_at_call 58; refine (hhint _).mono ?_; rintro e w1 ⟨rfl, hb⟩; have HB := Aside0.mk hb; have m1 := pw_cell_below hb (show (w.alloc (.cells #[.string x.f0, .int .i64 x.f1, .int .i64 x.f2] 75)).cell? ⟨w.heap.size, 1, none⟩ = some (.int .i64 x.f1) by simp); have m2 := pw_cell_below hb (show (w.alloc (.cells #[.string x.f0, .int .i64 x.f1, .int .i64 x.f2] 75)).cell? ⟨w.heap.size, 2, none⟩ = some (.int .i64 x.f2) by simp); clear hb)
    go_ret
    exact ⟨rfl, below_then (below_alloc (Below.refl _ _) _) (by simp) HB.out⟩


/-! ### impl_fits: function 74 -/
def impl_fits.f (k : Nat) (l : List S75) (c : ByteArray) : Option Bool := if l.length ≤ 1000000000000000000 then (anyO (fits1 k c) l).map (fun b => !b) else none
theorem fits1_mono (k : Nat) (c : ByteArray) (x : S75) : LeO (fits1 k c x) (fits1 (k + 1) c x) := LeO.map _ (impl_hint.mono _ _ _)
theorem impl_fits.mono : ∀ l c k, LeO (impl_fits.f k l c) (impl_fits.f (k + 1) l c) := by
  intro l c k
  unfold impl_fits.f
  exact LeO.ite (LeO.map _ (anyO_mono (fun x => fits1_mono k c x) _)) (LeO.none _)
set_option maxHeartbeats 4000000 in
set_option maxRecDepth 100000 in
theorem impl_fits.calls (k : Nat) (A0 : Option Addr) (c0 : Nat) (l0 : List S75) (a1 : ByteArray) (r : Bool) (w : World) (hr0 : Kd.C k75 w A0 l0.length l0) (hc0 : l0.length ≤ c0) (h : impl_fits.f k l0 a1 = some r) :
    Calls Try.prog 74 #[.slice A0 l0.length c0, .string a1] w fun e w' => e = .returned (.bool r) ∧ Below w.heap.size w w' := by
  have hu9 := Try.underlying9
  unfold impl_fits.f at h
  by_cases hlen : l0.length ≤ 1000000000000000000
  case neg => rw [if_neg hlen] at h; exact absurd h (by simp)
  rw [if_pos hlen] at h
  obtain ⟨b2, hb2, e1⟩ := Option.map_eq_some_iff.mp h
  subst e1
  have eg : ∀ args w, (callFunc 101 args).run Try.prog w = .ok (.enter 101 args) w := enters_of Try.func101 (by kernel_rfl) rfl
  have c0' : (w.alloc (.cells #[.string a1] 9)).cell? ⟨w.heap.size, 0, none⟩ = some (.string a1) := by simp
  have hcon : Calls Try.prog 93 #[.slice A0 l0.length c0, .func (.func 101) #[] #[.pointer (some ⟨w.heap.size, 0, none⟩)]] (w.alloc (.cells #[.string a1] 9)) fun e w' => e = .returned (.bool b2) ∧ Below (w.alloc (.cells #[.string a1] 9)).heap.size (w.alloc (.cells #[.string a1] 9)) w' :=
    conH_calls 101 #[.pointer (some ⟨w.heap.size, 0, none⟩)] (fits1 k a1) A0 c0 l0 b2 _ eg (Kd.C_alloc hr0 _) hlen hb2 (fun x r W2 hx hB => fits1_calls k a1 w.heap.size x r W2 (pw_cell_below hB c0') hx)
  clear h hb2 eg hlen hr0 hc0 c0'
  go_enter Try.func74, Try.ntmps74
  go_wp2_with (go_at_call 93; refine hcon.mono ?_; rintro e w2 ⟨rfl, hb⟩; have HB2 := Aside0.mk hb; clear hb)
  go_ret
  exact ⟨by simp, below_then (below_alloc (Below.refl _ _) _) (by simp) HB2.out⟩

/-! ### impl_Lock_fitting: function 69 -/
def impl_Lock_fitting.l0 : Nat → List (S75) → List ByteArray → Int → Int → Int → Int → Option (List ByteArray)
  | 0, _, _, _, _, _, _ => none
  | k + 1, x1, x5, x10, x11, x247000, x247001 => if x11 < x10 then ((impl_Lock_code.f k x247000 x247001 x11).bind fun t251 => ((impl_fits.f k x1 t251).bind fun t252 => (if t252 = true then (if x5.length < 8796093022208 then (impl_Lock_fitting.l0 k x1 (x5 ++ [t251]) x10 (wrap64 (x11 + 1)) x247000 x247001) else (none)) else (impl_Lock_fitting.l0 k x1 x5 x10 (wrap64 (x11 + 1)) x247000 x247001)))) else (some x5)
def impl_Lock_fitting.f (k : Nat) (a0_0 : Int) (a0_1 : Int) (l1 : List (S75)) : Option (List ByteArray) := (impl_Lock_count.f k a0_0 a0_1).bind fun t250 => (impl_Lock_fitting.l0 k l1 (([] : List ByteArray)) t250 0 a0_0 a0_1)
theorem impl_Lock_fitting.mono_l : ∀ k, (∀ y0 y1 y2 y3 y4 y5, LeO (impl_Lock_fitting.l0 k y0 y1 y2 y3 y4 y5) (impl_Lock_fitting.l0 (k + 1) y0 y1 y2 y3 y4 y5))
  | 0 => fun _ _ _ _ _ _ r h => by simp [impl_Lock_fitting.l0] at h
  | k + 1 => by
    have ih0 := impl_Lock_fitting.mono_l k
    · intro y0 y1 y2 y3 y4 y5
      unfold impl_Lock_fitting.l0
      repeat' first
      | (with_reducible exact ih0 _ _ _ _ _ _)
      | (with_reducible exact impl_Lock_code.mono _ _ _ _)
      | (with_reducible exact impl_Lock_count.mono _ _ _)
      | (with_reducible exact impl_fits.mono _ _ _)
      | (with_reducible exact LeO.refl _)
      | (with_reducible exact LeO.none _)
      | (with_reducible refine LeO.ite ?_ ?_)
      | (with_reducible refine LeO.bind ?_ (fun _ => ?_))
      | exact ih0 _ _ _ _ _ _
      | exact impl_Lock_code.mono _ _ _ _
      | exact impl_Lock_count.mono _ _ _
      | exact impl_fits.mono _ _ _
      | exact LeO.none _
      | refine LeO.ite ?_ ?_
      | refine LeO.bind ?_ (fun _ => ?_)
theorem impl_Lock_fitting.mono : ∀ a0 a1 a2 k, LeO (impl_Lock_fitting.f k a0 a1 a2) (impl_Lock_fitting.f (k + 1) a0 a1 a2) := by
  intro a0 a1 a2 k
  have ih0 := impl_Lock_fitting.mono_l k
  unfold impl_Lock_fitting.f
  repeat' first
      | (with_reducible exact ih0 _ _ _ _ _ _)
      | (with_reducible exact impl_Lock_code.mono _ _ _ _)
      | (with_reducible exact impl_Lock_count.mono _ _ _)
      | (with_reducible exact impl_fits.mono _ _ _)
      | (with_reducible exact LeO.refl _)
      | (with_reducible exact LeO.none _)
      | (with_reducible refine LeO.ite ?_ ?_)
      | (with_reducible refine LeO.bind ?_ (fun _ => ?_))
      | exact ih0 _ _ _ _ _ _
      | exact impl_Lock_code.mono _ _ _ _
      | exact impl_Lock_count.mono _ _ _
      | exact impl_fits.mono _ _ _
      | exact LeO.none _
      | refine LeO.ite ?_ ?_
      | refine LeO.bind ?_ (fun _ => ?_)
set_option maxHeartbeats 8000000 in
set_option maxRecDepth 100000 in
theorem impl_Lock_fitting.calls (k : Nat) (a0_0 : Int) (a0_1 : Int) (A1 : Option Addr) (c1 : Nat) (l1 : List (S75)) (r : List ByteArray) (w : World) (hr1 : Kd.C k75 w A1 l1.length l1) (hc1 : l1.length ≤ c1) (h : impl_Lock_fitting.f k a0_0 a0_1 l1 = some r) :
    Calls Try.prog 69 #[.agg #[.int .i64 a0_0, .int .i64 a0_1], .slice A1 l1.length c1] w fun e w' => ∃ v0_ : Value, e = .returned (v0_) ∧ Kd.R Kd.string 9 w' w.heap.size (fun _ => True) v0_ r ∧ Below w.heap.size w w' := by
  have hu26 := Try.underlying26
  have HR1 := Aside0.mk hr1
  have HC1 := Aside0.mk hc1
  clear hr1 hc1
  have HB := Aside0.mk (Below.refl w.heap.size w)
  have H : ((impl_Lock_count.f k a0_0 a0_1).bind fun t250 => (impl_Lock_fitting.l0 k l1 (([] : List ByteArray)) t250 0 a0_0 a0_1)) = some r := h
  clear h
  obtain ⟨y247, hy247⟩ : ∃ y_ : List ByteArray, y_ = (([] : List ByteArray)) := ⟨_, rfl⟩
  replace H : ((impl_Lock_count.f k a0_0 a0_1).bind fun t250 => (impl_Lock_fitting.l0 k l1 y247 t250 0 a0_0 a0_1)) = some r := by first | (rw [hy247]; with_reducible exact H) | (have H2_ := (Option.bind_some _ _).symm.trans H; rw [hy247]; with_reducible exact H2_) | (have H2_ := (Option.bind_some _ _).symm.trans H; with_reducible exact H2_) | with_reducible exact H | (rw [hy247]; exact H) | exact H
  have Ny247 := Aside0.mk hy247
  clear hy247
  replace H := Option.bind_eq_some_iff.mp H
  obtain ⟨t250, A30, H⟩ := H
  replace H : (impl_Lock_fitting.l0 k l1 y247 t250 0 a0_0 a0_1) = some r := H
  have A3 := Aside0.mk A30
  clear A30
  have H' := Aside0.mk H
  clear H
  go_enter Try.func69, Try.ntmps69
  go_wp2_with (first | ((with_reducible refine gate_dst (N := 2) rfl ?_); refine box_event ?hg (N := 2) ?hd (cs := #[.int .i64 a0_0, .int .i64 a0_1]) (t := 26) ?hr ?_; (case hd => rfl); (case hg => rfl); (case hr => first | (go_simp; done) | (go_simp; rfl)); intro gb246 hg w4 hbox hb; have n0_ := Aside0.mk (below_step (by repeat (first | (with_reducible first | exact HB.out | apply below_alloc | apply pw_below_drewN | apply below_drew1) | exact HB.out)) hb); have n1_ := Aside0.mk (hbox); have n2_ := Aside0.mk ((by rw [hg]; exact (below_size (by repeat (first | (with_reducible first | exact HB.out | apply below_alloc | apply pw_below_drewN | apply below_drew1) | exact HB.out))) : w.heap.size ≤ gb246)); have n3_ := Aside0.mk ((by rw [hg]; exact (below_size (by repeat (first | (with_reducible first | exact HB.out | apply below_alloc | apply pw_below_drewN | apply below_drew1) | exact HB.out))) : w.heap.size ≤ gb246)); clear HB; have HB := n0_; have BK246 := n1_; have GW246 := n2_; have GE246 := n3_; clear n0_ n1_ n2_ n3_; clear hb hbox hg) | ((with_reducible refine gate_dst (N := 8) rfl ?_); refine Kd.R_lit Kd.string _ 9 ?hg (N := 8) ?hd (xs := ([] : List ByteArray)) (inner := []) (ok := fun _ => True) (okp := fun _ => True) ?hr ?hp (fun _ hk => hk) trivial (Below.refl _ _) (Nat.le_refl _) (by simp) ?_; (case hd => rfl); (case hg => rfl); (case hr => first | (go_simp; done) | (go_simp; rfl)); (case hp => exact (Reps.none _ _)); intro v248 w5 ho6 hb hg_ hnew_; clear hg_ hnew_; (first | rw [← Ny247.out] at ho6 | (simp only [Int.reduceToNat] at ho6; rw [← Ny247.out] at ho6)); have n0_ := Aside0.mk (Kd.R_lower ho6 (below_size (by repeat (first | (with_reducible first | exact HB.out | apply below_alloc | apply pw_below_drewN | apply below_drew1 | refine below_set ?_ GE246.out) | exact HB.out)))); have n1_ := Aside0.mk (blk_below (g := gb246) (o := .cells #[.int .i64 a0_0, .int .i64 a0_1] 26 (0, 0)) (by (with_reducible repeat (first | refine blk_drewN ?_ _ | refine blk_drew ?_ | refine blk_alloc ?_ _)); exact BK246.out) hb); have n2_ := Aside0.mk (below_step (by repeat (first | (with_reducible first | exact HB.out | apply below_alloc | apply pw_below_drewN | apply below_drew1 | refine below_set ?_ GE246.out) | exact HB.out)) hb); clear BK246; clear HB; have HO249 := n0_; have BK246 := n1_; have HB := n2_; clear n0_ n1_ n2_; clear hb ho6; have hcz7_0 : w5.cell? ⟨gb246, 0, none⟩ = some (.int .i64 a0_0) := (blk_cell BK246.out 0).trans rfl; have hcz7_1 : w5.cell? ⟨gb246, 1, none⟩ = some (.int .i64 a0_1) := (blk_cell BK246.out 1).trans rfl; have hfz7_0 := blk_frozen BK246.out 0; have hfz7_1 := blk_frozen BK246.out 1) | ((with_reducible refine gate_callee (f := 98) rfl ?_); refine goesL_ (some 10) rfl rfl Try.func98 (by kernel_rfl) rfl #[.agg #[.int .i64 a0_0, .int .i64 a0_1]] rfl (by (try simp only [List.map_toArray, List.map_cons, List.map_nil]); first | done | rfl | (simp only [List.length_drop, List.length_take]; rfl)) ?_; (with_reducible refine (impl_Lock_count.calls k a0_0 a0_1 t250 _ A3.out).mono ?_); rintro e w8 ⟨rfl, hb⟩; refine ⟨_, rfl, ?_⟩; have n0_ := Aside0.mk (Kd.R_below (by (with_reducible repeat (first | apply Kd.R_alloc | apply Kd.R_drewN | apply Kd.R_drew)); exact HO249.out) hb); have n1_ := Aside0.mk (blk_below (g := gb246) (o := .cells #[.int .i64 a0_0, .int .i64 a0_1] 26 (0, 0)) (by (with_reducible repeat (first | refine blk_drewN ?_ _ | refine blk_drew ?_ | refine blk_alloc ?_ _)); exact BK246.out) hb); have n2_ := Aside0.mk (below_step (by repeat (first | (with_reducible first | exact HB.out | apply below_alloc | apply pw_below_drewN | apply below_drew1 | refine below_set ?_ GE246.out) | exact HB.out)) hb); clear HO249; clear BK246; clear HB; have HO249 := n0_; have BK246 := n1_; have HB := n2_; clear n0_ n1_ n2_; (try clear hb); (try clear hb2); (try clear hk); (try clear hi)))
  go_loopg [5, 11] k (fun kq v5 v11 w' => ∃ (x5_1 : List ByteArray) (x11_1 : Int), v11 = .int .i64 x11_1 ∧ Aside0 (impl_Lock_fitting.l0 kq l1 x5_1 t250 x11_1 a0_0 a0_1 = some r) ∧ Aside0 (kq ≤ k) ∧ Aside0 (Kd.R Kd.string 9 w' w.heap.size (fun _ => True) v5 x5_1) ∧ Aside0 (w'.heap[gb246]? = some (.cells #[.int .i64 a0_0, .int .i64 a0_1] 26 (0, 0))) ∧ Aside0 (Below w.heap.size w w'))
  case atStart => exact ⟨(y247), (0), (by first | rfl | (simp; done) | (simp [*]; done)), H', ⟨Nat.le_refl _⟩, ⟨by (with_reducible repeat (first | apply Kd.R_alloc | apply Kd.R_drewN | apply Kd.R_drew)); exact HO249.out⟩, ⟨by (with_reducible repeat (first | refine blk_drewN ?_ _ | refine blk_drew ?_ | refine blk_alloc ?_ _)); exact BK246.out⟩, ⟨by repeat (first | (with_reducible first | exact HB.out | apply below_alloc | apply pw_below_drewN | apply below_drew1 | refine below_set ?_ GE246.out) | exact HB.out)⟩⟩
  case round =>
    clear H'
    try clear c1
    try clear p2
    try clear c6
    try clear hcz7_0
    try clear hcz7_1
    try clear hfz7_0
    try clear hfz7_1
    obtain ⟨x5_1, x11_1, rfl, HA, HK1, HO_5, BK246, HB⟩ := hrel
    cases gk with
    | zero => exact absurd HA.out (by simp [impl_Lock_fitting.l0])
    | succ k1 =>
      have H := HA.out
      clear HA
      simp only [impl_Lock_fitting.l0] at H
      by_cases c9 : x11_1 < t250
      · rw [if_pos c9] at H
        have c9b0 : decide (x11_1 < t250) = true := decide_eq_true c9
        clear c9
        replace H := Option.bind_eq_some_iff.mp H
        obtain ⟨t251, A100, H⟩ := H
        replace H : ((impl_fits.f k1 l1 t251).bind fun t252 => (if t252 = true then (if x5_1.length < 8796093022208 then (impl_Lock_fitting.l0 k1 l1 (x5_1 ++ [t251]) t250 (wrap64 (x11_1 + 1)) a0_0 a0_1) else (none)) else (impl_Lock_fitting.l0 k1 l1 x5_1 t250 (wrap64 (x11_1 + 1)) a0_0 a0_1))) = some r := H
        have A10 := Aside0.mk A100
        clear A100
        replace H := Option.bind_eq_some_iff.mp H
        obtain ⟨t252, A110, H⟩ := H
        replace H : (if t252 = true then (if x5_1.length < 8796093022208 then (impl_Lock_fitting.l0 k1 l1 (x5_1 ++ [t251]) t250 (wrap64 (x11_1 + 1)) a0_0 a0_1) else (none)) else (impl_Lock_fitting.l0 k1 l1 x5_1 t250 (wrap64 (x11_1 + 1)) a0_0 a0_1)) = some r := H
        have A11 := Aside0.mk A110
        clear A110
        by_cases c12 : t252 = true
        · subst c12
          have H1 : (if x5_1.length < 8796093022208 then (impl_Lock_fitting.l0 k1 l1 (x5_1 ++ [t251]) t250 (wrap64 (x11_1 + 1)) a0_0 a0_1) else (none)) = some r := by rw [if_pos rfl] at H; exact H
          clear H
          have H := H1
          clear H1
          by_cases c13 : x5_1.length < 8796093022208
          · rw [if_pos c13] at H
            have LMc13 := Aside0.mk c13
            clear c13
            obtain ⟨y253, hy253⟩ : ∃ y_ : List ByteArray, y_ = (x5_1 ++ [t251]) := ⟨_, rfl⟩
            replace H : (impl_Lock_fitting.l0 k1 l1 y253 t250 (wrap64 (x11_1 + 1)) a0_0 a0_1) = some r := by first | (rw [hy253]; with_reducible exact H) | (have H2_ := (Option.bind_some _ _).symm.trans H; rw [hy253]; with_reducible exact H2_) | (have H2_ := (Option.bind_some _ _).symm.trans H; with_reducible exact H2_) | with_reducible exact H | (rw [hy253]; exact H) | exact H
            have Ny253 := Aside0.mk hy253
            clear hy253
            have H' := Aside0.mk H
            clear H
            have hcz14_0 : wr.cell? ⟨gb246, 0, none⟩ = some (.int .i64 a0_0) := (blk_cell BK246.out 0).trans rfl
            have hcz14_1 : wr.cell? ⟨gb246, 1, none⟩ = some (.int .i64 a0_1) := (blk_cell BK246.out 1).trans rfl
            have hfz14_0 := blk_frozen BK246.out 0
            have hfz14_1 := blk_frozen BK246.out 1
            go_wp2_with (first | ((with_reducible refine gate_callee (f := 70) rfl ?_); refine goesL_ (some 16) rfl rfl Try.func70 (by kernel_rfl) rfl #[.agg #[.int .i64 a0_0, .int .i64 a0_1], .int .i64 x11_1] rfl (by (try simp only [List.map_toArray, List.map_cons, List.map_nil]); first | done | rfl | (simp only [List.length_drop, List.length_take]; rfl)) ?_; (with_reducible refine (impl_Lock_code.calls k1 a0_0 a0_1 x11_1 t251 _ A10.out).mono ?_); rintro e w15 ⟨rfl, hb⟩; refine ⟨_, rfl, ?_⟩; have n0_ := Aside0.mk (Kd.R_below (by (with_reducible repeat (first | apply Kd.R_alloc | apply Kd.R_drewN | apply Kd.R_drew)); exact HO_5.out) hb); have n1_ := Aside0.mk (blk_below (g := gb246) (o := .cells #[.int .i64 a0_0, .int .i64 a0_1] 26 (0, 0)) (by (with_reducible repeat (first | refine blk_drewN ?_ _ | refine blk_drew ?_ | refine blk_alloc ?_ _)); exact BK246.out) hb); have n2_ := Aside0.mk (below_step (by repeat (first | (with_reducible first | exact HB.out | apply below_alloc | apply pw_below_drewN | apply below_drew1 | refine below_set ?_ GE246.out) | exact HB.out)) hb); clear HO_5; clear BK246; clear HB; have HO_5 := n0_; have BK246 := n1_; have HB := n2_; clear n0_ n1_ n2_; (try clear hb); (try clear hb2); (try clear hk); (try clear hi)) | ((with_reducible refine gate_callee (f := 74) rfl ?_); refine goesL_ (some 19) rfl rfl Try.func74 (by kernel_rfl) rfl #[.slice A1 l1.length c1, .string t251] rfl (by (try simp only [List.map_toArray, List.map_cons, List.map_nil]); first | done | rfl | (simp only [List.length_drop, List.length_take]; rfl)) ?_; (with_reducible refine (impl_fits.calls k1 _ _ l1 t251 true _ ?side1 ?side2 A11.out).mono ?_); (case side1 => repeat (first | exact (Kd.C_below HR1.out HB.out) | (with_reducible refine Kd.C_alloc ?_ _) | (with_reducible refine Kd.C_drewN ?_ _) | (with_reducible refine Kd.C_drew ?_))); (case side2 => exact HC1.out); rintro e w16 ⟨rfl, hb⟩; refine ⟨_, rfl, ?_⟩; have n0_ := Aside0.mk (Kd.R_below (by (with_reducible repeat (first | apply Kd.R_alloc | apply Kd.R_drewN | apply Kd.R_drew)); exact HO_5.out) hb); have n1_ := Aside0.mk (blk_below (g := gb246) (o := .cells #[.int .i64 a0_0, .int .i64 a0_1] 26 (0, 0)) (by (with_reducible repeat (first | refine blk_drewN ?_ _ | refine blk_drew ?_ | refine blk_alloc ?_ _)); exact BK246.out) hb); have n2_ := Aside0.mk (below_step (by repeat (first | (with_reducible first | exact HB.out | apply below_alloc | apply pw_below_drewN | apply below_drew1 | refine below_set ?_ GE246.out) | exact HB.out)) hb); clear HO_5; clear BK246; clear HB; have HO_5 := n0_; have BK246 := n1_; have HB := n2_; clear n0_ n1_ n2_; (try clear hb); (try clear hb2); (try clear hk); (try clear hi)) | ((with_reducible refine gate_builtin (b := .append) (xs := #[.tmp 20, .tmp 22]) rfl ?_); at_builtin; refine Kd.R_append Kd.string (w0 := w) w.heap.size rfl (.tmp 20) (.tmp 22) 46 9 (.string ⟨#[]⟩) 16 rfl Try.underlying46 info9 rfl (by decide) (by omega) u5 x5_1 t251 [.string t251] (fun _ => True) (fun _ => False) rfl rfl ?aP (fun _ hk => hk.elim) ?aF ?aO ?aB ?aS ?aL ?_; (case aP => exact rfl); (case aB => exact (by repeat (first | (with_reducible first | exact HB.out | apply below_alloc | apply pw_below_drewN | apply below_drew1 | refine below_set ?_ GE246.out) | exact HB.out))); (case aF => exact (fun _ _ => trivial)); (case aO => exact (by (with_reducible repeat (first | apply Kd.R_alloc | apply Kd.R_drewN | apply Kd.R_drew)); exact HO_5.out)); (case aS => exact (below_size (by repeat (first | (with_reducible first | exact HB.out | apply below_alloc | apply pw_below_drewN | apply below_drew1 | refine below_set ?_ GE246.out) | exact HB.out)))); (case aL => have := LMc13.out; omega); intro v254 w17 ho hb hg hat; rw [← Ny253.out] at ho; have n0_ := Aside0.mk (blk_grown (g := gb246) (o := .cells #[.int .i64 a0_0, .int .i64 a0_1] 26 (0, 0)) (by (with_reducible repeat (first | refine blk_drewN ?_ _ | refine blk_drew ?_ | refine blk_alloc ?_ _)); exact BK246.out) hg (Kd.R_ne HO_5.out BK246.out (by decide))); have n1_ := Aside0.mk (hb); have n2_ := Aside0.mk (ho); clear BK246; clear HB; clear HO_5; have BK246 := n0_; have HB := n1_; have HO255 := n2_; clear n0_ n1_ n2_; clear ho hb hg hat))
            go_roundg k1
            case measure => have := HK1.out; omega
            case rel => exact ⟨(y253), (wrap64 (x11_1 + 1)), (by first | rfl | (simp; done) | (simp [*]; done)), H', ⟨by have := HK1.out; omega⟩, ⟨by (with_reducible repeat (first | apply Kd.R_alloc | apply Kd.R_drewN | apply Kd.R_drew)); exact HO255.out⟩, ⟨by (with_reducible repeat (first | refine blk_drewN ?_ _ | refine blk_drew ?_ | refine blk_alloc ?_ _)); exact BK246.out⟩, ⟨by repeat (first | (with_reducible first | exact HB.out | apply below_alloc | apply pw_below_drewN | apply below_drew1 | refine below_set ?_ GE246.out) | exact HB.out)⟩⟩
          · rw [if_neg c13] at H
            exact absurd H (by simp)
        · replace c12 := Bool.eq_false_iff.mpr c12
          subst c12
          have H1 : (impl_Lock_fitting.l0 k1 l1 x5_1 t250 (wrap64 (x11_1 + 1)) a0_0 a0_1) = some r := by rw [if_neg (show ¬ (false = true) by decide)] at H; exact H
          clear H
          have H := H1
          clear H1
          have H' := Aside0.mk H
          clear H
          have hcz18_0 : wr.cell? ⟨gb246, 0, none⟩ = some (.int .i64 a0_0) := (blk_cell BK246.out 0).trans rfl
          have hcz18_1 : wr.cell? ⟨gb246, 1, none⟩ = some (.int .i64 a0_1) := (blk_cell BK246.out 1).trans rfl
          have hfz18_0 := blk_frozen BK246.out 0
          have hfz18_1 := blk_frozen BK246.out 1
          go_wp2_with (first | ((with_reducible refine gate_callee (f := 70) rfl ?_); refine goesL_ (some 16) rfl rfl Try.func70 (by kernel_rfl) rfl #[.agg #[.int .i64 a0_0, .int .i64 a0_1], .int .i64 x11_1] rfl (by (try simp only [List.map_toArray, List.map_cons, List.map_nil]); first | done | rfl | (simp only [List.length_drop, List.length_take]; rfl)) ?_; (with_reducible refine (impl_Lock_code.calls k1 a0_0 a0_1 x11_1 t251 _ A10.out).mono ?_); rintro e w19 ⟨rfl, hb⟩; refine ⟨_, rfl, ?_⟩; have n0_ := Aside0.mk (Kd.R_below (by (with_reducible repeat (first | apply Kd.R_alloc | apply Kd.R_drewN | apply Kd.R_drew)); exact HO_5.out) hb); have n1_ := Aside0.mk (blk_below (g := gb246) (o := .cells #[.int .i64 a0_0, .int .i64 a0_1] 26 (0, 0)) (by (with_reducible repeat (first | refine blk_drewN ?_ _ | refine blk_drew ?_ | refine blk_alloc ?_ _)); exact BK246.out) hb); have n2_ := Aside0.mk (below_step (by repeat (first | (with_reducible first | exact HB.out | apply below_alloc | apply pw_below_drewN | apply below_drew1 | refine below_set ?_ GE246.out) | exact HB.out)) hb); clear HO_5; clear BK246; clear HB; have HO_5 := n0_; have BK246 := n1_; have HB := n2_; clear n0_ n1_ n2_; (try clear hb); (try clear hb2); (try clear hk); (try clear hi)) | ((with_reducible refine gate_callee (f := 74) rfl ?_); refine goesL_ (some 19) rfl rfl Try.func74 (by kernel_rfl) rfl #[.slice A1 l1.length c1, .string t251] rfl (by (try simp only [List.map_toArray, List.map_cons, List.map_nil]); first | done | rfl | (simp only [List.length_drop, List.length_take]; rfl)) ?_; (with_reducible refine (impl_fits.calls k1 _ _ l1 t251 false _ ?side1 ?side2 A11.out).mono ?_); (case side1 => repeat (first | exact (Kd.C_below HR1.out HB.out) | (with_reducible refine Kd.C_alloc ?_ _) | (with_reducible refine Kd.C_drewN ?_ _) | (with_reducible refine Kd.C_drew ?_))); (case side2 => exact HC1.out); rintro e w20 ⟨rfl, hb⟩; refine ⟨_, rfl, ?_⟩; have n0_ := Aside0.mk (Kd.R_below (by (with_reducible repeat (first | apply Kd.R_alloc | apply Kd.R_drewN | apply Kd.R_drew)); exact HO_5.out) hb); have n1_ := Aside0.mk (blk_below (g := gb246) (o := .cells #[.int .i64 a0_0, .int .i64 a0_1] 26 (0, 0)) (by (with_reducible repeat (first | refine blk_drewN ?_ _ | refine blk_drew ?_ | refine blk_alloc ?_ _)); exact BK246.out) hb); have n2_ := Aside0.mk (below_step (by repeat (first | (with_reducible first | exact HB.out | apply below_alloc | apply pw_below_drewN | apply below_drew1 | refine below_set ?_ GE246.out) | exact HB.out)) hb); clear HO_5; clear BK246; clear HB; have HO_5 := n0_; have BK246 := n1_; have HB := n2_; clear n0_ n1_ n2_; (try clear hb); (try clear hb2); (try clear hk); (try clear hi)))
          go_roundg k1
          case measure => have := HK1.out; omega
          case rel => exact ⟨(x5_1), (wrap64 (x11_1 + 1)), (by first | rfl | (simp; done) | (simp [*]; done)), H', ⟨by have := HK1.out; omega⟩, ⟨by (with_reducible repeat (first | apply Kd.R_alloc | apply Kd.R_drewN | apply Kd.R_drew)); exact HO_5.out⟩, ⟨by (with_reducible repeat (first | refine blk_drewN ?_ _ | refine blk_drew ?_ | refine blk_alloc ?_ _)); exact BK246.out⟩, ⟨by repeat (first | (with_reducible first | exact HB.out | apply below_alloc | apply pw_below_drewN | apply below_drew1 | refine below_set ?_ GE246.out) | exact HB.out)⟩⟩
      · rw [if_neg c9] at H
        have c9b0 : decide (x11_1 < t250) = false := decide_eq_false c9
        clear c9
        obtain rfl := Option.some.inj H
        go_wp2
        go_ret
        exact ⟨_, by first | rfl | (simp [errW_none, errW_some] <;> rfl) | (simp [*, errW_none, errW_some] <;> rfl), by (with_reducible repeat (first | apply Kd.R_alloc | apply Kd.R_drewN | apply Kd.R_drew)); exact HO_5.out, by repeat (first | (with_reducible first | exact HB.out | apply below_alloc | apply pw_below_drewN | apply below_drew1 | refine below_set ?_ GE246.out) | exact HB.out)⟩

/-! ### impl_Hint_82: function 82 -/
set_option maxHeartbeats 4000000 in
set_option maxRecDepth 100000 in
theorem cloneH_calls (A0 : Option Addr) (c0 : Nat) (l0 : List S75) (w : World) (hr0 : Kd.C k75 w A0 l0.length l0) (hlen : l0.length ≤ 1000) :
    Calls Try.prog 82 #[.slice A0 l0.length c0] w fun e w' => ∃ v0_ : Value, e = .returned (v0_) ∧ Kd.R k75 75 w' w.heap.size (fun _ => True) v0_ l0 ∧ Below w.heap.size w w' := by
  have hu33 := Try.underlying33
  have hin75 : (Try.prog.info? 75).map (fun i => (i.zero, i.size, i.bytes)) = some (some (.agg #[(.string ⟨#[]⟩), (.int .i64 0), (.int .i64 0)]), 3, 32) := by kernel_rfl
  have HIN := Aside0.mk hin75
  have HC := Aside0.mk hr0
  have HL := Aside0.mk hlen
  clear hin75 hr0 hlen
  cases A0 with
  | none =>
    have h0 : l0 = [] := by
      cases l0 with
      | nil => rfl
      | cons y ys =>
        obtain ⟨ad, e, _⟩ := at_T75 HC.out 0 (by omega) (by simp)
        exact absurd e (by simp)
    subst h0
    rw [List.length_nil]
    have hnil : ∀ W, (binOp .eql 33 (.slice none 0 c0) (.slice none 0 0)).run Try.prog W = .ok (.bool true) W := fun W => Lib.run_eql_slice_nil W _ _ none _ _ 0 0 hu33
    go_enter Try.func82, Try.ntmps82
    go_wp2
    go_ret
    exact ⟨_, rfl, Kd.R_nil _ _ _ _ _, Below.refl _ _⟩
  | some ad =>
    have hnil : ∀ W, (binOp .eql 33 (.slice (some ad) l0.length c0) (.slice none 0 0)).run Try.prog W = .ok (.bool false) W := fun W => Lib.run_eql_slice_nil W _ _ (some ad) _ _ 0 0 hu33
    have HO : Aside0 (Kd.R k75 75 (w.alloc (.cells #[] 75)) w.heap.size (fun _ => True) (.slice (some ⟨w.heap.size, 0, none⟩) 0 0) []) := ⟨hw_R_lit k75 w 75 w.heap.size w.heap.size (xs := []) (inner := []) (okp := fun _ => False) rfl (Reps.none _ _) (fun _ hk => hk.elim) trivial (Nat.le_refl _) (by simp)⟩
    go_enter Try.func82, Try.ntmps82
    go_wp2_with ((with_reducible refine gate_builtin (b := .append) (xs := #[.tmp 5, .tmp 6]) rfl ?_); at_builtin; refine Kd.R_append_rows k75 (Rr := k75.K (w.alloc (.cells #[] 75))) (w0 := w) w.heap.size rfl (.tmp 5) (.tmp 6) 33 75 (.agg #[(.string ⟨#[]⟩), (.int .i64 0), (.int .i64 0)]) 32 rfl Try.underlying33 HIN.out rfl (by decide) (by omega) (.slice (some ⟨w.heap.size, 0, none⟩) 0 0) [] l0 (some ad) l0.length c0 (fun _ => True) (fun _ => False) rfl rfl HO.out (Kd.C_alloc HC.out _) (fun x cs h => by rw [k75_open h]; exact k75_mkM _ _ _ x) (fun _ hk => hk.elim) (fun _ _ => trivial) (below_alloc (Below.refl _ _) _) (by simp only [World.size_alloc]; omega) (by have := HL.out; simp only [List.length_nil]; omega) ?_; intro v1 w1 ho hb hg hat; have HO1 := Aside0.mk ho; have HB1 := Aside0.mk hb; clear ho hb hg hat)
    go_ret
    exact ⟨_, rfl, HO1.out, HB1.out⟩


/-! ### impl_Hint_81: function 81 -/
theorem R_beyond {α : Type} {d : Kd α} {e base g m c : Nat} {ok : Nat → Prop} {W : World} {xs : List α} (h : d.R e W base ok (.slice (some ⟨g, 0, none⟩) m c) xs) (o : Nat) (ho : m * d.sz ≤ o) (v : Value) :
    d.R e (W.setCell ⟨g, o, none⟩ v) base ok (.slice (some ⟨g, 0, none⟩) m c) xs := by
  have hm := (Kd.R_reads' h).1
  obtain ⟨h0, inner, hown, hr⟩ := h
  obtain ⟨hl, hcase⟩ := hown
  rcases hcase with ⟨hv, _⟩ | ⟨g', cap, cur, hv, hb, hg, h1, h2, h3, h4⟩
  · exact absurd hv (by simp)
  · obtain ⟨rfl, _, rfl⟩ : g = g' ∧ m = xs.length ∧ c = cap := by simpa using hv
    refine ⟨h0, inner, ⟨hl, .inr ⟨g, c, cur.setIfInBounds o v, by rw [hm], hb, blk_set hg o v, h1, h2, by simpa using h3, ?_⟩⟩, hr.imp_ (fun p q hp => d.M_move (fun k' hk' => Below.heap_setCell W ⟨g, o, none⟩ v k' (fun he => hk'.2 (by rw [he]; rfl))) hp)⟩
    rw [Array.toList_setIfInBounds, List.take_set_of_le (by rw [← hm]; exact ho)]
    exact h4
theorem R_room {α : Type} {d : Kd α} {e base g m c : Nat} {ok : Nat → Prop} {W : World} {xs : List α} (h : d.R e W base ok (.slice (some ⟨g, 0, none⟩) m c) xs) (o : Nat) (ho : o < c * d.sz) :
    (W.cell? ⟨g, o, none⟩).isSome = true ∧ W.frozen? ⟨g, o, none⟩ = false := by
  obtain ⟨h0, inner, hown, hr⟩ := h
  obtain ⟨hl, hcase⟩ := hown
  rcases hcase with ⟨hv, _⟩ | ⟨g', cap, cur, hv, hb, hg, h1, h2, h3, h4⟩
  · exact absurd hv (by simp)
  · obtain ⟨rfl, _, rfl⟩ : g = g' ∧ m = xs.length ∧ c = cap := by simpa using hv
    refine ⟨?_, blk_frozen hg o⟩
    rw [blk_cell hg o, Array.getElem?_eq_getElem (by omega)]
    rfl
theorem clearH_run (w : World) (b o c : Nat) (ty : TypeId) (hc : ∀ j, j < 3 → (w.cell? ⟨b, o + j, none⟩).isSome = true) (hf : ∀ j, j < 3 → w.frozen? ⟨b, o + j, none⟩ = false) :
    (Builtin.clear_ #[33] ty #[.slice (some ⟨b, o, none⟩) 1 c]).run Try.prog w = .ok (.tuple #[]) (w.setCells b o [.string ⟨#[]⟩, .int .i64 0, .int .i64 0]) := by
  have hv : ∀ w, (zeroValue 75).run Try.prog w = .ok (.agg #[.string ⟨#[]⟩, .int .i64 0, .int .i64 0]) w := fun w => by kernel_rfl
  have hzc : (Builtin.zeroCells (Value.agg #[.string ⟨#[]⟩, .int .i64 0, .int .i64 0]).cells 1).toList = [.string ⟨#[]⟩, .int .i64 0, .int .i64 0] := by kernel_rfl
  have hst := run_storeCells_cells (P := Try.prog) b o [.string ⟨#[]⟩, .int .i64 0, .int .i64 0] 0 w (by simpa using hc) (by simpa using hf) (by intro v hv'; simp at hv'; rcases hv' with rfl | rfl | rfl <;> rfl)
  simp only [Nat.add_zero] at hst
  simp [Builtin.clear_, run_underlying Try.underlying33, hv, hzc, hst]
set_option maxHeartbeats 4000000 in
set_option maxRecDepth 100000 in
theorem delH_calls (g n c i : Nat) (x y : Int) (hx : x = (i : Int)) (hy : y = ((i + 1 : Nat) : Int)) (ok : Nat → Prop) (l : List S75) (w0 w : World)
    (hr : Kd.R k75 75 w w0.heap.size ok (.slice (some ⟨g, 0, none⟩) n c) l) (hi : i < n) (hn : n ≤ 1000) (hB : Below w0.heap.size w0 w) (hg : w0.heap.size ≤ g) :
    Calls Try.prog 81 #[.slice (some ⟨g, 0, none⟩) n c, .int .i64 x, .int .i64 y] w fun e w' => e = .returned (.slice (some ⟨g, 0, none⟩) (n - 1) c) ∧ Kd.R k75 75 w' w0.heap.size ok (.slice (some ⟨g, 0, none⟩) (n - 1) c) (l.eraseIdx i) ∧ Below w0.heap.size w0 w' := by
  have hbase := hB.size
  obtain ⟨q, rfl⟩ : ∃ q, n = q + 1 := ⟨n - 1, by omega⟩
  have hu33 := Try.underlying33
  have hin75 : (Try.prog.info? 75).map (fun i => (i.zero, i.size, i.bytes)) = some (some (.agg #[(.string ⟨#[]⟩), (.int .i64 0), (.int .i64 0)]), 3, 32) := by kernel_rfl
  obtain ⟨i0, hi0, _, hsz, _⟩ := info_parts hin75
  obtain ⟨hnl, hnc, _⟩ := Kd.R_reads' hr
  have hrd := Kd.R_drew hr
  obtain ⟨A, hA⟩ : ∃ A, A = (if c = i + 1 then some (⟨g, 0, none⟩ : Addr) else (some (⟨g, 0, none⟩ : Addr)).map (·.add ((i + 1) * 3))) := ⟨_, rfl⟩
  have HIN := Aside0.mk hin75
  have hinfo : (Try.prog.info? 75).map (·.size) = some (k75).sz := by rw [hi0]; exact congrArg some hsz
  have hA' : A = (if c = i + 1 then some (⟨g, 0, none⟩ : Addr) else some ⟨g, (i + 1) * 3, none⟩) := by
    rw [hA]
    split
    · rfl
    · simp [Addr.add]
  have HINFO := Aside0.mk hinfo
  have HRD := Aside0.mk hrd
  have HBD := Aside0.mk (below_drew hB)
  have hxy : (x == y) = false := beq_eq_false_iff_ne.mpr (by omega)
  have p0 : 0 ≤ x := by omega
  have p1 : x ≤ y := by omega
  have p2 : y ≤ ((q + 1 : Nat) : Int) := by omega
  have p3 : (q : Int) + 1 ≤ (c : Int) := by omega
  have hic : i ≤ c := by omega
  have q0 : (0 : Int) ≤ (i : Int) + 1 := by omega
  have q1 : (i : Int) + 1 ≤ (q : Int) + 1 := by omega
  have q2 : (q : Int) ≤ (c : Int) := by omega
  have q3 : (c = q) = False := eq_false (by omega)
  have q4 : (q : Int) ≤ (q : Int) + 1 := by omega
  have HG := Aside0.mk hg
  have HNC := Aside0.mk hnc
  clear hr hrd hB hnl hin75 hinfo hg
  have HA := Aside0.mk hA
  have HA' := Aside0.mk hA'
  clear hA hA'
  go_enter Try.func81, Try.ntmps81
  go_wp2
  go_region_law (refine Kd.R_delete_step k75 (w0 := w0) w0.heap.size rfl (.tmp 22) (.tmp 25) 33 75 rfl hu33 HINFO.out (g := g) (n := q + 1) (c := c) (k := i) (m := q + 1 - (i + 1)) (c2 := c - (i + 1)) (A := if c = i + 1 then some (⟨g, 0, none⟩ : Addr) else some ⟨g, (i + 1) * 3, none⟩) (by first | rfl | simp [Act.eval, Act.put]) (by first | rfl | simp [Act.eval, Act.put]) (by rw [← HA'.out, HA.out]; rfl) rfl HRD.out hi HBD.out (by simpa using hbase) ?_; intro w2 hr2 hb2 hg2; have HR2 := Aside0.mk hr2; have HB2 := Aside0.mk hb2; clear hr2 hb2 hg2)
  have hroom : ∀ j, j < 3 → (w2.cell? ⟨g, q * 3 + j, none⟩).isSome = true ∧ w2.frozen? ⟨g, q * 3 + j, none⟩ = false := fun j hj => R_room HR2.out (q * 3 + j) (by have := HNC.out; show q * 3 + j < c * 3; omega)
  have hcl := fun ty => clearH_run w2 g (q * 3) (c - q) ty (fun j hj => (hroom j hj).1) (fun j hj => (hroom j hj).2)
  have hR3 := R_beyond (R_beyond (R_beyond HR2.out (q * 3) (by show (q + 1 - 1) * 3 ≤ _; omega) (.string ⟨#[]⟩)) (q * 3 + 1) (by show (q + 1 - 1) * 3 ≤ _; omega) (.int .i64 0)) (q * 3 + 1 + 1) (by show (q + 1 - 1) * 3 ≤ _; omega) (.int .i64 0)
  have hB3 := below_set (j := q * 3 + 1 + 1) (v := .int .i64 0) (below_set (j := q * 3 + 1) (v := .int .i64 0) (below_set (j := q * 3) (v := .string ⟨#[]⟩) HB2.out HG.out) HG.out) HG.out
  have HR3 := Aside0.mk hR3
  have HB3 := Aside0.mk hB3
  clear hroom hR3 hB3
  go_wp2
  all_goals (go_ret; first | exact ⟨rfl, HR3.out, HB3.out⟩ | (have hce : c = i + 1 := (by assumption); exact ⟨rfl, by rw [← hce]; exact HR3.out, HB3.out⟩))


/-! ### impl_NeedlessHints: function 45 -/
def ndlF (k : Nat) (a b : Int) (l : List S75) (n : Nat) (acc : List Int) (i : Nat) : Option (List Int) :=
  (impl_Lock_fitting.f k a b (l.eraseIdx i)).bind fun u => some (if u.length = n then acc ++ [(i : Int)] else acc)
def impl_NeedlessHints.f (k : Nat) (a b : Int) (l : List S75) : Option (List Int × Bool) :=
  (impl_areHints.f k a b l).bind fun t => if t = true then
    (if l.length ≤ 1000 then (impl_Lock_fitting.f k a b l).bind fun u => (foldO (ndlF k a b l u.length) [] (List.range l.length)).map fun x => (x, true) else none)
  else some ([], false)
theorem impl_NeedlessHints.mono : ∀ a b l k, LeO (impl_NeedlessHints.f k a b l) (impl_NeedlessHints.f (k + 1) a b l) := fun a b l k =>
  LeO.bind (impl_areHints.mono _ _ _ _) (fun t => LeO.ite (LeO.ite (LeO.bind (impl_Lock_fitting.mono _ _ _ _) (fun u => LeO.map _ (foldO_mono (fun s x => LeO.bind (impl_Lock_fitting.mono _ _ _ _) (fun _ => LeO.refl _)) _ _))) (LeO.refl _)) (LeO.refl _))
set_option maxHeartbeats 8000000 in
set_option maxRecDepth 100000 in
theorem impl_NeedlessHints.calls (k : Nat) (a b : Int) (A1 : Option Addr) (c1 : Nat) (l1 : List S75) (r : List Int) (r2 : Bool) (w : World) (hr1 : Kd.C k75 w A1 l1.length l1) (hc1 : l1.length ≤ c1) (h : impl_NeedlessHints.f k a b l1 = some (r, r2)) :
    Calls Try.prog 45 #[.agg #[.int .i64 a, .int .i64 b], .slice A1 l1.length c1] w fun e w' => ∃ v0_ : Value, e = .returned (.tuple #[v0_, .bool r2]) ∧ Kd.R (Kd.int .i64) 3 w' w.heap.size (fun _ => True) v0_ r ∧ Below w.heap.size w w' := by
  have hu26 := Try.underlying26
  have hu56 := Try.underlying56
  unfold impl_NeedlessHints.f at h
  obtain ⟨t, ht, h⟩ := Option.bind_eq_some_iff.mp h
  have hare : ∀ W, Kd.C k75 W A1 l1.length l1 → Calls Try.prog 62 #[.agg #[.int .i64 a, .int .i64 b], .slice A1 l1.length c1] W fun e w' => e = .returned (.bool t) ∧ Below W.heap.size W w' := fun W hc => impl_areHints.calls k a b A1 c1 l1 t W hc hc1 ht
  have HC := Aside0.mk (Kd.C_alloc hr1 (.cells #[.int .i64 a, .int .i64 b] 26))
  obtain ⟨W1, hW1⟩ : ∃ W1, W1 = w.alloc (.cells #[.int .i64 a, .int .i64 b] 26) := ⟨_, rfl⟩
  have HBX : Aside0 (W1.heap[w.heap.size]? = some (.cells #[.int .i64 a, .int .i64 b] 26 (0, 0))) := ⟨by rw [hW1]; exact blk_new w _⟩
  have HB0 : Aside0 (Below w.heap.size w W1) := ⟨by rw [hW1]; exact below_alloc (Below.refl _ _) _⟩
  rw [← hW1] at HC
  have HW1 := Aside0.mk hW1
  have HC1 := Aside0.mk hc1
  clear ht hr1 hW1 hc1
  cases t with
  | false =>
    rw [if_neg (by decide)] at h
    obtain ⟨rfl, rfl⟩ : [] = r ∧ false = r2 := by simpa using h
    clear h
    go_enter Try.func45, Try.ntmps45
    go_wp2_with (go_at_call 62; rw [← HW1.out]; refine (hare _ HC.out).mono ?_; rintro e w1 ⟨rfl, hb⟩; have HB := Aside0.mk hb; clear hb)
    go_ret2
    exact ⟨_, rfl, Kd.R_nil _ _ _ _ _, below_then HB0.out HB0.out.size HB.out⟩
  | true =>
  rw [if_pos rfl] at h
  by_cases hlen : l1.length ≤ 1000
  case neg => rw [if_neg hlen] at h; exact absurd h (by simp)
  rw [if_pos hlen] at h
  obtain ⟨u, hu, h⟩ := Option.bind_eq_some_iff.mp h
  obtain ⟨x9, hx, h⟩ := Option.map_eq_some_iff.mp h
  obtain ⟨h1, h2⟩ : x9 = r ∧ true = r2 := by simpa using h
  subst h1 h2
  have hfit : ∀ W, Kd.C k75 W A1 l1.length l1 → Calls Try.prog 69 #[.agg #[.int .i64 a, .int .i64 b], .slice A1 l1.length c1] W fun e w' => ∃ v0_ : Value, e = .returned v0_ ∧ Kd.R Kd.string 9 w' W.heap.size (fun _ => True) v0_ u ∧ Below W.heap.size W w' := fun W hc => impl_Lock_fitting.calls k a b A1 c1 l1 u W hc HC1.out hu
  have HX := Aside0.mk hx
  have HL := Aside0.mk hlen
  have M1 := Aside0.mk trivial
  clear h hu hx hlen
  go_enter Try.func45, Try.ntmps45
  go_wp2_with (first
    | (go_at_call 62; rw [← HW1.out]; refine (hare _ HC.out).mono ?_; rintro e w1 ⟨rfl, hb⟩; have HB := Aside0.mk (below_then HB0.out HB0.out.size hb); have HB1 := Aside0.mk hb; have hc0 : w1.cell? ⟨w.heap.size, 0, none⟩ = some (.int .i64 a) := (blk_cell (blk_below HBX.out hb) 0).trans rfl; have hc1 : w1.cell? ⟨w.heap.size, 1, none⟩ = some (.int .i64 b) := (blk_cell (blk_below HBX.out hb) 1).trans rfl; clear hb)
    | (go_at_call 69; refine (hfit _ (Kd.C_below HC.out HB1.out)).mono ?_; rintro e w2 ⟨vu, rfl, hr, hb⟩; obtain ⟨Au, cu, eu⟩ := Kd.R_slice hr; subst eu; have n0 := Aside0.mk (below_then HB.out HB.out.size hb); have n1 := Aside0.mk (below_then HB1.out HB1.out.size hb); clear HB HB1 hb hr hc0 hc1; have HB := n0; have HB1 := n1; clear n0 n1))
  clear hare hfit M1
  have HO0 : Aside0 (Kd.R (Kd.int .i64) 3 (w2.alloc (.cells #[] 3)) W1.heap.size (fun _ => True) (.slice (some ⟨w2.heap.size, 0, none⟩) 0 0) []) := ⟨hw_R_lit0 w2 3 W1.heap.size (fun _ => True) HB1.out.size trivial⟩
  have n1 := Aside0.mk (below_alloc HB1.out (.cells #[] 3))
  clear HB1 HB
  have HB1 := n1
  clear n1
  obtain ⟨W3, hW3⟩ : ∃ W3, W3 = w2.alloc (.cells #[] 3) := ⟨_, rfl⟩
  rw [← hW3] at HO0 HB1 ⊢
  clear hW3
  have HIN3 := Aside0.mk info3
  go_loopg [7, 20] l1.length (fun gg v7 v20 wr => ∃ (i : Nat) (acc : List Int), v20 = .int .i64 (i : Int) ∧ i ≤ l1.length ∧ l1.length - i ≤ gg ∧ Aside0 (foldO (ndlF k a b l1 u.length) acc ((List.range l1.length).drop i) = some x9) ∧ Aside0 (acc.length ≤ i) ∧ Aside0 (Kd.R (Kd.int .i64) 3 wr W1.heap.size (fun _ => True) v7 acc) ∧ Aside0 (Below W1.heap.size W1 wr))
  case atStart => exact ⟨0, [], rfl, by omega, by omega, by simpa using HX, ⟨Nat.le_refl _⟩, HO0, HB1⟩
  case round =>
    clear HX HO0 HB1
    obtain ⟨i, acc, rfl, hi, hg, HP, HAL, HO, HB1⟩ := hrel
    obtain ⟨x, hx⟩ : ∃ x : Int, x = (i : Int) := ⟨_, rfl⟩
    have HXI := Aside0.mk hx
    rw [← hx]
    by_cases hlt : i < l1.length
    · have hxlt : decide (x < (l1.length : Int)) = true := decide_eq_true (by omega)
      have H := HP.out
      rw [List.drop_eq_getElem_cons (by simpa using hlt), List.getElem_range, foldO] at H
      obtain ⟨acc2, hst, H⟩ := Option.bind_eq_some_iff.mp H
      unfold ndlF at hst
      obtain ⟨u2, hu2, hst⟩ := Option.bind_eq_some_iff.mp hst
      have hlE : (l1.eraseIdx i).length = l1.length - 1 := List.length_eraseIdx_of_lt hlt
      have hfit2 : ∀ (A : Option Addr) (c : Nat) (W : World), Kd.C k75 W A (l1.length - 1) (l1.eraseIdx i) → l1.length - 1 ≤ c → Calls Try.prog 69 #[.agg #[.int .i64 a, .int .i64 b], .slice A (l1.length - 1) c] W fun e w' => ∃ v0_ : Value, e = .returned v0_ ∧ Kd.R Kd.string 9 w' W.heap.size (fun _ => True) v0_ u2 ∧ Below W.heap.size W w' := by
        intro A c W hc hcp
        rw [← hlE] at hc hcp ⊢
        exact impl_Lock_fitting.calls k a b A c _ u2 W hc hcp hu2
      have HST := Aside0.mk (Option.some.inj hst)
      have HP2 := Aside0.mk H
      have HIL := Aside0.mk hlt
      have HG := Aside0.mk hg
      have HI := Aside0.mk hi
      have hpos : 0 < l1.length := by omega
      have HPOS := Aside0.mk hpos
      have hw1 : IntKind.i64.wrap (x + 1) = x + 1 := by have := HL.out; simp [IntKind.wrap, IntKind.bits, IntKind.signed]; omega
      have hw2 : wrap64 (x + 1) = x + 1 := by have := HL.out; unfold wrap64; omega
      obtain ⟨A7, c7, e7⟩ := Kd.R_slice HO.out
      subst e7
      have hc0 : wr.cell? ⟨w.heap.size, 0, none⟩ = some (.int .i64 a) := (blk_cell (blk_below HBX.out HB1.out) 0).trans rfl
      have hc1 : wr.cell? ⟨w.heap.size, 1, none⟩ = some (.int .i64 b) := (blk_cell (blk_below HBX.out HB1.out) 1).trans rfl
      clear H HP hst hu2 hlE hlt hg hi hx hpos
      by_cases hq : u2.length = u.length
      · have hq1 : ((u2.length : Int) == (u.length : Int)) = true := by simp [hq]
        have hq2 : (u2.length == u.length) = true := by simp [hq]
        have HE : Aside0 (acc ++ [x] = acc2) := ⟨by have := HST.out; rw [if_pos hq, ← HXI.out] at this; exact this⟩
        clear hq HST
        go_wp2
        go_region_held3 (fun w' => w'.cell? ⟨w.heap.size, 0, none⟩ = some (.int .i64 a) ∧ w'.cell? ⟨w.heap.size, 1, none⟩ = some (.int .i64 b)) (first | go_keep | exact ⟨hd0, hd1⟩ | exact ⟨he0, he1⟩ | exact ⟨hf0, hf1⟩) (first | (go_at_call 82; refine (cloneH_calls A1 c1 l1 _ ?hc HL.out).mono ?_; (case hc => exact Kd.C_below HC.out (below_drew HB1.out)); rintro e w3 ⟨v0, rfl, hr, hb⟩; have hb3 : Below wr.heap.size wr w3 := below_then (below_drew (Below.refl _ _)) (Nat.le_refl _) hb; obtain ⟨g, cp, ev, hge, _, _⟩ := Kd.R_form hr HPOS.out; subst ev; have HR3 := Aside0.mk hr; have HB3 := Aside0.mk hb3; have HGE := Aside0.mk (show wr.heap.size ≤ g from hge); have hd0 : w3.cell? ⟨w.heap.size, 0, none⟩ = some (.int .i64 a) := (blk_cell (blk_below HBX.out (below_then HB1.out HB1.out.size hb3)) 0).trans rfl; have hd1 : w3.cell? ⟨w.heap.size, 1, none⟩ = some (.int .i64 b) := (blk_cell (blk_below HBX.out (below_then HB1.out HB1.out.size hb3)) 1).trans rfl; clear hr hb hb3 hge) | (go_at_call 81; refine (delH_calls g l1.length cp i x (x + 1) HXI.out (by have := HXI.out; omega) (fun _ => True) l1 wr w3 HR3.out HIL.out HL.out HB3.out HGE.out).mono ?_; rintro e w4 ⟨rfl, hr, hb⟩; have HR4 := Aside0.mk hr; have HB4 := Aside0.mk hb; have he0 : w4.cell? ⟨w.heap.size, 0, none⟩ = some (.int .i64 a) := (blk_cell (blk_below HBX.out (below_then HB1.out HB1.out.size hb)) 0).trans rfl; have he1 : w4.cell? ⟨w.heap.size, 1, none⟩ = some (.int .i64 b) := (blk_cell (blk_below HBX.out (below_then HB1.out HB1.out.size hb)) 1).trans rfl; clear hr hb HR3 HB3) | (go_at_call 69; refine (hfit2 _ _ _ ?hc ?hcp).mono ?_; (case hc => rw [(Kd.R_reads' HR4.out).1]; exact (Kd.R_reads' HR4.out).2.2); (case hcp => exact (Kd.R_reads' HR4.out).2.1); rintro e w5 ⟨vu, rfl, hr, hb⟩; obtain ⟨A5, c5, e5⟩ := Kd.R_slice hr; subst e5; have HB5 := Aside0.mk (below_then HB4.out HB4.out.size hb); have hf0 : w5.cell? ⟨w.heap.size, 0, none⟩ = some (.int .i64 a) := (blk_cell (blk_below HBX.out (below_then HB1.out HB1.out.size (below_then HB4.out HB4.out.size hb))) 0).trans rfl; have hf1 : w5.cell? ⟨w.heap.size, 1, none⟩ = some (.int .i64 b) := (blk_cell (blk_below HBX.out (below_then HB1.out HB1.out.size (below_then HB4.out HB4.out.size hb))) 1).trans rfl; clear hr hb HR4 HB4))
        go_wp2_with ((with_reducible refine gate_builtin (b := .append) (xs := #[.tmp 34, .tmp 36]) rfl ?_); at_builtin; refine Kd.R_append (Kd.int .i64) (w0 := W1) W1.heap.size rfl (.tmp 34) (.tmp 36) 56 3 (.int .i64 0) 8 rfl Try.underlying56 HIN3.out rfl (by decide) (by omega) (.slice A7 acc.length c7) acc x [.int .i64 x] (fun _ => True) (fun _ => False) rfl rfl ?aP (fun _ hk => hk.elim) ?aF ?aO ?aB ?aS ?aL ?_; (case aP => exact rfl); (case aB => exact below_then HB1.out HB1.out.size HB5.out); (case aF => exact (fun _ _ => trivial)); (case aO => exact Kd.R_below HO.out HB5.out); (case aS => exact Nat.le_trans HB1.out.size HB5.out.size); (case aL => have := HAL.out; have := HI.out; have := HL.out; omega); intro v9 w9 ho hb hg hat; rw [HE.out] at ho; have HO9 := Aside0.mk ho; have HB9 := Aside0.mk hb; clear ho hb hg hat)
        go_roundg (l1.length - (i + 1))
        case measure => have := HG.out; have := HIL.out; omega
        case rel => exact ⟨i + 1, acc2, by rw [HXI.out]; rfl, by have := HIL.out; omega, Nat.le_refl _, HP2, ⟨by rw [← HE.out]; have := HAL.out; simp; omega⟩, HO9, HB9⟩
      · have hq1 : ((u2.length : Int) == (u.length : Int)) = false := by simp; omega
        have hq2 : (u2.length == u.length) = false := by simp [hq]
        have HE : Aside0 (acc = acc2) := ⟨by have := HST.out; rw [if_neg hq] at this; exact this⟩
        clear hq HST
        go_wp2
        go_region_held3 (fun w' => w'.cell? ⟨w.heap.size, 0, none⟩ = some (.int .i64 a) ∧ w'.cell? ⟨w.heap.size, 1, none⟩ = some (.int .i64 b)) (first | go_keep | exact ⟨hd0, hd1⟩ | exact ⟨he0, he1⟩ | exact ⟨hf0, hf1⟩) (first | (go_at_call 82; refine (cloneH_calls A1 c1 l1 _ ?hc HL.out).mono ?_; (case hc => exact Kd.C_below HC.out (below_drew HB1.out)); rintro e w3 ⟨v0, rfl, hr, hb⟩; have hb3 : Below wr.heap.size wr w3 := below_then (below_drew (Below.refl _ _)) (Nat.le_refl _) hb; obtain ⟨g, cp, ev, hge, _, _⟩ := Kd.R_form hr HPOS.out; subst ev; have HR3 := Aside0.mk hr; have HB3 := Aside0.mk hb3; have HGE := Aside0.mk (show wr.heap.size ≤ g from hge); have hd0 : w3.cell? ⟨w.heap.size, 0, none⟩ = some (.int .i64 a) := (blk_cell (blk_below HBX.out (below_then HB1.out HB1.out.size hb3)) 0).trans rfl; have hd1 : w3.cell? ⟨w.heap.size, 1, none⟩ = some (.int .i64 b) := (blk_cell (blk_below HBX.out (below_then HB1.out HB1.out.size hb3)) 1).trans rfl; clear hr hb hb3 hge) | (go_at_call 81; refine (delH_calls g l1.length cp i x (x + 1) HXI.out (by have := HXI.out; omega) (fun _ => True) l1 wr w3 HR3.out HIL.out HL.out HB3.out HGE.out).mono ?_; rintro e w4 ⟨rfl, hr, hb⟩; have HR4 := Aside0.mk hr; have HB4 := Aside0.mk hb; have he0 : w4.cell? ⟨w.heap.size, 0, none⟩ = some (.int .i64 a) := (blk_cell (blk_below HBX.out (below_then HB1.out HB1.out.size hb)) 0).trans rfl; have he1 : w4.cell? ⟨w.heap.size, 1, none⟩ = some (.int .i64 b) := (blk_cell (blk_below HBX.out (below_then HB1.out HB1.out.size hb)) 1).trans rfl; clear hr hb HR3 HB3) | (go_at_call 69; refine (hfit2 _ _ _ ?hc ?hcp).mono ?_; (case hc => rw [(Kd.R_reads' HR4.out).1]; exact (Kd.R_reads' HR4.out).2.2); (case hcp => exact (Kd.R_reads' HR4.out).2.1); rintro e w5 ⟨vu, rfl, hr, hb⟩; obtain ⟨A5, c5, e5⟩ := Kd.R_slice hr; subst e5; have HB5 := Aside0.mk (below_then HB4.out HB4.out.size hb); have hf0 : w5.cell? ⟨w.heap.size, 0, none⟩ = some (.int .i64 a) := (blk_cell (blk_below HBX.out (below_then HB1.out HB1.out.size (below_then HB4.out HB4.out.size hb))) 0).trans rfl; have hf1 : w5.cell? ⟨w.heap.size, 1, none⟩ = some (.int .i64 b) := (blk_cell (blk_below HBX.out (below_then HB1.out HB1.out.size (below_then HB4.out HB4.out.size hb))) 1).trans rfl; clear hr hb HR4 HB4))
        go_wp2
        go_roundg (l1.length - (i + 1))
        case measure => have := HG.out; have := HIL.out; omega
        case rel => exact ⟨i + 1, acc2, by rw [HXI.out]; rfl, by have := HIL.out; omega, Nat.le_refl _, HP2, ⟨by rw [← HE.out]; have := HAL.out; omega⟩, ⟨by rw [← HE.out]; exact Kd.R_below HO.out HB5.out⟩, ⟨below_then HB1.out HB1.out.size HB5.out⟩⟩
    · have hde : i = l1.length := by omega
      have hxlt : decide (x < (l1.length : Int)) = false := decide_eq_false (by omega)
      have he : acc = x9 := by
        have := HP.out
        rw [hde, List.drop_eq_nil_of_le (by simp), foldO] at this
        exact Option.some.inj this
      subst he
      clear hx hde hlt hi hg
      obtain ⟨A7, c7, e7⟩ := Kd.R_slice HO.out
      subst e7
      go_wp2
      go_ret2
      exact ⟨_, rfl, Kd.R_lower HO.out HB0.out.size, below_then HB0.out HB0.out.size HB1.out⟩

end Go.Proofs.Ythikcnbjfnkglaa.U
