-- Printed by hp.py, a program of this session: a machine's side of laws, out of the translation; Lean checks it.
import Derived.Test.YthikcnbjfnkglabTx0
import Derived.Test.YthikcnbjfnkglabTx6
namespace Go.Proofs.Ythikcnbjfnkglab.T
open Go.RowKit Go.Proofs.YthikcnbjfnkglabW.PrintWords Go.Proofs.YthikcnbjfnkglabW.PrintLast Go.Proofs.YthikcnbjfnkglabW.PrintMore
attribute [local go_sem] max2_int min2_int max_two min_two max_three min_three max_four min_four   -- for this text's walks alone
set_option linter.unusedVariables false
set_option linter.unusedSimpArgs false

/-! ### impl_digits: function 109 -/
def impl_digits.l0 : Nat → ByteArray → List Int → Int → Int → Option (List Int)
  | 0, _, _, _, _ => none
  | k + 1, x0, x3, x7, x8 => if x8 < x7 then (if 0 ≤ x8 then (if x8 < (x0.size : Int) then (if x3.length < 17592186044416 then (impl_digits.l0 k x0 (x3 ++ [((bt x0 x8) - 48) % 256]) x7 (wrap64 (x8 + 1))) else (none)) else (none)) else (none)) else (some x3)
def impl_digits.f (k : Nat) (a0 : ByteArray) : Option (List Int) := impl_digits.l0 k a0 (([] : List Int)) (a0.size : Int) 0
theorem impl_digits.mono_l : ∀ k, (∀ y0 y1 y2 y3, LeO (impl_digits.l0 k y0 y1 y2 y3) (impl_digits.l0 (k + 1) y0 y1 y2 y3))
  | 0 => fun _ _ _ _ r h => by simp [impl_digits.l0] at h
  | k + 1 => by
    have ih0 := impl_digits.mono_l k
    · intro y0 y1 y2 y3
      unfold impl_digits.l0
      repeat' first
      | (with_reducible exact ih0 _ _ _ _)
      | (with_reducible exact LeO.refl _)
      | (with_reducible exact LeO.none _)
      | (with_reducible refine LeO.ite ?_ ?_)
      | (with_reducible refine LeO.bind ?_ (fun _ => ?_))
      | exact ih0 _ _ _ _
      | exact LeO.none _
      | refine LeO.ite ?_ ?_
      | refine LeO.bind ?_ (fun _ => ?_)
theorem impl_digits.mono : ∀ a0 k, LeO (impl_digits.f k a0) (impl_digits.f (k + 1) a0) := by
  intro a0 k
  have ih0 := impl_digits.mono_l k
  unfold impl_digits.f
  repeat' first
      | (with_reducible exact ih0 _ _ _ _)
      | (with_reducible exact LeO.refl _)
      | (with_reducible exact LeO.none _)
      | (with_reducible refine LeO.ite ?_ ?_)
      | (with_reducible refine LeO.bind ?_ (fun _ => ?_))
      | exact ih0 _ _ _ _
      | exact LeO.none _
      | refine LeO.ite ?_ ?_
      | refine LeO.bind ?_ (fun _ => ?_)
set_option maxHeartbeats 8000000 in
set_option maxRecDepth 100000 in
theorem impl_digits.calls (k : Nat) (a0 : ByteArray) (r : List Int) (w : World) (h : impl_digits.f k a0 = some r) :
    Calls Try.prog 109 #[.string a0] w fun e w' => ∃ v0_ : Value, e = .returned (v0_) ∧ Kd.R (Kd.int .i64) 3 w' w.heap.size (fun _ => True) v0_ r ∧ Below w.heap.size w w' := by
  have HB := Aside0.mk (Below.refl w.heap.size w)
  have H : (impl_digits.l0 k a0 (([] : List Int)) (a0.size : Int) 0) = some r := h
  clear h
  obtain ⟨y229, hy229⟩ : ∃ y_ : List Int, y_ = (([] : List Int)) := ⟨_, rfl⟩
  replace H : (impl_digits.l0 k a0 y229 (a0.size : Int) 0) = some r := by first | (rw [hy229]; with_reducible exact H) | (have H2_ := (Option.bind_some _ _).symm.trans H; rw [hy229]; with_reducible exact H2_) | (have H2_ := (Option.bind_some _ _).symm.trans H; with_reducible exact H2_) | with_reducible exact H | (rw [hy229]; exact H) | exact H
  have Ny229 := Aside0.mk hy229
  clear hy229
  have H' := Aside0.mk H
  clear H
  go_enter Try.func109, Try.ntmps109
  go_wp2_with (first | ((with_reducible refine gate_dst (N := 5) rfl ?_); refine Kd.R_lit (Kd.int .i64) _ 3 ?hg (N := 5) ?hd (xs := ([] : List Int)) (inner := []) (ok := fun _ => True) (okp := fun _ => True) ?hr ?hp (fun _ hk => hk) trivial (Below.refl _ _) (Nat.le_refl _) (by simp) ?_; (case hd => rfl); (case hg => rfl); (case hr => first | (go_simp; done) | (go_simp; rfl)); (case hp => exact (Reps.none _ _)); intro v230 w2 ho3 hb hg_ hnew_; clear hg_ hnew_; (first | rw [← Ny229.out] at ho3 | (simp only [Int.reduceToNat] at ho3; rw [← Ny229.out] at ho3)); have n0_ := Aside0.mk (Kd.R_lower ho3 (below_size (by repeat (first | (with_reducible first | exact HB.out | apply below_alloc | apply pw_below_drewN | apply below_drew1) | exact HB.out)))); have n1_ := Aside0.mk (below_step (by repeat (first | (with_reducible first | exact HB.out | apply below_alloc | apply pw_below_drewN | apply below_drew1) | exact HB.out)) hb); clear HB; have HO231 := n0_; have HB := n1_; clear n0_ n1_; clear hb ho3))
  go_loopg [3, 8] k (fun kq v3 v8 w' => ∃ (x3_1 : List Int) (x8_1 : Int), v8 = .int .i64 x8_1 ∧ Aside0 (impl_digits.l0 kq a0 x3_1 (a0.size : Int) x8_1 = some r) ∧ Aside0 (kq ≤ k) ∧ Aside0 (Kd.R (Kd.int .i64) 3 w' w.heap.size (fun _ => True) v3 x3_1) ∧ Aside0 (Below w.heap.size w w'))
  case atStart => exact ⟨(y229), (0), (by first | rfl | (simp; done) | (simp [*]; done)), H', ⟨Nat.le_refl _⟩, ⟨by (with_reducible repeat (first | apply Kd.R_alloc | apply Kd.R_drewN | apply Kd.R_drew)); exact HO231.out⟩, ⟨by repeat (first | (with_reducible first | exact HB.out | apply below_alloc | apply pw_below_drewN | apply below_drew1) | exact HB.out)⟩⟩
  case round =>
    clear H'
    try clear c1
    try clear p2
    obtain ⟨x3_1, x8_1, rfl, HA, HK1, HO_3, HB⟩ := hrel
    cases gk with
    | zero => exact absurd HA.out (by simp [impl_digits.l0])
    | succ k1 =>
      have H := HA.out
      clear HA
      simp only [impl_digits.l0] at H
      by_cases c4 : x8_1 < (a0.size : Int)
      · rw [if_pos c4] at H
        have c4b0 : decide (x8_1 < (a0.size : Int)) = true := decide_eq_true c4
        clear c4
        by_cases c5 : 0 ≤ x8_1
        · rw [if_pos c5] at H
          have c5b0 : decide (0 ≤ x8_1) = true := decide_eq_true c5
          clear c5
          by_cases c6 : x8_1 < (a0.size : Int)
          · rw [if_pos c6] at H
            have c6b0 : decide (x8_1 < (a0.size : Int)) = true := decide_eq_true c6
            clear c6
            by_cases c8 : x3_1.length < 17592186044416
            · rw [if_pos c8] at H
              have LMc8 := Aside0.mk c8
              clear c8
              obtain ⟨y232, hy232⟩ : ∃ y_ : List Int, y_ = (x3_1 ++ [((bt a0 x8_1) - 48) % 256]) := ⟨_, rfl⟩
              replace H : (impl_digits.l0 k1 a0 y232 (a0.size : Int) (wrap64 (x8_1 + 1))) = some r := by first | (rw [hy232]; with_reducible exact H) | (have H2_ := (Option.bind_some _ _).symm.trans H; rw [hy232]; with_reducible exact H2_) | (have H2_ := (Option.bind_some _ _).symm.trans H; with_reducible exact H2_) | with_reducible exact H | (rw [hy232]; exact H) | exact H
              have Ny232 := Aside0.mk hy232
              clear hy232
              have H' := Aside0.mk H
              clear H
              have p7 : 0 ≤ (x8_1 : Int) := of_decide_eq_true (by first | (with_reducible assumption) | assumption)
              have q7 : x8_1 < (a0.size : Int) := of_decide_eq_true (by first | (with_reducible assumption) | assumption)
              have hx7 := bt_at a0 x8_1
              replace p7 := eq_true p7
              replace q7 := eq_true q7
              go_wp2_with (first | ((with_reducible refine gate_builtin (b := .append) (xs := #[.tmp 11, .tmp 17]) rfl ?_); at_builtin; refine Kd.R_append (Kd.int .i64) (w0 := w) w.heap.size rfl (.tmp 11) (.tmp 17) 61 3 (.int .i64 0) 8 rfl Try.underlying61 info3 rfl (by decide) (by omega) u3 x3_1 (((bt a0 x8_1) - 48) % 256) [.int .i64 (((bt a0 x8_1) - 48) % 256)] (fun _ => True) (fun _ => False) rfl rfl ?aP (fun _ hk => hk.elim) ?aF ?aO ?aB ?aS ?aL ?_; (case aP => exact rfl); (case aB => exact (by repeat (first | (with_reducible first | exact HB.out | apply below_alloc | apply pw_below_drewN | apply below_drew1) | exact HB.out))); (case aF => exact (fun _ _ => trivial)); (case aO => exact (by (with_reducible repeat (first | apply Kd.R_alloc | apply Kd.R_drewN | apply Kd.R_drew)); exact HO_3.out)); (case aS => exact (below_size (by repeat (first | (with_reducible first | exact HB.out | apply below_alloc | apply pw_below_drewN | apply below_drew1) | exact HB.out)))); (case aL => have := LMc8.out; omega); intro v233 w9 ho hb hg hat; rw [← Ny232.out] at ho; have n0_ := Aside0.mk (hb); have n1_ := Aside0.mk (ho); clear HB; clear HO_3; have HB := n0_; have HO234 := n1_; clear n0_ n1_; clear ho hb hg hat))
              go_roundg k1
              case measure => have := HK1.out; omega
              case rel => exact ⟨(y232), (wrap64 (x8_1 + 1)), (by first | rfl | (simp; done) | (simp [*]; done)), H', ⟨by have := HK1.out; omega⟩, ⟨by (with_reducible repeat (first | apply Kd.R_alloc | apply Kd.R_drewN | apply Kd.R_drew)); exact HO234.out⟩, ⟨by repeat (first | (with_reducible first | exact HB.out | apply below_alloc | apply pw_below_drewN | apply below_drew1) | exact HB.out)⟩⟩
            · rw [if_neg c8] at H
              exact absurd H (by simp)
          · rw [if_neg c6] at H
            exact absurd H (by simp)
        · rw [if_neg c5] at H
          exact absurd H (by simp)
      · rw [if_neg c4] at H
        have c4b0 : decide (x8_1 < (a0.size : Int)) = false := decide_eq_false c4
        clear c4
        obtain rfl := Option.some.inj H
        go_wp2
        go_ret
        exact ⟨_, by first | rfl | (simp [errW_none, errW_some] <;> rfl) | (simp [*, errW_none, errW_some] <;> rfl), by (with_reducible repeat (first | apply Kd.R_alloc | apply Kd.R_drewN | apply Kd.R_drew)); exact HO_3.out, by repeat (first | (with_reducible first | exact HB.out | apply below_alloc | apply pw_below_drewN | apply below_drew1) | exact HB.out)⟩

/-! ### impl_hint: function 80 -/
/-- The first loop of impl.hint: over the digits of the code. -/
def hintL1 (g c : ByteArray) : List Int → Int → Int → List Int → Option (Int × List Int)
  | [], _, p, u => some (p, u)
  | d :: ds, i, p, u => if (0 ≤ i ∧ i < g.size ∧ i < c.size) ∧ (0 ≤ d ∧ d < 10) ∧ (0 ≤ p ∧ p ≤ 100000) ∧ 0 ≤ rd u d ∧ rd u d ≤ 100000 then hintL1 g c ds (i + 1) (if bt g i = bt c i then p + 1 else p) (u.set d.toNat (rd u d + 1)) else none
/-- The second one: over those of the guess. -/
def hintL2 : List Int → Int → List Int → Option Int
  | [], cm, _ => some cm
  | d :: ds, cm, u => if (0 ≤ d ∧ d < 10) ∧ (0 ≤ cm ∧ cm ≤ 100000) ∧ 0 ≤ rd u d ∧ rd u d ≤ 100000 then (if 0 < rd u d then hintL2 ds (cm + 1) (u.set d.toNat (rd u d - 1)) else hintL2 ds cm u) else none
def impl_hint.f (k : Nat) (g c : ByteArray) : Option (Int × Int) :=
  (impl_digits.f k c).bind fun dc => (impl_digits.f k g).bind fun dg => if dc.length ≤ 1000 ∧ dg.length ≤ 1000 then (hintL1 g c dc 0 0 (List.replicate 10 0)).bind fun pu => (hintL2 dg 0 pu.2).bind fun cm => if 0 ≤ pu.1 ∧ pu.1 ≤ 200000 ∧ 0 ≤ cm ∧ cm ≤ 200000 then some (pu.1, cm - pu.1) else none else none
theorem impl_hint.mono : ∀ a0 a1 k, LeO (impl_hint.f k a0 a1) (impl_hint.f (k + 1) a0 a1) := by
  intro a0 a1 k
  unfold impl_hint.f
  exact LeO.bind (impl_digits.mono _ _) (fun _ => LeO.bind (impl_digits.mono _ _) (fun _ => LeO.refl _))
structure hintInv (w W : World) (B : Nat) (u : List Int) : Prop where
  bel : Below w.heap.size w W
  len : u.length = 10
  cells : ∀ d : Nat, d < 10 → W.cell? ⟨B, d, none⟩ = some (.int .i64 (rd u (d : Int))) ∧ W.frozen? ⟨B, d, none⟩ = false
theorem hintInv.grow {w W W' : World} {B : Nat} {u : List Int} (h : hintInv w W B u) (hb : Below W.heap.size W W') : hintInv w W' B u :=
  ⟨h.bel.trans (hb.mono h.bel.size), h.len, fun d hd => ⟨pw_cell_below hb (h.cells d hd).1, (hb.frozen (p := ⟨B, d, none⟩) (World.block_lt_of_cell? W ⟨B, d, none⟩ (h.cells d hd).1)).trans (h.cells d hd).2⟩⟩
theorem hintInv.drew {w W : World} {B : Nat} {u : List Int} (h : hintInv w W B u) (q : Nat) : hintInv w (W.drewN q) B u := h.grow (pw_below_drewN (Below.refl _ _) q)
theorem hintInv.set {w W : World} {B : Nat} {u : List Int} (h : hintInv w W B u) (hB : w.heap.size ≤ B) (d : Nat) (hd : d < 10) (x : Int) : hintInv w (W.setCell ⟨B, d, none⟩ (.int .i64 x)) B (u.set d x) := by
  refine ⟨below_set h.bel hB, by rw [List.length_set]; exact h.len, fun j hj => ⟨?_, by rw [World.frozen?_setCell]; exact (h.cells j hj).2⟩⟩
  by_cases e : d = j
  · subst e
    rw [World.cell?_setCell_same _ _ _ (h.cells d hd).1]
    have : rd (u.set d x) (d : Int) = x := by simp [rd, List.getD, h.len, hd]
    rw [this]
  · rw [World.cell?_setCell_other _ _ _ _ (fun h2 => e (congrArg Addr.off h2)), (h.cells j hj).1]
    have : rd (u.set d x) (j : Int) = rd u (j : Int) := by simp [rd, List.getD, List.getElem?_set_ne e]
    rw [this]
set_option maxHeartbeats 8000000 in
set_option maxRecDepth 100000 in
theorem impl_hint.calls (k : Nat) (a0 a1 : ByteArray) (r1 r2 : Int) (w : World) (h : impl_hint.f k a0 a1 = some (r1, r2)) :
    Calls Try.prog 80 #[.string a0, .string a1] w fun e w' => e = .returned (.tuple #[.int .i64 r1, .int .i64 r2]) ∧ Below w.heap.size w w' := by
  unfold impl_hint.f at h
  obtain ⟨dc, hdc, h⟩ := Option.bind_eq_some_iff.mp h
  obtain ⟨dg, hdg, h⟩ := Option.bind_eq_some_iff.mp h
  by_cases hL : dc.length ≤ 1000 ∧ dg.length ≤ 1000
  case neg => rw [if_neg hL] at h; exact absurd h (by simp)
  rw [if_pos hL] at h
  obtain ⟨⟨p, u⟩, h1, h⟩ := Option.bind_eq_some_iff.mp h
  obtain ⟨cm, h2, h⟩ := Option.bind_eq_some_iff.mp h
  simp only at h h2
  by_cases hP : 0 ≤ p ∧ p ≤ 200000 ∧ 0 ≤ cm ∧ cm ≤ 200000
  case neg => rw [if_neg hP] at h; exact absurd h (by simp)
  rw [if_pos hP] at h
  simp only [Option.some.injEq, Prod.mk.injEq] at h
  obtain ⟨rfl, rfl⟩ := h
  obtain ⟨hL1, hL2⟩ := hL
  have hcc : ∀ W, Calls Try.prog 109 #[.string a1] W _ := fun W => impl_digits.calls k a1 dc W hdc
  have hcg : ∀ W, Calls Try.prog 109 #[.string a0] W _ := fun W => impl_digits.calls k a0 dg W hdg
  have H1 := Aside0.mk h1
  have H2 := Aside0.mk h2
  have HP := Aside0.mk hP
  have HHC := Aside0.mk hcg
  clear hdc hdg h1 h2 hP hcg
  go_enter Try.func80, Try.ntmps80
  go_wp2_with (go_at_call 109; refine (hcc _).mono ?_; rintro e w1 ⟨v15, rfl, hr, hb⟩; obtain ⟨A15, c15, rfl⟩ := Kd.R_slice hr; have HR := Aside0.mk hr; have HB := Aside0.mk hb; clear hr hb)
  have hsz : w.heap.size + 1 ≤ w1.heap.size := by have := HB.out.size; rw [World.size_alloc] at this; exact this
  have HI : Aside0 (hintInv w w1 w.heap.size (List.replicate 10 0)) := by
    refine ⟨hintInv.grow (W := w.alloc _) ⟨below_alloc (Below.refl _ _) _, by simp, fun d hd => ?_⟩ HB.out⟩
    have hd2 : d = 0 ∨ d = 1 ∨ d = 2 ∨ d = 3 ∨ d = 4 ∨ d = 5 ∨ d = 6 ∨ d = 7 ∨ d = 8 ∨ d = 9 := by omega
    rcases hd2 with rfl | rfl | rfl | rfl | rfl | rfl | rfl | rfl | rfl | rfl <;> exact ⟨by simp [rd], by simp⟩
  have HR2 := Aside0.mk (Kd.R_mono (Kd.R_bound HR.out) (ok' := fun k => w.heap.size < k) (fun k hk => by have := hk.2.1; rw [World.size_alloc] at this; omega))
  obtain ⟨B0, hB0⟩ : ∃ B0, B0 = (w.alloc (Obj.cells #[Value.int .i64 0, .int .i64 0, .int .i64 0, .int .i64 0, .int .i64 0, .int .i64 0, .int .i64 0, .int .i64 0, .int .i64 0, .int .i64 0] 120)).heap.size := ⟨_, rfl⟩
  rw [← hB0] at HR2
  clear hB0 HR HB hcc
  go_loopg [6, 17] dc.length (fun gg v6 v17 wr => ∃ (i : Nat) (pl : Int) (us : List Int), v6 = .int .i64 pl ∧ v17 = .int .i64 (i : Int) ∧ i ≤ dc.length ∧ dc.length - i ≤ gg ∧ Aside0 (hintL1 a0 a1 (dc.drop i) (i : Int) pl us = some (p, u)) ∧ Aside0 (hintInv w wr w.heap.size us) ∧ Aside0 (Kd.R (Kd.int .i64) 3 wr B0 (fun k => w.heap.size < k) (.slice A15 dc.length c15) dc))
  case atStart => exact ⟨0, 0, List.replicate 10 0, rfl, rfl, by omega, by omega, H1, HI, HR2⟩
  case round =>
    clear H1 HI HR2 hsz
    obtain ⟨i, pl, us, rfl, rfl, hi, hgi, H1, HI, HR⟩ := hrel
    by_cases hlt : i < dc.length
    · have hltz : (i : Int) < (dc.length : Int) := by omega
      have h1 := H1.out
      clear H1
      rw [List.drop_eq_getElem_cons hlt, hintL1] at h1
      obtain ⟨ad, e1, hx⟩ := Kd.at_int (Kd.R_reads' HR.out).2.2 (i : Int) (by omega) hltz
      rw [Int.toNat_natCast, show rd dc (i : Int) = dc[i] by simp [rd, List.getD, hlt]] at hx
      generalize dc[i] = d at h1 hx
      by_cases hg : (0 ≤ (i : Int) ∧ (i : Int) < a0.size ∧ (i : Int) < a1.size) ∧ (0 ≤ d ∧ d < 10) ∧ (0 ≤ pl ∧ pl ≤ 100000) ∧ 0 ≤ rd us d ∧ rd us d ≤ 100000
      case neg => rw [if_neg hg] at h1; exact absurd h1 (by simp)
      rw [if_pos hg] at h1
      have HX1 := Aside0.mk h1
      obtain ⟨⟨p6, q6, q7⟩, ⟨hd0, hd1⟩, ⟨hp0, hp1⟩, hu0, hu1⟩ := hg
      obtain ⟨dn, rfl⟩ := Int.eq_ofNat_of_zero_le hd0
      have hdn : dn < 10 := by omega
      obtain ⟨hcell, hfr⟩ := HI.out.cells dn hdn
      have HS := Aside0.mk (HI.out.set (Nat.le_refl _) dn hdn (rd us (dn : Int) + 1))
      have HRs := Aside0.mk (Kd.R_far HR.out (p := ⟨w.heap.size, dn, none⟩) (fun k hk => by simp only; omega) (.int .i64 (rd us (dn : Int) + 1)))
      obtain ⟨g15, cp, e15, _⟩ := Kd.R_form HR.out (by omega)
      obtain ⟨rfl, rfl⟩ : A15 = some ⟨g15, 0, none⟩ ∧ c15 = cp := by injection e15 with a b c; exact ⟨a, c⟩
      have e2 : (⟨g15, 0, none⟩ : Addr) = ad := by injection e1
      subst e2
      rw [add_at, Nat.zero_add] at hx
      have hs0 : i < a0.size := by omega
      have hs1 : i < a1.size := by omega
      have eb0 : bt a0 (i : Int) = ((a0[i]'hs0).toNat : Int) := by unfold bt; simp [hs0]
      have eb1 : bt a1 (i : Int) = ((a1[i]'hs1).toNat : Int) := by unfold bt; simp [hs1]
      clear h1 e1 e15
      by_cases hc : bt a0 (i : Int) = bt a1 (i : Int)
      · have hcb : (((a0[i]'hs0).toNat : Int) == ((a1[i]'hs1).toNat : Int)) = true := by rw [eb0, eb1] at hc; simpa using hc
        rw [if_pos hc] at HX1
        clear hc eb0 eb1
        go_wp2
        go_quiet (fail)
        go_wp2
        go_roundg (dc.length - (i + 1))
        case measure => omega
        case rel => exact ⟨i + 1, _, us.set dn (rd us (dn : Int) + 1), rfl, by go_num, by omega, by omega, HX1, ⟨hintInv.drew HS.out nq⟩, ⟨by have := Kd.R_drewN HRs.out nq; exact this⟩⟩
      · have hcb : (((a0[i]'hs0).toNat : Int) == ((a1[i]'hs1).toNat : Int)) = false := by rw [eb0, eb1] at hc; simpa using hc
        rw [if_neg hc] at HX1
        clear hc eb0 eb1
        go_wp2
        go_quiet (fail)
        go_wp2
        go_roundg (dc.length - (i + 1))
        case measure => omega
        case rel => exact ⟨i + 1, _, us.set dn (rd us (dn : Int) + 1), rfl, by go_num, by omega, by omega, HX1, ⟨hintInv.drew HS.out nq⟩, ⟨by have := Kd.R_drewN HRs.out nq; exact this⟩⟩
    · obtain rfl : i = dc.length := by omega
      have hltz : ¬ (dc.length : Int) < (dc.length : Int) := by omega
      have h1 := H1.out
      rw [List.drop_length, hintL1] at h1
      simp only [Option.some.injEq, Prod.mk.injEq] at h1
      obtain ⟨rfl, rfl⟩ := h1
      obtain ⟨W1, hW1⟩ : ∃ W1, W1 = wr := ⟨_, rfl⟩
      rw [← hW1] at HI ⊢
      have hcg := HHC.out W1
      clear H1 HR hW1 HHC hgi hi
      go_wp2_with (go_at_call 109; refine hcg.mono ?_; rintro e w1 ⟨v38, rfl, hr, hb⟩; obtain ⟨A38, c38, rfl⟩ := Kd.R_slice hr; have HR := Aside0.mk hr; have HI2 := Aside0.mk (HI.out.grow hb); clear hr hb)
      have HR2 := Aside0.mk (Kd.R_mono (Kd.R_bound HR.out) (ok' := fun k => w.heap.size < k) (fun k hk => by have := hk.2.1; have h9 := HI.out.cells 0 (by omega); have := World.block_lt_of_cell? _ _ h9.1; simp only at this; omega))
      obtain ⟨B1, hB1⟩ : ∃ B1, B1 = W1.heap.size := ⟨_, rfl⟩
      rw [← hB1] at HR2
      clear hB1 HR HI
      go_loopg [7, 40] dg.length (fun gg v7 v40 wr => ∃ (i : Nat) (cn : Int) (vs : List Int), v7 = .int .i64 cn ∧ v40 = .int .i64 (i : Int) ∧ i ≤ dg.length ∧ dg.length - i ≤ gg ∧ Aside0 (hintL2 (dg.drop i) cn vs = some cm) ∧ Aside0 (hintInv w wr w.heap.size vs) ∧ Aside0 (Kd.R (Kd.int .i64) 3 wr B1 (fun k => w.heap.size < k) (.slice A38 dg.length c38) dg))
      case atStart => exact ⟨0, 0, us, rfl, rfl, by omega, by omega, H2, HI2, HR2⟩
      case round =>
        clear H2 HI2 HR2
        obtain ⟨i, cn, vs, rfl, rfl, hi, hgi, H1, HI, HR⟩ := hrel
        by_cases hlt : i < dg.length
        · have hltz : (i : Int) < (dg.length : Int) := by omega
          have h1 := H1.out
          clear H1
          rw [List.drop_eq_getElem_cons hlt, hintL2] at h1
          obtain ⟨ad, e1, hx⟩ := Kd.at_int (Kd.R_reads' HR.out).2.2 (i : Int) (by omega) hltz
          rw [Int.toNat_natCast, show rd dg (i : Int) = dg[i] by simp [rd, List.getD, hlt]] at hx
          generalize dg[i] = d at h1 hx
          by_cases hg : (0 ≤ d ∧ d < 10) ∧ (0 ≤ cn ∧ cn ≤ 100000) ∧ 0 ≤ rd vs d ∧ rd vs d ≤ 100000
          case neg => rw [if_neg hg] at h1; exact absurd h1 (by simp)
          rw [if_pos hg] at h1
          obtain ⟨⟨hd0, hd1⟩, ⟨hp0, hp1⟩, hu0, hu1⟩ := hg
          obtain ⟨dn, rfl⟩ := Int.eq_ofNat_of_zero_le hd0
          have hdn : dn < 10 := by omega
          obtain ⟨hcell, hfr⟩ := HI.out.cells dn hdn
          have HS := Aside0.mk (HI.out.set (Nat.le_refl _) dn hdn (rd vs (dn : Int) - 1))
          have HRs := Aside0.mk (Kd.R_far HR.out (p := ⟨w.heap.size, dn, none⟩) (fun k hk => by simp only; omega) (.int .i64 (rd vs (dn : Int) - 1)))
          obtain ⟨g38, cp, e38, _⟩ := Kd.R_form HR.out (by omega)
          obtain ⟨rfl, rfl⟩ : A38 = some ⟨g38, 0, none⟩ ∧ c38 = cp := by injection e38 with a b c; exact ⟨a, c⟩
          have e2 : (⟨g38, 0, none⟩ : Addr) = ad := by injection e1
          subst e2
          rw [add_at, Nat.zero_add] at hx
          clear e1 e38
          by_cases hc : 0 < rd vs (dn : Int)
          · rw [if_pos hc] at h1
            have HX1 := Aside0.mk h1
            clear h1
            go_wp2
            go_roundg (dg.length - (i + 1))
            case measure => omega
            case rel => exact ⟨i + 1, cn + 1, vs.set dn (rd vs (dn : Int) - 1), rfl, by go_num, by omega, by omega, HX1, HS, HRs⟩
          · rw [if_neg hc] at h1
            have HX1 := Aside0.mk h1
            clear h1
            go_wp2
            go_roundg (dg.length - (i + 1))
            case measure => omega
            case rel => exact ⟨i + 1, cn, vs, rfl, by go_num, by omega, by omega, HX1, HI, HR⟩
        · obtain rfl : i = dg.length := by omega
          have hltz : ¬ (dg.length : Int) < (dg.length : Int) := by omega
          have h1 := H1.out
          rw [List.drop_length, hintL2] at h1
          simp only [Option.some.injEq] at h1
          subst h1
          obtain ⟨hq1, hq2, hq3, hq4⟩ := HP.out
          clear H1 HR HP
          go_wp2
          go_ret2
          exact ⟨rfl, HI.out.bel⟩

/-! ### impl_fits_1: function 116 -/
def fits1 (k : Nat) (c : ByteArray) (x : S47) : Option Bool := (impl_hint.f k x.f0 c).map fun r => !decide (r.1 = x.f1 ∧ r.2 = x.f2)
set_option maxHeartbeats 4000000 in
set_option maxRecDepth 100000 in
theorem fits1_calls (k : Nat) (c : ByteArray) (B : Nat) (x : S47) (r : Bool) (w : World) (hc0 : w.cell? ⟨B, 0, none⟩ = some (.string c)) (h : fits1 k c x = some r) :
    Calls Try.prog 116 #[.agg #[.string x.f0, .int .i64 x.f1, .int .i64 x.f2], .pointer (some ⟨B, 0, none⟩)] w fun e w' => e = .returned (.bool r) ∧ Below w.heap.size w w' := by
  have hu75 := Try.underlying47
  have hu9 := Try.underlying9
  unfold fits1 at h
  obtain ⟨⟨p, o⟩, hpo, e1⟩ := Option.map_eq_some_iff.mp h
  subst e1
  have hhint : ∀ W, Calls Try.prog 80 #[.string x.f0, .string c] W _ := fun W => impl_hint.calls k x.f0 c p o W hpo
  have hb0 := hw_cell_old w (.cells #[.string x.f0, .int .i64 x.f1, .int .i64 x.f2] 47) hc0
  clear h hpo hc0
  simp only
  by_cases hp : p = x.f1
  · have hpb : (p != x.f1) = false := by simp [hp]
    by_cases ho : o = x.f2
    · have hob : (o != x.f2) = false := by simp [ho]
      rw [decide_eq_true (show p = x.f1 ∧ o = x.f2 from ⟨hp, ho⟩)]
      clear hp ho
      go_enter Try.func116, Try.ntmps116
      go_wp2_with (go_at_call 80; refine (hhint _).mono ?_; rintro e w1 ⟨rfl, hb⟩; have HB := Aside0.mk hb; have m1 := pw_cell_below hb (show (w.alloc (.cells #[.string x.f0, .int .i64 x.f1, .int .i64 x.f2] 47)).cell? ⟨w.heap.size, 1, none⟩ = some (.int .i64 x.f1) by simp); have m2 := pw_cell_below hb (show (w.alloc (.cells #[.string x.f0, .int .i64 x.f1, .int .i64 x.f2] 47)).cell? ⟨w.heap.size, 2, none⟩ = some (.int .i64 x.f2) by simp); clear hb)
      go_ret
      exact ⟨rfl, below_then (below_alloc (Below.refl _ _) _) (by simp) HB.out⟩
    · have hob : (o != x.f2) = true := by simp [ho]
      rw [decide_eq_false (show ¬ (p = x.f1 ∧ o = x.f2) from fun h => ho h.2)]
      clear hp ho
      go_enter Try.func116, Try.ntmps116
      go_wp2_with (go_at_call 80; refine (hhint _).mono ?_; rintro e w1 ⟨rfl, hb⟩; have HB := Aside0.mk hb; have m1 := pw_cell_below hb (show (w.alloc (.cells #[.string x.f0, .int .i64 x.f1, .int .i64 x.f2] 47)).cell? ⟨w.heap.size, 1, none⟩ = some (.int .i64 x.f1) by simp); have m2 := pw_cell_below hb (show (w.alloc (.cells #[.string x.f0, .int .i64 x.f1, .int .i64 x.f2] 47)).cell? ⟨w.heap.size, 2, none⟩ = some (.int .i64 x.f2) by simp); clear hb)
      go_ret
      exact ⟨rfl, below_then (below_alloc (Below.refl _ _) _) (by simp) HB.out⟩
  · have hpb : (p != x.f1) = true := by simp [hp]
    rw [decide_eq_false (show ¬ (p = x.f1 ∧ o = x.f2) from fun h => hp h.1)]
    clear hp
    go_enter Try.func116, Try.ntmps116
    go_wp2_with (go_at_call 80; refine (hhint _).mono ?_; rintro e w1 ⟨rfl, hb⟩; have HB := Aside0.mk hb; have m1 := pw_cell_below hb (show (w.alloc (.cells #[.string x.f0, .int .i64 x.f1, .int .i64 x.f2] 47)).cell? ⟨w.heap.size, 1, none⟩ = some (.int .i64 x.f1) by simp); have m2 := pw_cell_below hb (show (w.alloc (.cells #[.string x.f0, .int .i64 x.f1, .int .i64 x.f2] 47)).cell? ⟨w.heap.size, 2, none⟩ = some (.int .i64 x.f2) by simp); clear hb)
    go_ret
    exact ⟨rfl, below_then (below_alloc (Below.refl _ _) _) (by simp) HB.out⟩


/-! ### impl_fits: function 92 -/
def impl_fits.f (k : Nat) (l : List S47) (c : ByteArray) : Option Bool := if l.length ≤ 1000000000000000000 then (anyO (fits1 k c) l).map (fun b => !b) else none
theorem fits1_mono (k : Nat) (c : ByteArray) (x : S47) : LeO (fits1 k c x) (fits1 (k + 1) c x) := LeO.map _ (impl_hint.mono _ _ _)
theorem impl_fits.mono : ∀ l c k, LeO (impl_fits.f k l c) (impl_fits.f (k + 1) l c) := by
  intro l c k
  unfold impl_fits.f
  exact LeO.ite (LeO.map _ (anyO_mono (fun x => fits1_mono k c x) _)) (LeO.none _)
set_option maxHeartbeats 4000000 in
set_option maxRecDepth 100000 in
theorem impl_fits.calls (k : Nat) (A0 : Option Addr) (c0 : Nat) (l0 : List S47) (a1 : ByteArray) (r : Bool) (w : World) (hr0 : Kd.C k47 w A0 l0.length l0) (hc0 : l0.length ≤ c0) (h : impl_fits.f k l0 a1 = some r) :
    Calls Try.prog 92 #[.slice A0 l0.length c0, .string a1] w fun e w' => e = .returned (.bool r) ∧ Below w.heap.size w w' := by
  have hu9 := Try.underlying9
  unfold impl_fits.f at h
  by_cases hlen : l0.length ≤ 1000000000000000000
  case neg => rw [if_neg hlen] at h; exact absurd h (by simp)
  rw [if_pos hlen] at h
  obtain ⟨b2, hb2, e1⟩ := Option.map_eq_some_iff.mp h
  subst e1
  have eg : ∀ args w, (callFunc 116 args).run Try.prog w = .ok (.enter 116 args) w := enters_of Try.func116 (by kernel_rfl) rfl
  have c0' : (w.alloc (.cells #[.string a1] 9)).cell? ⟨w.heap.size, 0, none⟩ = some (.string a1) := by simp
  have hcon : Calls Try.prog 99 #[.slice A0 l0.length c0, .func (.func 116) #[] #[.pointer (some ⟨w.heap.size, 0, none⟩)]] (w.alloc (.cells #[.string a1] 9)) fun e w' => e = .returned (.bool b2) ∧ Below (w.alloc (.cells #[.string a1] 9)).heap.size (w.alloc (.cells #[.string a1] 9)) w' :=
    conH_calls 116 #[.pointer (some ⟨w.heap.size, 0, none⟩)] (fits1 k a1) A0 c0 l0 b2 _ eg (Kd.C_alloc hr0 _) hlen hb2 (fun x r W2 hx hB => fits1_calls k a1 w.heap.size x r W2 (pw_cell_below hB c0') hx)
  clear h hb2 eg hlen hr0 hc0 c0'
  go_enter Try.func92, Try.ntmps92
  go_wp2_with (go_at_call 99; refine hcon.mono ?_; rintro e w2 ⟨rfl, hb⟩; have HB2 := Aside0.mk hb; clear hb)
  go_ret
  exact ⟨by simp, below_then (below_alloc (Below.refl _ _) _) (by simp) HB2.out⟩

/-! ### impl_Lock_fitting: function 64 -/
def impl_Lock_fitting.l0 : Nat → List (S47) → List ByteArray → Int → Int → Int → Int → Option (List ByteArray)
  | 0, _, _, _, _, _, _ => none
  | k + 1, x1, x5, x10, x11, x236000, x236001 => if x11 < x10 then ((impl_Lock_code.f k x236000 x236001 x11).bind fun t240 => ((impl_fits.f k x1 t240).bind fun t241 => (if t241 = true then (if x5.length < 8796093022208 then (impl_Lock_fitting.l0 k x1 (x5 ++ [t240]) x10 (wrap64 (x11 + 1)) x236000 x236001) else (none)) else (impl_Lock_fitting.l0 k x1 x5 x10 (wrap64 (x11 + 1)) x236000 x236001)))) else (some x5)
def impl_Lock_fitting.f (k : Nat) (a0_0 : Int) (a0_1 : Int) (l1 : List (S47)) : Option (List ByteArray) := (impl_Lock_count.f k a0_0 a0_1).bind fun t239 => (impl_Lock_fitting.l0 k l1 (([] : List ByteArray)) t239 0 a0_0 a0_1)
theorem impl_Lock_fitting.mono_l : ∀ k, (∀ y0 y1 y2 y3 y4 y5, LeO (impl_Lock_fitting.l0 k y0 y1 y2 y3 y4 y5) (impl_Lock_fitting.l0 (k + 1) y0 y1 y2 y3 y4 y5))
  | 0 => fun _ _ _ _ _ _ r h => by simp [impl_Lock_fitting.l0] at h
  | k + 1 => by
    have ih0 := impl_Lock_fitting.mono_l k
    · intro y0 y1 y2 y3 y4 y5
      unfold impl_Lock_fitting.l0
      repeat' first
      | (with_reducible exact ih0 _ _ _ _ _ _)
      | (with_reducible exact impl_Lock_code.mono _ _ _ _)
      | (with_reducible exact impl_Lock_count.mono _ _ _)
      | (with_reducible exact impl_fits.mono _ _ _)
      | (with_reducible exact LeO.refl _)
      | (with_reducible exact LeO.none _)
      | (with_reducible refine LeO.ite ?_ ?_)
      | (with_reducible refine LeO.bind ?_ (fun _ => ?_))
      | exact ih0 _ _ _ _ _ _
      | exact impl_Lock_code.mono _ _ _ _
      | exact impl_Lock_count.mono _ _ _
      | exact impl_fits.mono _ _ _
      | exact LeO.none _
      | refine LeO.ite ?_ ?_
      | refine LeO.bind ?_ (fun _ => ?_)
theorem impl_Lock_fitting.mono : ∀ a0 a1 a2 k, LeO (impl_Lock_fitting.f k a0 a1 a2) (impl_Lock_fitting.f (k + 1) a0 a1 a2) := by
  intro a0 a1 a2 k
  have ih0 := impl_Lock_fitting.mono_l k
  unfold impl_Lock_fitting.f
  repeat' first
      | (with_reducible exact ih0 _ _ _ _ _ _)
      | (with_reducible exact impl_Lock_code.mono _ _ _ _)
      | (with_reducible exact impl_Lock_count.mono _ _ _)
      | (with_reducible exact impl_fits.mono _ _ _)
      | (with_reducible exact LeO.refl _)
      | (with_reducible exact LeO.none _)
      | (with_reducible refine LeO.ite ?_ ?_)
      | (with_reducible refine LeO.bind ?_ (fun _ => ?_))
      | exact ih0 _ _ _ _ _ _
      | exact impl_Lock_code.mono _ _ _ _
      | exact impl_Lock_count.mono _ _ _
      | exact impl_fits.mono _ _ _
      | exact LeO.none _
      | refine LeO.ite ?_ ?_
      | refine LeO.bind ?_ (fun _ => ?_)
set_option maxHeartbeats 8000000 in
set_option maxRecDepth 100000 in
theorem impl_Lock_fitting.calls (k : Nat) (a0_0 : Int) (a0_1 : Int) (A1 : Option Addr) (c1 : Nat) (l1 : List (S47)) (r : List ByteArray) (w : World) (hr1 : Kd.C k47 w A1 l1.length l1) (hc1 : l1.length ≤ c1) (h : impl_Lock_fitting.f k a0_0 a0_1 l1 = some r) :
    Calls Try.prog 64 #[.agg #[.int .i64 a0_0, .int .i64 a0_1], .slice A1 l1.length c1] w fun e w' => ∃ v0_ : Value, e = .returned (v0_) ∧ Kd.R Kd.string 9 w' w.heap.size (fun _ => True) v0_ r ∧ Below w.heap.size w w' := by
  have hu28 := Try.underlying28
  have HR1 := Aside0.mk hr1
  have HC1 := Aside0.mk hc1
  clear hr1 hc1
  have HB := Aside0.mk (Below.refl w.heap.size w)
  have H : ((impl_Lock_count.f k a0_0 a0_1).bind fun t239 => (impl_Lock_fitting.l0 k l1 (([] : List ByteArray)) t239 0 a0_0 a0_1)) = some r := h
  clear h
  obtain ⟨y236, hy236⟩ : ∃ y_ : List ByteArray, y_ = (([] : List ByteArray)) := ⟨_, rfl⟩
  replace H : ((impl_Lock_count.f k a0_0 a0_1).bind fun t239 => (impl_Lock_fitting.l0 k l1 y236 t239 0 a0_0 a0_1)) = some r := by first | (rw [hy236]; with_reducible exact H) | (have H2_ := (Option.bind_some _ _).symm.trans H; rw [hy236]; with_reducible exact H2_) | (have H2_ := (Option.bind_some _ _).symm.trans H; with_reducible exact H2_) | with_reducible exact H | (rw [hy236]; exact H) | exact H
  have Ny236 := Aside0.mk hy236
  clear hy236
  replace H := Option.bind_eq_some_iff.mp H
  obtain ⟨t239, A30, H⟩ := H
  replace H : (impl_Lock_fitting.l0 k l1 y236 t239 0 a0_0 a0_1) = some r := H
  have A3 := Aside0.mk A30
  clear A30
  have H' := Aside0.mk H
  clear H
  go_enter Try.func64, Try.ntmps64
  go_wp2_with (first | ((with_reducible refine gate_dst (N := 2) rfl ?_); refine box_event ?hg (N := 2) ?hd (cs := #[.int .i64 a0_0, .int .i64 a0_1]) (t := 28) ?hr ?_; (case hd => rfl); (case hg => rfl); (case hr => first | (go_simp; done) | (go_simp; rfl)); intro gb235 hg w4 hbox hb; have n0_ := Aside0.mk (below_step (by repeat (first | (with_reducible first | exact HB.out | apply below_alloc | apply pw_below_drewN | apply below_drew1) | exact HB.out)) hb); have n1_ := Aside0.mk (hbox); have n2_ := Aside0.mk ((by rw [hg]; exact (below_size (by repeat (first | (with_reducible first | exact HB.out | apply below_alloc | apply pw_below_drewN | apply below_drew1) | exact HB.out))) : w.heap.size ≤ gb235)); have n3_ := Aside0.mk ((by rw [hg]; exact (below_size (by repeat (first | (with_reducible first | exact HB.out | apply below_alloc | apply pw_below_drewN | apply below_drew1) | exact HB.out))) : w.heap.size ≤ gb235)); clear HB; have HB := n0_; have BK235 := n1_; have GW235 := n2_; have GE235 := n3_; clear n0_ n1_ n2_ n3_; clear hb hbox hg) | ((with_reducible refine gate_dst (N := 8) rfl ?_); refine Kd.R_lit Kd.string _ 9 ?hg (N := 8) ?hd (xs := ([] : List ByteArray)) (inner := []) (ok := fun _ => True) (okp := fun _ => True) ?hr ?hp (fun _ hk => hk) trivial (Below.refl _ _) (Nat.le_refl _) (by simp) ?_; (case hd => rfl); (case hg => rfl); (case hr => first | (go_simp; done) | (go_simp; rfl)); (case hp => exact (Reps.none _ _)); intro v237 w5 ho6 hb hg_ hnew_; clear hg_ hnew_; (first | rw [← Ny236.out] at ho6 | (simp only [Int.reduceToNat] at ho6; rw [← Ny236.out] at ho6)); have n0_ := Aside0.mk (Kd.R_lower ho6 (below_size (by repeat (first | (with_reducible first | exact HB.out | apply below_alloc | apply pw_below_drewN | apply below_drew1 | refine below_set ?_ GE235.out) | exact HB.out)))); have n1_ := Aside0.mk (blk_below (g := gb235) (o := .cells #[.int .i64 a0_0, .int .i64 a0_1] 28 (0, 0)) (by (with_reducible repeat (first | refine blk_drewN ?_ _ | refine blk_drew ?_ | refine blk_alloc ?_ _)); exact BK235.out) hb); have n2_ := Aside0.mk (below_step (by repeat (first | (with_reducible first | exact HB.out | apply below_alloc | apply pw_below_drewN | apply below_drew1 | refine below_set ?_ GE235.out) | exact HB.out)) hb); clear BK235; clear HB; have HO238 := n0_; have BK235 := n1_; have HB := n2_; clear n0_ n1_ n2_; clear hb ho6; have hcz7_0 : w5.cell? ⟨gb235, 0, none⟩ = some (.int .i64 a0_0) := (blk_cell BK235.out 0).trans rfl; have hcz7_1 : w5.cell? ⟨gb235, 1, none⟩ = some (.int .i64 a0_1) := (blk_cell BK235.out 1).trans rfl; have hfz7_0 := blk_frozen BK235.out 0; have hfz7_1 := blk_frozen BK235.out 1) | ((with_reducible refine gate_callee (f := 69) rfl ?_); refine goesL_ (some 10) rfl rfl Try.func69 (by kernel_rfl) rfl #[.agg #[.int .i64 a0_0, .int .i64 a0_1]] rfl (by (try simp only [List.map_toArray, List.map_cons, List.map_nil]); first | done | rfl | (simp only [List.length_drop, List.length_take]; rfl)) ?_; (with_reducible refine (impl_Lock_count.calls k a0_0 a0_1 t239 _ A3.out).mono ?_); rintro e w8 ⟨rfl, hb⟩; refine ⟨_, rfl, ?_⟩; have n0_ := Aside0.mk (Kd.R_below (by (with_reducible repeat (first | apply Kd.R_alloc | apply Kd.R_drewN | apply Kd.R_drew)); exact HO238.out) hb); have n1_ := Aside0.mk (blk_below (g := gb235) (o := .cells #[.int .i64 a0_0, .int .i64 a0_1] 28 (0, 0)) (by (with_reducible repeat (first | refine blk_drewN ?_ _ | refine blk_drew ?_ | refine blk_alloc ?_ _)); exact BK235.out) hb); have n2_ := Aside0.mk (below_step (by repeat (first | (with_reducible first | exact HB.out | apply below_alloc | apply pw_below_drewN | apply below_drew1 | refine below_set ?_ GE235.out) | exact HB.out)) hb); clear HO238; clear BK235; clear HB; have HO238 := n0_; have BK235 := n1_; have HB := n2_; clear n0_ n1_ n2_; (try clear hb); (try clear hb2); (try clear hk); (try clear hi)))
  go_loopg [5, 11] k (fun kq v5 v11 w' => ∃ (x5_1 : List ByteArray) (x11_1 : Int), v11 = .int .i64 x11_1 ∧ Aside0 (impl_Lock_fitting.l0 kq l1 x5_1 t239 x11_1 a0_0 a0_1 = some r) ∧ Aside0 (kq ≤ k) ∧ Aside0 (Kd.R Kd.string 9 w' w.heap.size (fun _ => True) v5 x5_1) ∧ Aside0 (w'.heap[gb235]? = some (.cells #[.int .i64 a0_0, .int .i64 a0_1] 28 (0, 0))) ∧ Aside0 (Below w.heap.size w w'))
  case atStart => exact ⟨(y236), (0), (by first | rfl | (simp; done) | (simp [*]; done)), H', ⟨Nat.le_refl _⟩, ⟨by (with_reducible repeat (first | apply Kd.R_alloc | apply Kd.R_drewN | apply Kd.R_drew)); exact HO238.out⟩, ⟨by (with_reducible repeat (first | refine blk_drewN ?_ _ | refine blk_drew ?_ | refine blk_alloc ?_ _)); exact BK235.out⟩, ⟨by repeat (first | (with_reducible first | exact HB.out | apply below_alloc | apply pw_below_drewN | apply below_drew1 | refine below_set ?_ GE235.out) | exact HB.out)⟩⟩
  case round =>
    clear H'
    try clear c1
    try clear p2
    try clear c6
    try clear hcz7_0
    try clear hcz7_1
    try clear hfz7_0
    try clear hfz7_1
    obtain ⟨x5_1, x11_1, rfl, HA, HK1, HO_5, BK235, HB⟩ := hrel
    cases gk with
    | zero => exact absurd HA.out (by simp [impl_Lock_fitting.l0])
    | succ k1 =>
      have H := HA.out
      clear HA
      simp only [impl_Lock_fitting.l0] at H
      by_cases c9 : x11_1 < t239
      · rw [if_pos c9] at H
        have c9b0 : decide (x11_1 < t239) = true := decide_eq_true c9
        clear c9
        replace H := Option.bind_eq_some_iff.mp H
        obtain ⟨t240, A100, H⟩ := H
        replace H : ((impl_fits.f k1 l1 t240).bind fun t241 => (if t241 = true then (if x5_1.length < 8796093022208 then (impl_Lock_fitting.l0 k1 l1 (x5_1 ++ [t240]) t239 (wrap64 (x11_1 + 1)) a0_0 a0_1) else (none)) else (impl_Lock_fitting.l0 k1 l1 x5_1 t239 (wrap64 (x11_1 + 1)) a0_0 a0_1))) = some r := H
        have A10 := Aside0.mk A100
        clear A100
        replace H := Option.bind_eq_some_iff.mp H
        obtain ⟨t241, A110, H⟩ := H
        replace H : (if t241 = true then (if x5_1.length < 8796093022208 then (impl_Lock_fitting.l0 k1 l1 (x5_1 ++ [t240]) t239 (wrap64 (x11_1 + 1)) a0_0 a0_1) else (none)) else (impl_Lock_fitting.l0 k1 l1 x5_1 t239 (wrap64 (x11_1 + 1)) a0_0 a0_1)) = some r := H
        have A11 := Aside0.mk A110
        clear A110
        by_cases c12 : t241 = true
        · subst c12
          have H1 : (if x5_1.length < 8796093022208 then (impl_Lock_fitting.l0 k1 l1 (x5_1 ++ [t240]) t239 (wrap64 (x11_1 + 1)) a0_0 a0_1) else (none)) = some r := by rw [if_pos rfl] at H; exact H
          clear H
          have H := H1
          clear H1
          by_cases c13 : x5_1.length < 8796093022208
          · rw [if_pos c13] at H
            have LMc13 := Aside0.mk c13
            clear c13
            obtain ⟨y242, hy242⟩ : ∃ y_ : List ByteArray, y_ = (x5_1 ++ [t240]) := ⟨_, rfl⟩
            replace H : (impl_Lock_fitting.l0 k1 l1 y242 t239 (wrap64 (x11_1 + 1)) a0_0 a0_1) = some r := by first | (rw [hy242]; with_reducible exact H) | (have H2_ := (Option.bind_some _ _).symm.trans H; rw [hy242]; with_reducible exact H2_) | (have H2_ := (Option.bind_some _ _).symm.trans H; with_reducible exact H2_) | with_reducible exact H | (rw [hy242]; exact H) | exact H
            have Ny242 := Aside0.mk hy242
            clear hy242
            have H' := Aside0.mk H
            clear H
            have hcz14_0 : wr.cell? ⟨gb235, 0, none⟩ = some (.int .i64 a0_0) := (blk_cell BK235.out 0).trans rfl
            have hcz14_1 : wr.cell? ⟨gb235, 1, none⟩ = some (.int .i64 a0_1) := (blk_cell BK235.out 1).trans rfl
            have hfz14_0 := blk_frozen BK235.out 0
            have hfz14_1 := blk_frozen BK235.out 1
            go_wp2_with (first | ((with_reducible refine gate_callee (f := 70) rfl ?_); refine goesL_ (some 16) rfl rfl Try.func70 (by kernel_rfl) rfl #[.agg #[.int .i64 a0_0, .int .i64 a0_1], .int .i64 x11_1] rfl (by (try simp only [List.map_toArray, List.map_cons, List.map_nil]); first | done | rfl | (simp only [List.length_drop, List.length_take]; rfl)) ?_; (with_reducible refine (impl_Lock_code.calls k1 a0_0 a0_1 x11_1 t240 _ A10.out).mono ?_); rintro e w15 ⟨rfl, hb⟩; refine ⟨_, rfl, ?_⟩; have n0_ := Aside0.mk (Kd.R_below (by (with_reducible repeat (first | apply Kd.R_alloc | apply Kd.R_drewN | apply Kd.R_drew)); exact HO_5.out) hb); have n1_ := Aside0.mk (blk_below (g := gb235) (o := .cells #[.int .i64 a0_0, .int .i64 a0_1] 28 (0, 0)) (by (with_reducible repeat (first | refine blk_drewN ?_ _ | refine blk_drew ?_ | refine blk_alloc ?_ _)); exact BK235.out) hb); have n2_ := Aside0.mk (below_step (by repeat (first | (with_reducible first | exact HB.out | apply below_alloc | apply pw_below_drewN | apply below_drew1 | refine below_set ?_ GE235.out) | exact HB.out)) hb); clear HO_5; clear BK235; clear HB; have HO_5 := n0_; have BK235 := n1_; have HB := n2_; clear n0_ n1_ n2_; (try clear hb); (try clear hb2); (try clear hk); (try clear hi)) | ((with_reducible refine gate_callee (f := 92) rfl ?_); refine goesL_ (some 19) rfl rfl Try.func92 (by kernel_rfl) rfl #[.slice A1 l1.length c1, .string t240] rfl (by (try simp only [List.map_toArray, List.map_cons, List.map_nil]); first | done | rfl | (simp only [List.length_drop, List.length_take]; rfl)) ?_; (with_reducible refine (impl_fits.calls k1 _ _ l1 t240 true _ ?side1 ?side2 A11.out).mono ?_); (case side1 => repeat (first | exact (Kd.C_below HR1.out HB.out) | (with_reducible refine Kd.C_alloc ?_ _) | (with_reducible refine Kd.C_drewN ?_ _) | (with_reducible refine Kd.C_drew ?_))); (case side2 => exact HC1.out); rintro e w16 ⟨rfl, hb⟩; refine ⟨_, rfl, ?_⟩; have n0_ := Aside0.mk (Kd.R_below (by (with_reducible repeat (first | apply Kd.R_alloc | apply Kd.R_drewN | apply Kd.R_drew)); exact HO_5.out) hb); have n1_ := Aside0.mk (blk_below (g := gb235) (o := .cells #[.int .i64 a0_0, .int .i64 a0_1] 28 (0, 0)) (by (with_reducible repeat (first | refine blk_drewN ?_ _ | refine blk_drew ?_ | refine blk_alloc ?_ _)); exact BK235.out) hb); have n2_ := Aside0.mk (below_step (by repeat (first | (with_reducible first | exact HB.out | apply below_alloc | apply pw_below_drewN | apply below_drew1 | refine below_set ?_ GE235.out) | exact HB.out)) hb); clear HO_5; clear BK235; clear HB; have HO_5 := n0_; have BK235 := n1_; have HB := n2_; clear n0_ n1_ n2_; (try clear hb); (try clear hb2); (try clear hk); (try clear hi)) | ((with_reducible refine gate_builtin (b := .append) (xs := #[.tmp 20, .tmp 22]) rfl ?_); at_builtin; refine Kd.R_append Kd.string (w0 := w) w.heap.size rfl (.tmp 20) (.tmp 22) 50 9 (.string ⟨#[]⟩) 16 rfl Try.underlying50 info9 rfl (by decide) (by omega) u5 x5_1 t240 [.string t240] (fun _ => True) (fun _ => False) rfl rfl ?aP (fun _ hk => hk.elim) ?aF ?aO ?aB ?aS ?aL ?_; (case aP => exact rfl); (case aB => exact (by repeat (first | (with_reducible first | exact HB.out | apply below_alloc | apply pw_below_drewN | apply below_drew1 | refine below_set ?_ GE235.out) | exact HB.out))); (case aF => exact (fun _ _ => trivial)); (case aO => exact (by (with_reducible repeat (first | apply Kd.R_alloc | apply Kd.R_drewN | apply Kd.R_drew)); exact HO_5.out)); (case aS => exact (below_size (by repeat (first | (with_reducible first | exact HB.out | apply below_alloc | apply pw_below_drewN | apply below_drew1 | refine below_set ?_ GE235.out) | exact HB.out)))); (case aL => have := LMc13.out; omega); intro v243 w17 ho hb hg hat; rw [← Ny242.out] at ho; have n0_ := Aside0.mk (blk_grown (g := gb235) (o := .cells #[.int .i64 a0_0, .int .i64 a0_1] 28 (0, 0)) (by (with_reducible repeat (first | refine blk_drewN ?_ _ | refine blk_drew ?_ | refine blk_alloc ?_ _)); exact BK235.out) hg (Kd.R_ne HO_5.out BK235.out (by decide))); have n1_ := Aside0.mk (hb); have n2_ := Aside0.mk (ho); clear BK235; clear HB; clear HO_5; have BK235 := n0_; have HB := n1_; have HO244 := n2_; clear n0_ n1_ n2_; clear ho hb hg hat))
            go_roundg k1
            case measure => have := HK1.out; omega
            case rel => exact ⟨(y242), (wrap64 (x11_1 + 1)), (by first | rfl | (simp; done) | (simp [*]; done)), H', ⟨by have := HK1.out; omega⟩, ⟨by (with_reducible repeat (first | apply Kd.R_alloc | apply Kd.R_drewN | apply Kd.R_drew)); exact HO244.out⟩, ⟨by (with_reducible repeat (first | refine blk_drewN ?_ _ | refine blk_drew ?_ | refine blk_alloc ?_ _)); exact BK235.out⟩, ⟨by repeat (first | (with_reducible first | exact HB.out | apply below_alloc | apply pw_below_drewN | apply below_drew1 | refine below_set ?_ GE235.out) | exact HB.out)⟩⟩
          · rw [if_neg c13] at H
            exact absurd H (by simp)
        · replace c12 := Bool.eq_false_iff.mpr c12
          subst c12
          have H1 : (impl_Lock_fitting.l0 k1 l1 x5_1 t239 (wrap64 (x11_1 + 1)) a0_0 a0_1) = some r := by rw [if_neg (show ¬ (false = true) by decide)] at H; exact H
          clear H
          have H := H1
          clear H1
          have H' := Aside0.mk H
          clear H
          have hcz18_0 : wr.cell? ⟨gb235, 0, none⟩ = some (.int .i64 a0_0) := (blk_cell BK235.out 0).trans rfl
          have hcz18_1 : wr.cell? ⟨gb235, 1, none⟩ = some (.int .i64 a0_1) := (blk_cell BK235.out 1).trans rfl
          have hfz18_0 := blk_frozen BK235.out 0
          have hfz18_1 := blk_frozen BK235.out 1
          go_wp2_with (first | ((with_reducible refine gate_callee (f := 70) rfl ?_); refine goesL_ (some 16) rfl rfl Try.func70 (by kernel_rfl) rfl #[.agg #[.int .i64 a0_0, .int .i64 a0_1], .int .i64 x11_1] rfl (by (try simp only [List.map_toArray, List.map_cons, List.map_nil]); first | done | rfl | (simp only [List.length_drop, List.length_take]; rfl)) ?_; (with_reducible refine (impl_Lock_code.calls k1 a0_0 a0_1 x11_1 t240 _ A10.out).mono ?_); rintro e w19 ⟨rfl, hb⟩; refine ⟨_, rfl, ?_⟩; have n0_ := Aside0.mk (Kd.R_below (by (with_reducible repeat (first | apply Kd.R_alloc | apply Kd.R_drewN | apply Kd.R_drew)); exact HO_5.out) hb); have n1_ := Aside0.mk (blk_below (g := gb235) (o := .cells #[.int .i64 a0_0, .int .i64 a0_1] 28 (0, 0)) (by (with_reducible repeat (first | refine blk_drewN ?_ _ | refine blk_drew ?_ | refine blk_alloc ?_ _)); exact BK235.out) hb); have n2_ := Aside0.mk (below_step (by repeat (first | (with_reducible first | exact HB.out | apply below_alloc | apply pw_below_drewN | apply below_drew1 | refine below_set ?_ GE235.out) | exact HB.out)) hb); clear HO_5; clear BK235; clear HB; have HO_5 := n0_; have BK235 := n1_; have HB := n2_; clear n0_ n1_ n2_; (try clear hb); (try clear hb2); (try clear hk); (try clear hi)) | ((with_reducible refine gate_callee (f := 92) rfl ?_); refine goesL_ (some 19) rfl rfl Try.func92 (by kernel_rfl) rfl #[.slice A1 l1.length c1, .string t240] rfl (by (try simp only [List.map_toArray, List.map_cons, List.map_nil]); first | done | rfl | (simp only [List.length_drop, List.length_take]; rfl)) ?_; (with_reducible refine (impl_fits.calls k1 _ _ l1 t240 false _ ?side1 ?side2 A11.out).mono ?_); (case side1 => repeat (first | exact (Kd.C_below HR1.out HB.out) | (with_reducible refine Kd.C_alloc ?_ _) | (with_reducible refine Kd.C_drewN ?_ _) | (with_reducible refine Kd.C_drew ?_))); (case side2 => exact HC1.out); rintro e w20 ⟨rfl, hb⟩; refine ⟨_, rfl, ?_⟩; have n0_ := Aside0.mk (Kd.R_below (by (with_reducible repeat (first | apply Kd.R_alloc | apply Kd.R_drewN | apply Kd.R_drew)); exact HO_5.out) hb); have n1_ := Aside0.mk (blk_below (g := gb235) (o := .cells #[.int .i64 a0_0, .int .i64 a0_1] 28 (0, 0)) (by (with_reducible repeat (first | refine blk_drewN ?_ _ | refine blk_drew ?_ | refine blk_alloc ?_ _)); exact BK235.out) hb); have n2_ := Aside0.mk (below_step (by repeat (first | (with_reducible first | exact HB.out | apply below_alloc | apply pw_below_drewN | apply below_drew1 | refine below_set ?_ GE235.out) | exact HB.out)) hb); clear HO_5; clear BK235; clear HB; have HO_5 := n0_; have BK235 := n1_; have HB := n2_; clear n0_ n1_ n2_; (try clear hb); (try clear hb2); (try clear hk); (try clear hi)))
          go_roundg k1
          case measure => have := HK1.out; omega
          case rel => exact ⟨(x5_1), (wrap64 (x11_1 + 1)), (by first | rfl | (simp; done) | (simp [*]; done)), H', ⟨by have := HK1.out; omega⟩, ⟨by (with_reducible repeat (first | apply Kd.R_alloc | apply Kd.R_drewN | apply Kd.R_drew)); exact HO_5.out⟩, ⟨by (with_reducible repeat (first | refine blk_drewN ?_ _ | refine blk_drew ?_ | refine blk_alloc ?_ _)); exact BK235.out⟩, ⟨by repeat (first | (with_reducible first | exact HB.out | apply below_alloc | apply pw_below_drewN | apply below_drew1 | refine below_set ?_ GE235.out) | exact HB.out)⟩⟩
      · rw [if_neg c9] at H
        have c9b0 : decide (x11_1 < t239) = false := decide_eq_false c9
        clear c9
        obtain rfl := Option.some.inj H
        go_wp2
        go_ret
        exact ⟨_, by first | rfl | (simp [errW_none, errW_some] <;> rfl) | (simp [*, errW_none, errW_some] <;> rfl), by (with_reducible repeat (first | apply Kd.R_alloc | apply Kd.R_drewN | apply Kd.R_drew)); exact HO_5.out, by repeat (first | (with_reducible first | exact HB.out | apply below_alloc | apply pw_below_drewN | apply below_drew1 | refine below_set ?_ GE235.out) | exact HB.out)⟩

/-! ### cmp_Or_int: function 85 -/
def orI (x y : Int) : Int := if x ≠ 0 then x else y
set_option maxHeartbeats 4000000 in
set_option maxRecDepth 100000 in
theorem orI_calls (g c : Nat) (x y : Int) (w : World) (h0 : w.cell? ⟨g, 0, none⟩ = some (.int .i64 x)) (h1 : w.cell? ⟨g, 1, none⟩ = some (.int .i64 y)) :
    Calls Try.prog 85 #[.slice (some ⟨g, 0, none⟩) 2 c] w fun e w' => e = .returned (.int .i64 (orI x y)) ∧ w' = w := by
  go_enter Try.func85, Try.ntmps85
  go_wp2
  go_loopg [8] 2 (fun gg v8 wr => wr = w ∧ ((v8 = .int .i64 0 ∧ 2 ≤ gg) ∨ (v8 = .int .i64 1 ∧ x = 0 ∧ 1 ≤ gg) ∨ (v8 = .int .i64 2 ∧ x = 0 ∧ y = 0)))
  case atStart => exact ⟨rfl, .inl ⟨rfl, Nat.le_refl _⟩⟩
  case round =>
    obtain ⟨rfl, h⟩ := hrel
    rcases h with ⟨rfl, hg⟩ | ⟨rfl, hx, hg⟩ | ⟨rfl, hx, hy⟩
    · by_cases hx : x = 0
      · have hb : (x != 0) = false := by simp [hx]
        have HX := Aside0.mk hx
        clear hx
        go_wp2
        go_roundg 1
        case measure => omega
        case rel => exact ⟨rfl, .inr (.inl ⟨rfl, HX.out, Nat.le_refl _⟩)⟩
      · have hb : (x != 0) = true := by simp [hx]
        have HX := Aside0.mk hx
        clear hx
        go_wp2
        go_ret
        exact ⟨by rw [show orI x y = x from if_pos HX.out]; rfl, rfl⟩
    · have HX := Aside0.mk hx
      clear hx
      by_cases hy : y = 0
      · have hb : (y != 0) = false := by simp [hy]
        have HY := Aside0.mk hy
        clear hy
        go_wp2
        go_roundg 0
        case measure => omega
        case rel => exact ⟨rfl, .inr (.inr ⟨rfl, HX.out, HY.out⟩)⟩
      · have hb : (y != 0) = true := by simp [hy]
        clear hy
        go_wp2
        go_ret
        exact ⟨by rw [show orI x y = y from if_neg (fun h => h HX.out)]; rfl, rfl⟩
    · have HX := Aside0.mk hx
      have HY := Aside0.mk hy
      clear hx hy
      go_wp2
      go_ret
      exact ⟨by rw [show orI x y = y from if_neg (fun h => h HX.out), HY.out]; rfl, rfl⟩


/-! ### cmp_Compare_int: function 86 -/
set_option maxHeartbeats 1000000 in
theorem cmpI_calls (x y : Int) (w : World) : Calls Try.prog 86 #[.int .i64 x, .int .i64 y] w fun e w' => e = .returned (.int .i64 (Lib.compareInt x y)) ∧ w' = w := by
  go_enter Try.func86, Try.ntmps86
  go_wp2
  all_goals (go_ret; refine ⟨?_, rfl⟩; unfold Lib.compareInt; (repeat' split) <;> first | rfl | (exfalso; omega))


/-! ### impl_PossibleHints_1: function 84 -/
def lexI (p o q r : Int) : Int := orI (Lib.compareInt p q) (Lib.compareInt o r)
set_option maxHeartbeats 4000000 in
set_option maxRecDepth 100000 in
theorem ph1_calls (g1 g2 c1 c2 : Nat) (p o q r : Int) (w : World) (h0 : w.cell? ⟨g1, 0, none⟩ = some (.int .i64 p)) (h1 : w.cell? ⟨g1, 1, none⟩ = some (.int .i64 o)) (h2 : w.cell? ⟨g2, 0, none⟩ = some (.int .i64 q)) (h3 : w.cell? ⟨g2, 1, none⟩ = some (.int .i64 r)) :
    Calls Try.prog 84 #[.slice (some ⟨g1, 0, none⟩) 2 c1, .slice (some ⟨g2, 0, none⟩) 2 c2] w fun e w' => e = .returned (.int .i64 (lexI p o q r)) ∧ ∃ n os, w' = Sort.grow (w.drewN n) os := by
  go_enter Try.func84, Try.ntmps84
  go_wp2
  go_region_held3 (fun w' => w'.cell? ⟨g1, 0, none⟩ = some (.int .i64 p) ∧ w'.cell? ⟨g1, 1, none⟩ = some (.int .i64 o) ∧ w'.cell? ⟨g2, 0, none⟩ = some (.int .i64 q) ∧ w'.cell? ⟨g2, 1, none⟩ = some (.int .i64 r)) (first | go_keep)
    (first | (go_at_call 86; refine (cmpI_calls _ _ _).mono ?_; rintro e w' ⟨rfl, rfl⟩) | (go_at_call 85; refine (orI_calls _ _ (Lib.compareInt p q) (Lib.compareInt o r) _ ?ha ?hb).mono ?_; (case ha => simp); (case hb => simp); rintro e w' ⟨rfl, rfl⟩))
  go_wp2
  go_ret
  exact ⟨rfl, 1, #[.cells #[.int .i64 (Lib.compareInt p q), .int .i64 (Lib.compareInt o r)] 3 (0, 0)], by rw [← Sort.alloc_eq_grow]; rfl⟩


/-! ### slices_SortFunc_int_int: function 83 -/
def sortL_ren : Go.Shelf.Ren := ⟨fun | 6 => 83 | 15 => 111 | 14 => 110 | 28 => 128 | 29 => 129 | 20 => 120 | 21 => 121 | 22 => 122 | 23 => 123 | 24 => 124 | 25 => 125 | 26 => 126 | 27 => 127 | 46 => 131 | 47 => 132 | 48 => 133 | 49 => 134 | 50 => 135 | 57 => 136 | n => n, fun | 22 => 37 | 24 => 61 | 25 => 104 | 3 => 3 | 39 => 124 | 0 => 0 | 53 => 136 | 55 => 138 | 4 => 4 | 46 => 130 | 45 => 129 | 50 => 26 | 5 => 5 | 9 => 9 | 66 => 139 | 70 => 143 | 76 => 145 | 77 => 93 | n => n, fun | n => n⟩
theorem sortL : Go.Proofs.SlLaysF.n6 Try.prog sortL_ren := {
  mixed := by kernel_rfl,
  f6 := ⟨Try.f83.name, by decide, Try.func83.trans (congrArg some (by kernel_rfl))⟩,
  f14 := ⟨Try.f110.name, by decide, Try.func110.trans (congrArg some (by kernel_rfl))⟩,
  f15 := Try.func111.trans (congrArg some (by kernel_rfl)),
  f20 := ⟨Try.f120.name, by decide, Try.func120.trans (congrArg some (by kernel_rfl))⟩,
  f21 := ⟨Try.f121.name, by decide, Try.func121.trans (congrArg some (by kernel_rfl))⟩,
  f22 := ⟨Try.f122.name, by decide, Try.func122.trans (congrArg some (by kernel_rfl))⟩,
  f23 := ⟨Try.f123.name, by decide, Try.func123.trans (congrArg some (by kernel_rfl))⟩,
  f24 := ⟨Try.f124.name, by decide, Try.func124.trans (congrArg some (by kernel_rfl))⟩,
  f25 := ⟨Try.f125.name, by decide, Try.func125.trans (congrArg some (by kernel_rfl))⟩,
  f26 := ⟨Try.f126.name, by decide, Try.func126.trans (congrArg some (by kernel_rfl))⟩,
  f27 := ⟨Try.f127.name, by decide, Try.func127.trans (congrArg some (by kernel_rfl))⟩,
  f28 := Try.func128.trans (congrArg some (by kernel_rfl)),
  f29 := Try.func129.trans (congrArg some (by kernel_rfl)),
  f46 := ⟨Try.f131.name, by decide, Try.func131.trans (congrArg some (by kernel_rfl))⟩,
  f47 := Try.func132.trans (congrArg some (by kernel_rfl)),
  f48 := Try.func133.trans (congrArg some (by kernel_rfl)),
  f49 := ⟨Try.f134.name, by decide, Try.func134.trans (congrArg some (by kernel_rfl))⟩,
  f50 := ⟨Try.f135.name, by decide, Try.func135.trans (congrArg some (by kernel_rfl))⟩,
  f57 := ⟨Try.f136.name, by decide, Try.func136.trans (congrArg some (by kernel_rfl))⟩,
  t0 := Try.underlying0,
  a0 := Try.isAgg0,
  z0 := Try.sizeOf0,
  v0 := Try.zeroValue0,
  t3 := Try.underlying3,
  a3 := Try.isAgg3,
  z3 := Try.sizeOf3,
  v3 := Try.zeroValue3,
  t4 := Try.underlying4,
  a4 := Try.isAgg4,
  z4 := Try.sizeOf4,
  v4 := Try.zeroValue4,
  t5 := Try.underlying5,
  a5 := Try.isAgg5,
  z5 := Try.sizeOf5,
  v5 := Try.zeroValue5,
  t9 := Try.underlying9,
  a9 := Try.isAgg9,
  z9 := Try.sizeOf9,
  v9 := Try.zeroValue9,
  t22 := Try.underlying37,
  a22 := Try.isAgg37,
  z22 := Try.sizeOf37,
  v22 := Try.zeroValue37,
  a24 := Try.isAgg61,
  z24 := Try.sizeOf61,
  t25 := Try.underlying104,
  a25 := Try.isAgg104,
  z25 := Try.sizeOf104,
  v25 := Try.zeroValue104,
  t39 := Try.underlying124,
  a39 := Try.isAgg124,
  z39 := Try.sizeOf124,
  v39 := Try.zeroValue124,
  t45 := Try.underlying129,
  a45 := Try.isAgg129,
  z45 := Try.sizeOf129,
  v45 := Try.zeroValue129,
  t46 := Try.underlying130,
  a46 := Try.isAgg130,
  z46 := Try.sizeOf130,
  v46 := Try.zeroValue130,
  t50 := Try.underlying26,
  a50 := Try.isAgg26,
  z50 := Try.sizeOf26,
  v50 := Try.zeroValue26,
  t53 := Try.underlying136,
  a53 := Try.isAgg136,
  z53 := Try.sizeOf136,
  v53 := Try.zeroValue136,
  t55 := Try.underlying138,
  a55 := Try.isAgg138,
  z55 := Try.sizeOf138,
  v55 := Try.zeroValue138,
  t66 := Try.underlying139,
  a66 := Try.isAgg139,
  z66 := Try.sizeOf139,
  v66 := Try.zeroValue139,
  t70 := Try.underlying143,
  a70 := Try.isAgg143,
  z70 := Try.sizeOf143,
  v70 := Try.zeroValue143,
  t76 := Try.underlying145,
  a76 := Try.isAgg145,
  z76 := Try.sizeOf145,
  v76 := Try.zeroValue145,
  t77 := Try.underlying93,
  a77 := Try.isAgg93,
  z77 := Try.sizeOf93,
  v77 := Try.zeroValue93 }
theorem cI_lt {x y : Int} (h : x < y) : Lib.compareInt x y = -1 := if_pos h
theorem cI_gt {x y : Int} (h : y < x) : Lib.compareInt x y = 1 := (if_neg (by omega)).trans (if_pos h)
theorem cI_eq (x : Int) : Lib.compareInt x x = 0 := (if_neg (Int.lt_irrefl x)).trans (if_neg (Int.lt_irrefl x))
theorem lexI_lt {p o q r : Int} (h : p < q ∨ p = q ∧ o < r) : lexI p o q r = -1 := by
  unfold lexI
  rcases h with h | ⟨rfl, h⟩
  · rw [cI_lt h]; rfl
  · rw [cI_eq, cI_lt h]; rfl
theorem lexI_gt {p o q r : Int} (h : q < p ∨ q = p ∧ r < o) : lexI p o q r = 1 := by
  unfold lexI
  rcases h with h | ⟨rfl, h⟩
  · rw [cI_gt h]; rfl
  · rw [cI_eq, cI_gt h]; rfl
theorem lexI_eq (p o : Int) : lexI p o p o = 0 := by
  unfold lexI
  rw [cI_eq, cI_eq]; rfl
set_option maxHeartbeats 4000000 in
theorem sortRR_calls (g n c : Nat) (rows : List (List Int)) (W : World) (base : Nat) (ok : Nat → Prop) (hS : Kd.S (Kd.slice 3 (Kd.int .i64)) 61 W base ok (.slice (some ⟨g, 0, none⟩) n c) rows) (P O : Nat → Int)
    (hrow : ∀ (i : Nat) (h : i < rows.length), rows[i] = [P i, O i]) (hasc : ∀ i j : Nat, i < j → j < n → P i < P j ∨ P i = P j ∧ O i < O j) (h0 : 0 < n) (hn : n ≤ 1000) :
    Calls Try.prog 83 #[.slice (some ⟨g, 0, none⟩) n c, .func (.func 84) #[] #[]] W fun e w' => e = .returned (.tuple #[]) ∧ Below W.heap.size W w' := by
  have hlen : n = rows.length := (Kd.S_reads' hS).1
  have hgl : g < W.heap.size := Kd.S_lt hS g rfl
  have hh : ∀ i : Fin n, ∃ v : Value, ∃ b cp, v = .slice (some ⟨b, 0, none⟩) 2 cp ∧ b ≠ g ∧ b < W.heap.size ∧ W.cell? ⟨g, i.val, none⟩ = some v ∧ W.cell? ⟨b, 0, none⟩ = some (.int .i64 (P i.val)) ∧ W.cell? ⟨b, 1, none⟩ = some (.int .i64 (O i.val)) := by
    intro i
    have hi := i.2
    obtain ⟨cs, hcl, hM, hcell⟩ := Kd.S_get hS [] (i.val : Int) (by omega) (by omega)
    have hget : rows.getD ((i.val : Int)).toNat [] = [P i.val, O i.val] := by
      rw [Int.toNat_natCast, List.getD_eq_getElem?_getD, List.getElem?_eq_getElem (by omega), Option.getD_some]
      exact hrow i.val (by omega)
    rw [hget] at hM
    obtain ⟨v, rfl, hR⟩ := hM
    obtain ⟨b, cp, ev, _, hb2, _⟩ := Kd.R_form hR (by simp)
    subst ev
    have hC := (Kd.R_reads' hR).2.2
    obtain ⟨a0, e0, c0⟩ := Kd.at_int hC 0 (by omega) (by simp)
    obtain ⟨a1, e1, c1⟩ := Kd.at_int hC 1 (by omega) (by simp)
    injection e0 with e0
    injection e1 with e1
    subst e0 e1
    have hne : b ≠ g := fun he => (hR.1 b rfl).2 (by rw [he]; rfl)
    have hc := hcell 0 _ rfl
    rw [show (Kd.slice 3 (Kd.int .i64)).sz = 1 from rfl, Nat.mul_one, Nat.add_zero, Int.toNat_natCast, add_plain] at hc
    rw [add_plain] at c0 c1
    exact ⟨_, b, cp, rfl, hne, hb2, hc, c0, c1⟩
  obtain ⟨f, hf⟩ := Classical.axiomOfChoice hh
  haveI : Inhabited (Fin n) := ⟨⟨0, h0⟩⟩
  obtain ⟨d, hd⟩ : ∃ d : Array (Fin n), d = Array.ofFn (fun i => i) := ⟨_, rfl⟩
  have hds : d.size = n := by rw [hd, Array.size_ofFn]
  have hdi : ∀ (j : Nat) (h : j < n), d[j]! = ⟨j, h⟩ := by
    intro j h
    rw [getElem!_pos d j (by omega)]
    subst hd
    simp
  have key : ∀ x y : Fin n, ltOf (fun x y : Fin n => lexI (P x.val) (O x.val) (P y.val) (O y.val)) x y = decide (x.val < y.val) := by
    intro x y
    unfold ltOf
    show decide (lexI (P x.val) (O x.val) (P y.val) (O y.val) < 0) = decide (x.val < y.val)
    rcases Nat.lt_trichotomy x.val y.val with h | h | h
    · rw [lexI_lt (hasc x.val y.val h y.2), decide_eq_true h]; rfl
    · rw [h, lexI_eq]; simp
    · rw [lexI_gt (hasc y.val x.val h x.2)]; simp; omega
  have hO : Sort.SWO (ltOf (fun x y : Fin n => lexI (P x.val) (O x.val) (P y.val) (O y.val))) := by
    refine ⟨fun x => ?_, fun x y z h1 h2 => ?_, fun x y z h1 h2 => ?_⟩
    · rw [key, decide_eq_false (Nat.lt_irrefl _)]
    · rw [key] at h1 h2 ⊢
      have := of_decide_eq_true h1
      have := of_decide_eq_true h2
      exact decide_eq_true (by omega)
    · rw [key] at h1 h2 ⊢
      have := of_decide_eq_false h1
      have := of_decide_eq_false h2
      exact decide_eq_false (by omega)
  have hT : ∀ x y : Fin n, ltOf (fun x y : Fin n => lexI (P x.val) (O x.val) (P y.val) (O y.val)) x y = false → ltOf (fun x y : Fin n => lexI (P x.val) (O x.val) (P y.val) (O y.val)) y x = false → x = y := by
    intro x y h1 h2
    rw [key] at h1 h2
    have := of_decide_eq_false h1
    have := of_decide_eq_false h2
    exact Fin.ext (by omega)
  have h1 : OneCell f := by
    intro x
    obtain ⟨b, cp, e, _⟩ := hf x
    rw [e]
    rfl
  have hHw : ∀ W' : World, W'.heap = W.heap → Sort.Holds f W' g 0 d := by
    intro W' hW j hj
    rw [hds] at hj
    rw [hdi j hj, Nat.zero_add]
    obtain ⟨b, cp, e, _, _, hc, _⟩ := hf ⟨j, hj⟩
    constructor
    · have : W'.cell? ⟨g, j, none⟩ = W.cell? ⟨g, j, none⟩ := by simp only [World.cell?, hW]
      rw [this]; exact hc
    · obtain ⟨cells, hb⟩ := Kd.S_typed hS g rfl
      have := blk_frozen hb j
      have e2 : W'.frozen? ⟨g, j, none⟩ = W.frozen? ⟨g, j, none⟩ := by simp only [World.frozen?, hW]
      rw [e2]; exact this
  have hcmp : CmpLays1 Try.prog 84 #[] f (fun x y : Fin n => lexI (P x.val) (O x.val) (P y.val) (O y.val)) g 0 d.size W := by
    intro m os dk hs x y
    obtain ⟨b1, p1, e1, n1, l1, _, c10, c11⟩ := hf x
    obtain ⟨b2, p2, e2, n2, l2, _, c20, c21⟩ := hf y
    have mv : ∀ (b j : Nat) (v : Value), b ≠ g → b < W.heap.size → W.cell? ⟨b, j, none⟩ = some v → (sortWorld f W g 0 m dk os).cell? ⟨b, j, none⟩ = some v := by
      intro b j v hne hlt hc
      unfold sortWorld
      rw [Sort.cell?_grow _ _ _ (by simpa [Sort.putRow, Sort.mapBlock, Sort.ahead] using hlt), Sort.cell?_putRow_other _ _ _ _ _ _ (.inl hne)]
      exact hc
    rw [e1, e2]
    exact ph1_calls b1 b2 p1 p2 (P x.val) (O x.val) (P y.val) (O y.val) _ (mv b1 0 _ n1 l1 c10) (mv b1 1 _ n1 l1 c11) (mv b2 0 _ n2 l2 c20) (mv b2 1 _ n2 l2 c21)
  have hmain := Any.slices_SortFunc_total sortL f h1 _ hO 84 #[] g 0 c d W (enters_of Try.func84 (by kernel_rfl) rfl) hcmp (hHw W rfl) hgl (by omega) hT
  rw [hds] at hmain
  refine hmain.mono ?_
  rintro e w' ⟨rfl, k, os, rfl⟩
  refine ⟨rfl, ?_⟩
  have hms : (d.toList.mergeSort fun x y => !(ltOf (fun x y : Fin n => lexI (P x.val) (O x.val) (P y.val) (O y.val))) y x).toArray = d := by
    have : (d.toList.mergeSort fun x y => !(ltOf (fun x y : Fin n => lexI (P x.val) (O x.val) (P y.val) (O y.val))) y x) = d.toList := by
      apply List.mergeSort_of_pairwise
      rw [List.pairwise_iff_getElem]
      intro i j hi hj hij
      have hi' : i < n := by simpa [hds] using hi
      have hj' : j < n := by simpa [hds] using hj
      have ei : d.toList[i] = ⟨i, hi'⟩ := by subst hd; simp
      have ej : d.toList[j] = ⟨j, hj'⟩ := by subst hd; simp
      rw [ei, ej, key]
      simp
      omega
    rw [this]
  rw [hms]
  unfold sortWorld
  rw [Sort.putRow_self f (Sort.ahead W k) g 0 d (hHw _ rfl)]
  exact ⟨rfl, rfl, rfl, by simp [Sort.grow, Sort.ahead], fun q hq => by rw [Sort.heap_grow_old _ _ (by simpa [Sort.ahead] using hq)]; rfl⟩


/-! ### slices_Compare_int_int: function 105 -/
theorem nz_t {x : Int} (h : ¬ x = 0) : (x != 0) = true := by simp [h]
theorem nz_f {x : Int} (h : x = 0) : (x != 0) = false := by simp [h]
theorem cI_one : Lib.compareInt 1 1 = 0 := rfl
set_option maxHeartbeats 4000000 in
set_option maxRecDepth 100000 in
theorem cmp3_calls (g1 g2 c1 c2 : Nat) (p o q r : Int) (w : World) (h0 : w.cell? ⟨g1, 0, none⟩ = some (.int .i64 p)) (h1 : w.cell? ⟨g1, 1, none⟩ = some (.int .i64 o)) (h2 : w.cell? ⟨g1, 2, none⟩ = some (.int .i64 1))
    (k0 : w.cell? ⟨g2, 0, none⟩ = some (.int .i64 q)) (k1 : w.cell? ⟨g2, 1, none⟩ = some (.int .i64 r)) (k2 : w.cell? ⟨g2, 2, none⟩ = some (.int .i64 1)) :
    Calls Try.prog 105 #[.slice (some ⟨g1, 0, none⟩) 3 c1, .slice (some ⟨g2, 0, none⟩) 3 c2] w fun e w' => e = .returned (.int .i64 (orI (Lib.compareInt p q) (Lib.compareInt o r))) ∧ w' = w := by
  go_enter Try.func105, Try.ntmps105
  go_wp2
  go_loopg [11] 3 (fun gg v11 wr => wr = w ∧ ((v11 = .int .i64 0 ∧ 3 ≤ gg) ∨ (v11 = .int .i64 1 ∧ Lib.compareInt p q = 0 ∧ 2 ≤ gg) ∨ (v11 = .int .i64 2 ∧ (Lib.compareInt p q = 0 ∧ Lib.compareInt o r = 0) ∧ 1 ≤ gg) ∨ (v11 = .int .i64 3 ∧ Lib.compareInt p q = 0 ∧ Lib.compareInt o r = 0)))
  case atStart => exact ⟨rfl, .inl ⟨rfl, Nat.le_refl _⟩⟩
  case round =>
    obtain ⟨rfl, h⟩ := hrel
    rcases h with ⟨rfl, hg⟩ | ⟨rfl, hx, hg⟩ | ⟨rfl, hx, hg⟩ | ⟨rfl, hx, hy⟩
    · by_cases hx : Lib.compareInt p q = 0
      · have hb := nz_f hx
        have HX := Aside0.mk hx
        clear hx
        go_wp2_with (go_at_call 86; refine (cmpI_calls _ _ _).mono ?_; rintro e w' ⟨rfl, rfl⟩)
        go_roundg 2
        case measure => omega
        case rel => exact ⟨rfl, .inr (.inl ⟨rfl, HX.out, Nat.le_refl _⟩)⟩
      · have hb := nz_t hx
        have HX := Aside0.mk hx
        clear hx
        go_wp2_with (go_at_call 86; refine (cmpI_calls _ _ _).mono ?_; rintro e w' ⟨rfl, rfl⟩)
        go_ret
        exact ⟨by rw [show orI (Lib.compareInt p q) (Lib.compareInt o r) = Lib.compareInt p q from if_pos HX.out]; rfl, rfl⟩
    · have HX := Aside0.mk hx
      clear hx
      by_cases hy : Lib.compareInt o r = 0
      · have hb := nz_f hy
        have HY := Aside0.mk hy
        clear hy
        go_wp2_with (go_at_call 86; refine (cmpI_calls _ _ _).mono ?_; rintro e w' ⟨rfl, rfl⟩)
        go_roundg 1
        case measure => omega
        case rel => exact ⟨rfl, .inr (.inr (.inl ⟨rfl, ⟨HX.out, HY.out⟩, Nat.le_refl _⟩))⟩
      · have hb := nz_t hy
        clear hy
        go_wp2_with (go_at_call 86; refine (cmpI_calls _ _ _).mono ?_; rintro e w' ⟨rfl, rfl⟩)
        go_ret
        exact ⟨by rw [show orI (Lib.compareInt p q) (Lib.compareInt o r) = Lib.compareInt o r from if_neg (fun h => h HX.out)]; rfl, rfl⟩
    · have HX := Aside0.mk hx
      have hb := nz_f cI_one
      clear hx
      go_wp2_with (go_at_call 86; refine (cmpI_calls _ _ _).mono ?_; rintro e w' ⟨rfl, rfl⟩)
      go_roundg 0
      case measure => omega
      case rel => exact ⟨rfl, .inr (.inr (.inr ⟨rfl, HX.out.1, HX.out.2⟩))⟩
    · have HX := Aside0.mk hx
      have HY := Aside0.mk hy
      clear hx hy
      go_wp2
      go_ret
      exact ⟨by rw [show orI (Lib.compareInt p q) (Lib.compareInt o r) = Lib.compareInt o r from if_neg (fun h => h HX.out), HY.out]; rfl, rfl⟩


end Go.Proofs.Ythikcnbjfnkglab.T
