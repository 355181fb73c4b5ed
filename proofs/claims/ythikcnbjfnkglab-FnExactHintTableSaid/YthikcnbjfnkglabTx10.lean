-- Printed by hp.py, a program of this session: a machine's side of laws, out of the translation; Lean checks it.
import Derived.Test.YthikcnbjfnkglabTx0
import Derived.Test.YthikcnbjfnkglabTx1
import Derived.Test.YthikcnbjfnkglabTx5
import Derived.Test.YthikcnbjfnkglabTx8
import Derived.Test.YthikcnbjfnkglabTx9
namespace Go.Proofs.Ythikcnbjfnkglab.T
open Go.RowKit Go.Proofs.YthikcnbjfnkglabW.PrintWords Go.Proofs.YthikcnbjfnkglabW.PrintLast Go.Proofs.YthikcnbjfnkglabW.PrintMore
attribute [local go_sem] max2_int min2_int max_two min_two max_three min_three max_four min_four   -- for this text's walks alone
set_option linter.unusedVariables false
set_option linter.unusedSimpArgs false

/-! ### laws_heldIntSS: function 21 -/
def laws_heldIntSS.l0 : Nat → List (List Int) → Int → Int → Option (Int)
  | 0, _, _, _ => none
  | k + 1, x0, x1, x5 => if x5 < (x0.length : Int) then (if 0 ≤ x5 then ((laws_heldIntS.f k (rd_L5 x0 x5) x1).bind fun t260 => (if t260 < 0 then (some (-1)) else (laws_heldIntSS.l0 k x0 t260 (wrap64 (x5 + 1))))) else (none)) else (some x1)
def laws_heldIntSS.f (k : Nat) (l0 : List (List Int)) (a1 : Int) : Option (Int) := laws_heldIntSS.l0 k l0 a1 0
theorem laws_heldIntSS.mono_l : ∀ k, (∀ y0 y1 y2, LeO (laws_heldIntSS.l0 k y0 y1 y2) (laws_heldIntSS.l0 (k + 1) y0 y1 y2))
  | 0 => fun _ _ _ r h => by simp [laws_heldIntSS.l0] at h
  | k + 1 => by
    have ih0 := laws_heldIntSS.mono_l k
    · intro y0 y1 y2
      unfold laws_heldIntSS.l0
      repeat' first
      | (with_reducible exact ih0 _ _ _)
      | (with_reducible exact laws_heldIntS.mono _ _ _)
      | (with_reducible exact LeO.refl _)
      | (with_reducible exact LeO.none _)
      | (with_reducible refine LeO.ite ?_ ?_)
      | (with_reducible refine LeO.bind ?_ (fun _ => ?_))
      | exact ih0 _ _ _
      | exact laws_heldIntS.mono _ _ _
      | exact LeO.none _
      | refine LeO.ite ?_ ?_
      | refine LeO.bind ?_ (fun _ => ?_)
theorem laws_heldIntSS.mono : ∀ a0 a1 k, LeO (laws_heldIntSS.f k a0 a1) (laws_heldIntSS.f (k + 1) a0 a1) := by
  intro a0 a1 k
  have ih0 := laws_heldIntSS.mono_l k
  unfold laws_heldIntSS.f
  repeat' first
      | (with_reducible exact ih0 _ _ _)
      | (with_reducible exact laws_heldIntS.mono _ _ _)
      | (with_reducible exact LeO.refl _)
      | (with_reducible exact LeO.none _)
      | (with_reducible refine LeO.ite ?_ ?_)
      | (with_reducible refine LeO.bind ?_ (fun _ => ?_))
      | exact ih0 _ _ _
      | exact laws_heldIntS.mono _ _ _
      | exact LeO.none _
      | refine LeO.ite ?_ ?_
      | refine LeO.bind ?_ (fun _ => ?_)
set_option maxHeartbeats 8000000 in
set_option maxRecDepth 100000 in
theorem laws_heldIntSS.calls (k : Nat) (A0 : Option Addr) (c0 : Nat) (l0 : List (List Int)) (a1 : Int) (r : Int) (w : World) (hr0 : Kd.C (Kd.slice 3 (Kd.int .i64)) w A0 l0.length l0) (hc0 : l0.length ≤ c0) (h : laws_heldIntSS.f k l0 a1 = some r) :
    Calls Try.prog 21 #[.slice A0 l0.length c0, .int .i64 a1] w fun e w' => e = .returned (.int .i64 r) ∧ Drawn0 w w' := by
  have HR0 := Aside0.mk hr0
  have HC0 := Aside0.mk hc0
  clear hr0 hc0
  have H : (laws_heldIntSS.l0 k l0 a1 0) = some r := h
  clear h
  have H' := Aside0.mk H
  clear H
  go_enter Try.func21, Try.ntmps21
  go_wp2
  go_loopg [1, 5] k (fun kq v1 v5 w' => ∃ (x1_1 : Int) (x5_1 : Int), v1 = .int .i64 x1_1 ∧ v5 = .int .i64 x5_1 ∧ Aside0 (laws_heldIntSS.l0 kq l0 x1_1 x5_1 = some r) ∧ Aside0 (kq ≤ k) ∧ Drawn0 w w')
  case atStart => exact ⟨(a1), (0), (by first | rfl | (simp; done) | (simp [*]; done)), (by first | rfl | (simp; done) | (simp [*]; done)), H', ⟨Nat.le_refl _⟩, by repeat (first | exact Drawn0.refl _ | apply Drawn0.step)⟩
  case round =>
    clear H'
    try clear c2
    try clear p2
    obtain ⟨x1_1, x5_1, rfl, rfl, HA, HK1, ⟨m1, rfl⟩⟩ := hrel
    cases gk with
    | zero => exact absurd HA.out (by simp [laws_heldIntSS.l0])
    | succ k1 =>
      have H := HA.out
      clear HA
      simp only [laws_heldIntSS.l0] at H
      by_cases c3 : x5_1 < (l0.length : Int)
      · rw [if_pos c3] at H
        have c3b0 : decide (x5_1 < (l0.length : Int)) = true := decide_eq_true c3
        clear c3
        by_cases c4 : 0 ≤ x5_1
        · rw [if_pos c4] at H
          have c4b0 : decide (0 ≤ x5_1) = true := decide_eq_true c4
          clear c4
          replace H := Option.bind_eq_some_iff.mp H
          obtain ⟨t260, A50, H⟩ := H
          replace H : (if t260 < 0 then (some (-1)) else (laws_heldIntSS.l0 k1 l0 t260 (wrap64 (x5_1 + 1)))) = some r := H
          have A5 := Aside0.mk A50
          clear A50
          by_cases c6 : t260 < 0
          · rw [if_pos c6] at H
            have c6b0 : decide (t260 < 0) = true := decide_eq_true c6
            clear c6
            obtain rfl := Option.some.inj H
            have p259 : 0 ≤ (x5_1 : Int) := of_decide_eq_true (by first | (with_reducible assumption) | assumption)
            have q259 : x5_1 < (l0.length : Int) := of_decide_eq_true (by first | (with_reducible assumption) | assumption)
            obtain ⟨ad259, A259_0, c259_0, e259, hx259_0, hl259_0, hi259_0⟩ := at_L5 HR0.out x5_1 p259 q259
            cases e259
            have HR259_0 := Aside0.mk hi259_0
            have HC259_0 := Aside0.mk hl259_0
            clear hi259_0 hl259_0
            replace p259 := eq_true p259
            replace q259 := eq_true q259
            go_wp2_with (first | ((with_reducible refine gate_callee (f := 76) rfl ?_); refine goesL_ (some 17) rfl rfl Try.func76 (by kernel_rfl) rfl #[.slice A259_0 (rd_L5 l0 x5_1).length c259_0, .int .i64 x1_1] rfl (by (try simp only [List.map_toArray, List.map_cons, List.map_nil]); first | done | rfl | (simp only [List.length_drop, List.length_take]; rfl)) ?_; (with_reducible refine (laws_heldIntS.calls k1 _ _ (rd_L5 l0 x5_1) x1_1 t260 _ ?side1 ?side2 A5.out).mono ?_); (case side1 => repeat (first | exact HR259_0.out | (with_reducible refine Kd.C_alloc ?_ _) | (with_reducible refine Kd.C_drewN ?_ _) | (with_reducible refine Kd.C_drew ?_))); (case side2 => exact HC259_0.out); rintro e w' ⟨rfl, ⟨nd, rfl⟩⟩; refine ⟨_, rfl, ?_⟩))
            go_ret
            exact ⟨by first | rfl | (simp; done) | (simp [*]; done), by repeat (first | exact Drawn0.refl _ | apply Drawn0.step)⟩
          · rw [if_neg c6] at H
            have c6b0 : decide (t260 < 0) = false := decide_eq_false c6
            clear c6
            have H' := Aside0.mk H
            clear H
            have p259 : 0 ≤ (x5_1 : Int) := of_decide_eq_true (by first | (with_reducible assumption) | assumption)
            have q259 : x5_1 < (l0.length : Int) := of_decide_eq_true (by first | (with_reducible assumption) | assumption)
            obtain ⟨ad259, A259_0, c259_0, e259, hx259_0, hl259_0, hi259_0⟩ := at_L5 HR0.out x5_1 p259 q259
            cases e259
            have HR259_0 := Aside0.mk hi259_0
            have HC259_0 := Aside0.mk hl259_0
            clear hi259_0 hl259_0
            replace p259 := eq_true p259
            replace q259 := eq_true q259
            go_wp2_with (first | ((with_reducible refine gate_callee (f := 76) rfl ?_); refine goesL_ (some 17) rfl rfl Try.func76 (by kernel_rfl) rfl #[.slice A259_0 (rd_L5 l0 x5_1).length c259_0, .int .i64 x1_1] rfl (by (try simp only [List.map_toArray, List.map_cons, List.map_nil]); first | done | rfl | (simp only [List.length_drop, List.length_take]; rfl)) ?_; (with_reducible refine (laws_heldIntS.calls k1 _ _ (rd_L5 l0 x5_1) x1_1 t260 _ ?side1 ?side2 A5.out).mono ?_); (case side1 => repeat (first | exact HR259_0.out | (with_reducible refine Kd.C_alloc ?_ _) | (with_reducible refine Kd.C_drewN ?_ _) | (with_reducible refine Kd.C_drew ?_))); (case side2 => exact HC259_0.out); rintro e w' ⟨rfl, ⟨nd, rfl⟩⟩; refine ⟨_, rfl, ?_⟩))
            go_roundg k1
            case measure => have := HK1.out; omega
            case rel => exact ⟨(t260), (wrap64 (x5_1 + 1)), (by first | rfl | (simp; done) | (simp [*]; done)), (by first | rfl | (simp; done) | (simp [*]; done)), H', ⟨by have := HK1.out; omega⟩, by repeat (first | exact Drawn0.refl _ | apply Drawn0.step)⟩
        · rw [if_neg c4] at H
          exact absurd H (by simp)
      · rw [if_neg c3] at H
        have c3b0 : decide (x5_1 < (l0.length : Int)) = false := decide_eq_false c3
        clear c3
        obtain rfl := Option.some.inj H
        go_wp2
        go_ret
        exact ⟨by first | rfl | (simp; done) | (simp [*]; done), by repeat (first | exact Drawn0.refl _ | apply Drawn0.step)⟩

/-! ### laws_FnExactHintTable: function 5 -/
set_option maxHeartbeats 4000000 in
set_option maxRecDepth 100000 in
theorem mark3_calls (g c : Nat) (m : Int) (w : World) (hm : 0 ≤ m ∧ m ≤ 1000000) (u0 u1 u2 : Value) (h0 : w.cell? ⟨g, 0, none⟩ = some u0) (h1 : w.cell? ⟨g, 1, none⟩ = some u1) (h2 : w.cell? ⟨g, 2, none⟩ = some u2) (hf : ∀ y, w.frozen? ⟨g, y, none⟩ = false) :
    Calls Try.prog 75 #[.slice (some ⟨g, 0, none⟩) 3 c, .int .i64 m] w fun e w' => e = .returned (.int .i64 (m + 3)) ∧ w' = ((w.setCell ⟨g, 0, none⟩ (.int .i64 m)).setCell ⟨g, 1, none⟩ (.int .i64 (m + 1))).setCell ⟨g, 2, none⟩ (.int .i64 (m + 2)) := by
  have hw0 : Aside0 (wrap64 (m + 1) = m + 1) := ⟨by unfold wrap64; omega⟩
  have hw1 : Aside0 (wrap64 (m + 1 + 1) = m + 2) := ⟨by unfold wrap64; omega⟩
  have hw2 : Aside0 (wrap64 (m + 2 + 1) = m + 3) := ⟨by unfold wrap64; omega⟩
  obtain ⟨W1, hW1⟩ : ∃ W1, W1 = w.setCell ⟨g, 0, none⟩ (.int .i64 m) := ⟨_, rfl⟩
  obtain ⟨W2, hW2⟩ : ∃ W2, W2 = W1.setCell ⟨g, 1, none⟩ (.int .i64 (m + 1)) := ⟨_, rfl⟩
  have H1 : Aside0 (W1.cell? ⟨g, 1, none⟩ = some u1) := ⟨by rw [hW1, World.cell?_setCell_other _ _ _ _ (by simp)]; exact h1⟩
  have H2 : Aside0 (W2.cell? ⟨g, 2, none⟩ = some u2) := ⟨by rw [hW2, hW1, World.cell?_setCell_other _ _ _ _ (by simp), World.cell?_setCell_other _ _ _ _ (by simp)]; exact h2⟩
  have F1 : Aside0 (W1.frozen? ⟨g, 1, none⟩ = false) := ⟨by rw [hW1, World.frozen?_setCell]; exact hf 1⟩
  have F2 : Aside0 (W2.frozen? ⟨g, 2, none⟩ = false) := ⟨by rw [hW2, hW1, World.frozen?_setCell, World.frozen?_setCell]; exact hf 2⟩
  have HW1 := Aside0.mk hW1
  have HW2 := Aside0.mk hW2
  have H0 := Aside0.mk h0
  have F0 := Aside0.mk (hf 0)
  clear h0 h1 h2 hf hm hW1 hW2
  go_enter Try.func75, Try.ntmps75
  go_wp2
  go_loopg [1, 5] 3 (fun gg v1 v5 wr => (v1 = .int .i64 m ∧ v5 = .int .i64 0 ∧ wr = w ∧ 3 ≤ gg) ∨ (v1 = .int .i64 (m + 1) ∧ v5 = .int .i64 1 ∧ wr = W1 ∧ 2 ≤ gg) ∨ (v1 = .int .i64 (m + 2) ∧ v5 = .int .i64 2 ∧ wr = W2 ∧ 1 ≤ gg) ∨ (v1 = .int .i64 (m + 3) ∧ v5 = .int .i64 3 ∧ wr = W2.setCell ⟨g, 2, none⟩ (.int .i64 (m + 2))))
  case atStart => exact .inl ⟨rfl, rfl, rfl, Nat.le_refl _⟩
  case round =>
    rcases hrel with ⟨rfl, rfl, rfl, hg⟩ | ⟨rfl, rfl, rfl, hg⟩ | ⟨rfl, rfl, rfl, hg⟩ | ⟨rfl, rfl, rfl⟩
    · have h0 := H0.out
      have f0 := F0.out
      go_wp2
      go_roundg 2
      case measure => omega
      case rel => exact .inr (.inl ⟨by rw [hw0.out], rfl, by rw [HW1.out], Nat.le_refl _⟩)
    · have h0 := H1.out
      have f0 := F1.out
      go_wp2
      go_roundg 1
      case measure => omega
      case rel => exact .inr (.inr (.inl ⟨by rw [hw1.out], rfl, by rw [HW2.out], Nat.le_refl _⟩))
    · have h0 := H2.out
      have f0 := F2.out
      go_wp2
      go_roundg 0
      case measure => omega
      case rel => exact .inr (.inr (.inr ⟨by rw [hw2.out], rfl, rfl⟩))
    · go_wp2
      go_ret
      exact ⟨rfl, by rw [HW2.out, HW1.out]⟩
/-- Marks in a table: three in each row. -/
def marks3 (n : Nat) : List (List Int) := (List.range n).map fun (i : Nat) => [1 + 3 * (i : Int), 1 + 3 * (i : Int) + 1, 1 + 3 * (i : Int) + 2]
theorem marks3_step (rows : List (List Int)) (i : Nat) (h : i < rows.length) : (marks3 i ++ rows.drop i).set i [1 + 3 * (i : Int), 1 + 3 * (i : Int) + 1, 1 + 3 * (i : Int) + 2] = marks3 (i + 1) ++ rows.drop (i + 1) := by
  have hl : (marks3 i).length = i := by simp [marks3]
  rw [List.set_append_right _ _ (by omega), hl, Nat.sub_self, List.drop_eq_getElem_cons h, List.set_cons_zero]
  have : marks3 (i + 1) = marks3 i ++ [[1 + 3 * (i : Int), 1 + 3 * (i : Int) + 1, 1 + 3 * (i : Int) + 2]] := by
    unfold marks3
    rw [List.range_succ, List.map_append]
    rfl
  rw [this, List.append_assoc]
  rfl
set_option maxHeartbeats 4000000 in
set_option maxRecDepth 100000 in
theorem markTab_calls (A : Option Addr) (g : Nat) (bb cc : Nat → Nat) (rows : List (List Int)) (base : Nat) (w0 w : World) (hT : TabAt g bb cc rows base w) (hA : rows = [] ∨ A = some ⟨g, 0, none⟩) (hl : rows.length ≤ 1000) (hB : Below base w0 w) :
    Calls Try.prog 20 #[.slice A rows.length rows.length, .int .i64 1] w fun e w' => e = .returned (.int .i64 (1 + 3 * (rows.length : Int))) ∧ TabAt g bb cc (marks3 rows.length) base w' ∧ Below base w0 w' := by
  have HT0 : Aside0 (TabAt g bb cc (marks3 0 ++ rows.drop 0) base w) := ⟨hT⟩
  have HB0 := Aside0.mk hB
  have HA := Aside0.mk hA
  have HL := Aside0.mk hl
  clear hT hB hA hl
  obtain ⟨n, hn⟩ : ∃ n, n = rows.length := ⟨_, rfl⟩
  have HN := Aside0.mk hn
  rw [← hn]
  clear hn
  go_enter Try.func20, Try.ntmps20
  go_wp2
  go_loopg [1, 5] n (fun gg v1 v5 wr => ∃ i : Nat, v1 = .int .i64 (1 + 3 * (i : Int)) ∧ v5 = .int .i64 (i : Int) ∧ i ≤ n ∧ n - i ≤ gg ∧ Aside0 (TabAt g bb cc (marks3 i ++ rows.drop i) base wr) ∧ Aside0 (Below base w0 wr))
  case atStart => exact ⟨0, rfl, rfl, by omega, by omega, HT0, HB0⟩
  case round =>
    clear HT0 HB0
    obtain ⟨i, rfl, rfl, hi, hg, HT, HB⟩ := hrel
    by_cases hlt : i < n
    · have hltz : (i : Int) < (n : Int) := by omega
      have hA' : A = some ⟨g, 0, none⟩ := by
        rcases HA.out with e | e
        · have := HN.out; rw [e] at this; simp at this; omega
        · exact e
      subst hA'
      have hll : i < (marks3 i ++ rows.drop i).length := by rw [List.length_append, List.length_drop]; have := HN.out; simp [marks3]; omega
      have hcell := HT.out.cell i hll
      obtain ⟨p, o, c, _, h0, h1, h2⟩ := HT.out.row i hll
      have hcall := mark3_calls (bb i) (cc i) (1 + 3 * (i : Int)) wr (by have := HL.out; have := HN.out; omega) _ _ _ h0 h1 h2 (HT.out.froz i hll)
      have HG := Aside0.mk hg
      have HLT := Aside0.mk hlt
      have HLL := Aside0.mk hll
      obtain ⟨m, hm⟩ : ∃ m : Int, m = 1 + 3 * (i : Int) := ⟨_, rfl⟩
      rw [← hm] at hcall ⊢
      have HM := Aside0.mk hm
      clear hi hg hlt hll hm h0 h1 h2
      go_wp2_with (go_at_call 75; refine hcall.mono ?_; rintro e w1 ⟨rfl, rfl⟩; clear hcall)
      go_roundg (n - (i + 1))
      case measure => have := HG.out; have := HLT.out; omega
      case rel =>
        refine ⟨i + 1, by rw [HM.out]; congr 1 <;> omega, by rw [show wrap64 ((i : Int) + 1) = ((i + 1 : Nat) : Int) by have := HL.out; have := HN.out; have := HLT.out; unfold wrap64; omega], by have := HLT.out; omega, Nat.le_refl _, ⟨?_⟩, ⟨?_⟩⟩
        · have e := HT.out.setRow i HLL.out (1 + 3 * (i : Int)) (1 + 3 * (i : Int) + 1) (1 + 3 * (i : Int) + 2)
          rw [marks3_step rows i (by rw [← HN.out]; exact HLT.out)] at e
          rw [HM.out]
          exact e
        · have ho := (HT.out.own i HLL.out).1
          exact ((HB.out.setCell ho _).setCell ho _).setCell ho _
    · have hltz : ¬ (i : Int) < (n : Int) := by omega
      have hin : i = n := by omega
      have HF : Aside0 (TabAt g bb cc (marks3 n) base wr) := ⟨by have e := HT.out; rw [hin, List.drop_eq_nil_of_le (by have := HN.out; omega), List.append_nil] at e; exact e⟩
      have HIN := Aside0.mk hin
      clear hi hg hlt hin
      go_wp2
      go_ret
      exact ⟨by rw [HIN.out]; rfl, HF.out, HB.out⟩
def laws_FnExactHintTable.f (k : Nat) (a b : Int) (l : List S74) (c : ByteArray) : Option Bool :=
  if (c.size : Int) > 1048576 then some true else
  (laws_szHintS.f k l 1048576).bind fun z => if z < 0 then some true else
  (laws_toHintS.f k l).bind fun x => (spec_HintTable.f k a b x c).bind fun s => (impl_HintTable.f k a b x c).bind fun g =>
    if g = s ∧ g.1.length ≤ 1000 then
      (laws_eqIntSS.f k g.1 s.1).bind fun e => if e = true then
        (laws_eqHintS.f k x x).bind fun e2 => if e2 = true then
          (laws_markHintS.f k x 1).bind fun m => if 0 ≤ m.1 then
            (laws_heldIntSS.f k (marks3 g.1.length) 1).bind fun q => if q = 1 + 3 * (g.1.length : Int) then some true else none
          else none
        else none
      else none
    else none
theorem laws_FnExactHintTable.mono : ∀ a b l c k, LeO (laws_FnExactHintTable.f k a b l c) (laws_FnExactHintTable.f (k + 1) a b l c) := fun a b l c k =>
  LeO.ite (LeO.refl _) (LeO.bind (laws_szHintS.mono _ _ _) (fun z => LeO.ite (LeO.refl _) (LeO.bind (laws_toHintS.mono _ _) (fun x => LeO.bind (spec_HintTable.mono _ _ _ _ _) (fun s => LeO.bind (impl_HintTable.mono _ _ _ _ _) (fun g => LeO.ite (LeO.bind (laws_eqIntSS.mono _ _ _) (fun e => LeO.ite (LeO.bind (laws_eqHintS.mono _ _ _) (fun e2 => LeO.ite (LeO.bind (laws_markHintS.mono _ _ _) (fun m => LeO.ite (LeO.bind (laws_heldIntSS.mono _ _ _) (fun q => LeO.refl _)) (LeO.refl _))) (LeO.refl _))) (LeO.refl _))) (LeO.refl _)))))))
theorem of_drewN {B n : Nat} {w W : World} (h : Below B w (W.drewN n)) : Below B w W := ⟨h.os, h.tape, h.output, h.size, h.block⟩
theorem marks3_len (n : Nat) : (marks3 n).length = n := by simp [marks3]
theorem marks3_nil {A : Option Addr} {g : Nat} {rows : List (List Int)} (h : rows = [] ∨ A = some ⟨g, 0, none⟩) : marks3 rows.length = [] ∨ A = some ⟨g, 0, none⟩ := by
  rcases h with h | h
  · exact .inl (by rw [h]; rfl)
  · exact .inr h
theorem TabAt.kept {g : Nat} {bb cc : Nat → Nat} {rows : List (List Int)} {base : Nat} {W W' : World} {P : Nat → Prop} (h : TabAt g bb cc rows base W) (hk : Kept W W' P) (hP : ∀ q, base ≤ q → ¬ P q) : TabAt g bb cc rows base W' :=
  h.move (fun q hq hl => hk.2 q hl (hP q (by rcases hq with rfl | ⟨j, hj, rfl⟩; exact h.gown; exact (h.own j hj).1)))
set_option maxHeartbeats 16000000 in
set_option maxRecDepth 100000 in
theorem laws_FnExactHintTable.calls (k : Nat) (a b : Int) (A1 : Option Addr) (c1 : Nat) (l1 : List S74) (a2 : ByteArray) (r : Bool) (w : World) (hr1 : Kd.C k74 w A1 l1.length l1) (hc1 : l1.length ≤ c1) (h : laws_FnExactHintTable.f k a b l1 a2 = some r) :
    Calls Try.prog 5 #[.agg #[.int .i64 a, .int .i64 b], .slice A1 l1.length c1, .string a2] w fun e w' => e = .returned (.bool r) ∧ Below w.heap.size w w' := by
  have hu23 := Try.underlying23
  unfold laws_FnExactHintTable.f at h
  by_cases hbig : (a2.size : Int) > 1048576
  · rw [if_pos hbig] at h
    obtain rfl := Option.some.inj h
    have hbn : a2.size > 1048576 := by omega
    clear h hr1 hc1
    go_enter Try.func5, Try.ntmps5
    go_wp2
    go_ret
    exact ⟨rfl, below_alloc (Below.refl _ _) _⟩
  rw [if_neg hbig] at h
  have hbn : ¬ a2.size > 1048576 := by omega
  obtain ⟨z, hz, h2⟩ := Option.bind_eq_some_iff.mp h
  clear h
  have hsz : ∀ W, Below w.heap.size w W → Calls Try.prog 8 #[.slice A1 l1.length c1, .int .i64 1048576] W _ := fun W hW => laws_szHintS.calls k A1 c1 l1 1048576 z W (Kd.C_below hr1 hW) hc1 hz
  have HSZ := Aside0.mk hsz
  clear hsz hz
  by_cases hz0 : z < 0
  · rw [if_pos hz0] at h2
    obtain rfl := Option.some.inj h2
    have hzd : decide (z < 0) = true := decide_eq_true hz0
    have M1 := Aside0.mk trivial
    clear h2 hr1 hc1
    go_enter Try.func5, Try.ntmps5
    go_wp2_with (first | (go_at_call 8; refine (HSZ.out _ (below_alloc (Below.refl _ _) _)).mono ?_; rintro e w1 ⟨rfl, hb⟩; have HB := Aside0.mk (below_then (below_alloc (Below.refl w.heap.size w) _) (by simp) hb); clear hb))
    go_ret
    exact ⟨rfl, HB.out⟩
  rw [if_neg hz0] at h2
  have hzd : decide (z < 0) = false := decide_eq_false hz0
  obtain ⟨x, hx, h3⟩ := Option.bind_eq_some_iff.mp h2
  obtain ⟨s, hs, h4⟩ := Option.bind_eq_some_iff.mp h3
  obtain ⟨g, hg, h5⟩ := Option.bind_eq_some_iff.mp h4
  by_cases he : g = s ∧ g.1.length ≤ 1000
  case neg => rw [if_neg he] at h5; exact absurd h5 (by simp)
  rw [if_pos he] at h5
  obtain ⟨rfl, hlen⟩ := he
  obtain ⟨rows, b1⟩ := g
  obtain ⟨e, heq, h6⟩ := Option.bind_eq_some_iff.mp h5
  by_cases he1 : e = true
  case neg => rw [if_neg he1] at h6; exact absurd h6 (by simp)
  rw [if_pos he1] at h6
  subst he1
  obtain ⟨e2, heh, h7⟩ := Option.bind_eq_some_iff.mp h6
  by_cases he2 : e2 = true
  case neg => rw [if_neg he2] at h7; exact absurd h7 (by simp)
  rw [if_pos he2] at h7
  subst he2
  obtain ⟨⟨m1_, m2_⟩, hm, h8⟩ := Option.bind_eq_some_iff.mp h7
  by_cases hm0 : 0 ≤ m1_
  case neg => rw [if_neg hm0] at h8; exact absurd h8 (by simp)
  rw [if_pos hm0] at h8
  obtain ⟨q, hq, h9⟩ := Option.bind_eq_some_iff.mp h8
  dsimp only at hlen heq hq h9
  by_cases hq1 : q = 1 + 3 * (rows.length : Int)
  case neg => rw [if_neg hq1] at h9; exact absurd h9 (by simp)
  rw [if_pos hq1] at h9
  obtain rfl := Option.some.inj h9
  have hqd : decide (q < 0) = false := decide_eq_false (by omega)
  have hmd : decide (m1_ < 0) = false := decide_eq_false (by omega)
  have htl : ∀ W, Calls Try.prog 10 #[.agg #[.int .i64 a, .int .i64 b]] W _ := fun W => laws_toLock.calls a b a b W rfl
  have hto : ∀ W, Below w.heap.size w W → Calls Try.prog 11 #[.slice A1 l1.length c1] W _ := fun W hW => laws_toHintS.calls k A1 c1 l1 x W (Kd.C_below hr1 hW) hc1 hx
  have hspec : ∀ A c W, Kd.C k47 W A x.length x → x.length ≤ c → Calls Try.prog 16 #[.agg #[.int .i64 a, .int .i64 b], .slice A x.length c, .string a2] W _ := fun A c W hW hc => spec_HintTable.calls k a b A c x a2 rows b1 W hW hc hs
  have himpl : ∀ A c W, Kd.C k47 W A x.length x → x.length ≤ c → Calls Try.prog 17 #[.agg #[.int .i64 a, .int .i64 b], .slice A x.length c, .string a2] W _ := fun A c W hW hc => impl_HintTable.calls k a b A c x a2 rows b1 W hW hc hg
  have hehs : ∀ A c A' c' W, Kd.C k47 W A x.length x → x.length ≤ c → Kd.C k47 W A' x.length x → x.length ≤ c' → Calls Try.prog 13 #[.slice A x.length c, .slice A' x.length c'] W _ := fun A c A' c' W h1 h2 h3 h4 => laws_eqHintS.calls k A c x A' c' x true W h1 h2 h3 h4 heh
  have HTO := Aside0.mk hto
  have HSPEC := Aside0.mk hspec
  have HIMPL := Aside0.mk himpl
  have HEH := Aside0.mk hehs
  have HEQ := Aside0.mk heq
  have HM := Aside0.mk hm
  have HHD := Aside0.mk hq
  have HQ1 := Aside0.mk hq1
  have HLN := Aside0.mk hlen
  have HLEN : Aside0 (rows.length ≤ 1000000) := ⟨by omega⟩
  have M1 := Aside0.mk trivial
  clear h2 h3 h4 h5 h6 h7 h8 h9 hx hs hg hto hspec himpl hehs heq hm hq hq1 hlen hr1 hc1 heh hm0 hz0
  go_enter Try.func5, Try.ntmps5
  go_wp2_with (first | (go_at_call 8; have m1 := M1; clear M1; go_loud (refine (HSZ.out _ (below_alloc (Below.refl _ _) _)).mono ?_; rintro e w1 ⟨rfl, hb⟩; have HB := Aside0.mk (below_then (below_alloc (Below.refl w.heap.size w) _) (by simp) hb); have BX := Aside0.mk (blk_below (blk_new w _) hb); have hc0 : w1.cell? ⟨w.heap.size, 0, none⟩ = some (.int .i64 a) := (blk_cell (BX.out) 0).trans rfl; have hc1 : w1.cell? ⟨w.heap.size, 1, none⟩ = some (.int .i64 b) := (blk_cell (BX.out) 1).trans rfl; clear hb); have M2 := m1; clear m1) | (go_at_call 10; have m1 := M2; clear M2; go_loud (refine (htl _).mono ?_; rintro e w2 ⟨rfl, hb⟩; clear hc0 hc1; have n1 := Aside0.mk (below_then HB.out HB.out.size hb); have n2 := Aside0.mk (blk_below BX.out hb); clear hb HB BX; have HB := n1; have BX := n2; clear n1 n2); have M3 := m1; clear m1) | (go_at_call 11; have m1 := M3; clear M3; go_loud (refine (HTO.out _ HB.out).mono ?_; rintro e w3 ⟨v3, rfl, hr, hb⟩; obtain ⟨A3, c3, e3⟩ := Kd.R_slice hr; subst e3; have HR3 := Aside0.mk hr; have n1 := Aside0.mk (below_then HB.out HB.out.size hb); have n2 := Aside0.mk (blk_below BX.out hb); clear hb hr HB BX; have HB := n1; have BX := n2; clear n1 n2); have M4 := m1; clear m1) | (go_at_call 16; have m1 := M4; clear M4; go_loud (refine (HSPEC.out A3 c3 _ (Kd.R_reads' HR3.out).2.2 (Kd.R_reads' HR3.out).2.1).mono ?_; rintro e w4 ⟨v4, rfl, hs, hb⟩; obtain ⟨As, cs, es⟩ := Kd.S_slice hs; subst es; have HS4 := Aside0.mk hs; have HB4 := Aside0.mk (below_then HB.out HB.out.size hb); have BX4 := Aside0.mk (blk_below BX.out hb); have HX : Aside0 (Below w4.heap.size w4 w4) := ⟨Below.refl _ _⟩; clear hb hs HB BX HR3; have hc0 : w4.cell? ⟨w.heap.size, 0, none⟩ = some (.int .i64 a) := (blk_cell (BX4.out) 0).trans rfl; have hc1 : w4.cell? ⟨w.heap.size, 1, none⟩ = some (.int .i64 b) := (blk_cell (BX4.out) 1).trans rfl); have M5 := m1; clear m1) | (go_at_call 11; have m1 := M5; clear M5; go_loud (refine (HTO.out _ HB4.out).mono ?_; rintro e w5 ⟨v5, rfl, hr, hb⟩; clear hc0 hc1; obtain ⟨A5, c5, e5⟩ := Kd.R_slice hr; subst e5; have HR5 := Aside0.mk (Kd.R_mono (Kd.R_bound hr) (ok' := fun q => q < w5.heap.size) (fun q hq => hq.2.2.1)); have n1 := Aside0.mk (below_then HX.out HX.out.size hb); have N5 : Aside0 (w5.heap.size ≤ w5.heap.size) := ⟨Nat.le_refl _⟩; have N45 : Aside0 (w4.heap.size ≤ w5.heap.size) := ⟨hb.size⟩; clear hb hr HX; have HX := n1; clear n1; have hc0 : w5.cell? ⟨w.heap.size, 0, none⟩ = some (.int .i64 a) := (blk_cell (blk_below BX4.out HX.out) 0).trans rfl; have hc1 : w5.cell? ⟨w.heap.size, 1, none⟩ = some (.int .i64 b) := (blk_cell (blk_below BX4.out HX.out) 1).trans rfl); have M6 := m1; clear m1) | (go_at_call 10; have m1 := M6; clear M6; go_loud (refine (htl _).mono ?_; rintro e w6 ⟨rfl, hb⟩; clear hc0 hc1; have n1 := Aside0.mk (below_then HX.out HX.out.size hb); have n2 := Aside0.mk (Kd.R_below HR5.out hb); have n3 := Aside0.mk (Nat.le_trans N5.out hb.size); clear hb HX HR5 N5; have HX := n1; have HR5 := n2; have N5 := n3; clear n1 n2 n3); have M7 := m1; clear m1) | (go_at_call 17; have m1 := M7; clear M7; go_loud (refine (HIMPL.out A5 c5 _ (Kd.R_reads' HR5.out).2.2 (Kd.R_reads' HR5.out).2.1).mono ?_; rintro e w7 ⟨Ag, gg, bb, cc, rfl, h1, h2, hb⟩; have HAG := Aside0.mk h1; have HG := Aside0.mk (h2.lower N5.out); have n1 := Aside0.mk (below_then HX.out HX.out.size hb); have n2 := Aside0.mk (Kd.R_below HR5.out hb); have n3 := Aside0.mk (Nat.le_trans (below_size HX.out) hb.size); clear hb h1 h2 HX HR5 n3; have HX := n1; have HR5 := n2; clear n1 n2); have M8 := m1; clear m1) | (go_at_call 18; have m1 := M8; clear M8; go_loud (refine (laws_eqIntSS.calls k Ag rows.length rows As cs rows true _ (HG.out.reads HAG.out HLEN.out) (Nat.le_refl _) (Kd.S_reads' (Kd.S_below HS4.out HX.out)).2.2 (Kd.S_reads' HS4.out).2.1 HEQ.out).mono ?_; rintro e w8 ⟨rfl, ⟨nd, rfl⟩⟩; have n0 := Aside0.mk (HG.out.drewN nd); have n1 := Aside0.mk (pw_below_drewN HX.out nd); have n2 := Aside0.mk (Kd.R_drewN HR5.out nd); clear HG HX HR5; have HG := n0; have HX := n1; have HR5 := n2; clear n0 n1 n2); have M9 := m1; clear m1) | (go_at_call 11; have m1 := M9; clear M9; go_loud (refine (HTO.out _ (below_then HB4.out HB4.out.size HX.out)).mono ?_; rintro e w9 ⟨v9, rfl, hr, hb⟩; obtain ⟨A9, c9, e9⟩ := Kd.R_slice hr; subst e9; have HR9 := Aside0.mk hr; have n0 := Aside0.mk (HG.out.below hb); have n1 := Aside0.mk (below_then HX.out HX.out.size hb); have n2 := Aside0.mk (Kd.R_below HR5.out hb); clear hb hr HG HX HR5; have HG := n0; have HX := n1; have HR5 := n2; clear n0 n1 n2); have M10 := m1; clear m1) | (go_at_call 13; have m1 := M10; clear M10; go_loud (refine (HEH.out A5 c5 A9 c9 _ (Kd.R_reads' HR5.out).2.2 (Kd.R_reads' HR5.out).2.1 (Kd.R_reads' HR9.out).2.2 (Kd.R_reads' HR9.out).2.1).mono ?_; rintro e w10 ⟨rfl, hb⟩; clear HR9; have n0 := Aside0.mk (HG.out.below hb); have n1 := Aside0.mk (below_then HX.out HX.out.size hb); have n2 := Aside0.mk (Kd.R_below HR5.out hb); clear hb HG HX HR5; have HG := n0; have HX := n1; have HR5 := n2; clear n0 n1 n2); have M11 := m1; clear m1) | (go_at_call 19; have m1 := M11; clear M11; go_loud (refine (laws_markHintS.calls k _ _ x 1 m1_ m2_ w4 _ HX.out HR5.out HM.out).mono ?_; rintro e w11 ⟨rfl, h1, h2, h3⟩; have n0 := Aside0.mk (HG.out.kept h3 (fun q hq => Nat.not_lt.mpr hq)); have n1 := Aside0.mk h2; clear h1 h2 h3 HG HX HR5; have HG := n0; have HX := n1; clear n0 n1); have M12 := m1; clear m1) | (go_at_call 18; have m1 := M12; clear M12; go_loud (refine (laws_eqIntSS.calls k Ag rows.length rows As cs rows true _ (HG.out.reads HAG.out HLEN.out) (Nat.le_refl _) (Kd.S_reads' (Kd.S_below HS4.out HX.out)).2.2 (Kd.S_reads' HS4.out).2.1 HEQ.out).mono ?_; rintro e w12 ⟨rfl, ⟨nd, rfl⟩⟩; have n0 := Aside0.mk (HG.out.drewN nd); have n1 := Aside0.mk (pw_below_drewN HX.out nd); clear HG HX; have HG := n0; have HX := n1; clear n0 n1); have M13 := m1; clear m1) | (go_at_call 20; have m1 := M13; clear M13; go_loud (have hmk := markTab_calls Ag gg bb cc rows w4.heap.size w4 _ (HG.out.lower N45.out) HAG.out HLN.out HX.out; rw [← HQ1.out] at hmk; refine hmk.mono ?_; rintro e w13 ⟨rfl, h1, h2⟩; clear hmk HG HX; have HG := Aside0.mk h1; have HX := Aside0.mk h2; clear h1 h2); have M14 := m1; clear m1) | (go_at_call 21; have m1 := M14; clear M14; go_loud (have hh := laws_heldIntSS.calls k Ag rows.length (marks3 rows.length) 1 q _ (HG.out.reads (marks3_nil HAG.out) (by rw [marks3_len]; exact HLEN.out)) (by rw [marks3_len]; exact Nat.le_refl _) HHD.out; rw [marks3_len] at hh; refine hh.mono ?_; rintro e w14 ⟨rfl, ⟨nd, rfl⟩⟩; have n0 := Aside0.mk (HG.out.drewN nd); have n1 := Aside0.mk (pw_below_drewN HX.out nd); clear hh HG HX; have HG := n0; have HX := n1; clear n0 n1; have hc0 : w13.cell? ⟨w.heap.size, 0, none⟩ = some (.int .i64 a) := (blk_cell (blk_below BX4.out (of_drewN HX.out)) 0).trans rfl; have hc1 : w13.cell? ⟨w.heap.size, 1, none⟩ = some (.int .i64 b) := (blk_cell (blk_below BX4.out (of_drewN HX.out)) 1).trans rfl); have M15 := m1; clear m1) | (go_at_call 10; have m1 := M15; clear M15; go_loud (refine (htl _).mono ?_; rintro e w15 ⟨rfl, hb⟩; clear hc0 hc1; have n0 := Aside0.mk (HG.out.below hb); have n1 := Aside0.mk (below_then HX.out HX.out.size hb); clear hb HG HX; have HG := n0; have HX := n1; clear n0 n1); have M16 := m1; clear m1) | (go_at_call 11; have m1 := M16; clear M16; go_loud (refine (HTO.out _ (below_then HB4.out HB4.out.size HX.out)).mono ?_; rintro e w16 ⟨v16, rfl, hr, hb⟩; obtain ⟨A16, c16, e16⟩ := Kd.R_slice hr; subst e16; have HR16 := Aside0.mk hr; have n0 := Aside0.mk (HG.out.below hb); have n1 := Aside0.mk (below_then HX.out HX.out.size hb); clear hb hr HG HX; have HG := n0; have HX := n1; clear n0 n1); have M17 := m1; clear m1) | (go_at_call 17; have m1 := M17; clear M17; go_loud (refine (HIMPL.out A16 c16 _ (Kd.R_reads' HR16.out).2.2 (Kd.R_reads' HR16.out).2.1).mono ?_; rintro e w17 ⟨Ah, gh, bh, ch, rfl, h1, h2, hb⟩; have HAH := Aside0.mk h1; have HH := Aside0.mk h2; have n0 := Aside0.mk (HG.out.below hb); have n1 := Aside0.mk (below_then HX.out HX.out.size hb); clear hb h1 h2 HX HG HR16; have HG := n0; have HX := n1; clear n0 n1); have M18 := m1; clear m1) | (go_at_call 18; have m1 := M18; clear M18; go_loud (refine (laws_eqIntSS.calls k Ah rows.length rows As cs rows true _ (HH.out.reads HAH.out HLEN.out) (Nat.le_refl _) (Kd.S_reads' (Kd.S_below HS4.out HX.out)).2.2 (Kd.S_reads' HS4.out).2.1 HEQ.out).mono ?_; rintro e w18 ⟨rfl, ⟨nd, rfl⟩⟩; have n0 := Aside0.mk (HG.out.drewN nd); have n1 := Aside0.mk (pw_below_drewN HX.out nd); clear HG HX HH; have HG := n0; have HX := n1; clear n0 n1); have M19 := m1; clear m1) | (go_at_call 21; have m1 := M19; clear M19; go_loud (have hh := laws_heldIntSS.calls k Ag rows.length (marks3 rows.length) 1 q _ (HG.out.reads (marks3_nil HAG.out) (by rw [marks3_len]; exact HLEN.out)) (by rw [marks3_len]; exact Nat.le_refl _) HHD.out; rw [marks3_len] at hh; refine hh.mono ?_; rintro e w19 ⟨rfl, ⟨nd, rfl⟩⟩; have n1 := Aside0.mk (pw_below_drewN HX.out nd); clear hh HG HX; have HX := n1; clear n1); have M20 := m1; clear m1))
  go_ret
  exact ⟨rfl, below_then HB4.out HB4.out.size (by first | exact HX.out | (rw [← World.drewN_drewN]; exact HX.out))⟩

end Go.Proofs.Ythikcnbjfnkglab.T
