/- What the laws' helpers on slices of slices and on pins come to, and which pins are valid; for lists within the laws' own bounds. -/
import Derived.Test.YtdkgclkkofmgkaaQx0
import Derived.Test.YtdkgclkkofmgkaaQx1
import Derived.Test.YtdkgclkkofmgkaaQx2
import Derived.Test.YtdkgclkkofmgkaaQx3
import Derived.Test.YtdkgclkkofmgkaaKit
namespace Go.Proofs.Ytdkgclkkofmgkaa.Pure
open Go.RowKit Go.Proofs.Ytdkgclkkofmgkaa.Q Go.Proofs.YtdkgclkkofmgkaaW.PrintWords Go.Proofs.YtdkgclkkofmgkaaW.PrintLast Go.Proofs.YtdkgclkkofmgkaaW.PrintMore
set_option linter.unusedVariables false

theorem rdL_nat {xs : List (List Int)} {i : Nat} (h : i < xs.length) : rd_L1 xs (i : Int) = xs[i] := by
  unfold rd_L1
  simp [h]
theorem szIntS_some (xs : List Int) (a : Int) (ha : 0 ≤ a ∧ a ≤ 1048576) (hx : xs.length ≤ maxLen) : ∃ v, laws_szIntS.f xs a = some v ∧ v ≤ 1048576 ∧ (v < 0 ∨ 0 ≤ v ∧ xs.length ≤ 1048576) := by
  simp only [maxLen] at hx
  unfold laws_szIntS.f
  rw [w64 (by omega) (by omega)]
  by_cases h : a - (xs.length : Int) < 0
  · exact ⟨-1, by rw [if_pos h], by omega, by omega⟩
  · exact ⟨a - (xs.length : Int), by rw [if_neg h], by omega, by omega⟩
theorem szIntSS_l0 (l : List (List Int)) (hn : l.length ≤ 1048576) (hl : ∀ x ∈ l, x.length ≤ maxLen) : ∀ (d i : Nat) (a : Int), i + d = l.length → 0 ≤ a → a ≤ 1048576 →
    ∃ v, Ev (fun k => laws_szIntSS.l0 k l a (i : Int)) v ∧ (v < 0 ∨ ∀ x ∈ l.drop i, x.length ≤ 1048576) := by
  intro d
  induction d with
  | zero =>
    intro i a hi _ _
    refine ⟨a, ?_, .inr ?_⟩
    · refine Ev.step (fun k => by rw [laws_szIntSS.l0]) ?_
      exact Ev.neg (by omega) (Ev.now _)
    · rw [List.drop_eq_nil_of_le (by omega)]
      simp
  | succ d ih =>
    intro i a hi h0 h1
    have hlt : i < l.length := by omega
    obtain ⟨v, hv, hb, hc⟩ := szIntS_some l[i] a ⟨h0, h1⟩ (hl _ (List.getElem_mem hlt))
    by_cases hneg : v < 0
    · refine ⟨-1, ?_, .inl (by omega)⟩
      refine Ev.step (fun k => by rw [laws_szIntSS.l0]) ?_
      refine Ev.pos (by omega) (Ev.pos (by omega) ?_)
      rw [rdL_nat hlt]
      exact Ev.let_ hv (Ev.pos hneg (Ev.now _))
    · obtain ⟨u, hu, hd⟩ := ih (i + 1) v (by omega) (by omega) hb
      refine ⟨u, ?_, ?_⟩
      · refine Ev.step (fun k => by rw [laws_szIntSS.l0]) ?_
        refine Ev.pos (by omega) (Ev.pos (by omega) ?_)
        rw [rdL_nat hlt, w64n (by omega)]
        exact Ev.let_ hv (Ev.neg hneg hu)
      · rcases hd with hd | hd
        · exact .inl hd
        · refine .inr ?_
          rw [List.drop_eq_getElem_cons hlt]
          intro x hx
          rcases List.mem_cons.mp hx with rfl | hx
          · rcases hc with hc | hc
            · exact absurd hc hneg
            · exact hc.2
          · exact hd x hx
theorem szIntSS_ev (l : List (List Int)) (hn : l.length ≤ maxLen) (hl : ∀ x ∈ l, x.length ≤ maxLen) : ∃ v, Ev (fun k => laws_szIntSS.f k l 1048576) v ∧ (v < 0 ∨ l.length ≤ 1048576 ∧ ∀ x ∈ l, x.length ≤ 1048576) := by
  simp only [maxLen] at hn
  by_cases h : (1048576 : Int) - (l.length : Int) < 0
  · refine ⟨-1, ?_, by omega⟩
    unfold laws_szIntSS.f
    rw [w64 (by omega) (by omega)]
    exact Ev.pos h (Ev.now _)
  · obtain ⟨v, hv, hb⟩ := szIntSS_l0 l (by omega) hl l.length 0 ((1048576 : Int) - (l.length : Int)) (by omega) (by omega) (by omega)
    refine ⟨v, ?_, ?_⟩
    · unfold laws_szIntSS.f
      rw [w64 (by omega) (by omega)]
      exact Ev.neg h hv
    · rcases hb with hb | hb
      · exact .inl hb
      · rw [List.drop_zero] at hb
        exact .inr ⟨by omega, hb⟩
theorem szPins_ev (a : Int) (l : List (List Int)) (hn : l.length ≤ maxLen) (hl : ∀ x ∈ l, x.length ≤ maxLen) : ∃ v, Ev (fun k => laws_szPins.f k a l 1048576) v ∧ (v < 0 ∨ l.length ≤ 1048576 ∧ ∀ x ∈ l, x.length ≤ 1048576) := by
  obtain ⟨v, hv, hb⟩ := szIntSS_ev l hn hl
  by_cases h : v < 0
  · refine ⟨-1, ?_, by omega⟩
    unfold laws_szPins.f
    exact Ev.bind hv (Ev.pos h (Ev.now _))
  · refine ⟨v, ?_, hb⟩
    unfold laws_szPins.f
    exact Ev.bind hv (Ev.neg h (Ev.now _))

theorem toIntS_l0 (xs : List Int) (hn : xs.length < 1099511627776) : ∀ (d i : Nat) (ys : List Int), i + d = xs.length → ys.length = xs.length → ys.take i = xs.take i →
    Ev (fun k => laws_toIntS.l0 k xs ys (i : Int)) xs := by
  intro d
  induction d with
  | zero =>
    intro i ys hi hl he
    refine Ev.step (fun k => by rw [laws_toIntS.l0]) ?_
    refine Ev.neg (by omega) (Ev.val (Ev.now _) ?_)
    rw [List.take_of_length_le (by omega), List.take_of_length_le (by omega)] at he
    exact he
  | succ d ih =>
    intro i ys hi hl he
    refine Ev.step (fun k => by rw [laws_toIntS.l0]) ?_
    refine Ev.pos (by omega) (Ev.pos (by omega) (Ev.pos (by omega) ?_))
    rw [w64n (by omega), Int.toNat_natCast, rd_nat (by omega)]
    refine ih (i + 1) _ (by omega) (by simp [hl]) ?_
    have h1 : i < xs.length := by omega
    rw [List.take_succ_eq_append_getElem (by simp; omega), List.take_succ_eq_append_getElem h1, List.take_set]
    rw [List.set_eq_of_length_le (by simp; omega), he]
    simp
theorem toIntS_ev (xs : List Int) (hn : xs.length < 1099511627776) : Ev (fun k => laws_toIntS.f k xs) xs := by
  unfold laws_toIntS.f
  refine Ev.pos (by omega) (Ev.pos (by omega) ?_)
  rw [Int.toNat_natCast]
  exact toIntS_l0 xs hn xs.length 0 _ (by omega) (by simp) rfl
theorem toIntSS_l0 (xs : List (List Int)) (hn : xs.length < 1099511627776) (hx : ∀ x ∈ xs, x.length < 1099511627776) : ∀ (d i : Nat) (ys : List (List Int)), i + d = xs.length → ys.length = xs.length → ys.take i = xs.take i →
    Ev (fun k => laws_toIntSS.l0 k xs ys (i : Int)) xs := by
  intro d
  induction d with
  | zero =>
    intro i ys hi hl he
    refine Ev.step (fun k => by rw [laws_toIntSS.l0]) ?_
    refine Ev.neg (by omega) (Ev.val (Ev.now _) ?_)
    rw [List.take_of_length_le (by omega), List.take_of_length_le (by omega)] at he
    exact he
  | succ d ih =>
    intro i ys hi hl he
    have h1 : i < xs.length := by omega
    refine Ev.step (fun k => by rw [laws_toIntSS.l0]) ?_
    refine Ev.pos (by omega) (Ev.pos (by omega) ?_)
    rw [w64n (by omega), Int.toNat_natCast, rdL_nat h1]
    refine Ev.bind (toIntS_ev _ (hx _ (List.getElem_mem h1))) (Ev.pos (by omega) ?_)
    refine ih (i + 1) _ (by omega) (by simp [hl]) ?_
    rw [List.take_succ_eq_append_getElem (by simp; omega), List.take_succ_eq_append_getElem h1, List.take_set]
    rw [List.set_eq_of_length_le (by simp; omega), he]
    simp
theorem toIntSS_ev (xs : List (List Int)) (hn : xs.length ≤ 1048576) (hx : ∀ x ∈ xs, x.length ≤ 1048576) : Ev (fun k => laws_toIntSS.f k xs) xs := by
  unfold laws_toIntSS.f
  refine Ev.pos (by omega) (Ev.pos (by omega) ?_)
  rw [Int.toNat_natCast]
  exact toIntSS_l0 xs (by omega) (fun x h => by have := hx x h; omega) xs.length 0 _ (by omega) (by simp) rfl
theorem toPins_ev (a : Int) (xs : List (List Int)) (hn : xs.length ≤ 1048576) (hx : ∀ x ∈ xs, x.length ≤ 1048576) : Ev (fun k => laws_toPins.f k a xs) (a, xs) := by
  unfold laws_toPins.f
  exact Ev.bind (toIntSS_ev xs hn hx) (Ev.now _)

theorem eqIntS_refl_l0 (xs : List Int) (hn : xs.length < 1099511627776) : ∀ (d i : Nat), i + d = xs.length →
    Ev (fun k => laws_eqIntS.l0 k xs xs (i : Int)) true := by
  intro d
  induction d with
  | zero =>
    intro i hi
    refine Ev.step (fun k => by rw [laws_eqIntS.l0]) ?_
    exact Ev.neg (by omega) (Ev.now _)
  | succ d ih =>
    intro i hi
    have h1 : i < xs.length := by omega
    refine Ev.step (fun k => by rw [laws_eqIntS.l0]) ?_
    refine Ev.pos (by omega) (Ev.pos (by omega) (Ev.pos (by omega) (Ev.pos rfl ?_)))
    rw [w64n (by omega)]
    exact ih (i + 1) (by omega)
theorem eqIntS_refl (xs : List Int) (hn : xs.length < 1099511627776) : Ev (fun k => laws_eqIntS.f k xs xs) true := by
  unfold laws_eqIntS.f
  exact Ev.pos rfl (eqIntS_refl_l0 xs hn xs.length 0 (by omega))
theorem eqIntSS_refl_l0 (xs : List (List Int)) (hn : xs.length < 1099511627776) (hx : ∀ x ∈ xs, x.length < 1099511627776) : ∀ (d i : Nat), i + d = xs.length →
    Ev (fun k => laws_eqIntSS.l0 k xs xs (i : Int)) true := by
  intro d
  induction d with
  | zero =>
    intro i hi
    refine Ev.step (fun k => by rw [laws_eqIntSS.l0]) ?_
    exact Ev.neg (by omega) (Ev.now _)
  | succ d ih =>
    intro i hi
    have h1 : i < xs.length := by omega
    refine Ev.step (fun k => by rw [laws_eqIntSS.l0]) ?_
    refine Ev.pos (by omega) (Ev.pos (by omega) (Ev.pos (by omega) ?_))
    rw [w64n (by omega), rdL_nat h1]
    refine Ev.bind (eqIntS_refl _ (hx _ (List.getElem_mem h1))) (Ev.pos rfl ?_)
    exact ih (i + 1) (by omega)
theorem eqIntSS_refl (xs : List (List Int)) (hn : xs.length < 1099511627776) (hx : ∀ x ∈ xs, x.length < 1099511627776) : Ev (fun k => laws_eqIntSS.f k xs xs) true := by
  unfold laws_eqIntSS.f
  exact Ev.pos rfl (eqIntSS_refl_l0 xs hn hx xs.length 0 (by omega))
theorem eqPins_refl (a : Int) (xs : List (List Int)) (hn : xs.length ≤ 1048576) (hx : ∀ x ∈ xs, x.length ≤ 1048576) : Ev (fun k => laws_eqPins.f k a xs a xs) true := by
  unfold laws_eqPins.f
  exact Ev.pos rfl (Ev.bind (eqIntSS_refl xs (by omega) (fun x h => by have := hx x h; omega)) (Ev.pos rfl (Ev.now _)))

/-! which pins are valid -/
theorem l1In_some (a b c : Int) : spec_l1In.f a b c = some (decide (b ≤ a ∧ a ≤ c)) := by
  unfold spec_l1In.f
  by_cases h : a ≥ b
  · rw [if_pos h]; simp [show b ≤ a from h]
  · rw [if_neg h]; simp [show ¬ b ≤ a from h]
theorem within_some (a b c : Int) : impl_within.f a b c = some (decide (b ≤ a ∧ a ≤ c)) := by
  unfold impl_within.f
  by_cases h : b ≤ a
  · rw [if_pos h]; simp [h]
  · rw [if_neg h]; simp [h]
def riseB (hi : Int) : Option Int → List Int → Bool
  | _, [] => true
  | prev, x :: xs => decide (0 ≤ x ∧ x ≤ hi) && (match prev with | none => true | some p => decide (p < x)) && riseB hi (some x) xs
theorem riseB_cons (hi : Int) (prev : Option Int) (x : Int) (xs : List Int) : riseB hi prev (x :: xs) = (decide (0 ≤ x ∧ x ≤ hi) && (match prev with | none => true | some p => decide (p < x)) && riseB hi (some x) xs) := by cases prev <;> rfl
def prevOf (l : List Int) (i : Nat) : Option Int := if h : 0 < i ∧ i - 1 < l.length then some (l[i - 1]'h.2) else none
theorem rise_l0 (hi : Int) (l : List Int) (hn : l.length ≤ 1048576) : ∀ (d i : Nat), i + d = l.length →
    Ev (fun k => spec_l1Rising.l0 k l 0 hi l (l.length : Int) (i : Int)) (riseB hi (prevOf l i) (l.drop i)) := by
  intro d
  induction d with
  | zero =>
    intro i hi'
    refine Ev.step (fun k => by rw [spec_l1Rising.l0]) ?_
    refine Ev.neg (by omega) (Ev.val (Ev.now _) ?_)
    rw [List.drop_eq_nil_of_le (by omega)]
    rfl
  | succ d ih =>
    intro i hi'
    have h1 : i < l.length := by omega
    refine Ev.step (fun k => by rw [spec_l1Rising.l0]) ?_
    refine Ev.pos (by omega) (Ev.pos (by omega) (Ev.pos (by omega) ?_))
    rw [rd_nat h1, w64n (by omega)]
    refine Ev.let_ (l1In_some _ _ _) ?_
    rw [List.drop_eq_getElem_cons h1, riseB_cons]
    have hp : prevOf l (i + 1) = some l[i] := by unfold prevOf; rw [dif_pos ⟨by omega, by omega⟩]; rfl
    have ih' := ih (i + 1) (by omega)
    rw [hp] at ih'
    by_cases hb : 0 ≤ l[i] ∧ l[i] ≤ hi
    · refine Ev.pos (decide_eq_true hb) ?_
      rw [decide_eq_true hb, Bool.true_and]
      by_cases h0 : 0 < i
      · have hp2 : prevOf l i = some l[i - 1] := by unfold prevOf; rw [dif_pos ⟨h0, by omega⟩]
        have e : ((i : Int) - 1) = ((i - 1 : Nat) : Int) := by omega
        refine Ev.pos (by omega) ?_
        rw [w64 (x := (i : Int) - 1) (by omega) (by omega), e, rd_nat (show i - 1 < l.length by omega), hp2]
        refine Ev.pos (by omega) (Ev.pos (by omega) ?_)
        by_cases hc : l[i - 1] ≥ l[i]
        · refine Ev.pos hc (Ev.val (Ev.now _) ?_)
          simp only [decide_eq_false (show ¬ l[i - 1] < l[i] by omega), Bool.false_and]
        · refine Ev.neg hc (Ev.val ih' ?_)
          simp only [decide_eq_true (show l[i - 1] < l[i] by omega), Bool.true_and]
      · have hp2 : prevOf l i = none := by unfold prevOf; rw [dif_neg (fun h => h0 h.1)]
        refine Ev.neg (by omega) (Ev.val ih' ?_)
        rw [hp2]
        simp only [Bool.true_and]
    · refine Ev.neg (by rw [decide_eq_false hb]; decide) (Ev.val (Ev.now _) ?_)
      rw [decide_eq_false hb, Bool.false_and, Bool.false_and]
theorem depths_l0 (d0 : Int) (hd : 1 ≤ d0 ∧ d0 ≤ 9) (l : List Int) (hn : l.length ≤ 1048576) : ∀ (d i : Nat), i + d = l.length →
    Ev (fun k => impl_areDepths.l0 k d0 l l (l.length : Int) (i : Int)) (riseB (d0 - 1) (prevOf l i) (l.drop i) && decide (0 < l.length)) := by
  intro d
  induction d with
  | zero =>
    intro i hi'
    refine Ev.step (fun k => by rw [impl_areDepths.l0]) ?_
    refine Ev.neg (by omega) (Ev.val (Ev.now _) ?_)
    rw [List.drop_eq_nil_of_le (by omega), riseB, Bool.true_and, decide_eq_decide]
    omega
  | succ d ih =>
    intro i hi'
    have h1 : i < l.length := by omega
    refine Ev.step (fun k => by rw [impl_areDepths.l0]) ?_
    refine Ev.pos (by omega) (Ev.pos (by omega) (Ev.pos (by omega) ?_))
    rw [rd_nat h1, w64n (by omega), w64 (x := d0 - 1) (by omega) (by omega)]
    refine Ev.let_ (within_some _ _ _) ?_
    rw [List.drop_eq_getElem_cons h1, riseB_cons]
    have hp : prevOf l (i + 1) = some l[i] := by unfold prevOf; rw [dif_pos ⟨by omega, by omega⟩]; rfl
    have ih' := ih (i + 1) (by omega)
    rw [hp] at ih'
    by_cases hb : 0 ≤ l[i] ∧ l[i] ≤ d0 - 1
    · refine Ev.pos (decide_eq_true hb) ?_
      rw [decide_eq_true hb, Bool.true_and]
      by_cases h0 : 0 < i
      · have hp2 : prevOf l i = some l[i - 1] := by unfold prevOf; rw [dif_pos ⟨h0, by omega⟩]
        have e : ((i : Int) - 1) = ((i - 1 : Nat) : Int) := by omega
        refine Ev.pos (by omega) ?_
        rw [w64 (x := (i : Int) - 1) (by omega) (by omega), e, rd_nat (show i - 1 < l.length by omega), hp2]
        refine Ev.pos (by omega) (Ev.pos (by omega) ?_)
        by_cases hc : l[i] ≤ l[i - 1]
        · refine Ev.pos hc (Ev.val (Ev.now _) ?_)
          simp only [decide_eq_false (show ¬ l[i - 1] < l[i] by omega), Bool.false_and]
        · refine Ev.neg hc (Ev.val ih' ?_)
          simp only [decide_eq_true (show l[i - 1] < l[i] by omega), Bool.true_and]
      · have hp2 : prevOf l i = none := by unfold prevOf; rw [dif_neg (fun h => h0 h.1)]
        refine Ev.neg (by omega) (Ev.val ih' ?_)
        rw [hp2]
        simp only [Bool.true_and]
    · refine Ev.neg (by rw [decide_eq_false hb]; decide) (Ev.val (Ev.now _) ?_)
      rw [decide_eq_false hb, Bool.false_and, Bool.false_and, Bool.false_and]
def rowOk (d : Int) (x : List Int) : Bool := riseB (d - 1) none x && decide (0 < x.length)
def pinsOk (d : Int) (l : List (List Int)) : Bool := decide ((1 ≤ d ∧ d ≤ 9) ∧ 1 ≤ l.length ∧ l.length ≤ 7) && l.all (rowOk d)
theorem areDepths_ev (d0 : Int) (hd : 1 ≤ d0 ∧ d0 ≤ 9) (l : List Int) (hn : l.length ≤ 1048576) : Ev (fun k => impl_areDepths.f k d0 l) (rowOk d0 l) := by
  unfold impl_areDepths.f
  have := depths_l0 d0 hd l hn l.length 0 (by omega)
  exact this
theorem anyO_ev {α : Type} (p : Nat → α → Option Bool) (q : α → Bool) : ∀ (l : List α), (∀ x ∈ l, Ev (fun k => p k x) (q x)) → Ev (fun k => anyO (p k) l) (l.any q)
  | [], _ => Ev.now _
  | x :: xs, h => by
    have ih := anyO_ev p q xs (fun y hy => h y (List.mem_cons_of_mem _ hy))
    refine Ev.bind (h x List.mem_cons_self) ?_
    rw [List.any_cons]
    by_cases hq : q x = true
    · refine Ev.pos hq (Ev.val (Ev.now _) ?_)
      rw [hq, Bool.true_or]
    · refine Ev.neg hq (Ev.val ih ?_)
      rw [Bool.eq_false_iff.mpr hq, Bool.false_or]
theorem Ev.map_ {α β : Type} {g : Nat → Option α} {a : α} (f : α → β) (h : Ev g a) : Ev (fun k => (g k).map f) (f a) := by
  obtain ⟨K, h⟩ := h
  exact ⟨K, fun k hk => by show Option.map f (g k) = _; rw [h k hk]; rfl⟩
theorem implArePins_ev (d : Int) (l : List (List Int)) (hn : l.length ≤ 1048576) (hx : ∀ x ∈ l, x.length ≤ 1048576) : Ev (fun k => impl_ArePins.f k d l) (pinsOk d l) := by
  unfold impl_ArePins.f pinsOk
  refine Ev.pos (by omega) ?_
  by_cases h : (1 ≤ d ∧ d ≤ 9) ∧ 1 ≤ l.length ∧ l.length ≤ 7
  · refine Ev.pos h ?_
    rw [decide_eq_true h, Bool.true_and]
    have := Ev.map_ (fun b => !b) (anyO_ev (fun k x => (impl_areDepths.f k d x).map (fun b => !b)) (fun x => !rowOk d x) l (fun x hm => Ev.map_ (fun b => !b) (areDepths_ev d h.1 x (hx x hm))))
    refine Ev.val this ?_
    rw [List.all_eq_not_any_not]
  · refine Ev.neg h (Ev.val (Ev.now _) ?_)
    rw [decide_eq_false h, Bool.false_and]
theorem keGood_l0 (d : Int) (hd : 1 ≤ d ∧ d ≤ 9) (l : List (List Int)) (hn : l.length ≤ 1048576) (hx : ∀ x ∈ l, x.length ≤ 1048576) : ∀ (e i : Nat), i + e = l.length →
    Ev (fun k => spec_keGood.l0 k l (l.length : Int) (i : Int) d l) ((l.drop i).all (rowOk d)) := by
  intro e
  induction e with
  | zero =>
    intro i hi
    refine Ev.step (fun k => by rw [spec_keGood.l0]) ?_
    refine Ev.neg (by omega) (Ev.val (Ev.now _) ?_)
    rw [List.drop_eq_nil_of_le (by omega)]
    rfl
  | succ e ih =>
    intro i hi
    have h1 : i < l.length := by omega
    have hr := hx _ (List.getElem_mem h1)
    refine Ev.step (fun k => by rw [spec_keGood.l0]) ?_
    refine Ev.pos (by omega) (Ev.pos (by omega) (Ev.pos (by omega) ?_))
    rw [rdL_nat h1, w64n (by omega), w64 (x := d - 1) (by omega) (by omega), List.drop_eq_getElem_cons h1, List.all_cons]
    by_cases h0 : (l[i].length : Int) = 0
    · refine Ev.pos h0 (Ev.val (Ev.now _) ?_)
      unfold rowOk
      rw [decide_eq_false (show ¬ 0 < l[i].length by omega), Bool.and_false, Bool.false_and]
    · refine Ev.neg h0 ?_
      have hR : Ev (fun k => spec_l1Rising.f k l[i] 0 (d - 1)) (riseB (d - 1) none l[i]) := by
        unfold spec_l1Rising.f
        exact rise_l0 (d - 1) l[i] hr l[i].length 0 (by omega)
      refine Ev.bind hR ?_
      have hk : rowOk d l[i] = riseB (d - 1) none l[i] := by
        unfold rowOk
        rw [decide_eq_true (show 0 < l[i].length by omega), Bool.and_true]
      rw [hk]
      by_cases hb : riseB (d - 1) none l[i] = true
      · refine Ev.pos hb (Ev.val (ih (i + 1) (by omega)) ?_)
        rw [hb, Bool.true_and]
      · refine Ev.neg hb (Ev.val (Ev.now _) ?_)
        rw [Bool.eq_false_iff.mpr hb, Bool.false_and]
theorem keGood_ev (d : Int) (l : List (List Int)) (hn : l.length ≤ 1048576) (hx : ∀ x ∈ l, x.length ≤ 1048576) : Ev (fun k => spec_keGood.f k d l) (pinsOk d l) := by
  have no : ∀ x : Bool, x = true → Ev (fun k => spec_keGood.j0 k x d l) false := by
    intro x h
    refine Ev.step (fun k => by rw [spec_keGood.j0]) ?_
    exact Ev.pos h (Ev.now _)
  unfold spec_keGood.f pinsOk
  refine Ev.let_ (l1In_some _ _ _) ?_
  by_cases h1 : 1 ≤ d ∧ d ≤ 9
  · refine Ev.pos (decide_eq_true h1) (Ev.let_ (l1In_some _ _ _) ?_)
    by_cases h2 : 1 ≤ l.length ∧ l.length ≤ 7
    · refine Ev.step (fun k => by rw [spec_keGood.j0]) ?_
      refine Ev.neg (by simp; omega) ?_
      rw [decide_eq_true (⟨h1, h2⟩ : (1 ≤ d ∧ d ≤ 9) ∧ 1 ≤ l.length ∧ l.length ≤ 7), Bool.true_and]
      have := keGood_l0 d h1 l hn hx l.length 0 (by omega)
      rw [List.drop_zero] at this
      exact this
    · rw [decide_eq_false (fun hc : (1 ≤ d ∧ d ≤ 9) ∧ 1 ≤ l.length ∧ l.length ≤ 7 => h2 hc.2), Bool.false_and]
      exact no _ (by simp; omega)
  · rw [decide_eq_false (fun hc : (1 ≤ d ∧ d ≤ 9) ∧ 1 ≤ l.length ∧ l.length ≤ 7 => h1 hc.1), Bool.false_and]
    exact Ev.neg (by rw [decide_eq_false h1]; decide) (no _ rfl)
end Go.Proofs.Ytdkgclkkofmgkaa.Pure
