/- Chapter 6: locks, codes and hints as both sides tell them: lemmas on what the small functions come to. -/
import Derived.Test.YthpmpkmdjpaemaaGreatPx0
import Derived.Test.YthpmpkmdjpaemaaGreatPx12
import Derived.Test.YthpmpkmdjpaemaaGreatPx13
import Derived.Test.YthpmpkmdjpaemaaGreatPx2
import Derived.Test.YthpmpkmdjpaemaaGreatPx5
import Derived.Test.YthpmpkmdjpaemaaGreatPx7
import Derived.Test.YthpmpkmdjpaemaaGreatPx9
import Derived.Test.YthpmpkmdjpaemaaGreatKit
namespace Go.Proofs.YthpmpkmdjpaemaaGreat.Pure
open Go.RowKit Go.Proofs.YthpmpkmdjpaemaaGreat.P Go.Proofs.YthpmpkmdjpaemaaGreatW.PrintWords Go.Proofs.YthpmpkmdjpaemaaGreatW.PrintLast Go.Proofs.YthpmpkmdjpaemaaGreatW.PrintMore
set_option linter.unusedVariables false

theorem l1In_some (n lo hi : Int) : spec_l1In.f n lo hi = some (decide (lo ≤ n ∧ n ≤ hi)) := by
  unfold spec_l1In.f
  by_cases h : n ≥ lo
  · rw [if_pos h]; congr 1; exact decide_eq_decide.mpr (by omega)
  · rw [if_neg h]; congr 1; exact (decide_eq_false (by omega)).symm
theorem within_some (n lo hi : Int) : impl_within.f n lo hi = some (decide (lo ≤ n ∧ n ≤ hi)) := by
  unfold impl_within.f
  by_cases h : lo ≤ n
  · rw [if_pos h]; congr 1; exact decide_eq_decide.mpr (by omega)
  · rw [if_neg h]; congr 1; exact (decide_eq_false (by omega)).symm
def lockB (a b : Int) : Bool := decide ((1 ≤ a ∧ a ≤ 6) ∧ 2 ≤ b ∧ b ≤ 10)
theorem lockB_iff {a b : Int} : lockB a b = true ↔ (1 ≤ a ∧ a ≤ 6) ∧ 2 ≤ b ∧ b ≤ 10 := by unfold lockB; exact decide_eq_true_iff
theorem lockB_not {a b : Int} : lockB a b = false ↔ ¬ ((1 ≤ a ∧ a ≤ 6) ∧ 2 ≤ b ∧ b ≤ 10) := by unfold lockB; exact decide_eq_false_iff_not
theorem two_tests (p q : Prop) [Decidable p] [Decidable q] : (if decide p = true then (some (decide q) : Option Bool) else some false) = some (decide (p ∧ q)) := by
  by_cases h : p
  · rw [if_pos (decide_eq_true h)]; congr 1; exact decide_eq_decide.mpr ⟨fun hq => ⟨h, hq⟩, fun hq => hq.2⟩
  · rw [if_neg (by rw [decide_eq_false h]; decide)]; congr 1; exact (decide_eq_false (fun hq => h hq.1)).symm
theorem whGood_some (a b : Int) : spec_whGood.f a b = some (lockB a b) := by
  unfold spec_whGood.f lockB
  rw [l1In_some, l1In_some]
  simp only [Option.bind_some]
  exact two_tests _ _
theorem IsLock_some (a b : Int) : impl_IsLock.f a b = some (lockB a b) := by
  unfold impl_IsLock.f lockB
  rw [within_some, within_some]
  simp only [Option.bind_some]
  exact two_tests _ _
theorem pow_lock {w d : Nat} (hw : w ≤ 6) (hd1 : 2 ≤ d) (hd : d ≤ 10) : d ^ w ≤ 1000000 := by
  have h1 : d ^ w ≤ 10 ^ w := Nat.pow_le_pow_left hd w
  have h2 : 10 ^ w ≤ 10 ^ 6 := Nat.pow_le_pow_right (by omega) hw
  omega
theorem whCount_l0 (d : Nat) (hd1 : 2 ≤ d) (hd : d ≤ 10) (x y : Int) : ∀ (j i : Nat), i + j ≤ 6 → Ev (fun K => spec_whCount.l0 K ((d ^ i : Nat) : Int) j x d) ((d ^ (i + j) : Nat) : Int) := by
  intro j
  induction j with
  | zero =>
    intro i _
    refine Ev.step (fun k => by rw [spec_whCount.l0]) ?_
    exact Ev.neg (by omega) (Ev.now _)
  | succ j ih =>
    intro i hi
    have hp := pow_lock (w := i + 1) (by omega) hd1 hd
    have e : ((d ^ i : Nat) : Int) * (d : Int) = ((d ^ (i + 1) : Nat) : Int) := by rw [Nat.pow_succ, Int.natCast_mul]
    refine Ev.step (fun k => by rw [spec_whCount.l0]) ?_
    refine Ev.pos (by omega) ?_
    rw [e, w64 (x := ((d ^ (i + 1) : Nat) : Int)) (by omega) (by omega), w64 (x := ((j + 1 : Nat) : Int) - 1) (by omega) (by omega), show ((j + 1 : Nat) : Int) - 1 = (j : Int) by omega]
    have := ih (i + 1) (by omega)
    rw [show i + 1 + j = i + (j + 1) by omega] at this
    exact this
theorem whCount_ev (w d : Nat) (hw : w ≤ 6) (hd1 : 2 ≤ d) (hd : d ≤ 10) : Ev (fun K => spec_whCount.f K w d) ((d ^ w : Nat) : Int) := by
  unfold spec_whCount.f
  have := whCount_l0 d hd1 hd w d w 0 (by omega)
  rw [Nat.zero_add] at this
  exact this
def smallB (a b m : Int) : Bool := lockB a b && decide (((b.toNat ^ a.toNat : Nat) : Int) ≤ m)
theorem lock_nat {a b : Int} (h : lockB a b = true) : ∃ w d : Nat, a = w ∧ b = d ∧ 1 ≤ w ∧ w ≤ 6 ∧ 2 ≤ d ∧ d ≤ 10 := by
  have := lockB_iff.mp h
  exact ⟨a.toNat, b.toNat, by omega, by omega, by omega, by omega, by omega, by omega⟩
theorem power_l0 (b n : Nat) (hb : 1 ≤ b) (hn : n < 1000) (hp : b ^ n ≤ 4611686018427387904) : ∀ (d i : Nat), i + d = n →
    Ev (fun k => impl_power.l0 k (b : Int) ((b ^ i : Nat) : Int) (n : Int) (i : Int)) ((b ^ n : Nat) : Int) := by
  intro d
  induction d with
  | zero =>
    intro i hi
    refine Ev.step (fun k => by rw [impl_power.l0]) ?_
    refine Ev.neg (by omega) (Ev.val (Ev.now _) ?_)
    rw [show i = n by omega]
  | succ d ih =>
    intro i hi
    have h1 : b ^ (i + 1) ≤ b ^ n := Nat.pow_le_pow_right hb (by omega)
    have e : ((b ^ i : Nat) : Int) * (b : Int) = ((b ^ (i + 1) : Nat) : Int) := by rw [Nat.pow_succ, Int.natCast_mul]
    refine Ev.step (fun k => by rw [impl_power.l0]) ?_
    refine Ev.pos (by omega) ?_
    rw [e, w64 (x := ((b ^ (i + 1) : Nat) : Int)) (by omega) (by omega), w64n (by omega)]
    exact ih (i + 1) (by omega)
theorem power_ev (b n : Nat) (hb : 1 ≤ b) (hn : n < 1000) (hp : b ^ n ≤ 4611686018427387904) : Ev (fun k => impl_power.f k (b : Int) (n : Int)) ((b ^ n : Nat) : Int) := by
  unfold impl_power.f
  exact power_l0 b n hb hn hp n 0 (by omega)
theorem count_ev (w d : Nat) (hw : w ≤ 6) (hd1 : 2 ≤ d) (hd : d ≤ 10) : Ev (fun K => impl_Lock_count.f K w d) ((d ^ w : Nat) : Int) := by
  unfold impl_Lock_count.f
  have := pow_lock hw hd1 hd
  exact Ev.bind (power_ev d w (by omega) (by omega) (by omega)) (Ev.now _)
theorem isSmall_ev (a b m : Int) : Ev (fun K => impl_isSmall.f K a b m) (smallB a b m) := by
  unfold impl_isSmall.f smallB
  refine Ev.let_ (IsLock_some a b) ?_
  by_cases h : lockB a b = true
  · obtain ⟨w, d, rfl, rfl, h1, h2, h3, h4⟩ := lock_nat h
    refine Ev.pos h (Ev.bind (count_ev w d h2 h3 h4) (Ev.val (Ev.now _) ?_))
    rw [h, Bool.true_and]
    simp only [Int.toNat_natCast]
  · refine Ev.neg h (Ev.val (Ev.now _) ?_)
    rw [Bool.eq_false_iff.mpr h, Bool.false_and]

/-! codes -/
def digB (b : Int) (s : ByteArray) (i : Nat) : Bool := decide (48 ≤ bt s (i : Int) ∧ bt s (i : Int) ≤ 48 + b - 1)
/-- A text of digits below b from place i on. -/
def textB (b : Int) (s : ByteArray) (i : Nat) : Bool := (List.range' i (s.size - i)).all (digB b s)
def codeB (a b : Int) (s : ByteArray) : Bool := decide ((s.size : Int) = a) && textB b s 0
theorem bt_bd (s : ByteArray) (i : Nat) (h : i < s.size) : 0 ≤ bt s (i : Int) ∧ bt s (i : Int) ≤ 255 := by
  have e : bt s (i : Int) = ((s[i]'h).toNat : Int) := by unfold bt; simp [h]
  have := (s[i]'h).toNat_lt
  omega
theorem textB_step (b : Int) (s : ByteArray) (i : Nat) (h : i < s.size) : textB b s i = (digB b s i && textB b s (i + 1)) := by
  unfold textB
  rw [show s.size - i = (s.size - (i + 1)) + 1 by omega, List.range'_succ, List.all_cons]
theorem textB_end (b : Int) (s : ByteArray) (i : Nat) (h : ¬ i < s.size) : textB b s i = true := by
  unfold textB
  rw [show s.size - i = 0 by omega]
  rfl
theorem whCode_l0 (a b : Int) (hb : 2 ≤ b ∧ b ≤ 10) (s : ByteArray) (hs : s.size < 9223372036854775808) : ∀ (d i : Nat), i + d = s.size → Ev (fun K => spec_whCode.l0 K s i a b) (textB b s i) := by
  intro d
  induction d with
  | zero =>
    intro i hi
    refine Ev.step (fun k => by rw [spec_whCode.l0]) ?_
    refine Ev.neg (by omega) (Ev.val (Ev.now _) ?_)
    rw [textB_end _ _ _ (by omega)]
  | succ d ih =>
    intro i hi
    have h1 : i < s.size := by omega
    have hbd := bt_bd s i h1
    refine Ev.step (fun k => by rw [spec_whCode.l0]) ?_
    refine Ev.pos (by omega) (Ev.pos (by omega) ?_)
    rw [w64 (x := bt s (i : Int)) (by omega) (by omega), w64 (x := bt s (i : Int) - 48) (by omega) (by omega), w64 (x := b - 1) (by omega) (by omega), w64n (by omega)]
    refine Ev.let_ (l1In_some _ _ _) ?_
    rw [textB_step _ _ _ h1]
    have e : decide (0 ≤ bt s (i : Int) - 48 ∧ bt s (i : Int) - 48 ≤ b - 1) = digB b s i := by
      unfold digB
      exact decide_eq_decide.mpr (by omega)
    rw [e]
    by_cases h : digB b s i = true
    · rw [h, Bool.true_and]
      exact Ev.pos rfl (ih (i + 1) (by omega))
    · rw [Bool.eq_false_iff.mpr h, Bool.false_and]
      exact Ev.neg (by decide) (Ev.now _)
theorem whCode_ev (a b : Int) (hb : 2 ≤ b ∧ b ≤ 10) (s : ByteArray) (hs : s.size < 9223372036854775808) : Ev (fun K => spec_whCode.f K a b s) (codeB a b s) := by
  unfold spec_whCode.f codeB
  by_cases h : (s.size : Int) = a
  · rw [decide_eq_true h, Bool.true_and]
    exact Ev.pos h (whCode_l0 a b hb s hs s.size 0 (by omega))
  · rw [decide_eq_false h, Bool.false_and]
    exact Ev.neg h (Ev.now _)
theorem isText_l0 (a b : Int) (hb : 2 ≤ b ∧ b ≤ 10) (s : ByteArray) (hs : s.size < 9223372036854775808) : ∀ (d i : Nat), i + d = s.size → Ev (fun K => impl_Lock_isText.l0 K s (s.size : Int) i a b) (textB b s i) := by
  intro d
  induction d with
  | zero =>
    intro i hi
    refine Ev.step (fun k => by rw [impl_Lock_isText.l0]) ?_
    refine Ev.neg (by omega) (Ev.val (Ev.now _) ?_)
    rw [textB_end _ _ _ (by omega)]
  | succ d ih =>
    intro i hi
    have h1 : i < s.size := by omega
    have hbd := bt_bd s i h1
    refine Ev.step (fun k => by rw [impl_Lock_isText.l0]) ?_
    refine Ev.pos (by omega) (Ev.pos (by omega) (Ev.pos (by omega) ?_))
    rw [w64 (x := bt s (i : Int)) (by omega) (by omega), w64 (x := 48 + b) (by omega) (by omega), w64 (x := 48 + b - 1) (by omega) (by omega), w64n (by omega)]
    refine Ev.let_ (within_some _ _ _) ?_
    rw [textB_step _ _ _ h1]
    have e : decide (48 ≤ bt s (i : Int) ∧ bt s (i : Int) ≤ 48 + b - 1) = digB b s i := rfl
    rw [e]
    by_cases h : digB b s i = true
    · rw [h, Bool.true_and]
      exact Ev.pos rfl (ih (i + 1) (by omega))
    · rw [Bool.eq_false_iff.mpr h, Bool.false_and]
      exact Ev.neg (by decide) (Ev.now _)
theorem isCode_ev (a b : Int) (hb : 2 ≤ b ∧ b ≤ 10) (s : ByteArray) (hs : s.size < 9223372036854775808) : Ev (fun K => impl_Lock_isCode.f K a b s) (codeB a b s) := by
  unfold impl_Lock_isCode.f codeB
  by_cases h : (s.size : Int) = a
  · rw [decide_eq_true h, Bool.true_and]
    refine Ev.pos h (Ev.bind ?_ (Ev.now _))
    unfold impl_Lock_isText.f
    exact isText_l0 a b hb s hs s.size 0 (by omega)
  · rw [decide_eq_false h, Bool.false_and]
    exact Ev.neg h (Ev.now _)
theorem has_l0 (a b : Int) (hb : 2 ≤ b ∧ b ≤ 10) (l : List ByteArray) (hl : l.length < 9223372036854775808) (hs : ∀ s ∈ l, s.size < 9223372036854775808) : ∀ (d i : Nat), i + d = l.length → Ev (fun K => impl_has.l0 K l (l.length : Int) i a b) ((l.drop i).all (codeB a b)) := by
  intro d
  induction d with
  | zero =>
    intro i hi
    refine Ev.step (fun k => by rw [impl_has.l0]) ?_
    refine Ev.neg (by omega) (Ev.val (Ev.now _) ?_)
    rw [List.drop_eq_nil_of_le (by omega)]
    rfl
  | succ d ih =>
    intro i hi
    have h1 : i < l.length := by omega
    have hr : rdOf ByteArray.empty l (i : Int) = l[i] := by unfold rdOf; simp [h1]
    refine Ev.step (fun k => by rw [impl_has.l0]) ?_
    refine Ev.pos (by omega) (Ev.pos (by omega) (Ev.pos (by omega) ?_))
    rw [hr, w64n (by omega), List.drop_eq_getElem_cons h1, List.all_cons]
    refine Ev.bind (isCode_ev a b hb _ (hs _ (List.getElem_mem h1))) ?_
    by_cases h : codeB a b l[i] = true
    · rw [h, Bool.true_and]
      exact Ev.pos rfl (ih (i + 1) (by omega))
    · rw [Bool.eq_false_iff.mpr h, Bool.false_and]
      exact Ev.neg (by decide) (Ev.now _)
theorem has_ev (a b : Int) (l : List ByteArray) (hl : l.length < 9223372036854775808) (hs : ∀ s ∈ l, s.size < 9223372036854775808) : Ev (fun K => impl_has.f K a b l) (lockB a b && l.all (codeB a b)) := by
  unfold impl_has.f
  refine Ev.let_ (IsLock_some a b) ?_
  by_cases h : lockB a b = true
  · rw [h, Bool.true_and]
    refine Ev.pos rfl ?_
    have := has_l0 a b (lockB_iff.mp h).2 l hl hs l.length 0 (by omega)
    simpa using this
  · rw [Bool.eq_false_iff.mpr h, Bool.false_and]
    exact Ev.neg (by decide) (Ev.now _)
theorem small_lock {a b m : Int} (h : smallB a b m = true) : lockB a b = true := by
  unfold smallB at h
  rw [Bool.and_eq_true] at h
  exact h.1
theorem codeB_iff {a b : Int} {s : ByteArray} : codeB a b s = true ↔ (s.size : Int) = a ∧ ∀ i : Nat, i < s.size → 48 ≤ bt s (i : Int) ∧ bt s (i : Int) ≤ 48 + b - 1 := by
  unfold codeB textB
  rw [Bool.and_eq_true, decide_eq_true_iff, List.all_eq_true]
  constructor
  · rintro ⟨h1, h2⟩
    refine ⟨h1, fun i hi => ?_⟩
    exact of_decide_eq_true (h2 i (by rw [List.mem_range'_1]; omega))
  · rintro ⟨h1, h2⟩
    refine ⟨h1, fun i hi => ?_⟩
    rw [List.mem_range'_1] at hi
    exact decide_eq_true (h2 i (by omega))
end Go.Proofs.YthpmpkmdjpaemaaGreat.Pure
