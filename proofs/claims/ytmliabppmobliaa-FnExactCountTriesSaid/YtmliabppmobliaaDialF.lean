/- Chapter 7: the numbers that are tried. -/
import Derived.Test.YtmliabppmobliaaQx0
import Derived.Test.YtmliabppmobliaaQx4
import Derived.Test.YtmliabppmobliaaQx5
import Derived.Test.YtmliabppmobliaaQx8
import Derived.Test.YtmliabppmobliaaDialD
namespace Go.Proofs.Ytmliabppmobliaa.Pure
open Go.RowKit Go.Proofs.Ytmliabppmobliaa.Q Go.Proofs.YtmliabppmobliaaW.PrintWords Go.Proofs.YtmliabppmobliaaW.PrintLast Go.Proofs.YtmliabppmobliaaW.PrintMore
set_option linter.unusedVariables false

/-- The first j numbers. -/
def triesL (M S j : Nat) : List Int := (List.range j).map (fun (i : Nat) => min ((S + i * (2 * S + 1) : Nat) : Int) ((M : Int) - 1))
def triesJ (M S : Nat) : Nat := (M + 2 * S) / (2 * S + 1)
theorem triesJ_iff (M S j : Nat) : j < triesJ M S ↔ j * (2 * S + 1) < M := by
  unfold triesJ
  rw [← Nat.succ_le_iff, Nat.le_div_iff_mul_le (by omega), Nat.succ_mul j (2 * S + 1)]
  omega
theorem triesL_succ (M S j : Nat) : triesL M S (j + 1) = triesL M S j ++ [min ((S + j * (2 * S + 1) : Nat) : Int) ((M : Int) - 1)] := by
  unfold triesL
  rw [List.range_succ, List.map_append]
  rfl
theorem triesL_length (M S j : Nat) : (triesL M S j).length = j := by simp [triesL]
theorem triesL_mem {M S j : Nat} (hM : 2 ≤ M) {x : Int} (h : x ∈ triesL M S j) : 0 ≤ x ∧ x < (M : Int) := by
  unfold triesL at h
  obtain ⟨i, _, rfl⟩ := List.mem_map.mp h
  omega
theorem triesJ_le (M S : Nat) (hM : 2 ≤ M) : 1 ≤ triesJ M S ∧ triesJ M S ≤ M := by
  constructor
  · have := (triesJ_iff M S 0).mpr (by omega)
    omega
  · rcases Nat.lt_or_ge M (triesJ M S) with h | h
    · have h1 := (triesJ_iff M S M).mp h
      have h2 : M * 1 ≤ M * (2 * S + 1) := Nat.mul_le_mul_left M (by omega)
      omega
    · exact h
theorem open_some (M S : Nat) (hM : 2 ≤ M ∧ M ≤ 100) (j n : Nat) (hn : n < M) : impl_tries.opn (M : Int) (S : Int) (triesL M S j) (n : Int) = !(triesL M S j).any (fun x => decide (apartP (M : Int) (n : Int) x ≤ (S : Int))) := by
  unfold impl_tries.opn
  congr 1
  rw [Bool.eq_iff_iff, List.any_eq_true, List.any_eq_true]
  have key : ∀ x ∈ triesL M S j, ((impl_apart.f (M : Int) (n : Int) x).getD 0 = apartP (M : Int) (n : Int) x) := by
    intro x hx
    have := triesL_mem hM.1 hx
    rw [apart_some _ _ _ (by omega) (by omega) this]
    rfl
  constructor
  · rintro ⟨x, hx, h⟩
    rw [key x hx] at h
    exact ⟨x, hx, h⟩
  · rintro ⟨x, hx, h⟩
    rw [← key x hx] at h
    exact ⟨x, hx, h⟩
theorem tries_covered (M S : Nat) (hM : 2 ≤ M ∧ M ≤ 100) (j : Nat) (hj : ¬ j * (2 * S + 1) < M) (n : Nat) (hn : n < M) : impl_tries.opn (M : Int) (S : Int) (triesL M S j) (n : Int) = false := by
  rw [open_some M S hM j n hn]
  have hd := Nat.div_add_mod n (2 * S + 1)
  have hr : n % (2 * S + 1) < 2 * S + 1 := Nat.mod_lt _ (by omega)
  have hi : n / (2 * S + 1) < j := by
    rw [Nat.div_lt_iff_lt_mul (by omega)]
    omega
  rw [Nat.mul_comm] at hd
  generalize hq : n / (2 * S + 1) = q at hd hi
  have hmem : min ((S + q * (2 * S + 1) : Nat) : Int) ((M : Int) - 1) ∈ triesL M S j := List.mem_map.mpr ⟨q, List.mem_range.mpr hi, rfl⟩
  have hb := triesL_mem hM.1 hmem
  have : (triesL M S j).any (fun x => decide (apartP (M : Int) (n : Int) x ≤ (S : Int))) = true := by
    rw [List.any_eq_true]
    refine ⟨_, hmem, ?_⟩
    rw [decide_eq_true_iff, apartP_abs _ _ _ (by omega) (by omega) hb]
    generalize q * (2 * S + 1) = p at hd ⊢
    omega
  rw [this]
  rfl
theorem tries_open (M S : Nat) (hM : 2 ≤ M ∧ M ≤ 100) (j : Nat) (hj : j * (2 * S + 1) < M) : impl_tries.opn (M : Int) (S : Int) (triesL M S j) ((j * (2 * S + 1) : Nat) : Int) = true := by
  rw [open_some M S hM j _ hj]
  have : (triesL M S j).any (fun x => decide (apartP (M : Int) ((j * (2 * S + 1) : Nat) : Int) x ≤ (S : Int))) = false := by
    rw [List.any_eq_false]
    intro x hx
    have hb := triesL_mem hM.1 hx
    obtain ⟨i, hi, rfl⟩ := List.mem_map.mp hx
    have hi := List.mem_range.mp hi
    rw [decide_eq_true_iff, apartP_abs _ _ _ (by omega) (by omega) hb]
    have h1 : (i + 1) * (2 * S + 1) ≤ j * (2 * S + 1) := Nat.mul_le_mul_right _ (by omega)
    rw [Nat.succ_mul i (2 * S + 1)] at h1
    generalize j * (2 * S + 1) = p at hj h1 ⊢
    generalize i * (2 * S + 1) = q at h1 ⊢
    omega
  rw [this]
  rfl
theorem any_open (M S : Nat) (hM : 2 ≤ M ∧ M ≤ 100) (j : Nat) : ((List.range ((M : Int)).toNat).any (fun n => impl_tries.opn (M : Int) (S : Int) (triesL M S j) ((n : Nat) : Int)) = true) ↔ j < triesJ M S := by
  rw [triesJ_iff, Int.toNat_natCast, List.any_eq_true]
  constructor
  · rintro ⟨n, hn, h⟩
    rw [List.mem_range] at hn
    rcases Nat.lt_or_ge (j * (2 * S + 1)) M with hc | hc
    · exact hc
    · rw [tries_covered M S hM j (by omega) n hn] at h
      exact absurd h (by simp)
  · intro h
    exact ⟨j * (2 * S + 1), List.mem_range.mpr h, tries_open M S hM j h⟩
theorem implTries_l0 (M S : Nat) (hM : 2 ≤ M ∧ M ≤ 100) (hS : S ≤ 100) : ∀ (d j : Nat), j + d = triesJ M S →
    Ev (fun k => impl_tries.l0 k (M : Int) (S : Int) (triesL M S j) ((S + j * (2 * S + 1) : Nat) : Int)) (triesL M S (triesJ M S)) := by
  have hJ := triesJ_le M S hM.1
  intro d
  induction d with
  | zero =>
    intro j hj
    refine Ev.step (fun k => by rw [impl_tries.l0]) ?_
    refine Ev.neg (by rw [any_open M S hM j]; omega) (Ev.val (Ev.now _) ?_)
    rw [show j = triesJ M S by omega]
  | succ d ih =>
    intro j hj
    have h1 := (triesJ_iff M S j).mp (by omega)
    refine Ev.step (fun k => by rw [impl_tries.l0]) ?_
    refine Ev.pos (by rw [any_open M S hM j]; omega) (Ev.pos (by rw [triesL_length]; omega) ?_)
    rw [show (if (M : Int) - 1 < ((S + j * (2 * S + 1) : Nat) : Int) then (M : Int) - 1 else ((S + j * (2 * S + 1) : Nat) : Int)) = min ((S + j * (2 * S + 1) : Nat) : Int) ((M : Int) - 1) by split <;> omega, ← triesL_succ]
    have e : ((S + j * (2 * S + 1) : Nat) : Int) + (2 * (S : Int) + 1) = ((S + (j + 1) * (2 * S + 1) : Nat) : Int) := by
      rw [Nat.succ_mul j (2 * S + 1)]
      omega
    rw [e]
    exact ih (j + 1) (by omega)
theorem specTries_l0 (M S : Nat) (hM : 2 ≤ M ∧ M ≤ 100) (hS : S ≤ 100) : ∀ (d j : Nat), j + d = triesJ M S →
    Ev (fun k => spec_diTries.l0 k (M : Int) (S : Int) (triesL M S j) ((j * (2 * S + 1) : Nat) : Int)) (triesL M S (triesJ M S)) := by
  have hJ := triesJ_le M S hM.1
  intro d
  induction d with
  | zero =>
    intro j hj
    have h1 := mt (triesJ_iff M S j).mpr (by omega)
    refine Ev.step (fun k => by rw [spec_diTries.l0]) ?_
    refine Ev.neg (by omega) (Ev.val (Ev.now _) ?_)
    rw [show j = triesJ M S by omega]
  | succ d ih =>
    intro j hj
    have h1 := (triesJ_iff M S j).mp (by omega)
    refine Ev.step (fun k => by rw [spec_diTries.l0]) ?_
    refine Ev.pos (by omega) ?_
    rw [w64 (x := 2 * (S : Int)) (by omega) (by omega), w64 (x := 2 * (S : Int) + 1) (by omega) (by omega), w64 (x := (M : Int) - 1) (by omega) (by omega),
      w64 (x := ((j * (2 * S + 1) : Nat) : Int) + (S : Int)) (by omega) (by omega), w64 (x := ((j * (2 * S + 1) : Nat) : Int) + (2 * (S : Int) + 1)) (by omega) (by omega)]
    refine Ev.let_ (l1Least_some _ _) (Ev.pos (by rw [triesL_length]; omega) ?_)
    have e0 : ((j * (2 * S + 1) : Nat) : Int) + (S : Int) = ((S + j * (2 * S + 1) : Nat) : Int) := by omega
    have e : ((j * (2 * S + 1) : Nat) : Int) + (2 * (S : Int) + 1) = (((j + 1) * (2 * S + 1) : Nat) : Int) := by
      rw [Nat.succ_mul j (2 * S + 1)]
      omega
    rw [e0, e, ← triesL_succ]
    exact ih (j + 1) (by omega)
theorem implTries_ev (M S : Nat) (hM : 2 ≤ M ∧ M ≤ 100) (hS : S ≤ 100) : Ev (fun k => impl_tries.f k (M : Int) (S : Int)) (triesL M S (triesJ M S)) := by
  unfold impl_tries.f
  refine Ev.pos (by omega) ?_
  have := implTries_l0 M S hM hS (triesJ M S) 0 (by omega)
  simpa [triesL] using this
theorem specTries_ev (M S : Nat) (hM : 2 ≤ M ∧ M ≤ 100) (hS : S ≤ 100) : Ev (fun k => spec_diTries.f k (M : Int) (S : Int)) (triesL M S (triesJ M S)) := by
  unfold spec_diTries.f
  have := specTries_l0 M S hM hS (triesJ M S) 0 (by omega)
  simpa [triesL] using this
/-- What both TriesOf return. -/
def triesV (m s : Int) : List Int × Bool := if (2 ≤ m ∧ m ≤ 100) ∧ 0 ≤ s ∧ s ≤ 100 then (triesL m.toNat s.toNat (triesJ m.toNat s.toNat), true) else ([], false)
theorem nat_pair (m s : Int) (h : (2 ≤ m ∧ m ≤ 100) ∧ 0 ≤ s ∧ s ≤ 100) : ∃ M S : Nat, m = (M : Int) ∧ s = (S : Int) ∧ (2 ≤ M ∧ M ≤ 100) ∧ S ≤ 100 := ⟨m.toNat, s.toNat, by omega, by omega, by omega, by omega⟩
theorem specTriesOf_ev (m s : Int) : Ev (fun k => spec_TriesOf.f k m s) (triesV m s) := by
  unfold spec_TriesOf.f triesV
  refine Ev.let_ (diSlack_some m s 1) ?_
  by_cases h : (2 ≤ m ∧ m ≤ 100) ∧ 0 ≤ s ∧ s ≤ 100
  · refine Ev.pos (by simp; omega) ?_
    rw [if_pos h]
    obtain ⟨M, S, rfl, rfl, hM, hS⟩ := nat_pair m s h
    rw [Int.toNat_natCast, Int.toNat_natCast]
    exact Ev.bind (specTries_ev M S hM hS) (Ev.now _)
  · refine Ev.neg (by simp; omega) (Ev.val (Ev.now _) ?_)
    rw [if_neg h]
theorem implTriesOf_ev (m s : Int) : Ev (fun k => impl_TriesOf.f k m s) (triesV m s) := by
  unfold impl_TriesOf.f triesV
  refine Ev.let_ (isSlack_some m s) ?_
  by_cases h : (2 ≤ m ∧ m ≤ 100) ∧ 0 ≤ s ∧ s ≤ 100
  · refine Ev.pos (by simp; omega) ?_
    rw [if_pos h]
    obtain ⟨M, S, rfl, rfl, hM, hS⟩ := nat_pair m s h
    rw [Int.toNat_natCast, Int.toNat_natCast]
    exact Ev.bind (implTries_ev M S hM hS) (Ev.now _)
  · refine Ev.neg (by simp; omega) (Ev.val (Ev.now _) ?_)
    rw [if_neg h]
theorem triesV_length (m s : Int) : (triesV m s).1.length ≤ 100 := by
  unfold triesV
  split
  · rename_i h
    have := (triesJ_le m.toNat s.toNat (by omega)).2
    simp only [triesL_length]
    omega
  · simp
/-- What both CountTries return. -/
def countTriesV (m s n : Int) : Int × Bool := if (2 ≤ m ∧ m ≤ 100) ∧ (0 ≤ s ∧ s ≤ 100) ∧ 1 ≤ n ∧ n ≤ 3 then (((triesJ m.toNat s.toNat ^ n.toNat : Nat) : Int), true) else (0, false)
theorem pow_small {b e : Nat} (hb : 1 ≤ b) (hb2 : b ≤ 100) (he : e ≤ 3) : b ^ e ≤ 4611686018427387904 := by
  have : b ^ e ≤ 100 ^ 3 := Nat.le_trans (Nat.pow_le_pow_left hb2 e) (Nat.pow_le_pow_right (by omega) (by omega))
  omega
theorem specCountTries_ev (m s n : Int) : Ev (fun k => spec_CountTries.f k m s n) (countTriesV m s n) := by
  unfold spec_CountTries.f countTriesV
  refine Ev.let_ (diSlack_some m s n) ?_
  by_cases h : (2 ≤ m ∧ m ≤ 100) ∧ (0 ≤ s ∧ s ≤ 100) ∧ 1 ≤ n ∧ n ≤ 3
  · refine Ev.pos (by simp; omega) ?_
    rw [if_pos h]
    obtain ⟨M, S, rfl, rfl, hM, hS⟩ := nat_pair m s ⟨h.1, h.2.1⟩
    obtain ⟨e, rfl⟩ : ∃ e : Nat, n = (e : Int) := ⟨n.toNat, by omega⟩
    rw [Int.toNat_natCast, Int.toNat_natCast, Int.toNat_natCast]
    refine Ev.bind (specTries_ev M S hM hS) ?_
    rw [triesL_length]
    have hJ := triesJ_le M S hM.1
    exact Ev.bind (diPower_ev _ e hJ.1 (by omega) (by omega) (pow_small hJ.1 (by omega) (by omega))) (Ev.now _)
  · refine Ev.neg (by simp; omega) (Ev.val (Ev.now _) ?_)
    rw [if_neg h]
theorem implCountTries_ev (m s n : Int) : Ev (fun k => impl_CountTries.f k m s n) (countTriesV m s n) := by
  have no : ∀ x : Bool, x = true → Ev (fun k => impl_CountTries.j0 k m s n x) (0, false) := by
    intro x hx
    refine Ev.step (fun k => by rw [impl_CountTries.j0]) ?_
    exact Ev.pos hx (Ev.now _)
  unfold impl_CountTries.f countTriesV
  refine Ev.let_ (isSlack_some m s) ?_
  by_cases h1 : (2 ≤ m ∧ m ≤ 100) ∧ 0 ≤ s ∧ s ≤ 100
  · refine Ev.pos (by simp; omega) (Ev.let_ (isFew_some n) ?_)
    by_cases h2 : 1 ≤ n ∧ n ≤ 3
    · rw [if_pos ⟨h1.1, h1.2, h2⟩]
      refine Ev.step (fun k => by rw [impl_CountTries.j0]) ?_
      refine Ev.neg (by simp; omega) ?_
      obtain ⟨M, S, rfl, rfl, hM, hS⟩ := nat_pair m s h1
      obtain ⟨e, rfl⟩ : ∃ e : Nat, n = (e : Int) := ⟨n.toNat, by omega⟩
      rw [Int.toNat_natCast, Int.toNat_natCast, Int.toNat_natCast]
      refine Ev.bind (implTries_ev M S hM hS) ?_
      rw [triesL_length]
      have hJ := triesJ_le M S hM.1
      exact Ev.bind (power_ev _ e hJ.1 (by omega) (pow_small hJ.1 (by omega) (by omega))) (Ev.now _)
    · rw [if_neg (fun hc => h2 hc.2.2)]
      exact no _ (by simp; omega)
  · rw [if_neg (fun hc => h1 ⟨hc.1, hc.2.1⟩)]
    exact Ev.neg (by simp; omega) (no _ rfl)
end Go.Proofs.Ytmliabppmobliaa.Pure
