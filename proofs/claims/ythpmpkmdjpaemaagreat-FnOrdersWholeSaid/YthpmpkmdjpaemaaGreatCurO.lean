/- What the cursor draws for chapter 5: locks, short texts. -/
import Derived.Test.YthpmpkmdjpaemaaGreatPx0
import Derived.Test.YthpmpkmdjpaemaaGreatPx2
import Derived.Test.YthpmpkmdjpaemaaGreatPx4
import Derived.Test.YthpmpkmdjpaemaaGreatCurA
import Derived.Test.YthpmpkmdjpaemaaGreatOrdA
namespace Go.Proofs.YthpmpkmdjpaemaaGreat.Pure
open Go.RowKit Go.Proofs.YthpmpkmdjpaemaaGreat.P Go.Proofs.YthpmpkmdjpaemaaGreatW.PrintWords Go.Proofs.YthpmpkmdjpaemaaGreatW.PrintLast Go.Proofs.YthpmpkmdjpaemaaGreatW.PrintMore
set_option linter.unusedVariables false
theorem least_some (a b : Int) : spec_l1Least.f a b = some (min a b) := by
  unfold spec_l1Least.f
  by_cases h : a < b
  · rw [if_pos h]; congr 1; omega
  · rw [if_neg h]; congr 1; omega
theorem most_some (a b : Int) : spec_l1Most.f a b = some (max a b) := by
  unfold spec_l1Most.f
  by_cases h : a > b
  · rw [if_pos h]; congr 1; omega
  · rw [if_neg h]; congr 1; omega
theorem lock_ok (l : List Int) (hl : bytesL l) (at_ sd : Int) (h : 0 ≤ at_ ∧ at_ ≤ 1000000 - 10) : ∃ a b at' sd', spec_l1Cur_lock.f l at_ sd = some (a, b, at', sd') ∧ 0 ≤ at' ∧ at' ≤ at_ + 6 := by
  obtain ⟨o, a1, s1, e1, h1, h2⟩ := one_ok l hl at_ sd (by omega) 14 (by omega) (by omega)
  unfold spec_l1Cur_lock.f
  rw [e1]
  simp only [Option.bind_some]
  by_cases ho : o = true
  · rw [if_pos ho]
    obtain ⟨x, a2, s2, e2, _, h3, h4⟩ := among_ok l hl a1 s1 (by omega) [0, (-1), 1, 6, 7, 4611686018427387904] (by simp) (by simp)
    rw [e2]
    simp only [Option.bind_some]
    obtain ⟨y, a3, s3, e3, _, h5, h6⟩ := among_ok l hl a2 s2 (by omega) [1, 2, 3, 10, 11, (-1)] (by simp) (by simp)
    rw [e3]
    exact ⟨_, _, _, _, rfl, h5, by show a3 ≤ _; omega⟩
  · rw [if_neg ho]
    obtain ⟨x, a2, s2, e2, hx0, hx1, h3, h4⟩ := pick_ok l hl a1 s1 (by omega) 8 (by omega) (by omega)
    unfold spec_l1Cur_sureLock.f
    rw [e2]
    simp only [Option.bind_some]
    rw [if_pos ⟨hx0, hx1⟩]
    exact ⟨_, _, _, _, rfl, h3, by show a2 ≤ _; omega⟩
theorem of_ok (l : List Int) (hl : bytesL l) (at_ sd : Int) (h : 0 ≤ at_ ∧ at_ ≤ 1000000 - 2) (xs : List ByteArray) (hn : 1 ≤ xs.length) (hn2 : xs.length ≤ 1000) : ∃ x at' sd', spec_l1Cur_of.f l at_ sd xs = some (x, at', sd') ∧ x ∈ xs ∧ 0 ≤ at' ∧ at' ≤ at_ + 2 := by
  obtain ⟨x, a, s, e, h0, h1, h2, h3⟩ := pick_ok l hl at_ sd h (xs.length : Int) (by omega) (by omega)
  unfold spec_l1Cur_of.f
  rw [e]
  simp only [Option.bind_some]
  rw [if_pos h0, if_pos h1]
  obtain ⟨i, rfl⟩ := Int.eq_ofNat_of_zero_le h0
  have hi : i < xs.length := by omega
  have hr : rdOf ByteArray.empty xs (i : Int) = xs[i] := by unfold rdOf; simp [hi]
  rw [hr]
  exact ⟨_, _, _, rfl, List.getElem_mem hi, h2, h3⟩
theorem code1_l0 (l : List Int) (hl : bytesL l) (a b : Int) : ∀ (j k : Nat) (acc : ByteArray) (at_ sd : Int), k + j = 7 → acc.size ≤ k → 0 ≤ at_ → at_ + 2 * (j : Int) ≤ 1000000 - 10 →
    ∃ c at' sd', Ev (fun K => spec_l1Cur_code1.l0 K acc (k : Int) l at_ sd a b) (c, at', sd') ∧ c.size ≤ 7 ∧ 0 ≤ at' ∧ at' ≤ at_ + 2 * (j : Int) := by
  intro j
  induction j with
  | zero =>
    intro k acc at_ sd hk hs h0 h1
    refine ⟨acc, at_, sd, ?_, by omega, h0, by omega⟩
    refine Ev.step (fun K => by rw [spec_l1Cur_code1.l0]) ?_
    by_cases c0 : (k : Int) < a
    · refine Ev.pos c0 (Ev.step (fun K => by rw [spec_l1Cur_code1.j1]) ?_)
      exact Ev.neg (by simp; omega) (Ev.now _)
    · refine Ev.neg c0 (Ev.step (fun K => by rw [spec_l1Cur_code1.j1]) ?_)
      exact Ev.neg (by simp) (Ev.now _)
  | succ j ih =>
    intro k acc at_ sd hk hs h0 h1
    by_cases c0 : (k : Int) < a
    · obtain ⟨x, a1, s1, e1, hx0, hx1, h5, h6⟩ := pick_ok l hl at_ sd (by omega) (min 10 (max 1 b)) (by omega) (by omega)
      obtain ⟨c, a2, s2, he, h7, h8, h9⟩ := ih (k + 1) (acc ++ strOfNums [48 + x]) a1 s1 (by omega) (by rw [ByteArray.size_append, strOfNums_size]; simp only [List.length_cons, List.length_nil]; omega) h5 (by omega)
      refine ⟨c, a2, s2, ?_, h7, h8, by omega⟩
      refine Ev.step (fun K => by rw [spec_l1Cur_code1.l0]) ?_
      refine Ev.pos c0 (Ev.step (fun K => by rw [spec_l1Cur_code1.j1]) ?_)
      refine Ev.pos (by simp; omega) (Ev.let_ (most_some 1 b) (Ev.let_ (least_some 10 (max 1 b)) (Ev.let_ e1 (Ev.bind (l1Num_ev x (by omega)) (Ev.pos (by rw [strOfNums_size]; simp only [List.length_cons, List.length_nil]; omega) ?_)))))
      rw [w64n (by omega)]
      exact he
    · refine ⟨acc, at_, sd, ?_, by omega, h0, by omega⟩
      refine Ev.step (fun K => by rw [spec_l1Cur_code1.l0]) ?_
      refine Ev.neg c0 (Ev.step (fun K => by rw [spec_l1Cur_code1.j1]) ?_)
      exact Ev.neg (by simp) (Ev.now _)
theorem code1_ok (l : List Int) (hl : bytesL l) (a b at_ sd : Int) (h : 0 ≤ at_ ∧ at_ ≤ 1000000 - 40) : ∃ c at' sd', Ev (fun K => spec_l1Cur_code1.f K l at_ sd a b) (c, at', sd') ∧ c.size ≤ 7 ∧ 0 ≤ at' ∧ at' ≤ at_ + 20 := by
  obtain ⟨o, a1, s1, e1, h1, h2⟩ := one_ok l hl at_ sd (by omega) 14 (by omega) (by omega)
  unfold spec_l1Cur_code1.f
  by_cases ho : o = true
  · obtain ⟨x, a2, s2, e2, hx, h3, h4⟩ := of_ok l hl a1 s1 (by omega) [(⟨#[]⟩ : ByteArray), (⟨#[120]⟩ : ByteArray), (⟨#[48]⟩ : ByteArray), (⟨#[57, 57]⟩ : ByteArray), (⟨#[48, 48, 48, 48, 48, 48, 48]⟩ : ByteArray), (⟨#[49, 97]⟩ : ByteArray)] (by simp) (by simp)
    refine ⟨x, a2, s2, Ev.let_ e1 (Ev.pos ho (Ev.let_ e2 (Ev.now _))), ?_, h3, by omega⟩
    simp only [List.mem_cons, List.not_mem_nil, or_false] at hx
    rcases hx with rfl | rfl | rfl | rfl | rfl | rfl <;> decide
  · obtain ⟨c, a2, s2, he, h3, h4, h5⟩ := code1_l0 l hl a b 7 0 (⟨#[]⟩ : ByteArray) a1 s1 (by omega) (by decide) h1 (by omega)
    exact ⟨c, a2, s2, Ev.let_ e1 (Ev.neg ho he), h3, h4, by omega⟩
end Go.Proofs.YthpmpkmdjpaemaaGreat.Pure
