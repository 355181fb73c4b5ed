/- What the cursor draws for chapter 7: dials, codes and turns that are short. -/
import Derived.Test.YtbncaiombmekhaaRBx0
import Derived.Test.YtbncaiombmekhaaRBx1
import Derived.Test.YtbncaiombmekhaaRBx5
import Derived.Test.YtbncaiombmekhaaRBx6
import Derived.Test.YtbncaiombmekhaaRCurA
import Derived.Test.YtbncaiombmekhaaRDialG
import Derived.Test.YtbncaiombmekhaaRDialA
namespace Go.Proofs.YtbncaiombmekhaaR.Pure
open Go.RowKit Go.Proofs.YtbncaiombmekhaaR.B Go.Proofs.YtbncaiombmekhaaRW.PrintWords Go.Proofs.YtbncaiombmekhaaRW.PrintLast Go.Proofs.YtbncaiombmekhaaRW.PrintMore
set_option linter.unusedVariables false
theorem dial_ok (l : List Int) (hl : bytesL l) (at_ sd : Int) (h : 0 ≤ at_ ∧ at_ ≤ 1000000 - 10) : ∃ m s at' sd', spec_l1Cur_dial.f l at_ sd = some (m, s, at', sd') ∧ 0 ≤ at' ∧ at' ≤ at_ + 6 := by
  obtain ⟨o, a1, s1, e1, h1, h2⟩ := one_ok l hl at_ sd (by omega) 12 (by omega) (by omega)
  unfold spec_l1Cur_dial.f
  rw [e1]
  simp only [Option.bind_some]
  by_cases ho : o = true
  · rw [if_pos ho]
    obtain ⟨x, a2, s2, e2, _, h3, h4⟩ := among_ok l hl a1 s1 (by omega) [0, 1, 2, 100, 101, (-1), 4611686018427387904] (by simp) (by simp)
    rw [e2]
    simp only [Option.bind_some]
    obtain ⟨y, a3, s3, e3, _, h5, h6⟩ := among_ok l hl a2 s2 (by omega) [0, 1, (-1), 99] (by simp) (by simp)
    rw [e3]
    exact ⟨_, _, _, _, rfl, h5, by show a3 ≤ _; omega⟩
  · rw [if_neg ho]
    obtain ⟨x, a2, s2, e2, hx0, hx1, h3, h4⟩ := pick_ok l hl a1 s1 (by omega) 11 (by omega) (by omega)
    rw [e2]
    simp only [Option.bind_some]
    obtain ⟨y, a3, s3, e3, _, _, h5, h6⟩ := pick_ok l hl a2 s2 (by omega) (wrap64 (2 + x)) (by rw [w64 (by omega) (by omega)]; omega) (by rw [w64 (by omega) (by omega)]; omega)
    rw [e3]
    exact ⟨_, _, _, _, rfl, h5, by show a3 ≤ _; omega⟩
theorem numbers_l0 (l : List Int) (hl : bytesL l) (m : Int) : ∀ (j : Nat) (acc : List Int) (at_ sd : Int), 0 ≤ at_ → at_ + 2 * (j : Int) ≤ 1000000 - 10 → j ≤ 4 → acc.length + j ≤ 4 → 1 ≤ acc.length + j →
    ∃ ns at' sd', Ev (fun K => spec_l1Cur_numbers.l0 K m acc (j : Int) l at_ sd) (ns, at', sd') ∧ ns.length ≤ 4 ∧ 0 ≤ at' ∧ at' ≤ at_ + 2 * (j : Int) + 4 := by
  intro j
  induction j with
  | zero =>
    intro acc at_ sd h0 h1 h2 h3 h4
    obtain ⟨x, a1, s1, e1, hx0, hx1, h5, h6⟩ := pick_ok l hl at_ sd (by omega) 14 (by omega) (by omega)
    by_cases c0 : x = 0
    · obtain ⟨y, a2, s2, e2, _, h7, h8⟩ := among_ok l hl a1 s1 (by omega) [(-1), m, 4611686018427387904] (by simp) (by simp)
      refine ⟨acc.set 0 y, a2, s2, ?_, by simp; omega, h7, by omega⟩
      refine Ev.step (fun k => by rw [spec_l1Cur_numbers.l0]) ?_
      exact Ev.neg (by omega) (Ev.let_ e1 (Ev.pos c0 (Ev.let_ e2 (Ev.pos (by omega) (Ev.now _)))))
    · by_cases c1 : x = 1
      · refine ⟨[], a1, s1, ?_, by simp, h5, by omega⟩
        refine Ev.step (fun k => by rw [spec_l1Cur_numbers.l0]) ?_
        exact Ev.neg (by omega) (Ev.let_ e1 (Ev.neg c0 (Ev.pos c1 (Ev.now _))))
      · refine ⟨acc, a1, s1, ?_, by omega, h5, by omega⟩
        refine Ev.step (fun k => by rw [spec_l1Cur_numbers.l0]) ?_
        exact Ev.neg (by omega) (Ev.let_ e1 (Ev.neg c0 (Ev.neg c1 (Ev.now _))))
  | succ j ih =>
    intro acc at_ sd h0 h1 h2 h3 h4
    obtain ⟨x, a1, s1, e1, hx0, hx1, h5, h6⟩ := pick_ok l hl at_ sd (by omega) (min 100 (max 1 m)) (by omega) (by omega)
    obtain ⟨ns, a2, s2, he, h7, h8, h9⟩ := ih (acc ++ [x]) a1 s1 h5 (by omega) (by omega) (by simp; omega) (by simp; omega)
    refine ⟨ns, a2, s2, ?_, h7, h8, by omega⟩
    refine Ev.step (fun k => by rw [spec_l1Cur_numbers.l0]) ?_
    refine Ev.pos (by omega) (Ev.let_ (l1Most_some 1 m) (Ev.let_ (l1Least_some 100 (max 1 m)) (Ev.let_ e1 (Ev.pos (by omega) ?_))))
    rw [w64 (x := ((j + 1 : Nat) : Int) - 1) (by omega) (by omega), show ((j + 1 : Nat) : Int) - 1 = (j : Int) by omega]
    exact he
theorem numbers_ok (l : List Int) (hl : bytesL l) (m at_ sd : Int) (h : 0 ≤ at_ ∧ at_ ≤ 1000000 - 40) : ∃ ns at' sd', Ev (fun K => spec_l1Cur_numbers.f K l at_ sd m) (ns, at', sd') ∧ ns.length ≤ 4 ∧ 0 ≤ at' ∧ at' ≤ at_ + 20 := by
  obtain ⟨x, a1, s1, e1, hx0, hx1, h5, h6⟩ := pick_ok l hl at_ sd (by omega) 4 (by omega) (by omega)
  obtain ⟨j, rfl⟩ := Int.eq_ofNat_of_zero_le hx0
  obtain ⟨ns, a2, s2, he, h7, h8, h9⟩ := numbers_l0 l hl m (j + 1) [] a1 s1 h5 (by omega) (by omega) (by simp; omega) (by simp)
  refine ⟨ns, a2, s2, ?_, h7, h8, by omega⟩
  unfold spec_l1Cur_numbers.f
  refine Ev.let_ e1 ?_
  have e : wrap64 (1 + (j : Int)) = ((j + 1 : Nat) : Int) := by rw [w64 (by omega) (by omega)]; omega
  simp only []
  rw [e]
  exact he
theorem spins_l0 (l : List Int) (hl : bytesL l) : ∀ (j : Nat) (acc : List Int) (by_ at_ sd : Int), 0 ≤ at_ → at_ + 4 * (j : Int) ≤ 1000000 - 10 → acc.length + j ≤ 4 →
    ∃ ns at' sd', Ev (fun K => spec_l1Cur_spins.l0 K acc by_ (j : Int) l at_ sd) (ns, at', sd') ∧ ns.length ≤ 5 := by
  intro j
  induction j with
  | zero =>
    intro acc by_ at_ sd h0 h1 h2
    obtain ⟨o, a1, s1, e1, h5, h6⟩ := one_ok l hl at_ sd (by omega) 12 (by omega) (by omega)
    by_cases c0 : o = true
    · obtain ⟨y, a2, s2, e2, _, h7, h8⟩ := among_ok l hl a1 s1 (by omega) [0, 1000, 1001, (-1000), (-9223372036854775808)] (by simp) (by simp)
      refine ⟨acc ++ [y], a2, s2, ?_, by simp; omega⟩
      refine Ev.step (fun k => by rw [spec_l1Cur_spins.l0]) ?_
      exact Ev.neg (by omega) (Ev.let_ e1 (Ev.pos c0 (Ev.let_ e2 (Ev.pos (by omega) (Ev.now _)))))
    · refine ⟨acc, a1, s1, ?_, by omega⟩
      refine Ev.step (fun k => by rw [spec_l1Cur_spins.l0]) ?_
      exact Ev.neg (by omega) (Ev.let_ e1 (Ev.neg c0 (Ev.now _)))
  | succ j ih =>
    intro acc by_ at_ sd h0 h1 h2
    obtain ⟨x, a1, s1, e1, hx0, hx1, h5, h6⟩ := pick_ok l hl at_ sd (by omega) 30 (by omega) (by omega)
    obtain ⟨o, a2, s2, e2, h7, h8⟩ := one_ok l hl a1 s1 (by omega) 4 (by omega) (by omega)
    by_cases c0 : o = true
    · obtain ⟨ns, a3, s3, he, hl3⟩ := ih (acc ++ [wrap64 (by_ * wrap64 (1 + x))]) by_ a2 s2 h7 (by omega) (by simp; omega)
      refine ⟨ns, a3, s3, ?_, hl3⟩
      refine Ev.step (fun k => by rw [spec_l1Cur_spins.l0]) ?_
      refine Ev.pos (by omega) (Ev.let_ e1 (Ev.pos (by omega) (Ev.let_ rfl (Ev.let_ e2 (Ev.pos c0 ?_)))))
      rw [w64 (x := ((j + 1 : Nat) : Int) - 1) (by omega) (by omega), show ((j + 1 : Nat) : Int) - 1 = (j : Int) by omega]
      exact he
    · obtain ⟨ns, a3, s3, he, hl3⟩ := ih (acc ++ [wrap64 (by_ * wrap64 (1 + x))]) (wrap64 (-by_)) a2 s2 h7 (by omega) (by simp; omega)
      refine ⟨ns, a3, s3, ?_, hl3⟩
      refine Ev.step (fun k => by rw [spec_l1Cur_spins.l0]) ?_
      refine Ev.pos (by omega) (Ev.let_ e1 (Ev.pos (by omega) (Ev.let_ rfl (Ev.let_ e2 (Ev.neg c0 ?_)))))
      rw [w64 (x := ((j + 1 : Nat) : Int) - 1) (by omega) (by omega), show ((j + 1 : Nat) : Int) - 1 = (j : Int) by omega]
      exact he
theorem spins_ok (l : List Int) (hl : bytesL l) (at_ sd : Int) (h : 0 ≤ at_ ∧ at_ ≤ 1000000 - 100) : ∃ ns at' sd', Ev (fun K => spec_l1Cur_spins.f K l at_ sd) (ns, at', sd') ∧ ns.length ≤ 5 := by
  obtain ⟨x, a1, s1, e1, hx0, hx1, h5, h6⟩ := pick_ok l hl at_ sd (by omega) 5 (by omega) (by omega)
  obtain ⟨j, rfl⟩ := Int.eq_ofNat_of_zero_le hx0
  obtain ⟨ns, a2, s2, he, hlen⟩ := spins_l0 l hl j [] 1 a1 s1 h5 (by omega) (by simp; omega)
  refine ⟨ns, a2, s2, ?_, hlen⟩
  unfold spec_l1Cur_spins.f
  exact Ev.let_ e1 he
/-! the draws -/
theorem drawOpening_ok (l : List Int) (hl : bytesL l) : ∃ m s ns, Ev (fun K => spec_DrawOpeningTurns.f K l) (m, s, ns) ∧ ns.length ≤ 4 := by
  obtain ⟨m, s, a1, s1, e1, h1, h2⟩ := dial_ok l hl 0 0 (by omega)
  obtain ⟨ns, a2, s2, e2, h3, _, _⟩ := numbers_ok l hl m a1 s1 (by omega)
  refine ⟨m, s, ns, ?_, h3⟩
  unfold spec_DrawOpeningTurns.f
  exact Ev.let_ e1 (Ev.bind e2 (Ev.now _))
theorem drawCode_ok (l : List Int) (hl : bytesL l) : ∃ m s ns, Ev (fun K => spec_DrawCodeOfTurns.f K l) (m, s, ns) ∧ ns.length ≤ 12 := by
  obtain ⟨m, s, a1, s1, e1, h1, h2⟩ := dial_ok l hl 0 0 (by omega)
  have sp : ∀ a d, 0 ≤ a → a ≤ 1000 → ∃ ns, Ev (fun K => spec_DrawCodeOfTurns.sp K l m s a d) (m, s, ns) ∧ ns.length ≤ 12 := by
    intro a d h3 h4
    obtain ⟨ns, a2, s2, e2, h5⟩ := spins_ok l hl a d (by omega)
    refine ⟨ns, ?_, by omega⟩
    unfold spec_DrawCodeOfTurns.sp
    exact Ev.bind e2 (Ev.now _)
  unfold spec_DrawCodeOfTurns.f
  by_cases hq : decide ((2 ≤ m ∧ m ≤ 100) ∧ 0 ≤ s ∧ s ≤ m - 1) = true
  · obtain ⟨o, a2, s2, e2, h3, h4⟩ := one_ok l hl a1 s1 (by omega) 3 (by omega) (by omega)
    by_cases ho : o = true
    · obtain ⟨ns, he, hn⟩ := sp a2 s2 h3 (by omega)
      exact ⟨m, s, ns, Ev.let_ e1 (Ev.let_ (diAsked_some m s) (Ev.pos hq (Ev.let_ e2 (Ev.pos ho he)))), hn⟩
    · obtain ⟨xs, a3, s3, e3, h5, h6, h7⟩ := numbers_ok l hl m a2 s2 (by omega)
      have ht := specOpeningTurns_ev m s xs (by omega)
      have hlen := openingV_length m s xs
      generalize openingV m s xs = v at ht hlen
      by_cases hv : v.2 = true
      · exact ⟨m, s, v.1, Ev.let_ e1 (Ev.let_ (diAsked_some m s) (Ev.pos hq (Ev.let_ e2 (Ev.neg ho (Ev.bind e3 (Ev.bind ht (Ev.pos hv (Ev.now _)))))))), hlen⟩
      · obtain ⟨ns, he, hn⟩ := sp a3 s3 h6 (by omega)
        exact ⟨m, s, ns, Ev.let_ e1 (Ev.let_ (diAsked_some m s) (Ev.pos hq (Ev.let_ e2 (Ev.neg ho (Ev.bind e3 (Ev.bind ht (Ev.neg hv he))))))), hn⟩
  · obtain ⟨ns, he, hn⟩ := sp a1 s1 h1 (by omega)
    exact ⟨m, s, ns, Ev.let_ e1 (Ev.let_ (diAsked_some m s) (Ev.neg hq he)), hn⟩
theorem drawPasses_ok (l : List Int) (hl : bytesL l) : ∃ m s d n, spec_DrawPassesOf.f l = some (m, s, d, n) := by
  obtain ⟨m, s, a1, s1, e1, h1, h2⟩ := dial_ok l hl 0 0 (by omega)
  obtain ⟨b, a2, s2, e2, _, h3, h4⟩ := among_ok l hl a1 s1 (by omega) [1, 5, 23, -7, -40, 0, 1000, -1001] (by simp) (by simp)
  obtain ⟨p, a3, s3, e3, _, _, h5, h6⟩ := pick_ok l hl a2 s2 (by omega) 13 (by omega) (by omega)
  obtain ⟨q, a4, s4, e4, _⟩ := pick_ok l hl a3 s3 (by omega) 8 (by omega) (by omega)
  unfold spec_DrawPassesOf.f
  rw [e1]
  simp only [Option.bind_some]
  rw [e2]
  simp only [Option.bind_some]
  rw [e3]
  simp only [Option.bind_some]
  rw [e4]
  exact ⟨_, _, _, _, rfl⟩
theorem drawIs_ok (l : List Int) (hl : bytesL l) : ∃ m s ns xs, Ev (fun K => spec_DrawIsOpening.f K l) (m, s, ns, xs) ∧ ns.length ≤ 4 ∧ xs.length ≤ 12 := by
  obtain ⟨m, s, a1, s1, e1, h1, h2⟩ := dial_ok l hl 0 0 (by omega)
  obtain ⟨ns, a3, s3, e3, h5, h6, h7⟩ := numbers_ok l hl m a1 s1 (by omega)
  have sp : ∀ a d, 0 ≤ a → a ≤ 1000 → ∃ xs, Ev (fun K => spec_DrawIsOpening.sp K l m s ns a d) (m, s, ns, xs) ∧ xs.length ≤ 12 := by
    intro a d h3 h4
    obtain ⟨xs, a2, s2, e2, h5⟩ := spins_ok l hl a d (by omega)
    refine ⟨xs, ?_, by omega⟩
    unfold spec_DrawIsOpening.sp
    exact Ev.bind e2 (Ev.now _)
  have ht := specOpeningTurns_ev m s ns (by omega)
  have hlen := openingV_length m s ns
  unfold spec_DrawIsOpening.f
  generalize openingV m s ns = v at ht hlen
  by_cases hv : v.2 = true
  · obtain ⟨o, a4, s4, e4, h8, h9⟩ := one_ok l hl a3 s3 (by omega) 3 (by omega) (by omega)
    by_cases ho : o = true
    · obtain ⟨xs, he, hn⟩ := sp a4 s4 h8 (by omega)
      exact ⟨m, s, ns, xs, Ev.let_ e1 (Ev.bind e3 (Ev.bind ht (Ev.pos hv (Ev.let_ e4 (Ev.pos ho he))))), h5, hn⟩
    · exact ⟨m, s, ns, v.1, Ev.let_ e1 (Ev.bind e3 (Ev.bind ht (Ev.pos hv (Ev.let_ e4 (Ev.neg ho (Ev.now _)))))), h5, hlen⟩
  · obtain ⟨xs, he, hn⟩ := sp a3 s3 h6 (by omega)
    exact ⟨m, s, ns, xs, Ev.let_ e1 (Ev.bind e3 (Ev.bind ht (Ev.neg hv he))), h5, hn⟩
end Go.Proofs.YtbncaiombmekhaaR.Pure
