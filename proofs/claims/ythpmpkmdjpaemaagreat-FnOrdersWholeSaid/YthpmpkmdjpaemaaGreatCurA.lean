/- What a cursor chooses: numbers in their bounds. -/
import Derived.Test.YthpmpkmdjpaemaaGreatPx0
import Derived.Test.YthpmpkmdjpaemaaGreatPx2
import Derived.Test.YthpmpkmdjpaemaaGreatKit
namespace Go.Proofs.YthpmpkmdjpaemaaGreat.Pure
open Go.RowKit Go.Proofs.YthpmpkmdjpaemaaGreat.P Go.Proofs.YthpmpkmdjpaemaaGreatW.PrintWords Go.Proofs.YthpmpkmdjpaemaaGreatW.PrintLast Go.Proofs.YthpmpkmdjpaemaaGreatW.PrintMore
set_option linter.unusedVariables false
theorem u64w (n : Int) : IntKind.u64.wrap n = n % 18446744073709551616 := by simp [IntKind.wrap, IntKind.bits, IntKind.signed]
theorem bits255 (x : Int) (h0 : 0 ≤ x) (h1 : x < 18446744073709551616) : Go.bits .and .u64 x 255 = x % 256 := by
  have := Go.bits_mask .u64 64 (by decide) (fun n h0 h1 => by rw [u64w]; omega) 8 (by decide) x h0 h1
  simpa using this
theorem bits255_bd (y : Int) : 0 ≤ Go.bits .and .u64 ((IntKind.u64.wrap y) / 1099511627776) 255 ∧ Go.bits .and .u64 ((IntKind.u64.wrap y) / 1099511627776) 255 ≤ 255 := by
  rw [u64w, bits255 _ (by omega) (by omega)]
  omega
def bytesL (l : List Int) : Prop := l.length ≤ 281474976710656 ∧ ∀ x ∈ l, 0 ≤ x ∧ x ≤ 255
theorem next_ok (l : List Int) (hl : bytesL l) (at_ sd : Int) (h : 0 ≤ at_ ∧ at_ ≤ 1000000) : ∃ b at' sd', spec_l1Cur_next.f l at_ sd = some (b, at', sd') ∧ 0 ≤ b ∧ b ≤ 255 ∧ 0 ≤ at' ∧ at' ≤ at_ + 1 := by
  unfold spec_l1Cur_next.f
  have e1 : wrap64 (at_ + 1) = at_ + 1 := w64 (by omega) (by omega)
  rw [e1]
  by_cases h1 : at_ < (l.length : Int)
  · rw [if_pos h1, if_pos h.1]
    obtain ⟨i, rfl⟩ := Int.eq_ofNat_of_zero_le h.1
    have hi : i < l.length := by omega
    have hb := hl.2 _ (List.getElem_mem hi)
    rw [rd_nat hi]
    by_cases h2 : ((i : Nat) : Int) + 1 ≤ (l.length : Int)
    · rw [if_pos h2]
      refine ⟨_, _, _, rfl, ?_, ?_, by omega, by omega⟩
      · rw [w64 (by omega) (by omega)]; exact hb.1
      · rw [w64 (by omega) (by omega)]; exact hb.2
    · omega
  · rw [if_neg h1]
    by_cases h2 : at_ + 1 ≤ (l.length : Int)
    · rw [if_pos h2]
      exact ⟨_, _, _, rfl, by omega, by omega, by omega, by omega⟩
    · rw [if_neg h2]
      have hb := bits255_bd ((IntKind.u64.wrap (IntKind.u64.wrap (sd * 6364136223846793005))) + 1442695040888963407)
      refine ⟨_, _, _, rfl, ?_, ?_, by omega, by omega⟩
      · rw [w64 (by omega) (by omega)]; exact hb.1
      · rw [w64 (by omega) (by omega)]; exact hb.2
theorem pick_ok (l : List Int) (hl : bytesL l) (at_ sd : Int) (h : 0 ≤ at_ ∧ at_ ≤ 1000000 - 2) (n : Int) (hn : 1 ≤ n) (hn2 : n ≤ 1000000) : ∃ x at' sd', spec_l1Cur_pick.f l at_ sd n = some (x, at', sd') ∧ 0 ≤ x ∧ x < n ∧ 0 ≤ at' ∧ at' ≤ at_ + 2 := by
  unfold spec_l1Cur_pick.f
  by_cases h1 : n ≤ 1
  · rw [if_pos h1]
    exact ⟨0, at_, sd, rfl, by omega, by omega, by omega, by omega⟩
  · rw [if_neg h1]
    obtain ⟨b, a1, s1, e1, hb0, hb1, ha0, ha1⟩ := next_ok l hl at_ sd (by omega)
    rw [e1]
    simp only [Option.bind_some]
    by_cases h2 : n > 200
    · rw [if_pos h2]
      obtain ⟨c, a2, s2, e2, hc0, hc1, hd0, hd1⟩ := next_ok l hl a1 s1 (by omega)
      rw [e2]
      simp only [Option.bind_some]
      rw [if_neg (by omega), w64 (x := b * 256) (by omega) (by omega), w64 (x := b * 256 + c) (by omega) (by omega), Int.tmod_eq_emod_of_nonneg (by omega)]
      exact ⟨_, _, _, rfl, Int.emod_nonneg _ (by omega), Int.emod_lt_of_pos _ (by omega), by omega, by omega⟩
    · rw [if_neg h2, if_neg (by omega), Int.tmod_eq_emod_of_nonneg (by omega)]
      exact ⟨_, _, _, rfl, Int.emod_nonneg _ (by omega), Int.emod_lt_of_pos _ (by omega), by omega, by omega⟩
theorem one_ok (l : List Int) (hl : bytesL l) (at_ sd : Int) (h : 0 ≤ at_ ∧ at_ ≤ 1000000 - 2) (n : Int) (hn : 1 ≤ n) (hn2 : n ≤ 1000000) : ∃ x at' sd', spec_l1Cur_one.f l at_ sd n = some (x, at', sd') ∧ 0 ≤ at' ∧ at' ≤ at_ + 2 := by
  obtain ⟨x, a, s, e, _, _, h1, h2⟩ := pick_ok l hl at_ sd h n hn hn2
  unfold spec_l1Cur_one.f
  rw [e]
  exact ⟨_, _, _, rfl, h1, h2⟩
theorem among_ok (l : List Int) (hl : bytesL l) (at_ sd : Int) (h : 0 ≤ at_ ∧ at_ ≤ 1000000 - 2) (xs : List Int) (hn : 1 ≤ xs.length) (hn2 : xs.length ≤ 1000) : ∃ x at' sd', spec_l1Cur_among.f l at_ sd xs = some (x, at', sd') ∧ x ∈ xs ∧ 0 ≤ at' ∧ at' ≤ at_ + 2 := by
  obtain ⟨x, a, s, e, h0, h1, h2, h3⟩ := pick_ok l hl at_ sd h (xs.length : Int) (by omega) (by omega)
  unfold spec_l1Cur_among.f
  rw [e]
  simp only [Option.bind_some]
  rw [if_pos h0, if_pos h1]
  obtain ⟨i, rfl⟩ := Int.eq_ofNat_of_zero_le h0
  have hi : i < xs.length := by omega
  rw [rd_nat hi]
  exact ⟨_, _, _, rfl, List.getElem_mem hi, h2, h3⟩
end Go.Proofs.YthpmpkmdjpaemaaGreat.Pure
