/- Chapter 6: the laws' own comparisons, the zeros' code, the greatest numbers of guesses: what they come to. -/
import Derived.Test.YtcpnmiempaofdaaGreatCx0
import Derived.Test.YtcpnmiempaofdaaGreatCx12
import Derived.Test.YtcpnmiempaofdaaGreatCx7
import Derived.Test.YtcpnmiempaofdaaGreatCx8
import Derived.Test.YtcpnmiempaofdaaGreatHintG
import Derived.Test.YtcpnmiempaofdaaGreatVHintOf
import Derived.Test.YtcpnmiempaofdaaGreatVCountFitting
import Derived.Test.YtcpnmiempaofdaaGreatVFittingCodes
import Derived.Test.YtcpnmiempaofdaaGreatVCountGuesses
import Derived.Test.YtcpnmiempaofdaaGreatVCountWithHint
namespace Go.Proofs.YtcpnmiempaofdaaGreat.Pure
open Go.RowKit Go.Proofs.YtcpnmiempaofdaaGreat.C Go.Proofs.YtcpnmiempaofdaaGreatW.PrintWords Go.Proofs.YtcpnmiempaofdaaGreatW.PrintLast Go.Proofs.YtcpnmiempaofdaaGreatW.PrintMore
set_option linter.unusedVariables false

theorem eTexts_ev (xs : List ByteArray) (hn : xs.length < 281474976710656) : Ev (fun k => laws_eTexts.f k xs xs) true := by
  have key : ∀ (d i : Nat), i + d = xs.length → Ev (fun k => laws_eTexts.l0 k xs xs (xs.length : Int) (i : Int)) true := by
    intro d
    induction d with
    | zero =>
      intro i hi
      refine Ev.step (fun k => by rw [laws_eTexts.l0]) ?_
      exact Ev.neg (by omega) (Ev.now _)
    | succ d ih =>
      intro i hi
      refine Ev.step (fun k => by rw [laws_eTexts.l0]) ?_
      refine Ev.pos (by omega) (Ev.pos (by omega) (Ev.pos (by omega) (Ev.pos (by omega) (Ev.pos rfl ?_))))
      rw [w64n (by omega)]
      exact ih (i + 1) (by omega)
  unfold laws_eTexts.f
  exact Ev.pos rfl (key xs.length 0 (by omega))
theorem eSame_ev (xs : List Int) (hn : xs.length < 281474976710656) : Ev (fun k => laws_eSame.f k xs xs) true := by
  have key : ∀ (d i : Nat), i + d = xs.length → Ev (fun k => laws_eSame.l0 k xs xs (xs.length : Int) (i : Int)) true := by
    intro d
    induction d with
    | zero =>
      intro i hi
      refine Ev.step (fun k => by rw [laws_eSame.l0]) ?_
      exact Ev.neg (by omega) (Ev.now _)
    | succ d ih =>
      intro i hi
      refine Ev.step (fun k => by rw [laws_eSame.l0]) ?_
      refine Ev.pos (by omega) (Ev.pos (by omega) (Ev.pos (by omega) (Ev.pos (by omega) (Ev.pos rfl ?_))))
      rw [w64n (by omega)]
      exact ih (i + 1) (by omega)
  unfold laws_eSame.f
  exact Ev.pos rfl (key xs.length 0 (by omega))
/- rd_L10 as in laws_eRows.l0 -/
theorem rdRows_nat {xs : List (List Int)} {i : Nat} (h : i < xs.length) : rd_L10 xs (i : Int) = xs[i] := by
  unfold rd_L10
  simp [h]
theorem eRows_ev (xs : List (List Int)) (hn : xs.length < 281474976710656) (hx : ∀ x ∈ xs, x.length < 281474976710656) : Ev (fun k => laws_eRows.f k xs xs) true := by
  have key : ∀ (d i : Nat), i + d = xs.length → Ev (fun k => laws_eRows.l0 k xs xs (xs.length : Int) (i : Int)) true := by
    intro d
    induction d with
    | zero =>
      intro i hi
      refine Ev.step (fun k => by rw [laws_eRows.l0]) ?_
      exact Ev.neg (by omega) (Ev.now _)
    | succ d ih =>
      intro i hi
      have h1 : i < xs.length := by omega
      refine Ev.step (fun k => by rw [laws_eRows.l0]) ?_
      refine Ev.pos (by omega) (Ev.pos (by omega) (Ev.pos (by omega) (Ev.pos (by omega) ?_)))
      rw [w64n (by omega), rdRows_nat h1]
      exact Ev.bind (eSame_ev _ (hx _ (List.getElem_mem h1))) (Ev.pos rfl (ih (i + 1) (by omega)))
  unfold laws_eRows.f
  exact Ev.pos rfl (key xs.length 0 (by omega))
theorem eSorted_ev (xs : List ByteArray) (hn : xs.length < 281474976710656) (hs : xs.Pairwise befT) : Ev (fun k => laws_eSorted.f k xs) true := by
  have hg : ∀ (i : Nat) (h : i < xs.length), rdOf ByteArray.empty xs (i : Int) = xs[i] := fun i h => by unfold rdOf; simp [h]
  have key : ∀ (d i : Nat), i + d = xs.length → Ev (fun k => laws_eSorted.l0 k xs ((i + 1 : Nat) : Int)) true := by
    intro d
    induction d with
    | zero =>
      intro i hi
      refine Ev.step (fun k => by rw [laws_eSorted.l0]) ?_
      exact Ev.neg (by omega) (Ev.now _)
    | succ d ih =>
      intro i hi
      refine Ev.step (fun k => by rw [laws_eSorted.l0]) ?_
      by_cases h1 : i + 1 < xs.length
      · have e : wrap64 (((i + 1 : Nat) : Int) - 1) = (i : Int) := by rw [w64 (by omega) (by omega)]; omega
        rw [e, w64n (i := i + 1) (by omega)]
        refine Ev.pos (by omega) (Ev.pos (by omega) (Ev.pos (by omega) (Ev.pos (by omega) (Ev.pos ?_ (ih (i + 1) (by omega))))))
        rw [hg i (by omega), hg (i + 1) h1]
        exact List.pairwise_iff_getElem.mp hs i (i + 1) (by omega) h1 (by omega)
      · exact Ev.neg (by omega) (Ev.now _)
  unfold laws_eSorted.f
  exact key xs.length 0 (by omega)
theorem zeroCode_ev (w d : Nat) (hw1 : 1 ≤ w) (hw : w ≤ 6) (hd : 2 ≤ d ∧ d ≤ 10) : Ev (fun K => impl_ZeroCode.f K w d) (codeT w d 0, true) := by
  unfold impl_ZeroCode.f
  refine Ev.let_ (IsLock_some w d) (Ev.pos (lockB_iff.mpr ⟨by omega, by omega⟩) ?_)
  exact Ev.bind (implCode_ev w d 0 hw1 hw hd (by omega)) (Ev.now _)
/-! the greatest numbers of guesses -/
theorem most_ev (w d : Nat) (hw1 : 1 ≤ w) (hw : w ≤ 6) (hd : 2 ≤ d ∧ d ≤ 10) (h : smallB w d 256 = true) : Ev (fun K => impl_MostGuesses.f K w d) ((mostL w d (d ^ w)).1, true) ∧ Ev (fun K => spec_MostGuesses.f K w d) ((mostL w d (d ^ w)).1, true) ∧ Ev (fun K => impl_HardestCodes.f K w d) ((mostL w d (d ^ w)).2, true) ∧ Ev (fun K => spec_HardestCodes.f K w d) ((mostL w d (d ^ w)).2, true) := by
  have hi := isSmall_ev w d 256
  have hh := hiLock_ev w d 256
  rw [h] at hi hh
  have h256 := small_256 h
  unfold impl_MostGuesses.f spec_MostGuesses.f impl_HardestCodes.f spec_HardestCodes.f
  exact ⟨Ev.bind hi (Ev.pos rfl (Ev.bind (hardest_ev w d hw1 hw hd h256) (Ev.now _))), Ev.bind hh (Ev.pos rfl (Ev.bind (hiMost_ev w d hw1 hw hd h256) (Ev.now _))), Ev.bind hi (Ev.pos rfl (Ev.bind (hardest_ev w d hw1 hw hd h256) (Ev.now _))), Ev.bind hh (Ev.pos rfl (Ev.bind (hiMost_ev w d hw1 hw hd h256) (Ev.now _)))⟩
theorem most_no (a b : Int) (h : ¬ smallB a b 256 = true) : Ev (fun K => impl_MostGuesses.f K a b) (0, false) ∧ Ev (fun K => spec_MostGuesses.f K a b) (0, false) ∧ Ev (fun K => impl_HardestCodes.f K a b) ([], false) ∧ Ev (fun K => spec_HardestCodes.f K a b) ([], false) := by
  unfold impl_MostGuesses.f spec_MostGuesses.f impl_HardestCodes.f spec_HardestCodes.f
  exact ⟨Ev.bind (isSmall_ev a b 256) (Ev.neg h (Ev.now _)), Ev.bind (hiLock_ev a b 256) (Ev.neg h (Ev.now _)), Ev.bind (isSmall_ev a b 256) (Ev.neg h (Ev.now _)), Ev.bind (hiLock_ev a b 256) (Ev.neg h (Ev.now _))⟩
theorem countG_ev (a b : Int) (c : ByteArray) (hc : c.size < 281474976710656) : Ev (fun K => impl_CountGuesses.f K a b c) (((playV a b c).1.length : Int), (playV a b c).2) ∧ Ev (fun K => spec_CountGuesses.f K a b c) (((playV a b c).1.length : Int), (playV a b c).2) := by
  constructor
  · unfold impl_CountGuesses.f
    exact Ev.bind (implPlayFirst_ev a b c (by omega)) (Ev.now _)
  · unfold spec_CountGuesses.f
    refine Ev.bind (specPlayFirst_ev a b c (by omega)) ?_
    by_cases h : (playV a b c).2 = true
    · exact Ev.pos h (Ev.val (Ev.now _) (by rw [h]))
    · refine Ev.neg h (Ev.val (Ev.now _) ?_)
      have h' := Bool.eq_false_iff.mpr h
      rw [playV_none a b c h', h']
      rfl
theorem small_1000 {a b : Int} (h : smallB a b 256 = true) : smallB a b 1000 = true := by
  unfold smallB at *
  rw [Bool.and_eq_true] at *
  exact ⟨h.1, decide_eq_true (by have := of_decide_eq_true h.2; omega)⟩
theorem playV_yes (w d : Nat) (hw1 : 1 ≤ w) (hw : w ≤ 6) (hd : 2 ≤ d ∧ d ≤ 10) (h : smallB w d 256 = true) {c : ByteArray} (hc : c ∈ allC w d) : playV w d c = (playT w d c, true) := by
  obtain ⟨n, _, rfl⟩ := allC_mem hc
  unfold playV
  rw [if_pos ⟨small_1000 h, codeT_code w d n hw hd⟩]
  simp only [Int.toNat_natCast]
  unfold capV
  rw [if_pos (by have := playT_length w d hw1 hw hd (small_256 h) _ hc; simpa using this)]
  rfl
/-- A play is none, or all of a play of a code. -/
theorem playV_cases (a b : Int) (c : ByteArray) : playV a b c = ([], false) ∨ ∃ w d : Nat, a = w ∧ b = d ∧ 1 ≤ w ∧ w ≤ 6 ∧ (2 ≤ d ∧ d ≤ 10) ∧ smallB w d 1000 = true ∧ codeB w d c = true ∧ c ∈ allC w d ∧ (playT w d c).length ≤ 200 ∧ playV a b c = (playT w d c, true) := by
  unfold playV
  by_cases h : smallB a b 1000 = true ∧ codeB a b c = true
  · rw [if_pos h]
    obtain ⟨w, d, rfl, rfl, h3, h4, h5, h6⟩ := lock_nat (small_lock h.1)
    unfold capV
    simp only [List.length_nil, Nat.zero_add, List.nil_append, Int.toNat_natCast]
    by_cases hk : (playT w d c).length ≤ 200
    · right
      rw [if_pos hk]
      exact ⟨w, d, rfl, rfl, h3, h4, ⟨h5, h6⟩, h.1, h.2, code_all w d h3 h4 ⟨h5, h6⟩ h.2, hk, rfl⟩
    · left
      rw [if_neg hk]
  · left
    rw [if_neg h]
theorem zeros_bt (w d : Nat) (hw : w ≤ 6) (hd : 2 ≤ d ∧ d ≤ 10) : ∀ i : Nat, i < (codeT w d 0).size → bt (codeT w d 0) (i : Int) = 48 := by
  intro i hi
  rw [codeT_size] at hi
  have hl0 : i < (dcode d w 0).length := by rw [dcode_len]; omega
  unfold codeT
  rw [bt_txt _ (fun x hx => (dcode_digL d hd w 0 hw).2 x hx) i hl0]
  have h0 : (dcode d w 0)[i] = 0 := by simp only [dcode_zero, List.getElem_replicate]
  rw [h0]
  rfl
theorem withHint_none (w d : Nat) (hw1 : 1 ≤ w) (hw : w ≤ 6) (hd : 2 ≤ d ∧ d ≤ 10) (p o : Int) (ho : o ≠ 0) : fitC w d [⟨codeT w d 0, p, o⟩] = [] := by
  unfold fitC
  rw [List.filter_eq_nil_iff]
  intro s hs hc
  have h1 : fitB s ⟨codeT w d 0, p, o⟩ = true := by simpa [fitsB] using hc
  unfold fitB at h1
  have h2 := (of_decide_eq_true h1).2
  rw [zero_hint _ s (zeros_bt w d hw hd)] at h2
  exact ho h2.symm
theorem hint_ok {w d : Nat} (hw1 : 1 ≤ w) (hw : w ≤ 6) (hd : 2 ≤ d ∧ d ≤ 10) {g c : ByteArray} (hg : g ∈ allC w d) : hintB w d (hOf g c) = true := by
  obtain ⟨n, _, rfl⟩ := allC_mem hg
  have hb := hint_bd (codeT w d n) c (codeT_digs w d n hw hd hw1)
  rw [codeT_size] at hb
  unfold hintB hOf toldB
  simp only [codeT_code w d n hw hd, Bool.true_and]
  exact decide_eq_true (by omega)
end Go.Proofs.YtcpnmiempaofdaaGreat.Pure
