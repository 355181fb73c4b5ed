/- Chapter 7: the shortest and the longest codes, in the program and in the reference. -/
import Derived.Test.YtbmbplmcdbgnnaaQx0
import Derived.Test.YtbmbplmcdbgnnaaQx6
import Derived.Test.YtbmbplmcdbgnnaaQx8
import Derived.Test.YtbmbplmcdbgnnaaQx9
import Derived.Test.YtbmbplmcdbgnnaaDialX
namespace Go.Proofs.Ytbmbplmcdbgnnaa.Pure
open Go.RowKit Go.Proofs.Ytbmbplmcdbgnnaa.Q Go.Proofs.YtbmbplmcdbgnnaaW.PrintWords Go.Proofs.YtbmbplmcdbgnnaaW.PrintLast Go.Proofs.YtbmbplmcdbgnnaaW.PrintMore
set_option linter.unusedVariables false

def extG (m s sg : Int) (st : List Int × Int) (c : List Int) : List Int × Int := if st.1 = [] ∨ sg * lenC m s c < sg * st.2 then (c, lenC m s c) else st
def extV (m s k sg : Int) : List Int × Int × Bool := if ((2 ≤ m ∧ m ≤ 100) ∧ 0 ≤ s ∧ s ≤ m - 1) ∧ m ≤ 12 ∧ 1 ≤ k ∧ k ≤ 3 then (((dall m.toNat k.toNat).foldl (extG m s sg) ([], 0)).1, ((dall m.toNat k.toNat).foldl (extG m s sg) ([], 0)).2, true) else ([], 0, false)
theorem sg_mul {sg t : Int} (hs : sg = 1 ∨ sg = -1) (h0 : 0 ≤ t) (h1 : t ≤ 900) : wrap64 (sg * t) = sg * t := by
  rcases hs with rfl | rfl <;> (unfold wrap64; omega)
theorem extG_bd {m s sg : Int} (hm : 2 ≤ m ∧ m ≤ 12) {st : List Int × Int} (h : 0 ≤ st.2 ∧ st.2 ≤ 900 ∧ st.1.length ≤ 3) {c : List Int} (hc : c.length ≤ 3) : 0 ≤ (extG m s sg st c).2 ∧ (extG m s sg st c).2 ≤ 900 ∧ (extG m s sg st c).1.length ≤ 3 := by
  have := small_code m s hm c hc
  unfold extG
  split
  · exact ⟨this.2.2.1, this.2.2.2, hc⟩
  · exact h
theorem implExt_ev (m s k sg : Int) (hg : sg = 1 ∨ sg = -1) : Ev (fun K => impl_extreme.f K m s k sg) (extV m s k sg) := by
  unfold impl_extreme.f extV
  by_cases h : ((2 ≤ m ∧ m ≤ 100) ∧ 0 ≤ s ∧ s ≤ m - 1) ∧ m ≤ 12 ∧ 1 ≤ k ∧ k ≤ 3
  · rw [if_pos h]
    obtain ⟨⟨h1, h2⟩, h3, h4⟩ := h
    obtain ⟨M, rfl⟩ := Int.eq_ofNat_of_zero_le (show 0 ≤ m by omega)
    obtain ⟨n, rfl⟩ := Int.eq_ofNat_of_zero_le (show 0 ≤ k by omega)
    have hp := pow_few (m := M) (k := n) (by omega) (by omega)
    refine Ev.pos ⟨⟨h1, h2⟩, h3, h4⟩ (Ev.bind (power_ev M n (by omega) (by omega) (by omega)) ?_)
    refine Ev.pos ⟨by simp, by omega⟩ ?_
    simp only [Int.toNat_natCast]
    have hf := foldO_ev (f := fun K => extStep K (M : Int) s sg) (extG M s sg) (fun i st => 0 ≤ st.2 ∧ st.2 ≤ 900 ∧ st.1.length ≤ 3) 2000 (dall M n) 0 ([], 0) (by simp) (by rw [dall_length]; omega) (by
      intro c hc i st hi hst
      obtain ⟨c1, c2, c3⟩ := code_ok (by omega) (by omega) hc
      have hsm := small_code (M : Int) s (by omega) c c2
      refine ⟨?_, extG_bd (by omega) hst c2⟩
      unfold extStep
      refine Ev.neg c3 (open_len_ev M s (by omega) h2 c c1 c2 _ _ (Ev.val (Ev.now _) ?_))
      rw [sg_mul hg hsm.2.2.1 hsm.2.2.2, sg_mul hg hst.1 hst.2.1]
      rfl)
    exact Ev.bind (f := fun _ p => some (p.1, p.2, true)) hf (Ev.now _) |> Ev.congr (fun K => by rw [Option.map_eq_bind]; rfl)
  · rw [if_neg h]
    exact Ev.neg h (Ev.now _)
theorem specBest_l0 (m s sg : Int) (b : Bool) (hb : (b = true ∧ sg = 1) ∨ (b = false ∧ sg = -1)) (hm : 2 ≤ m ∧ m ≤ 12) (hs : 0 ≤ s ∧ s ≤ m - 1) (xs : List (List Int)) (hn : xs.length ≤ 2000) (hx : ∀ c ∈ xs, codeOk m c = true ∧ c.length ≤ 3) : ∀ (d i : Nat) (st : List Int × Int), i + d = xs.length →
    Ev (fun K => spec_diBest.l0 K m s b st.1 st.2 xs (xs.length : Int) i) ((xs.drop i).foldl (extG m s sg) st) := by
  intro d
  induction d with
  | zero =>
    intro i st hi
    refine Ev.step (fun k => by rw [spec_diBest.l0]) ?_
    refine Ev.neg (by omega) (Ev.val (Ev.now _) ?_)
    rw [List.drop_eq_nil_of_le (by omega)]
    rfl
  | succ d ih =>
    intro i st hi
    have h1 : i < xs.length := by omega
    have hr : rd_L1 xs (i : Int) = xs[i] := by
      unfold rd_L1
      simp [h1]
    have hc := hx _ (List.getElem_mem h1)
    refine Ev.step (fun k => by rw [spec_diBest.l0]) ?_
    refine Ev.pos (by omega) (Ev.pos (by omega) (Ev.pos (by omega) ?_))
    rw [hr, w64n (by omega), List.drop_eq_getElem_cons h1, List.foldl_cons]
    have take : Ev (fun K => spec_diBest.l0 K m s b xs[i] (lenC m s xs[i]) xs (xs.length : Int) ((i + 1 : Nat) : Int)) ((xs.drop (i + 1)).foldl (extG m s sg) (xs[i], lenC m s xs[i])) := ih (i + 1) (xs[i], lenC m s xs[i]) (by omega)
    have keep := ih (i + 1) st (by omega)
    refine spec_len_ev m s hm hs _ hc.1 hc.2 (fun K t => if (st.1.length : Int) = 0 then spec_diBest.l0 K m s b xs[i] t xs (xs.length : Int) ((i + 1 : Nat) : Int) else if b = true then (if t < st.2 then spec_diBest.l0 K m s b xs[i] t xs (xs.length : Int) ((i + 1 : Nat) : Int) else spec_diBest.l0 K m s b st.1 st.2 xs (xs.length : Int) ((i + 1 : Nat) : Int)) else (if t > st.2 then spec_diBest.l0 K m s b xs[i] t xs (xs.length : Int) ((i + 1 : Nat) : Int) else spec_diBest.l0 K m s b st.1 st.2 xs (xs.length : Int) ((i + 1 : Nat) : Int))) _ ?_
    by_cases h0 : st.1 = []
    · refine Ev.pos (by rw [h0]; rfl) ?_
      have e : extG m s sg st xs[i] = (xs[i], lenC m s xs[i]) := if_pos (.inl h0)
      rw [e]
      exact take
    · have hl := List.length_pos_iff.mpr h0
      refine Ev.neg (by omega) ?_
      by_cases hlt : sg * lenC m s xs[i] < sg * st.2
      · have e : extG m s sg st xs[i] = (xs[i], lenC m s xs[i]) := if_pos (.inr hlt)
        rw [e]
        rcases hb with ⟨rfl, rfl⟩ | ⟨rfl, rfl⟩
        · exact Ev.pos rfl (Ev.pos (by omega) take)
        · exact Ev.neg (by decide) (Ev.pos (by omega) take)
      · have e : extG m s sg st xs[i] = st := if_neg (by rintro (h | h); exact h0 h; exact hlt h)
        rw [e]
        rcases hb with ⟨rfl, rfl⟩ | ⟨rfl, rfl⟩
        · exact Ev.pos rfl (Ev.neg (by omega) keep)
        · exact Ev.neg (by decide) (Ev.neg (by omega) keep)
theorem specBest_ev (m s sg : Int) (b : Bool) (hb : (b = true ∧ sg = 1) ∨ (b = false ∧ sg = -1)) (M n : Nat) (hM : m = M) (hm : 2 ≤ M ∧ M ≤ 12) (hs : 0 ≤ s ∧ s ≤ m - 1) (hn : 1 ≤ n ∧ n ≤ 3) : Ev (fun K => spec_diBest.f K m s n b) ((dall M n).foldl (extG m s sg) ([], 0)) := by
  subst hM
  have hp := pow_few (m := M) (k := n) (by omega) (by omega)
  unfold spec_diBest.f
  refine Ev.let_ (diAll_some M n (by omega) (by omega)) ?_
  have := specBest_l0 M s sg b hb (by omega) hs (dall M n) (by rw [dall_length]; omega) (fun c hc => ⟨(code_ok (by omega) (by omega) hc).1, (code_ok (by omega) (by omega) hc).2.1⟩) (dall M n).length 0 ([], 0) (by omega)
  simpa using this
theorem specLongest_ev (m s k : Int) : Ev (fun K => spec_LongestDial.f K m s k) (extV m s k (-1)) := by
  unfold spec_LongestDial.f extV
  refine Ev.let_ (diFew_some m s k) ?_
  by_cases h1 : ((2 ≤ m ∧ m ≤ 100) ∧ 0 ≤ s ∧ s ≤ m - 1) ∧ m ≤ 12 ∧ 1 ≤ k ∧ k ≤ 3
  · rw [if_pos h1]
    refine Ev.pos (decide_eq_true h1) ?_
    obtain ⟨⟨h1, h2⟩, h3, h4⟩ := h1
    obtain ⟨M, rfl⟩ := Int.eq_ofNat_of_zero_le (show 0 ≤ m by omega)
    obtain ⟨n, rfl⟩ := Int.eq_ofNat_of_zero_le (show 0 ≤ k by omega)
    simp only [Int.toNat_natCast]
    exact Ev.bind (specBest_ev M s (-1) false (.inr ⟨rfl, rfl⟩) M n rfl (by omega) h2 (by omega)) (Ev.now _)
  · rw [if_neg h1]
    exact Ev.neg (by rw [decide_eq_false h1]; decide) (Ev.now _)
theorem specShortest_ev (m s k : Int) : Ev (fun K => spec_ShortestDial.f K m s k) (extV m s k 1) := by
  unfold spec_ShortestDial.f extV
  refine Ev.let_ (diFew_some m s k) ?_
  by_cases h1 : ((2 ≤ m ∧ m ≤ 100) ∧ 0 ≤ s ∧ s ≤ m - 1) ∧ m ≤ 12 ∧ 1 ≤ k ∧ k ≤ 3
  · rw [if_pos h1]
    refine Ev.pos (decide_eq_true h1) ?_
    obtain ⟨⟨h1, h2⟩, h3, h4⟩ := h1
    obtain ⟨M, rfl⟩ := Int.eq_ofNat_of_zero_le (show 0 ≤ m by omega)
    obtain ⟨n, rfl⟩ := Int.eq_ofNat_of_zero_le (show 0 ≤ k by omega)
    simp only [Int.toNat_natCast]
    exact Ev.bind (specBest_ev M s 1 true (.inl ⟨rfl, rfl⟩) M n rfl (by omega) h2 (by omega)) (Ev.now _)
  · rw [if_neg h1]
    exact Ev.neg (by rw [decide_eq_false h1]; decide) (Ev.now _)
theorem implLongest_ev (m s k : Int) : Ev (fun K => impl_LongestDial.f K m s k) (extV m s k (-1)) := by
  unfold impl_LongestDial.f
  exact Ev.bind (implExt_ev m s k (-1) (.inr rfl)) (Ev.now _)
theorem implShortest_ev (m s k : Int) : Ev (fun K => impl_ShortestDial.f K m s k) (extV m s k 1) := by
  unfold impl_ShortestDial.f
  exact Ev.bind (implExt_ev m s k 1 (.inl rfl)) (Ev.now _)
theorem extV_length (m s k sg : Int) : (extV m s k sg).1.length ≤ 3 := by
  unfold extV
  split
  · rename_i h
    obtain ⟨⟨h1, h2⟩, h3, h4⟩ := h
    obtain ⟨M, rfl⟩ := Int.eq_ofNat_of_zero_le (show 0 ≤ m by omega)
    obtain ⟨n, rfl⟩ := Int.eq_ofNat_of_zero_le (show 0 ≤ k by omega)
    simp only [Int.toNat_natCast]
    exact (foldl_inv (extG M s sg) (fun _ st => 0 ≤ st.2 ∧ st.2 ≤ 900 ∧ st.1.length ≤ 3) (dall M n) 0 ([], 0) (by simp) (fun c hc i st hst => extG_bd (by omega) hst (code_ok (by omega) (by omega) hc).2.1)).2.2
  · simp
end Go.Proofs.Ytbmbplmcdbgnnaa.Pure
