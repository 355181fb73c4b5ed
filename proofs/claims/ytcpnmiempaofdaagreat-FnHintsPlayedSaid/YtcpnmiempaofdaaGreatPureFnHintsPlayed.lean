/- Plays by first fitting codes end at the code, no play is longer than the most, and hints that can be are those of some code; no condition beyond the law's own. -/
import Derived.Test.YtcpnmiempaofdaaGreatCx0
import Derived.Test.YtcpnmiempaofdaaGreatCx13
import Derived.Test.YtcpnmiempaofdaaGreatCx2
import Derived.Test.YtcpnmiempaofdaaGreatCx7
import Derived.Test.YtcpnmiempaofdaaGreatHintL
import Derived.Test.YtcpnmiempaofdaaGreatCurH
namespace Go.Proofs.YtcpnmiempaofdaaGreat.Pure
open Go.RowKit Go.Proofs.YtcpnmiempaofdaaGreat.C Go.Proofs.YtcpnmiempaofdaaGreatW.PrintWords Go.Proofs.YtcpnmiempaofdaaGreatW.PrintLast Go.Proofs.YtcpnmiempaofdaaGreatW.PrintMore
set_option linter.unusedVariables false
theorem eHints_ev (xs : List S35) (hn : xs.length < 281474976710656) : Ev (fun k => laws_eHints.f k xs xs) true := by
  have key : ∀ (d i : Nat), i + d = xs.length → Ev (fun k => laws_eHints.l0 k xs xs (xs.length : Int) (i : Int)) true := by
    intro d
    induction d with
    | zero =>
      intro i hi
      refine Ev.step (fun k => by rw [laws_eHints.l0]) ?_
      exact Ev.neg (by omega) (Ev.now _)
    | succ d ih =>
      intro i hi
      refine Ev.step (fun k => by rw [laws_eHints.l0]) ?_
      refine Ev.pos (by omega) (Ev.pos (by omega) (Ev.pos (by omega) (Ev.pos (by omega) (Ev.neg (by simp) ?_))))
      rw [w64n (by omega)]
      exact ih (i + 1) (by omega)
  unfold laws_eHints.f
  exact Ev.pos rfl (key xs.length 0 (by omega))
theorem rdH_nat {xs : List S35} {i : Nat} (h : i < xs.length) : rd_T35 xs (i : Int) = xs[i] := by simp [rd_T35, List.getD, h]
/-! the third part: zeros' hints -/
theorem fpl_j5 (p o a b : Int) : Ev (fun K => laws_FnHintsPlayed.j5 K p o (withHintV a b p o).1 (withHintV a b p o).2 a b) true := by
  refine Ev.step (fun k => by rw [laws_FnHintsPlayed.j5]) ?_
  by_cases h : smallB a b 1000 = true ∧ toldB a p o = true
  · obtain ⟨w, d, rfl, rfl, h3, h4, h5, h6⟩ := lock_nat (small_lock h.1)
    have e : withHintV w d p o = (((fitC w d [⟨codeT w d 0, p, o⟩]).length : Int), true) := by
      unfold withHintV
      rw [if_pos h]
      simp only [Int.toNat_natCast]
    rw [e]
    have hB : hintsB w d [⟨codeT w d 0, p, o⟩] = true := by
      unfold hintsB hintB
      simp [codeT_code w d 0 h4 ⟨h5, h6⟩, h.2]
    have hc := implCountFit_ev w d [⟨codeT w d 0, p, o⟩] (by simp) (fun x hx => by rw [List.mem_singleton] at hx; subst hx; rw [codeT_size]; omega)
    have ec : countFitV w d [⟨codeT w d 0, p, o⟩] = (((fitC w d [⟨codeT w d 0, p, o⟩]).length : Int), true) := by
      unfold countFitV
      rw [if_pos ⟨h.1, hB⟩]
      simp only [Int.toNat_natCast]
    rw [ec] at hc
    refine Ev.pos rfl (Ev.bind (zeroCode_ev w d h3 h4 ⟨h5, h6⟩) (Ev.bind hc (Ev.pos rfl (Ev.pos rfl (Ev.pos rfl ?_)))))
    by_cases ho : o = 0
    · exact Ev.pos ho (Ev.now _)
    · refine Ev.neg ho (Ev.val (Ev.now _) ?_)
      rw [withHint_none w d h3 h4 ⟨h5, h6⟩ p o ho]
      rfl
  · have e : withHintV a b p o = (0, false) := by
      unfold withHintV
      rw [if_neg h]
    rw [e]
    exact Ev.neg (by decide) (Ev.now _)
/-! the second part: the longest plays, and the hints that are possible -/
theorem fpl_l2 (w d : Nat) (hw : w ≤ 6) (p o x : Int) (y : Bool) (e f : Int) (rows : List (List Int)) (hn : rows.length ≤ 49) (hr : ∀ r ∈ rows, ∃ p o : Int, r = [p, o] ∧ 0 ≤ p ∧ 0 ≤ o ∧ p + o ≤ (w : Int) ∧ ¬ (p = (w : Int) - 1 ∧ o = 1))
    (h5 : Ev (fun K => laws_FnHintsPlayed.j5 K p o x y e f) true) : ∀ (j i : Nat), i + j = rows.length → Ev (fun K => laws_FnHintsPlayed.l2 K p o x y rows (rows.length : Int) (i : Int) w d e f) true := by
  intro j
  induction j with
  | zero =>
    intro i hi
    refine Ev.step (fun k => by rw [laws_FnHintsPlayed.l2]) ?_
    exact Ev.neg (by omega) h5
  | succ j ih =>
    intro i hi
    have h1 : i < rows.length := by omega
    obtain ⟨a, b, he, h2, h3, h4, h6⟩ := hr _ (List.getElem_mem h1)
    refine Ev.step (fun k => by rw [laws_FnHintsPlayed.l2]) ?_
    rw [rdRows_nat h1, he, w64n (by omega)]
    have r0 : rd [a, b] 0 = a := rfl
    have r1 : rd [a, b] 1 = b := rfl
    rw [r0, r1, w64 (x := a + b) (by omega) (by omega), w64 (x := (w : Int) - 1) (by omega) (by omega)]
    refine Ev.pos (by omega) (Ev.pos (by omega) (Ev.pos (by omega) (Ev.pos rfl (Ev.pos (by simp) (Ev.neg (by omega) (Ev.pos (by simp) (Ev.neg (by omega) (Ev.neg (by omega) ?_))))))))
    by_cases hp : a = (w : Int) - 1
    · exact Ev.pos hp (Ev.neg (fun ho => h6 ⟨hp, ho⟩) (ih (i + 1) (by omega)))
    · exact Ev.neg hp (ih (i + 1) (by omega))
theorem fpl_j2 (l1 : List Int) (hl1 : bytesL l1) : Ev (fun K => laws_FnHintsPlayed.j2 K l1) true := by
  obtain ⟨a, b, hd1⟩ := drawMost_ok l1 hl1
  obtain ⟨e, f, p, o, hd2⟩ := drawWith_ok l1 hl1
  have h5 := fpl_j5 p o e f
  refine Ev.step (fun k => by rw [laws_FnHintsPlayed.j2]) ?_
  refine Ev.let_ hd1 ?_
  have hw1 := implWith_ev e f p o
  have hw2 := specWith_ev e f p o
  by_cases h : smallB a b 256 = true
  · obtain ⟨w, d, rfl, rfl, h3, h4, h5', h6⟩ := lock_nat (small_lock h)
    obtain ⟨m1, m2, m3, m4⟩ := most_ev w d h3 h4 ⟨h5', h6⟩ h
    have hm := mostL_ok w d h3 h4 ⟨h5', h6⟩ (d ^ w) (Nat.le_refl _)
    have hsd := most_sorted ⟨h5', h6⟩ hm
    have hlen := mostL_length w d (d ^ w)
    have h256 := small_256 h
    have hpw : 0 < d ^ w := Nat.pow_pos (by omega)
    have ep : possV w d = (possL w (sumF w (allC w d) (allC w d)) ((w + 1) * (w + 1)), true) := by
      unfold possV
      rw [if_pos h]
      simp only [Int.toNat_natCast]
    have hp1 := implPoss_ev w d
    have hp2 := specPoss_ev w d
    obtain ⟨hr1, hr2⟩ := possV_rows w d
    rw [ep] at hp1 hp2 hr1 hr2
    have hrow := poss_row w d h3 h4 ⟨h5', h6⟩
    simp only at hr1 hr2
    generalize possL w (sumF w (allC w d) (allC w d)) ((w + 1) * (w + 1)) = rows at hp1 hp2 hr1 hr2 hrow
    generalize mostL w d (d ^ w) = s at m1 m2 m3 m4 hm hsd hlen
    obtain ⟨q1, q2⟩ := hm.pos hpw
    refine Ev.bind m1 (Ev.bind m2 (Ev.bind m3 (Ev.bind m4 (Ev.bind hp1 (Ev.bind hp2 (Ev.let_ hd2 (Ev.bind hw1 (Ev.bind hw2 ?_))))))))
    refine Ev.neg (by simp) (Ev.pos rfl (Ev.neg (by simp) (Ev.bind (eTexts_ev s.2 (by omega)) (Ev.pos rfl (Ev.neg (by simp) (Ev.bind (eRows_ev rows (by omega) (fun x hx => by obtain ⟨y, z, rfl⟩ := hr2 x hx; simp)) (Ev.pos rfl (Ev.neg (by simp) (Ev.pos rfl (Ev.neg (by simp) (Ev.neg (by simp) (Ev.pos rfl (Ev.neg (by show ¬ (s.2.length : Int) < 1; omega) (Ev.bind (eSorted_ev s.2 (by omega) hsd) (Ev.pos rfl (Ev.neg (by show ¬ s.1 < 1; omega) ?_))))))))))))))))
    have hz : codeT w d 0 ∈ allC w d := List.mem_map.mpr ⟨0, List.mem_range.mpr hpw, rfl⟩
    have key : ∀ (j i : Nat), i + j = s.2.length → Ev (fun K => laws_FnHintsPlayed.l1 K s.1 rows p o (withHintV e f p o).1 (withHintV e f p o).2 s.2 (s.2.length : Int) (i : Int) w d e f) true := by
      intro j
      induction j with
      | zero =>
        intro i hi
        refine Ev.step (fun k => by rw [laws_FnHintsPlayed.l1]) ?_
        have hcg := (countG_ev w d (codeT w d 0) (by rw [codeT_size]; omega)).1
        rw [playV_yes w d h3 h4 ⟨h5', h6⟩ h hz] at hcg
        have hle := hm.le 0 hpw
        refine Ev.neg (by omega) (Ev.bind (zeroCode_ev w d h3 h4 ⟨h5', h6⟩) (Ev.bind hcg (Ev.pos rfl (Ev.pos rfl (Ev.neg (by simp only []; omega) ?_)))))
        exact fpl_l2 w d h4 p o _ _ e f rows hr1 hrow h5 rows.length 0 (by omega)
      | succ j ih =>
        intro i hi
        have h1 : i < s.2.length := by omega
        obtain ⟨n, hn, hc, hl⟩ := hm.is _ (List.getElem_mem h1)
        have hmem : s.2[i] ∈ allC w d := by rw [hc]; exact List.mem_map.mpr ⟨n, List.mem_range.mpr hn, rfl⟩
        have hcg := (countG_ev w d s.2[i] (by rw [hc, codeT_size]; omega)).1
        rw [playV_yes w d h3 h4 ⟨h5', h6⟩ h hmem] at hcg
        have hr : rdOf ByteArray.empty s.2 (i : Int) = s.2[i] := by unfold rdOf; simp [h1]
        refine Ev.step (fun k => by rw [laws_FnHintsPlayed.l1]) ?_
        rw [hr, w64n (by omega)]
        refine Ev.pos (by omega) (Ev.pos (by omega) (Ev.pos (by omega) (Ev.bind hcg ?_)))
        by_cases h5i : (i : Int) < 5
        · exact Ev.pos h5i (Ev.pos rfl (Ev.pos (by rw [hc]; exact hl) (ih (i + 1) (by omega))))
        · exact Ev.neg h5i (ih (i + 1) (by omega))
    exact key s.2.length 0 (by omega)
  · obtain ⟨m1, m2, m3, m4⟩ := most_no a b h
    have ep : possV a b = ([], false) := by
      unfold possV
      rw [if_neg h]
    have hp1 := implPoss_ev a b
    have hp2 := specPoss_ev a b
    rw [ep] at hp1 hp2
    refine Ev.bind m1 (Ev.bind m2 (Ev.bind m3 (Ev.bind m4 (Ev.bind hp1 (Ev.bind hp2 (Ev.let_ hd2 (Ev.bind hw1 (Ev.bind hw2 ?_))))))))
    exact Ev.neg (by simp) (Ev.pos rfl (Ev.neg (by simp) (Ev.bind (eTexts_ev [] (by simp)) (Ev.pos rfl (Ev.neg (by simp) (Ev.bind (eRows_ev [] (by simp) (by simp)) (Ev.pos rfl (Ev.neg (by simp) (Ev.pos rfl (Ev.neg (by simp) (Ev.neg (by simp) (Ev.neg (by simp) h5))))))))))))
/-! the first part: one play -/
theorem fpl_l0 (w d : Nat) (hw1 : 1 ≤ w) (hw : w ≤ 6) (hd : 2 ≤ d ∧ d ≤ 10) (hsm : smallB w d 1000 = true) (c : ByteArray) (hcd : codeB w d c = true) (hc : c ∈ allC w d) (h200 : (playT w d c).length ≤ 200) (l1 : List Int)
    (hj : Ev (fun K => laws_FnHintsPlayed.j2 K l1) true) : ∀ (j i : Nat), i + j = (playT w d c).length → Ev (fun K => laws_FnHintsPlayed.l0 K l1 c (playT w d c) (playT w d c) ((playT w d c).length : Int) (i : Int) w d) true := by
  have hg := all_good w d hw1 hw hd hc
  have hok := playP_ok w c (d ^ w) (allC w d) hg (by rw [allC_length]; exact Nat.le_refl _)
  have hri := playP_rise w c (d ^ w) (allC w d) hg (by rw [allC_length]; exact Nat.le_refl _) (allC_sorted w d hd)
  have eP : playP c (d ^ w) (allC w d) = playT w d c := rfl
  rw [eP] at hok hri
  generalize playT w d c = P at h200 hok hri
  intro j
  induction j with
  | zero =>
    intro i hi
    refine Ev.step (fun k => by rw [laws_FnHintsPlayed.l0]) ?_
    exact Ev.neg (by omega) hj
  | succ j ih =>
    intro i hi
    have h1 : i < P.length := by omega
    obtain ⟨a1, a2, a3, a4⟩ := hok i P[i] (List.getElem?_eq_getElem h1)
    have hgd := hg.2 _ a2
    have hcdg := digs_code (lockB_iff.mpr ⟨by omega, by omega⟩) hcd
    have hcs : c.size = w := by have := (codeB_iff.mp hcd).1; omega
    have hgc : codeB w d P[i].f0 = true := by obtain ⟨n, _, he⟩ := allC_mem a2; rw [he]; exact codeT_code w d n hw hd
    have hh := implHintOf_ev w d P[i].f0 c (by rw [hgd.2]; omega) (by rw [hcs]; omega)
    have eh : hintOfV w d P[i].f0 c = (P[i].f1, P[i].f2, true) := by
      unfold hintOfV
      rw [if_pos ⟨hsm, hgc, hcd⟩]
      have e1 : P[i].f1 = (hintV P[i].f0 c).1 := by rw [a1]; rfl
      have e2 : P[i].f2 = (hintV P[i].f0 c).2 := by rw [a1]; rfl
      rw [e1, e2]
    rw [eh] at hh
    have hj1 : Ev (fun K => laws_FnHintsPlayed.j1 K l1 c P (i : Int) P (P.length : Int) (i : Int) false w d P[i].f0 P[i].f1 P[i].f2) true := by
      refine Ev.step (fun k => by rw [laws_FnHintsPlayed.j1]) ?_
      rw [w64n (by omega)]
      refine Ev.neg (by decide) ?_
      by_cases h10 : (i : Int) ≤ 10
      · have hB : hintsB w d (P.take i) = true := by
          unfold hintsB
          rw [Bool.and_eq_true, decide_eq_true_iff, List.all_eq_true]
          refine ⟨by rw [List.length_take]; omega, fun x hx => ?_⟩
          obtain ⟨q, hq, rfl⟩ := List.getElem_of_mem (List.mem_of_mem_take hx)
          obtain ⟨b1, b2, _, _⟩ := hok q P[q] (List.getElem?_eq_getElem hq)
          rw [b1]
          exact hint_ok hw1 hw hd b2
        have hf := implFit_ev w d (P.take i) (by rw [List.length_take]; omega) (fun x hx => by
          obtain ⟨q, hq, rfl⟩ := List.getElem_of_mem (List.mem_of_mem_take hx)
          obtain ⟨b1, b2, _, _⟩ := hok q P[q] (List.getElem?_eq_getElem hq)
          rw [(hg.2 _ b2).2]
          omega)
        have ef : fitV w d (P.take i) = (fitC w d (P.take i), true) := by
          unfold fitV
          rw [if_pos ⟨hsm, hB⟩]
          simp only [Int.toNat_natCast]
        rw [ef] at hf
        refine Ev.pos h10 (Ev.pos (by omega) (Ev.pos (by omega) ?_))
        rw [Int.toNat_natCast]
        have a4' : 0 < (fitC w d (P.take i)).length := a4
        have a3' : rdOf ByteArray.empty (fitC w d (P.take i)) 0 = P[i].f0 := a3
        exact Ev.bind hf (Ev.pos rfl (Ev.neg (by simp only []; omega) (Ev.pos (by simp only []; omega) (Ev.pos (by simp only []; rw [a3']) (ih (i + 1) (by omega))))))
      · exact Ev.neg h10 (ih (i + 1) (by omega))
    refine Ev.step (fun k => by rw [laws_FnHintsPlayed.l0]) ?_
    rw [rdH_nat h1]
    refine Ev.pos (by omega) (Ev.pos (by omega) (Ev.pos (by omega) (Ev.bind hh (Ev.pos rfl (Ev.pos rfl (Ev.pos rfl ?_))))))
    by_cases h0 : (i : Int) > 0
    · obtain ⟨q, rfl⟩ : ∃ q, i = q + 1 := ⟨i - 1, by omega⟩
      have e1 : wrap64 (((q + 1 : Nat) : Int) - 1) = (q : Int) := by rw [w64 (by omega) (by omega)]; omega
      rw [e1, rdH_nat (show q < P.length by omega)]
      refine Ev.pos h0 (Ev.pos (by omega) (Ev.pos (by omega) ?_))
      have hb := hri q P[q] P[q + 1] (List.getElem?_eq_getElem (by omega)) (List.getElem?_eq_getElem h1)
      have hb' : Op.bytesLess P[q].f0.toList P[q + 1].f0.toList = true := hb
      rw [hb']
      exact hj1
    · exact Ev.neg h0 hj1
theorem FnHintsPlayed : laws_FnHintsPlayed.Pure := by
  intro l0 l1 hl0 _ hb0 hl1 _ hb1
  have hbyte : ∀ x : Int, (Lit.int .u8 x).wf = true → 0 ≤ x ∧ x ≤ 255 := by
    intro x hx
    simp [Lit.wf, IntKind.min, IntKind.max, IntKind.signed, IntKind.bits] at hx
    omega
  unfold maxLen at hl0 hl1
  have hB0 : bytesL l0 := ⟨by omega, fun x hx => hbyte x (hb0 x hx)⟩
  have hB1 : bytesL l1 := ⟨by omega, fun x hx => hbyte x (hb1 x hx)⟩
  apply Ev.rounds
  unfold laws_FnHintsPlayed.f
  obtain ⟨t, ht⟩ : ∃ t, laws_big.f l0 l1 = some t := by unfold laws_big.f; split <;> exact ⟨_, rfl⟩
  refine Ev.let_ ht ?_
  by_cases h : t = true
  · exact Ev.pos h (Ev.now _)
  refine Ev.neg h ?_
  obtain ⟨a, b, c, hd, hcs⟩ := drawPlay_ok l0 hB0
  refine Ev.bind hd ?_
  have hi := implPlayFirst_ev a b c (by omega)
  have hsp := specPlayFirst_ev a b c (by omega)
  obtain ⟨hc1, hc2⟩ := countG_ev a b c (by omega)
  have hj := fpl_j2 l1 hB1
  rcases playV_cases a b c with hv | ⟨w, d, rfl, rfl, h3, h4, hd', hsm, hcd, hc, h200, hv⟩
  · rw [hv] at hi hsp hc1 hc2
    refine Ev.bind hi (Ev.bind hsp (Ev.bind hc1 (Ev.bind hc2 ?_)))
    exact Ev.neg (by simp) (Ev.bind (eHints_ev [] (by simp)) (Ev.pos rfl (Ev.neg (by simp) (Ev.pos rfl (Ev.neg (by simp) (Ev.neg (by simp) hj))))))
  · rw [hv] at hi hsp hc1 hc2
    have hl0 := fpl_l0 w d h3 h4 hd' hsm c hcd hc h200 l1 hj (playT w d c).length 0 (by omega)
    obtain ⟨ys, hys⟩ := playP_last w c (d ^ w) (allC w d) (all_good w d h3 h4 hd' hc) (by rw [allC_length]; exact Nat.le_refl _)
    have hys' : playT w d c = ys ++ [hOf c c] := hys
    have hcw : c.size = w := by have := (codeB_iff.mp hcd).1; omega
    have hlast : rd_T35 (playT w d c) ((ys.length : Nat) : Int) = hOf c c := by
      rw [hys', rdH_nat (by simp)]
      simp
    have hlen : (playT w d c).length = ys.length + 1 := by rw [hys']; simp
    have e1 : wrap64 (((playT w d c).length : Int) - 1) = (ys.length : Int) := by rw [w64 (by omega) (by omega)]; omega
    have e2 : (hOf c c).f1 = (w : Int) := by
      have := (hint_full c c rfl).mpr rfl
      rw [hcw] at this
      exact this
    refine Ev.bind hi (Ev.bind hsp (Ev.bind hc1 (Ev.bind hc2 ?_)))
    refine Ev.neg (by simp) (Ev.bind (eHints_ev _ (by show (playT w d c).length < _; omega)) (Ev.pos rfl (Ev.neg (by simp) (Ev.pos rfl (Ev.neg (by simp) (Ev.pos rfl (Ev.pos rfl (Ev.neg (by show ¬ ((playT w d c).length : Int) < 1; omega) ?_))))))))
    simp only []
    rw [e1, hlast]
    exact Ev.pos (by omega) (Ev.pos (by omega) (Ev.pos rfl (Ev.pos e2 hl0)))
end Go.Proofs.YtcpnmiempaofdaaGreat.Pure
