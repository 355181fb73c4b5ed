import Derived.Test.YtcpnmiempaofdaaGreatGx8
import Derived.Test.YtcpnmiempaofdaaGreatCurH
import Derived.Test.YtcpnmiempaofdaaGreatHintC
namespace Go.Proofs.YtcpnmiempaofdaaGreat.Pure
open Go.RowKit Go.Proofs.YtcpnmiempaofdaaGreat.G Go.Proofs.YtcpnmiempaofdaaGreatW.PrintWords Go.Proofs.YtcpnmiempaofdaaGreatW.PrintLast Go.Proofs.YtcpnmiempaofdaaGreatW.PrintMore
set_option linter.unusedVariables false
theorem whAsked_ev (a b : Int) (s : ByteArray) (hs : s.size < 9223372036854775808) : Ev (fun K => spec_whAsked.f K a b s) (lockB a b && codeB a b s) := by
 unfold spec_whAsked.f
 refine Ev.let_ (whGood_some a b) ?_
 by_cases h : lockB a b = true
 ·refine Ev.pos h (Ev.bind (whCode_ev a b (lockB_iff.mp h).2 s hs) (Ev.val (Ev.now _) ?_))
  rw [h, Bool.true_and]
 ·refine Ev.neg h (Ev.val (Ev.now _) ?_)
  rw [Bool.not_eq_true] at h
  rw [h, Bool.false_and]
def drawnH (l : List S35) : Prop := l.length ≤ 11 ∧ ∀ x ∈ l, x.f0.size ≤ 7
theorem drawnH_snoc {l : List S35} (h : ∀ x ∈ l, x.f0.size ≤ 7) (g : ByteArray) (p o : Int) (hg : g.size ≤ 7) : ∀ x ∈ l ++ [⟨g, p, o⟩], x.f0.size ≤ 7 := by
 intro x hx
 rcases List.mem_append.mp hx with hx | hx
 ·exact h x hx
 ·rw [List.mem_singleton] at hx
  subst hx
  exact hg
theorem hints_l1 (l : List Int) (hl : bytesL l) (c : ByteArray) (hc : c.size ≤ 7) : ∀ (j : Nat) (xs : List S35) (at_ sd : Int), xs.length + j = 11 → (∀ x ∈ xs, x.f0.size ≤ 7) → 0 ≤ at_ → at_ + 2 * (j : Int) + 2 ≤ 1000000 - 10 →
  ∃ hs at' sd', Ev (fun K => spec_l1Cur_hints.l1 K xs c l at_ sd) (hs, at', sd') ∧ drawnH hs ∧ 0 ≤ at' ∧ at' ≤ at_ + 2 * (j : Int) + 2 := by
 intro j
 induction j with
 | zero =>
  intro xs at_ sd hj hx h0 h1
  obtain ⟨t, a1, s1, e1, ht0, ht1, h2, h3⟩ := pick_ok l hl at_ sd (by omega) 2 (by omega) (by omega)
  refine ⟨xs, a1, s1, ?_, ⟨by omega, hx⟩, h2, by omega⟩
  refine Ev.step (fun K => by rw [spec_l1Cur_hints.l1]) (Ev.let_ e1 ?_)
  rw [w64 (x := 10 + t) (by omega) (by omega)]
  exact Ev.neg (by omega) (Ev.now _)
 | succ j ih =>
  intro xs at_ sd hj hx h0 h1
  obtain ⟨t, a1, s1, e1, ht0, ht1, h2, h3⟩ := pick_ok l hl at_ sd (by omega) 2 (by omega) (by omega)
  by_cases hlt : (xs.length : Int) < 10 + t
  ·obtain ⟨hs, a2, s2, he, h4, h5, h6⟩ := ih (xs ++ [⟨c, 0, 0⟩]) a1 s1 (by simp; omega) (drawnH_snoc hx c 0 0 hc) h2 (by omega)
   refine ⟨hs, a2, s2, ?_, h4, h5, by omega⟩
   refine Ev.step (fun K => by rw [spec_l1Cur_hints.l1]) (Ev.let_ e1 ?_)
   rw [w64 (x := 10 + t) (by omega) (by omega)]
   exact Ev.pos hlt (Ev.pos (by omega) he)
  ·refine ⟨xs, a1, s1, ?_, ⟨by omega, hx⟩, h2, by omega⟩
   refine Ev.step (fun K => by rw [spec_l1Cur_hints.l1]) (Ev.let_ e1 ?_)
   rw [w64 (x := 10 + t) (by omega) (by omega)]
   exact Ev.neg hlt (Ev.now _)
theorem hints_l0 (l : List Int) (hl : bytesL l) (c : ByteArray) (hc : c.size ≤ 7) (a b : Int) : ∀ (j : Nat) (xs : List S35) (at_ sd : Int), xs.length + j ≤ 4 → (∀ x ∈ xs, x.f0.size ≤ 7) → 0 ≤ at_ → at_ + 30 * (j : Int) + 40 ≤ 1000000 - 50 →
  ∃ hs at' sd', Ev (fun K => spec_l1Cur_hints.l0 K xs c (j : Int) l at_ sd a b) (hs, at', sd') ∧ drawnH hs ∧ 0 ≤ at' ∧ at' ≤ at_ + 30 * (j : Int) + 40 := by
 intro j
 induction j with
 | zero =>
  intro xs at_ sd hj hx h0 h1
  obtain ⟨o, a1, s1, e1, h2, h3⟩ := one_ok l hl at_ sd (by omega) 20 (by omega) (by omega)
  by_cases ho : o = true
  ·obtain ⟨hs, a2, s2, he, h4, h5, h6⟩ := hints_l1 l hl c hc (11 - xs.length) xs a1 s1 (by omega) hx h2 (by omega)
   refine ⟨hs, a2, s2, ?_, h4, h5, by omega⟩
   exact Ev.step (fun K => by rw [spec_l1Cur_hints.l0]) (Ev.neg (by omega) (Ev.let_ e1 (Ev.pos ho he)))
  ·refine ⟨xs, a1, s1, ?_, ⟨by omega, hx⟩, h2, by omega⟩
   exact Ev.step (fun K => by rw [spec_l1Cur_hints.l0]) (Ev.neg (by omega) (Ev.let_ e1 (Ev.neg ho (Ev.now _))))
 | succ j ih =>
  intro xs at_ sd hj hx h0 h1
  obtain ⟨g, a1, s1, e1, hg, h2, h3⟩ := code1_ok l hl a b at_ sd (by omega)
  obtain ⟨o, a2, s2, e2, h4, h5⟩ := one_ok l hl a1 s1 (by omega) 12 (by omega) (by omega)
  have hj2 : ∀ p q : Int, ∃ r : List S35 × Int × Int, Ev (fun K => spec_l1Cur_hints.j2 K xs c ((j + 1 : Nat) : Int) l a1 s1 a b g p q) r ∧ drawnH r.1 ∧ 0 ≤ r.2.1 ∧ r.2.1 ≤ at_ + 30 * ((j + 1 : Nat) : Int) + 40 := by
   intro p q
   by_cases ho : o = true
   ·obtain ⟨x, a3, s3, e3, hx0, hx1, h6, h7⟩ := pick_ok l hl a2 s2 (by omega) 5 (by omega) (by omega)
    obtain ⟨y, a4, s4, e4, hy0, hy1, h8, h9⟩ := pick_ok l hl a3 s3 (by omega) 4 (by omega) (by omega)
    obtain ⟨z, a5, s5, e5, hz0, hz1, h10, h11⟩ := pick_ok l hl a4 s4 (by omega) 9 (by omega) (by omega)
    obtain ⟨hs, a6, s6, he, h12, h13, h14⟩ := ih (xs ++ [⟨g, wrap64 (x - 1), wrap64 (y - (wrap64 (Int.tdiv z 8)))⟩]) a5 s5 (by simp; omega) (drawnH_snoc hx g _ _ hg) h10 (by omega)
    refine ⟨(hs, a6, s6), ?_, h12, h13, by show a6 ≤ _; omega⟩
    refine Ev.step (fun K => by rw [spec_l1Cur_hints.j2]) (Ev.let_ e2 (Ev.pos ho (Ev.let_ e3 (Ev.let_ e4 (Ev.let_ e5 (Ev.pos (show xs.length < 4398046511104 by omega) ?_))))))
    rw [show wrap64 (((j + 1 : Nat) : Int) - 1) = (j : Int) by rw [w64 (by omega) (by omega)]; omega]
    exact he
   ·obtain ⟨hs, a6, s6, he, h12, h13, h14⟩ := ih (xs ++ [⟨g, p, q⟩]) a2 s2 (by simp; omega) (drawnH_snoc hx g _ _ hg) h4 (by omega)
    refine ⟨(hs, a6, s6), ?_, h12, h13, by show a6 ≤ _; omega⟩
    refine Ev.step (fun K => by rw [spec_l1Cur_hints.j2]) (Ev.let_ e2 (Ev.neg ho (Ev.pos (show xs.length < 4398046511104 by omega) ?_)))
    rw [show wrap64 (((j + 1 : Nat) : Int) - 1) = (j : Int) by rw [w64 (by omega) (by omega)]; omega]
    exact he
  by_cases hq : (lockB a b && codeB a b c) = true
  ·have hq' := Bool.and_eq_true_iff.mp hq
   by_cases hr : codeB a b g = true
   ·have hs2 : g.size = c.size := by
     have := (codeB_iff.mp hr).1
     have := (codeB_iff.mp hq'.2).1
     omega
    obtain ⟨r, he, h6, h7, h8⟩ := hj2 (hintV g c).1 (hintV g c).2
    refine ⟨r.1, r.2.1, r.2.2, ?_, h6, h7, h8⟩
    refine Ev.step (fun K => by rw [spec_l1Cur_hints.l0]) (Ev.pos (by omega) (Ev.bind e1 (Ev.bind (whAsked_ev a b c (by omega)) (Ev.pos hq (Ev.bind (whCode_ev a b (lockB_iff.mp hq'.1).2 g (by omega)) ?_)))))
    rw [hr]
    exact Ev.step (fun K => by rw [spec_l1Cur_hints.j1]) (Ev.pos rfl (Ev.let_ (specHint_some g c (digs_code hq'.1 hr) hs2) he))
   ·obtain ⟨r, he, h6, h7, h8⟩ := hj2 0 0
    refine ⟨r.1, r.2.1, r.2.2, ?_, h6, h7, h8⟩
    refine Ev.step (fun K => by rw [spec_l1Cur_hints.l0]) (Ev.pos (by omega) (Ev.bind e1 (Ev.bind (whAsked_ev a b c (by omega)) (Ev.pos hq (Ev.bind (whCode_ev a b (lockB_iff.mp hq'.1).2 g (by omega)) ?_)))))
    rw [Bool.not_eq_true] at hr
    rw [hr]
    exact Ev.step (fun K => by rw [spec_l1Cur_hints.j1]) (Ev.neg (by decide) he)
  ·obtain ⟨r, he, h6, h7, h8⟩ := hj2 0 0
   refine ⟨r.1, r.2.1, r.2.2, ?_, h6, h7, h8⟩
   refine Ev.step (fun K => by rw [spec_l1Cur_hints.l0]) (Ev.pos (by omega) (Ev.bind e1 (Ev.bind (whAsked_ev a b c (by omega)) (Ev.neg hq ?_))))
   exact Ev.step (fun K => by rw [spec_l1Cur_hints.j1]) (Ev.neg (by decide) he)
theorem hints_ok (l : List Int) (hl : bytesL l) (a b at_ sd : Int) (h : 0 ≤ at_ ∧ at_ ≤ 1000000 - 400) : ∃ hs at' sd', Ev (fun K => spec_l1Cur_hints.f K l at_ sd a b) (hs, at', sd') ∧ drawnH hs ∧ 0 ≤ at' ∧ at' ≤ at_ + 200 := by
 obtain ⟨c, a1, s1, e1, hc, h1, h2⟩ := code1_ok l hl a b at_ sd (by omega)
 obtain ⟨x, a2, s2, e2, hx0, hx1, h3, h4⟩ := pick_ok l hl a1 s1 (by omega) 4 (by omega) (by omega)
 obtain ⟨n, rfl⟩ := Int.eq_ofNat_of_zero_le hx0
 obtain ⟨hs, a3, s3, e3, h5, h6, h7⟩ := hints_l0 l hl c hc a b n [] a2 s2 (by simp; omega) (by simp) h3 (by omega)
 refine ⟨hs, a3, s3, ?_, h5, h6, by omega⟩
 unfold spec_l1Cur_hints.f
 exact Ev.bind e1 (Ev.let_ e2 e3)
theorem drawHintOf_ok (l : List Int) (hl : bytesL l) : ∃ a b g c, Ev (fun K => spec_DrawHintOf.f K l) (a, b, g, c) ∧ g.size ≤ 7 ∧ c.size ≤ 7 := by
 obtain ⟨a, b, a1, s1, e1, h1, h2⟩ := lock_ok l hl 0 0 (by omega)
 obtain ⟨g, a2, s2, e2, h3, h4, h5⟩ := code1_ok l hl a b a1 s1 (by omega)
 obtain ⟨c, a3, s3, e3, h6, h7, h8⟩ := code1_ok l hl a b a2 s2 (by omega)
 refine ⟨a, b, g, c, ?_, h3, h6⟩
 unfold spec_DrawHintOf.f
 exact Ev.let_ e1 (Ev.bind e2 (Ev.bind e3 (Ev.now _)))
theorem drawTable_ok (l : List Int) (hl : bytesL l) : ∃ a b hs g, Ev (fun K => spec_DrawHintTable.f K l) (a, b, hs, g) ∧ drawnH hs ∧ g.size ≤ 7 := by
 obtain ⟨a, b, a1, s1, e1, h1, h2⟩ := lock_ok l hl 0 0 (by omega)
 obtain ⟨hs, a2, s2, e2, h3, h4, h5⟩ := hints_ok l hl a b a1 s1 (by omega)
 have he : ∀ at_ sd : Int, 0 ≤ at_ ∧ at_ ≤ 1000000 - 40 → ∃ r : Int × Int × List S35 × ByteArray, Ev (fun K => spec_DrawFitsHints.e K l at_ sd a b hs) r ∧ r.1 = a ∧ r.2.1 = b ∧ r.2.2.1 = hs ∧ r.2.2.2.size ≤ 7 := by
  intro at_ sd h
  obtain ⟨c, a3, s3, e3, h6, h7, h8⟩ := code1_ok l hl a b at_ sd h
  exact ⟨(a, b, hs, c), by unfold spec_DrawFitsHints.e; exact Ev.bind e3 (Ev.now _), rfl, rfl, rfl, h6⟩
 have hq := hiAsked_ev a b hs (fun x hx => by have := h3.2 x hx; omega)
 have key : ∃ r : Int × Int × List S35 × ByteArray, Ev (fun K => spec_DrawFitsHints.f K l) r ∧ r.1 = a ∧ r.2.1 = b ∧ r.2.2.1 = hs ∧ r.2.2.2.size ≤ 7 := by
  by_cases hA : (smallB a b 1000 && hintsB a b hs) = true
  ·have hA' := Bool.and_eq_true_iff.mp hA
   obtain ⟨o, a3, s3, e3, h6, h7⟩ := one_ok l hl a2 s2 (by omega) 2 (by omega) (by omega)
   by_cases ho : o = true
   ·obtain ⟨w, d, rfl, rfl, h8, h9, h10, h11⟩ := lock_nat (small_lock hA'.1)
    have hH : okH w hs := by simpa using okH_of (small_lock hA'.1) hA'.2
    have hal := hiAll_ev w d h8 h9 ⟨h10, h11⟩
    have hpw : d ^ w ≤ 1000000 := pow_lock h9 h10 h11
    have hfi := hiFitting_ev w hs hH (allC w d) (by rw [allC_length]; omega) (fun c hc => by obtain ⟨i, hi, rfl⟩ := allC_mem hc; rw [codeT_size])
    have hle : ((allC w d).filter (fitsB hs)).length ≤ d ^ w := by
     have := List.length_filter_le (fitsB hs) (allC w d)
     rw [allC_length] at this
     exact this
    by_cases hz : 0 < (((allC w d).filter (fitsB hs)).length : Int)
    ·obtain ⟨p, a4, s4, e4, hp0, hp1, h12, h13⟩ := pick_ok l hl a3 s3 (by omega) (((allC w d).filter (fitsB hs)).length : Int) (by omega) (by omega)
     refine ⟨(w, d, hs, rdOf ByteArray.empty ((allC w d).filter (fitsB hs)) p), ?_, rfl, rfl, rfl, ?_⟩
     ·unfold spec_DrawFitsHints.f
      refine Ev.let_ e1 (Ev.bind e2 (Ev.bind hq (Ev.pos hA ?_)))
      unfold spec_DrawFitsHints.d
      refine Ev.let_ e3 (Ev.pos ho ?_)
      unfold spec_DrawFitsHints.g
      exact Ev.bind hal (Ev.bind hfi (Ev.pos hz (Ev.let_ e4 (Ev.pos ⟨hp0, hp1⟩ (Ev.now _)))))
     ·obtain ⟨i, rfl⟩ := Int.eq_ofNat_of_zero_le hp0
      have hi : i < ((allC w d).filter (fitsB hs)).length := by omega
      have hr : rdOf ByteArray.empty ((allC w d).filter (fitsB hs)) (i : Int) = ((allC w d).filter (fitsB hs))[i] := by unfold rdOf; simp [hi]
      show (rdOf ByteArray.empty ((allC w d).filter (fitsB hs)) (i : Int)).size ≤ 7
      rw [hr]
      obtain ⟨q, hq2, e⟩ := allC_mem (List.mem_filter.mp (List.getElem_mem hi)).1
      rw [e, codeT_size]
      omega
    ·obtain ⟨r, hr, h14⟩ := he a3 s3 (by omega)
     refine ⟨r, ?_, h14⟩
     unfold spec_DrawFitsHints.f
     refine Ev.let_ e1 (Ev.bind e2 (Ev.bind hq (Ev.pos hA ?_)))
     unfold spec_DrawFitsHints.d
     refine Ev.let_ e3 (Ev.pos ho ?_)
     unfold spec_DrawFitsHints.g
     exact Ev.bind hal (Ev.bind hfi (Ev.neg hz hr))
   ·obtain ⟨r, hr, h14⟩ := he a3 s3 (by omega)
    refine ⟨r, ?_, h14⟩
    unfold spec_DrawFitsHints.f
    refine Ev.let_ e1 (Ev.bind e2 (Ev.bind hq (Ev.pos hA ?_)))
    unfold spec_DrawFitsHints.d
    exact Ev.let_ e3 (Ev.neg ho hr)
  ·obtain ⟨r, hr, h14⟩ := he a2 s2 (by omega)
   refine ⟨r, ?_, h14⟩
   unfold spec_DrawFitsHints.f
   exact Ev.let_ e1 (Ev.bind e2 (Ev.bind hq (Ev.neg hA hr)))
 obtain ⟨⟨x, y, z, g⟩, h1, h2, h3', h4', h5'⟩ := key
 simp only at h2 h3' h4' h5'
 subst h2 h3' h4'
 exact ⟨_, _, _, _, h1, h3, h5'⟩
end Go.Proofs.YtcpnmiempaofdaaGreat.Pure
