/- Chapter 5: what is drawn for orders. -/
import Derived.Test.YthpmpkmdjpaemaaGreatPx0
import Derived.Test.YthpmpkmdjpaemaaGreatPx2
import Derived.Test.YthpmpkmdjpaemaaGreatPx3
import Derived.Test.YthpmpkmdjpaemaaGreatPx4
import Derived.Test.YthpmpkmdjpaemaaGreatPx5
import Derived.Test.YthpmpkmdjpaemaaGreatCurO
import Derived.Test.YthpmpkmdjpaemaaGreatOrdB
namespace Go.Proofs.YthpmpkmdjpaemaaGreat.Pure
open Go.RowKit Go.Proofs.YthpmpkmdjpaemaaGreat.P Go.Proofs.YthpmpkmdjpaemaaGreatW.PrintWords Go.Proofs.YthpmpkmdjpaemaaGreatW.PrintLast Go.Proofs.YthpmpkmdjpaemaaGreatW.PrintMore
set_option linter.unusedVariables false
theorem digL_snoc {out : List Int} {i : Nat} (hl : out.length = i) (h : ∀ x ∈ out, 0 ≤ x ∧ x ≤ 9) {v : Int} (hv : 0 ≤ v ∧ v ≤ 9) : (out ++ [v]).length = i + 1 ∧ ∀ x ∈ out ++ [v], 0 ≤ x ∧ x ≤ 9 := by
  refine ⟨by simp [hl], fun x hx => ?_⟩
  rcases List.mem_append.mp hx with hx | hx
  · exact h x hx
  · rw [List.mem_singleton.mp hx]; exact hv
theorem forth_l0 {w d : Nat} (hw : 1 ≤ w ∧ w ≤ 6) (hd : 2 ≤ d ∧ d ≤ 10) {c : ByteArray} (hc : codeB (w : Int) (d : Int) c = true) : ∀ (j i : Nat) (steps : Int) (out : List Int), i + j = w → out.length = i → (∀ x ∈ out, 0 ≤ x ∧ x ≤ 9) →
    ∃ s, Ev (fun K => spec_orForth.l0 K (dgL c) steps out (dgL c) (w : Int) i w d) s ∧ s.size ≤ 6 := by
  have hs := code_size hc
  intro j
  induction j with
  | zero =>
    intro i steps out hi hl ho
    refine ⟨txt out, ?_, by rw [txt_size]; omega⟩
    exact Ev.step (fun k => by rw [spec_orForth.l0]) (Ev.neg (by omega) (Ev.bind (whText_ev out ⟨by omega, ho⟩) (Ev.now _)))
  | succ j ih =>
    intro i steps out hi hl ho
    have hx := code_dg hc (show i < w by omega)
    have hw1 : wrap64 ((d : Int) - 1) = (d : Int) - 1 := w64 (by omega) (by omega)
    have hw2 : wrap64 ((d : Int) - 1 - dg c i) = (d : Int) - 1 - dg c i := w64 (by omega) (by omega)
    by_cases ht : Int.tmod steps 2 = 1
    · obtain ⟨h1, h2⟩ := digL_snoc hl ho (v := (d : Int) - 1 - dg c i) (by omega)
      have e1 : wrap64 (((out ++ [(d : Int) - 1 - dg c i]).length : Int) - 1) = (i : Int) := by rw [w64 (by omega) (by omega)]; omega
      obtain ⟨s, he, hz⟩ := ih (i + 1) (wrap64 (wrap64 (steps * (d : Int)) + dg c i)) _ (by omega) h1 h2
      refine ⟨s, ?_, hz⟩
      refine Ev.step (fun k => by rw [spec_orForth.l0]) (Ev.pos (by omega) (Ev.pos (by omega) (Ev.pos (by rw [dgL_length]; omega) ?_)))
      rw [rd_dgL c i (by omega), w64n (by omega), hw1, hw2]
      refine Ev.pos ht (Ev.pos (by omega) (Ev.let_ rfl ?_))
      rw [e1, rd_dgL c i (by omega)]
      exact Ev.pos (by omega) (Ev.pos (by rw [dgL_length]; omega) he)
    · obtain ⟨h1, h2⟩ := digL_snoc hl ho (v := dg c i) (by omega)
      have e1 : wrap64 (((out ++ [dg c i]).length : Int) - 1) = (i : Int) := by rw [w64 (by omega) (by omega)]; omega
      obtain ⟨s, he, hz⟩ := ih (i + 1) (wrap64 (wrap64 (steps * (d : Int)) + dg c i)) _ (by omega) h1 h2
      refine ⟨s, ?_, hz⟩
      refine Ev.step (fun k => by rw [spec_orForth.l0]) (Ev.pos (by omega) (Ev.pos (by omega) (Ev.pos (by rw [dgL_length]; omega) ?_)))
      rw [rd_dgL c i (by omega), w64n (by omega)]
      refine Ev.neg ht (Ev.pos (by omega) (Ev.let_ rfl ?_))
      rw [e1, rd_dgL c i (by omega)]
      exact Ev.pos (by omega) (Ev.pos (by rw [dgL_length]; omega) he)
theorem orForth_ok {w d : Nat} (hw : 1 ≤ w ∧ w ≤ 6) (hd : 2 ≤ d ∧ d ≤ 10) (n : Nat) (hn : n ≤ 10000000) : ∃ s, Ev (fun K => spec_orForth.f K w d n) s ∧ s.size ≤ 6 := by
  have hc := codeT_code w d n hw.2 hd
  obtain ⟨s, he, hz⟩ := forth_l0 hw hd hc w 0 0 [] (by omega) rfl (fun x h => by simp at h)
  refine ⟨s, ?_, hz⟩
  unfold spec_orForth.f
  refine Ev.bind (whOf_ev w d n hw.1 hw.2 hd hn) (Ev.bind (whDigits_ev _ (code_digs hw hd hc)) ?_)
  rw [dgL_length, codeT_size]
  exact he
theorem round_l0 {w d : Nat} (hw : 1 ≤ w ∧ w ≤ 6) (hd : 2 ≤ d ∧ d ≤ 10) {c : ByteArray} (hc : codeB (w : Int) (d : Int) c = true) : ∀ (j i : Nat) (out : List Int), 1 ≤ i → i + j = w → out.length = i → (∀ x ∈ out, 0 ≤ x ∧ x ≤ 9) →
    ∃ s, Ev (fun K => spec_orRound.l0 K (dgL c) out i w d) s ∧ s.size ≤ 6 := by
  have hs := code_size hc
  intro j
  induction j with
  | zero =>
    intro i out h1 hi hl ho
    refine ⟨txt out, ?_, by rw [txt_size]; omega⟩
    exact Ev.step (fun k => by rw [spec_orRound.l0]) (Ev.neg (by rw [dgL_length]; omega) (Ev.bind (whText_ev out ⟨by omega, ho⟩) (Ev.now _)))
  | succ j ih =>
    intro i out h1 hi hl ho
    have hx := code_dg hc (show i < w by omega)
    have hy := code_dg hc (show i - 1 < w by omega)
    have hb := step_bd hd (dg c i - dg c (i - 1))
    obtain ⟨h3, h4⟩ := digL_snoc hl ho (v := (dg c i - dg c (i - 1)) % (d : Int)) (by omega)
    obtain ⟨s, he, hz⟩ := ih (i + 1) _ (by omega) (by omega) h3 h4
    refine ⟨s, ?_, hz⟩
    refine Ev.step (fun k => by rw [spec_orRound.l0]) (Ev.pos (by rw [dgL_length]; omega) ?_)
    rw [w64 (x := (i : Int) - 1) (by omega) (by omega), show (i : Int) - 1 = ((i - 1 : Nat) : Int) by omega, rd_dgL c i (by omega), rd_dgL c (i - 1) (by omega), w64n (by omega), w64 (x := dg c i - dg c (i - 1)) (by omega) (by omega)]
    exact Ev.pos (by omega) (Ev.pos (by omega) (Ev.pos (by rw [dgL_length]; omega) (Ev.let_ (l1Mod_some _ _ (by omega) (by omega)) (Ev.pos (by omega) he))))
theorem orRound_ok {w d : Nat} (hw : 1 ≤ w ∧ w ≤ 6) (hd : 2 ≤ d ∧ d ≤ 10) (n : Nat) (hn : n ≤ 10000000) : ∃ s, Ev (fun K => spec_orRound.f K w d n) s ∧ s.size ≤ 6 := by
  have hc := codeT_code w d n hw.2 hd
  have h0 := code_dg hc (show 0 < w by omega)
  have hs := code_size hc
  obtain ⟨s, he, hz⟩ := round_l0 hw hd hc (w - 1) 1 [dg (codeT w d n) 0] (by omega) (by omega) rfl (fun x h => by rw [List.mem_singleton.mp h]; omega)
  refine ⟨s, ?_, hz⟩
  unfold spec_orRound.f
  refine Ev.bind (whOf_ev w d n hw.1 hw.2 hd hn) (Ev.bind (whDigits_ev _ (code_digs hw hd hc)) (Ev.pos (by rw [dgL_length]; omega) ?_))
  have e : rd (dgL (codeT w d n)) 0 = dg (codeT w d n) 0 := rd_dgL (codeT w d n) 0 (by omega)
  rw [e]
  exact he
theorem ordRows_ok (F : Nat → Int → Option ByteArray) (M : Nat) (hF : ∀ i : Nat, i < M → ∃ s, Ev (fun K => F K (i : Int)) s ∧ s.size ≤ 6) : ∀ (n i : Nat) (out : List ByteArray), i + n ≤ M → (∀ s ∈ out, s.size ≤ 7) →
    ∃ o, Ev (fun K => ordRows (F K) n i out) o ∧ o.length = out.length + n ∧ ∀ s ∈ o, s.size ≤ 7
  | 0, i, out, _, ho => ⟨out, Ev.now _, rfl, ho⟩
  | n + 1, i, out, hi, ho => by
    obtain ⟨s, hs, hz⟩ := hF i (by omega)
    obtain ⟨o, he, hl, h2⟩ := ordRows_ok F M hF n (i + 1) (out ++ [s]) (by omega) (fun x hx => by
      rcases List.mem_append.mp hx with hx | hx
      · exact ho x hx
      · rw [List.mem_singleton.mp hx]; omega)
    exact ⟨o, Ev.bind hs he, by simp at hl; omega, h2⟩
theorem drawOrder_ok (l : List Int) (hl : bytesL l) : ∃ a b codes, Ev (fun K => spec_DrawIsTurnOrder.f K l) (a, b, codes) ∧ codes.length ≤ 10000 ∧ ∀ s ∈ codes, s.size ≤ 7 := by
  obtain ⟨m, s, a1, s1, e1, h1, h2⟩ := lock_ok l hl 0 0 (by omega)
  have one : ([⟨#[48]⟩] : List ByteArray).length ≤ 10000 ∧ ∀ s ∈ ([⟨#[48]⟩] : List ByteArray), s.size ≤ 7 := by
    refine ⟨by simp, fun s hs => ?_⟩
    rw [List.mem_singleton.mp hs]; decide
  by_cases hg : lockB m s = true
  case neg =>
    refine ⟨m, s, [⟨#[48]⟩], ?_, one⟩
    unfold spec_DrawIsTurnOrder.f
    exact Ev.let_ e1 (Ev.let_ (whGood_some m s) (Ev.neg hg (Ev.now _)))
  obtain ⟨w, d, rfl, rfl, g1, g2, g3, g4⟩ := lock_nat hg
  have hw : 1 ≤ w ∧ w ≤ 6 := ⟨g1, g2⟩
  have hd : 2 ≤ d ∧ d ≤ 10 := ⟨g3, g4⟩
  by_cases hc : ((d ^ w : Nat) : Int) > 100
  · refine ⟨w, d, [⟨#[48]⟩], ?_, one⟩
    unfold spec_DrawIsTurnOrder.f
    exact Ev.let_ e1 (Ev.let_ (whGood_some _ _) (Ev.pos hg (Ev.bind (whCount_ev w d g2 g3 g4) (Ev.pos hc (Ev.now _)))))
  obtain ⟨p, a2, s2, e2, p1, p2, p3, p4⟩ := pick_ok l hl a1 s1 (by omega) 12 (by omega) (by omega)
  obtain ⟨out, r1, r2, r3⟩ := ordRows_ok (fun K => spec_orForth.f K w d) 100 (fun i hi => orForth_ok hw hd i (by omega)) (min ((d ^ w : Nat) : Int).toNat p.toNat) 0 [] (by omega) (fun s h => by simp at h)
  obtain ⟨q, a3, s3, e3, q1, q2, q3, q4⟩ := pick_ok l hl a2 s2 (by omega) 6 (by omega) (by omega)
  obtain ⟨oR, t1, t2, t3⟩ := ordRows_ok (fun K => spec_orRound.f K w d) 100 (fun i hi => orRound_ok hw hd i (by omega)) ((d ^ w : Nat) : Int).toNat 0 [] (by omega) (fun s h => by simp at h)
  obtain ⟨oF, u1, u2, u3⟩ := ordRows_ok (fun K => spec_orForth.f K w d) 100 (fun i hi => orForth_ok hw hd i (by omega)) ((d ^ w : Nat) : Int).toNat 0 [] (by omega) (fun s h => by simp at h)
  obtain ⟨xa, a4, s4, e4, x1, x2, x3⟩ := code1_ok l hl w d a3 s3 (by omega)
  obtain ⟨xb, a5, s5, e5, y1, y2, y3⟩ := code1_ok l hl w d a4 s4 (by omega)
  have hE : ∃ codes, Ev (fun K => spec_DrawIsTurnOrder.e K l a3 s3 w d ((d ^ w : Nat) : Int) q out) ((w : Int), (d : Int), codes) ∧ codes.length ≤ 10000 ∧ ∀ s ∈ codes, s.size ≤ 7 := by
    unfold spec_DrawIsTurnOrder.e
    simp only [List.length_nil] at r2 t2 u2
    by_cases c1 : q = 0 ∨ q = 1
    · exact ⟨oR, Ev.pos c1 (Ev.bind t1 (Ev.now _)), by omega, t3⟩
    by_cases c2 : q = 2
    · exact ⟨oF, Ev.neg c1 (Ev.pos c2 (Ev.bind u1 (Ev.now _))), by omega, u3⟩
    by_cases c3 : q = 3
    · refine ⟨out ++ [xa, xb], Ev.neg c1 (Ev.neg c2 (Ev.pos c3 (Ev.bind e4 (Ev.bind e5 (Ev.now _))))), by simp; omega, fun s hs => ?_⟩
      rcases List.mem_append.mp hs with hs | hs
      · exact r3 s hs
      · simp only [List.mem_cons, List.not_mem_nil, or_false] at hs
        rcases hs with rfl | rfl
        · exact x1
        · exact y1
    · exact ⟨out, Ev.neg c1 (Ev.neg c2 (Ev.neg c3 (Ev.now _))), by omega, r3⟩
  obtain ⟨codes, k1, k2, k3⟩ := hE
  refine ⟨w, d, codes, ?_, k2, k3⟩
  unfold spec_DrawIsTurnOrder.f spec_DrawIsTurnOrder.d
  exact Ev.let_ e1 (Ev.let_ (whGood_some _ _) (Ev.pos hg (Ev.bind (whCount_ev w d g2 g3 g4) (Ev.neg hc (Ev.let_ e2 (Ev.bind r1 (Ev.let_ e3 k1)))))))
theorem drawFirst_ok (l : List Int) (hl : bytesL l) : ∃ a b, spec_DrawFirstWhole.f l = some (a, b) := by
  obtain ⟨o, a1, s1, e1, h1, h2⟩ := one_ok l hl 0 0 (by omega) 8 (by omega) (by omega)
  unfold spec_DrawFirstWhole.f
  rw [e1]
  simp only [Option.bind_some]
  by_cases ho : o = true
  · obtain ⟨m, s, a2, s2, e2, _, _⟩ := lock_ok l hl a1 s1 (by omega)
    rw [if_pos ho, e2]
    exact ⟨_, _, rfl⟩
  · obtain ⟨x, a2, s2, e2, x1, x2, _, _⟩ := pick_ok l hl a1 s1 (by omega) 6 (by omega) (by omega)
    rw [if_neg ho, e2]
    simp only [Option.bind_some]
    rw [if_pos ⟨x1, x2⟩]
    exact ⟨_, _, rfl⟩
end Go.Proofs.YthpmpkmdjpaemaaGreat.Pure
