/- Chapter 8: the smooth key with a rank: both sides pick the same depths. -/
import Derived.Test.YtdkgclkkofmgkaaQx0
import Derived.Test.YtdkgclkkofmgkaaQx5
import Derived.Test.YtdkgclkkofmgkaaQx6
import Derived.Test.YtdkgclkkofmgkaaKeyT
import Derived.Test.YtdkgclkkofmgkaaKeyX
namespace Go.Proofs.Ytdkgclkkofmgkaa.Pure
open Go.RowKit Go.Proofs.Ytdkgclkkofmgkaa.Q Go.Proofs.YtdkgclkkofmgkaaW.PrintWords Go.Proofs.YtdkgclkkofmgkaaW.PrintLast Go.Proofs.YtdkgclkkofmgkaaW.PrintMore
set_option linter.unusedVariables false

def pickF (f : Int → Bool) (ws : List Int) : Nat → Nat → Int → Option (Nat × Int)
  | 0, _, _ => none
  | j + 1, d, rk => if f (d : Int) = true then (if rk < rd ws (d : Int) then some (d, rk) else pickF f ws j (d + 1) (rk - rd ws (d : Int))) else pickF f ws j (d + 1) rk
theorem pickF_some (f : Int → Bool) (ws : List Int) (D : Nat) : ∀ (j d : Nat) (rk : Int), d + j = D → 0 ≤ rk → rk < sumF f ws D - sumF f ws d → ∃ d' rk', pickF f ws j d rk = some (d', rk') ∧ d' < D ∧ 0 ≤ rk' ∧ rk' < rd ws (d' : Int)
  | 0, d, rk, h, h0, h1 => by
    obtain rfl : d = D := by omega
    omega
  | j + 1, d, rk, h, h0, h1 => by
    rw [pickF]
    have e : sumF f ws (d + 1) = sumF f ws d + if f (d : Int) = true then rd ws (d : Int) else 0 := rfl
    by_cases hf : f (d : Int) = true
    · rw [if_pos hf]
      rw [if_pos hf] at e
      by_cases hr : rk < rd ws (d : Int)
      · rw [if_pos hr]
        exact ⟨d, rk, rfl, by omega, h0, hr⟩
      · rw [if_neg hr]
        exact pickF_some f ws D j (d + 1) _ (by omega) (by omega) (by omega)
    · rw [if_neg hf]
      rw [if_neg hf] at e
      exact pickF_some f ws D j (d + 1) _ (by omega) h0 (by omega)
theorem pickF_none (f : Int → Bool) (ws : List Int) (D : Nat) (hw : ∀ e : Nat, e < D → 0 ≤ rd ws (e : Int)) : ∀ (j d : Nat) (rk : Int), d + j = D → ¬ rk < sumF f ws D - sumF f ws d → pickF f ws j d rk = none
  | 0, d, rk, h, h1 => rfl
  | j + 1, d, rk, h, h1 => by
    rw [pickF]
    have e : sumF f ws (d + 1) = sumF f ws d + if f (d : Int) = true then rd ws (d : Int) else 0 := rfl
    have hge : ∀ (b a : Nat), a + b = D → sumF f ws a ≤ sumF f ws D := by
      intro b
      induction b with
      | zero => intro a ha; rw [show a = D by omega]; exact Int.le_refl _
      | succ b ih =>
        intro a ha
        have := ih (a + 1) (by omega)
        have h2 := hw a (by omega)
        have e2 : sumF f ws (a + 1) = sumF f ws a + if f (a : Int) = true then rd ws (a : Int) else 0 := rfl
        split at e2 <;> omega
    have hg := hge j (d + 1) (by omega)
    by_cases hf : f (d : Int) = true
    · rw [if_pos hf]
      rw [if_pos hf] at e
      rw [if_neg (by omega)]
      exact pickF_none f ws D hw j (d + 1) _ (by omega) (by omega)
    · rw [if_neg hf]
      rw [if_neg hf] at e
      exact pickF_none f ws D hw j (d + 1) _ (by omega) (by omega)
theorem pickF_bd (f : Int → Bool) (ws : List Int) (D : Nat) : ∀ (j d : Nat) (rk : Int) (d' : Nat) (rk' : Int), d + j = D → 0 ≤ rk → pickF f ws j d rk = some (d', rk') → d' < D ∧ 0 ≤ rk' ∧ rk' < rd ws (d' : Int)
  | 0, d, rk, d', rk', h, h0, h1 => by simp [pickF] at h1
  | j + 1, d, rk, d', rk', h, h0, h1 => by
    rw [pickF] at h1
    by_cases hf : f (d : Int) = true
    · rw [if_pos hf] at h1
      by_cases hr : rk < rd ws (d : Int)
      · rw [if_pos hr] at h1
        obtain ⟨rfl, rfl⟩ : d = d' ∧ rk = rk' := by simpa using h1
        exact ⟨by omega, h0, hr⟩
      · rw [if_neg hr] at h1
        exact pickF_bd f ws D j (d + 1) _ d' rk' (by omega) (by omega) h1
    · rw [if_neg hf] at h1
      exact pickF_bd f ws D j (d + 1) _ d' rk' (by omega) h0 h1
/-- The depths that are picked for j places more. -/
def sorG (m : Int) (D : Nat) : Nat → Int → Int → Option (List Int)
  | 0, _, _ => some []
  | j + 1, la, rk => (pickF (lastF m la) (waysL m D j) D 0 rk).bind fun p => (sorG m D j (p.1 : Int) p.2).map (fun l => (p.1 : Int) :: l)
def laOf (l : List Int) : Int := l.getLast?.getD (-1)
theorem laOf_snoc (l : List Int) (x : Int) : laOf (l ++ [x]) = x := by simp [laOf]
theorem next_total (m : Int) (D j d : Nat) (hd : d < D) : rd (waysL m D (j + 1)) (d : Int) = sumF (lastF m (d : Int)) (waysL m D j) D := by
  rw [waysL, rd_row m D _ d hd]
  have : ∀ n, sumF (near m d) (waysL m D j) n = sumF (lastF m (d : Int)) (waysL m D j) n := by
    intro n
    induction n with
    | zero => rfl
    | succ n ih =>
      have e : lastF m (d : Int) (n : Int) = near m d n := by unfold lastF; rw [if_neg (by omega), near_comm]
      rw [sumF, sumF, ih, e]
  exact this D
theorem smoothV_ways (m : Int) (D j d : Nat) (hd : d < D) (n i : Nat) (h : i + (j + 1) = n) : smoothV m (d : Int) D n (i + 1) = rd (waysL m D j) (d : Int) := by
  unfold smoothV
  cases j with
  | zero => rw [if_neg (by omega), waysL, rd_rep D 1 d hd]
  | succ j => rw [if_pos (by omega), show n - 1 - (i + 1) = j by omega, next_total m D j d hd]
theorem la_bt (pre : List Int) (hp : digL pre) (h : pre ≠ []) : bt (txt pre) ((pre.length : Int) - 1) - 48 = laOf pre ∧ 0 ≤ laOf pre ∧ laOf pre ≤ 9 := by
  have hl : 0 < pre.length := List.length_pos_iff.mpr h
  have e : (pre.length : Int) - 1 = ((pre.length - 1 : Nat) : Int) := by omega
  have hb := bt_txt pre hp.2 (pre.length - 1) (by omega)
  have hm := hp.2 _ (List.getElem_mem (show pre.length - 1 < pre.length by omega))
  have hla : laOf pre = pre[pre.length - 1] := by
    unfold laOf
    rw [List.getLast?_eq_getElem?, List.getElem?_eq_getElem (by omega)]
    rfl
  rw [e, hb, hla]
  omega
def ansV (pre : List Int) : Option (List Int) → ByteArray × Bool
  | none => ((⟨#[]⟩ : ByteArray), false)
  | some ds => (txt (pre ++ ds), true)
theorem spec_pick (m : Int) (D : Nat) (hD : D ≤ 9) (n : Nat) (hn : n ≤ 7) (q : Nat) (hq : q ≤ 6) (pre : List Int) (hp : digL pre) (r : ByteArray × Bool) : ∀ (j d : Nat) (rk : Int), d + j = D → 0 ≤ rk → rk ≤ 9223372036854775807 →
    (∀ d' rk', pickF (lastF m (laOf pre)) (waysL m D q) j d rk = some (d', rk') → Ev (fun K => spec_SmoothOfRank.l0 K D n m rk' (txt (pre ++ [(d' : Int)]))) r) →
    (pickF (lastF m (laOf pre)) (waysL m D q) j d rk = none → r = ((⟨#[]⟩ : ByteArray), false)) →
    Ev (fun K => spec_SmoothOfRank.l1 K D n m rk (txt pre) false (waysL m D q) D d) r := by
  have hl := waysL_length m D q
  have hts := txt_size pre
  have hpl := hp.1
  intro j
  induction j with
  | zero =>
    intro d rk hd h0 h1 hs hno
    obtain rfl : d = D := by omega
    exact Ev.step (fun k => by rw [spec_SmoothOfRank.l1]) (Ev.neg (by omega) (Ev.neg (by decide) (Ev.val (Ev.now _) (hno rfl).symm)))
  | succ j ih =>
    intro d rk hd h0 h1 hs hno
    have hb := ways_small m D hD q (by omega) d (by omega)
    -- the choice at d
    have key : Ev (fun K => spec_SmoothOfRank.j3 K D n m rk (txt pre) false d (rd (waysL m D q) (d : Int)) (waysL m D q) D d (!lastF m (laOf pre) (d : Int))) r := by
      refine Ev.step (fun k => by rw [spec_SmoothOfRank.j3]) ?_
      rw [pickF] at hs hno
      rw [w64n (i := d) (by omega)]
      by_cases hf : lastF m (laOf pre) (d : Int) = true
      · rw [if_pos hf] at hs hno
        refine Ev.neg (by simp [hf]) ?_
        by_cases hr : rk < rd (waysL m D q) (d : Int)
        · rw [if_pos hr] at hs hno
          refine Ev.pos hr (Ev.bind (l1Num_ev (d : Int) ⟨by omega, by omega⟩) (Ev.pos (by rw [hts, strOfNums_size]; simp; omega) ?_))
          rw [← txt_snoc]
          exact hs d rk rfl
        · rw [if_neg hr] at hs hno
          refine Ev.neg hr ?_
          rw [w64 (by omega) (by omega)]
          exact ih (d + 1) _ (by omega) (by omega) (by omega) hs hno
      · rw [if_neg hf] at hs hno
        refine Ev.pos (by simp [hf]) (ih (d + 1) rk (by omega) h0 h1 hs hno)
    refine Ev.step (fun k => by rw [spec_SmoothOfRank.l1]) (Ev.pos (by omega) (Ev.pos (by omega) (Ev.pos (by omega) ?_)))
    by_cases hpre : pre = []
    · subst hpre
      refine Ev.neg (by rw [hts]; simp) ?_
      have e : (!lastF m (laOf []) (d : Int)) = false := by unfold lastF laOf; simp
      rw [e] at key
      exact key
    · have hl0 : 0 < pre.length := List.length_pos_iff.mpr hpre
      obtain ⟨hb1, hb2, hb3⟩ := la_bt pre hp hpre
      have hw : wrap64 (((txt pre).size : Int) - 1) = (pre.length : Int) - 1 := by rw [hts]; exact w64 (by omega) (by omega)
      refine Ev.pos (by omega) ?_
      rw [hw]
      refine Ev.pos (by omega) (Ev.pos (by omega) ?_)
      obtain ⟨t, ht, hn'⟩ := l1Abs_near m (d : Int) (laOf pre) (by omega) (by omega)
      rw [hb1, show laOf pre % 256 = laOf pre by omega]
      refine Ev.let_ ht ?_
      have e : (!lastF m (laOf pre) (d : Int)) = decide (t > m) := by
        unfold lastF
        rw [if_neg (by omega)]
        by_cases h : near m (d : Int) (laOf pre) = true
        · rw [h, decide_eq_false (by have := hn'.mpr h; omega)]; rfl
        · rw [Bool.eq_false_iff.mpr h, decide_eq_true (by have : ¬ t ≤ m := fun hc => h (hn'.mp hc); omega)]; rfl
      rw [e] at key
      exact key
theorem spec_sor (m : Int) (D : Nat) (hD : D ≤ 9) (n : Nat) (hn : n ≤ 7) : ∀ (j : Nat) (pre : List Int) (rk : Int), pre.length + j = n → digL pre → 0 ≤ rk → rk ≤ 9223372036854775807 → Ev (fun K => spec_SmoothOfRank.l0 K D n m rk (txt pre)) (ansV pre (sorG m D j (laOf pre) rk))
  | 0, pre, rk, h, hp, h0, h1 => by
    have hts := txt_size pre
    refine Ev.step (fun k => by rw [spec_SmoothOfRank.l0]) (Ev.neg (by omega) (Ev.val (Ev.now _) ?_))
    unfold sorG ansV
    simp
  | j + 1, pre, rk, h, hp, h0, h1 => by
    have hts := txt_size pre
    refine Ev.step (fun k => by rw [spec_SmoothOfRank.l0]) (Ev.pos (by omega) ?_)
    rw [w64 (by omega) (by omega), show (n : Int) - ((txt pre).size : Int) = (j : Int) + 1 by omega]
    refine Ev.bind (keSmooth_ev m D hD j (by omega)) ?_
    rw [waysL_length]
    refine spec_pick m D hD n hn j (by omega) pre hp _ D 0 rk (by omega) h0 h1 ?_ ?_
    · intro d' rk' hpk
      obtain ⟨b1, b2, b3⟩ := pickF_bd _ _ D D 0 rk d' rk' (by omega) h0 hpk
      have hb := ways_small m D hD j (by omega) d' b1
      have := spec_sor m D hD n hn j (pre ++ [(d' : Int)]) rk' (by simp; omega) ⟨by have := hp.1; simp; omega, by
        intro x hx
        rcases List.mem_append.mp hx with hx | hx
        · exact hp.2 x hx
        · rw [List.mem_singleton] at hx; omega⟩ b2 (by omega)
      rw [laOf_snoc] at this
      refine Ev.val this ?_
      rw [sorG, hpk, Option.bind_some]
      cases sorG m D j (d' : Int) rk' with
      | none => rfl
      | some ds => simp [ansV]
    · intro hpk
      rw [sorG, hpk]
      rfl
theorem impl_pick (m : Int) (D : Nat) (hD1 : 1 ≤ D) (hD : D ≤ 9) (n i q : Nat) (hn : n ≤ 7) (hi : i + (q + 1) = n) (pre : List Int) (hp : digL pre) (hla : -1 ≤ laOf pre ∧ laOf pre ≤ 9) (r : ByteArray × Bool) : ∀ (j d : Nat) (rk : Int), d + j = D → 0 ≤ rk → rk ≤ 9223372036854775807 →
    (∃ d' rk', pickF (lastF m (laOf pre)) (waysL m D q) j d rk = some (d', rk') ∧ Ev (fun K => impl_SmoothOfRank.l0 K D m rk' (pre ++ [(d' : Int)]) d' n ((i + 1 : Nat) : Int) D (List.replicate n (rangeI D))) r) →
    Ev (fun K => impl_SmoothOfRank.l1 K D m rk pre (laOf pre) i n i D d D (List.replicate n (rangeI D))) r := by
  have hpl := hp.1
  intro j
  induction j with
  | zero =>
    intro d rk hd h0 h1 hs
    obtain ⟨d', rk', h, _⟩ := hs
    exact absurd h (by simp [pickF])
  | succ j ih =>
    intro d rk hd h0 h1 hs
    have hb := ways_small m D hD q (by omega) d (by omega)
    have key : Ev (fun K => impl_SmoothOfRank.j2 K D m rk pre (laOf pre) i d n i D d (!lastF m (laOf pre) (d : Int)) D (List.replicate n (rangeI D))) r := by
      refine Ev.step (fun k => by rw [impl_SmoothOfRank.j2]) ?_
      obtain ⟨d', rk', hpk, hev⟩ := hs
      rw [pickF] at hpk
      rw [w64n (i := d) (by omega), w64n (i := i) (by omega)]
      by_cases hf : lastF m (laOf pre) (d : Int) = true
      · rw [if_pos hf] at hpk
        have hsm := smooth_ev m (d : Int) (by omega) D hD1 hD n (by omega) hn (i + 1) (by omega)
        rw [smoothV_ways m D q d (by omega) n i hi] at hsm
        refine Ev.neg (by simp [hf]) (Ev.bind hsm ?_)
        by_cases hr : rk < rd (waysL m D q) (d : Int)
        · rw [if_pos hr] at hpk
          obtain ⟨rfl, rfl⟩ : d = d' ∧ rk = rk' := by simpa using hpk
          exact Ev.pos hr (Ev.pos (by omega) hev)
        · rw [if_neg hr] at hpk
          refine Ev.neg hr ?_
          rw [w64 (by omega) (by omega)]
          exact ih (d + 1) _ (by omega) (by omega) (by omega) ⟨d', rk', hpk, hev⟩
      · rw [if_neg hf] at hpk
        exact Ev.pos (by simp [hf]) (ih (d + 1) rk (by omega) h0 h1 ⟨d', rk', hpk, hev⟩)
    refine Ev.step (fun k => by rw [impl_SmoothOfRank.l1]) (Ev.pos (by omega) ?_)
    by_cases h : laOf pre ≥ 0
    · obtain ⟨t, ht, hn'⟩ := size_near m (d : Int) (laOf pre) (by omega) (by omega)
      refine Ev.pos h (Ev.let_ ht ?_)
      have e : (!lastF m (laOf pre) (d : Int)) = decide (t > m) := by
        unfold lastF
        rw [if_neg (by omega)]
        by_cases h : near m (d : Int) (laOf pre) = true
        · rw [h, decide_eq_false (by have := hn'.mpr h; omega)]; rfl
        · rw [Bool.eq_false_iff.mpr h, decide_eq_true (by have : ¬ t ≤ m := fun hc => h (hn'.mp hc); omega)]; rfl
      rw [e] at key
      exact key
    · refine Ev.neg h ?_
      have e : (!lastF m (laOf pre) (d : Int)) = false := by unfold lastF; rw [if_pos (by omega)]; rfl
      rw [e] at key
      exact key
theorem impl_sor (m : Int) (D : Nat) (hD1 : 1 ≤ D) (hD : D ≤ 9) (n : Nat) (hn : n ≤ 7) : ∀ (j : Nat) (pre : List Int) (rk : Int), pre.length + j = n → digL pre → -1 ≤ laOf pre ∧ laOf pre ≤ 9 → 0 ≤ rk → rk ≤ 9223372036854775807 → (∀ j', j = j' + 1 → rk < sumF (lastF m (laOf pre)) (waysL m D j') D) →
    ∃ ds, sorG m D j (laOf pre) rk = some ds ∧ Ev (fun K => impl_SmoothOfRank.l0 K D m rk pre (laOf pre) n pre.length D (List.replicate n (rangeI D))) (txt (pre ++ ds), true)
  | 0, pre, rk, h, hp, hla, h0, h1, ht => by
    refine ⟨[], rfl, Ev.step (fun k => by rw [impl_SmoothOfRank.l0]) (Ev.neg (by omega) ?_)⟩
    rw [List.append_nil]
    exact Ev.bind (implText_ev pre hp) (Ev.now _)
  | j + 1, pre, rk, h, hp, hla, h0, h1, ht => by
    have htot := ht j rfl
    obtain ⟨d', rk', hpk, b1, b2, b3⟩ := pickF_some (lastF m (laOf pre)) (waysL m D j) D D 0 rk (by omega) h0 (by simp only [sumF]; omega)
    have hb := ways_small m D hD j (by omega) d' b1
    obtain ⟨ds, h2, h3⟩ := impl_sor m D hD1 hD n hn j (pre ++ [(d' : Int)]) rk' (by simp; omega) ⟨by have := hp.1; simp; omega, by
        intro x hx
        rcases List.mem_append.mp hx with hx | hx
        · exact hp.2 x hx
        · rw [List.mem_singleton] at hx; omega⟩ (by rw [laOf_snoc]; omega) b2 (by omega) (by
        intro j' hj
        subst hj
        rw [laOf_snoc, ← next_total m D j' d' b1]
        exact b3)
    rw [laOf_snoc] at h2 h3
    refine ⟨(d' : Int) :: ds, by rw [sorG, hpk, Option.bind_some]; simp [h2], ?_⟩
    refine Ev.step (fun k => by rw [impl_SmoothOfRank.l0]) (Ev.pos (by omega) ?_)
    refine impl_pick m D hD1 hD n pre.length j hn (by omega) pre hp hla _ D 0 rk (by omega) h0 h1 ⟨d', rk', hpk, ?_⟩
    rw [List.append_assoc, List.length_append] at h3
    exact h3
end Go.Proofs.Ytdkgclkkofmgkaa.Pure
