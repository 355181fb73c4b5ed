/- Chapter 8: the rank of a smooth key: both sides sum the same numbers. -/
import Derived.Test.YtdkgclkkofmgkaaTx0
import Derived.Test.YtdkgclkkofmgkaaTx1
import Derived.Test.YtdkgclkkofmgkaaTx2
import Derived.Test.YtdkgclkkofmgkaaTx5
import Derived.Test.YtdkgclkkofmgkaaKeyV
namespace Go.Proofs.Ytdkgclkkofmgkaa.Pure
open Go.RowKit Go.Proofs.Ytdkgclkkofmgkaa.T Go.Proofs.YtdkgclkkofmgkaaW.PrintWords Go.Proofs.YtdkgclkkofmgkaaW.PrintLast Go.Proofs.YtdkgclkkofmgkaaW.PrintMore
set_option linter.unusedVariables false

theorem bt_nat {s : ByteArray} {i : Nat} (h : i < s.size) : bt s (i : Int) = (s[i].toNat : Int) := by
  unfold bt
  simp [h]
theorem bt_lt {s : ByteArray} {i : Nat} (h : i < s.size) : 0 ≤ bt s (i : Int) ∧ bt s (i : Int) < 256 := by
  rw [bt_nat h]
  have := s[i].toNat_lt
  omega
theorem keyB_step {d : Int} {s : ByteArray} {i : Nat} (h : i < s.size) : keyB d (s.data.toList.drop i) = (decide (48 ≤ bt s (i : Int) ∧ bt s (i : Int) ≤ 47 + d) && keyB d (s.data.toList.drop (i + 1))) := by
  rw [keyB_bt s i h]
  unfold keyB
  rw [List.all_cons, bt_nat h]
  congr 1
  exact decide_eq_decide.mpr (by omega)
theorem keyB_all {d : Int} {s : ByteArray} (h : keyB d s.data.toList = true) (i : Nat) (hi : i < s.size) : 48 ≤ bt s (i : Int) ∧ bt s (i : Int) ≤ 47 + d := by
  have hm : s[i] ∈ s.data.toList := by
    have := List.getElem_mem (l := s.data.toList) (n := i) (by simpa using hi)
    exact this
  have := of_decide_eq_true ((List.all_eq_true.mp h) _ hm)
  rw [bt_nat hi]
  omega
theorem isDepth_l0 (d : Int) (hd : 1 ≤ d ∧ d ≤ 9) (s : ByteArray) (hs : 1 ≤ s.size ∧ s.size ≤ 7) : ∀ (e i : Nat), i + e = s.size →
    Ev (fun k => impl_isDepthText.l0 k d s (s.size : Int) (i : Int)) (keyB d (s.data.toList.drop i)) := by
  intro e
  induction e with
  | zero =>
    intro i hi
    refine Ev.step (fun k => by rw [impl_isDepthText.l0]) ?_
    refine Ev.neg (by omega) ?_
    refine Ev.let_ (within_sm _ _ _) (Ev.pos (decide_eq_true hd) (Ev.let_ (within_sm _ _ _) (Ev.val (Ev.now _) ?_)))
    rw [List.drop_eq_nil_of_le (by have : s.data.toList.length = s.size := (by simp); omega), decide_eq_true (by omega)]
    rfl
  | succ e ih =>
    intro i hi
    have h1 : i < s.size := by omega
    have hb := bt_lt h1
    refine Ev.step (fun k => by rw [impl_isDepthText.l0]) ?_
    refine Ev.pos (by omega) (Ev.pos (by omega) (Ev.pos (by omega) ?_))
    rw [w64n (by omega), w64 (x := bt s (i : Int)) (by omega) (by omega), w64 (x := 48 + d) (by omega) (by omega), w64 (x := 48 + d - 1) (by omega) (by omega)]
    refine Ev.let_ (within_sm _ _ _) ?_
    rw [keyB_step h1]
    by_cases hc : 48 ≤ bt s (i : Int) ∧ bt s (i : Int) ≤ 48 + d - 1
    · refine Ev.pos (decide_eq_true hc) (Ev.val (ih (i + 1) (by omega)) ?_)
      rw [decide_eq_true (show 48 ≤ bt s (i : Int) ∧ bt s (i : Int) ≤ 47 + d by omega), Bool.true_and]
    · refine Ev.neg (by rw [decide_eq_false hc]; decide) (Ev.val (Ev.now _) ?_)
      rw [decide_eq_false (show ¬ (48 ≤ bt s (i : Int) ∧ bt s (i : Int) ≤ 47 + d) by omega), Bool.false_and]
theorem isDepth_no (d : Int) (s : ByteArray) (hs0 : s.size < 1099511627776) (hs : ¬ ((1 ≤ d ∧ d ≤ 9) ∧ 1 ≤ s.size ∧ s.size ≤ 7)) : ∀ (e i : Nat), i + e = s.size →
    Ev (fun k => impl_isDepthText.l0 k d s (s.size : Int) (i : Int)) false := by
  intro e
  induction e with
  | zero =>
    intro i hi
    refine Ev.step (fun k => by rw [impl_isDepthText.l0]) (Ev.neg (by omega) (Ev.let_ (within_sm _ _ _) ?_))
    by_cases hd : 1 ≤ d ∧ d ≤ 9
    · exact Ev.pos (decide_eq_true hd) (Ev.let_ (within_sm _ _ _) (Ev.val (Ev.now _) (decide_eq_false (by omega))))
    · exact Ev.neg (by rw [decide_eq_false hd]; decide) (Ev.now _)
  | succ e ih =>
    intro i hi
    refine Ev.step (fun k => by rw [impl_isDepthText.l0]) (Ev.pos (by omega) (Ev.pos (by omega) (Ev.pos (by omega) (Ev.let_ (within_sm _ _ _) ?_))))
    rw [w64n (by omega)]
    by_cases hc : (48 : Int) ≤ wrap64 (bt s (i : Int)) ∧ wrap64 (bt s (i : Int)) ≤ wrap64 (wrap64 (48 + d) - 1)
    · exact Ev.pos (decide_eq_true hc) (ih (i + 1) (by omega))
    · exact Ev.neg (by rw [decide_eq_false hc]; decide) (Ev.now _)

/-! the key's depths -/
def dg (s : ByteArray) (i : Nat) : Int := bt s (i : Int) - 48
def dgs (s : ByteArray) : List Int := (List.range s.size).map (fun (i : Nat) => dg s i)
theorem dgs_length (s : ByteArray) : (dgs s).length = s.size := by simp [dgs]
theorem rd_dgs (s : ByteArray) (i : Nat) (h : i < s.size) : rd (dgs s) (i : Int) = dg s i := by
  rw [rd_nat (by rw [dgs_length]; exact h)]
  simp [dgs]
/-- Depths below D. -/
def okD (D : Nat) (s : ByteArray) : Prop := s.size ≤ 7 ∧ ∀ i, i < s.size → 0 ≤ dg s i ∧ dg s i < D
theorem digits_ev (D : Nat) (hD : D ≤ 9) (s : ByteArray) (h : okD D s) : Ev (fun K => impl_digits.f K s) (dgs s) := by
  unfold impl_digits.f
  have hs := h.1
  have key : ∀ (j i : Nat), i + j = s.size → Ev (fun K => impl_digits.l0 K s ((List.range i).map (fun (i : Nat) => dg s i)) (s.size : Int) i) (dgs s) := by
    intro j
    induction j with
    | zero =>
      intro i hi
      refine Ev.step (fun k => by rw [impl_digits.l0]) (Ev.neg (by omega) (Ev.val (Ev.now _) ?_))
      rw [show i = s.size by omega]
      rfl
    | succ j ih =>
      intro i hi
      have hd := h.2 i (by omega)
      refine Ev.step (fun k => by rw [impl_digits.l0]) (Ev.pos (by omega) (Ev.pos (by omega) (Ev.pos (by omega) (Ev.pos (by simp; omega) ?_))))
      have e : (bt s (i : Int) - 48) % 256 = dg s i := by unfold dg at hd ⊢; omega
      rw [e, w64n (by omega)]
      have := ih (i + 1) (by omega)
      rw [List.range_succ, List.map_append] at this
      exact this
  exact key s.size 0 (by omega)
def laA (s : ByteArray) (i : Nat) : Int := if i = 0 then -1 else dg s (i - 1)
/-- Neighbours from a place on. -/
def smG (s : ByteArray) (m : Int) : Nat → Nat → Bool
  | 0, _ => true
  | j + 1, i => lastF m (laA s i) (dg s i) && smG s m j (i + 1)
/-- The numbers to be summed. -/
def rkT (s : ByteArray) (m : Int) (D : Nat) : Nat → Nat → Int → Int
  | 0, _, acc => acc
  | j + 1, i, acc => rkT s m D j (i + 1) (acc + sumF (lastF m (laA s i)) (waysL m D j) (dg s i).toNat)
theorem laA_bd (D : Nat) (hD : D ≤ 9) (s : ByteArray) (h : okD D s) (i : Nat) (hi : i < s.size) : -1 ≤ laA s i ∧ laA s i ≤ 9 := by
  unfold laA
  split
  · omega
  · have := h.2 (i - 1) (by omega); omega
theorem isSmooth_ev (D : Nat) (hD : D ≤ 9) (m : Int) (s : ByteArray) (h : okD D s) (hs1 : 1 ≤ s.size) : Ev (fun K => spec_keIsSmooth.f K s m) (smG s m s.size 0) := by
  unfold spec_keIsSmooth.f
  have hs := h.1
  have key : ∀ (j i : Nat), 1 ≤ i → i + j = s.size → Ev (fun K => spec_keIsSmooth.l0 K s m i) (smG s m j i) := by
    intro j
    induction j with
    | zero =>
      intro i h1 hi
      rw [show smG s m 0 i = true from rfl]
      exact Ev.step (fun k => by rw [spec_keIsSmooth.l0]) (Ev.neg (by omega) (Ev.now _))
    | succ j ih =>
      intro i h1 hi
      have hd := h.2 i (by omega)
      have hd1 := h.2 (i - 1) (by omega)
      unfold dg at hd hd1
      have hw : wrap64 ((i : Int) - 1) = ((i - 1 : Nat) : Int) := by rw [w64 (by omega) (by omega)]; omega
      refine Ev.step (fun k => by rw [spec_keIsSmooth.l0]) ?_
      rw [hw, w64n (by omega), w64 (x := bt s (i : Int)) (by omega) (by omega), w64 (x := bt s ((i - 1 : Nat) : Int)) (by omega) (by omega)]
      obtain ⟨t, ht, hn⟩ := l1Abs_near m (bt s (i : Int)) (bt s ((i - 1 : Nat) : Int)) (by omega) (by omega)
      refine Ev.pos (by omega) (Ev.pos (by omega) (Ev.pos (by omega) (Ev.pos (by omega) (Ev.let_ ht ?_))))
      have e : lastF m (laA s i) (dg s i) = near m (bt s (i : Int)) (bt s ((i - 1 : Nat) : Int)) := by
        unfold lastF laA dg near
        rw [if_neg (show ¬ i = 0 by omega), if_neg (by omega)]
        exact decide_eq_decide.mpr (by omega)
      rw [smG, e]
      by_cases hc : near m (bt s (i : Int)) (bt s ((i - 1 : Nat) : Int)) = true
      · rw [hc, Bool.true_and]
        exact Ev.neg (by have := hn.mpr hc; omega) (ih (i + 1) (by omega) (by omega))
      · rw [Bool.eq_false_iff.mpr hc, Bool.false_and]
        exact Ev.pos (by have : ¬ t ≤ m := fun h => hc (hn.mp h); omega) (Ev.now _)
  obtain ⟨n, hn⟩ : ∃ n, s.size = n + 1 := ⟨s.size - 1, by omega⟩
  have e : smG s m s.size 0 = smG s m n 1 := by
    rw [hn, smG]
    have : lastF m (laA s 0) (dg s 0) = true := by unfold lastF laA; simp
    rw [this, Bool.true_and]
  rw [e]
  exact key n 1 (by omega) (by omega)

/-! the reference's sum -/
theorem sumF_cut (f : Int → Bool) (ws : List Int) (g : Nat) : ∀ n, sumF (fun d => decide (d < (g : Int)) && f d) ws n = sumF f ws (if n ≤ g then n else g)
  | 0 => by simp [sumF]
  | n + 1 => by
    rw [sumF, sumF_cut f ws g n]
    by_cases h : n + 1 ≤ g
    · rw [if_pos h, if_pos (by omega), sumF]
      have : decide ((n : Int) < (g : Int)) = true := decide_eq_true (by omega)
      rw [this, Bool.true_and]
    · rw [if_neg h]
      have : decide ((n : Int) < (g : Int)) = false := decide_eq_false (by omega)
      rw [this, Bool.false_and]
      simp only [Bool.false_eq_true, if_false, Int.add_zero]
      congr 1
      split <;> omega
theorem rkStep_some (D : Nat) (hD : D ≤ 9) (m : Int) (s : ByteArray) (h : okD D s) (i : Nat) (hi : i < s.size) (d : Nat) (hd : d < D) (x acc : Int) (hx : 0 ≤ x ∧ x ≤ 4782969) (ha : 0 ≤ acc ∧ acc ≤ 1000000000) :
    rkStep s m (i : Int) (d : Int) x acc = some (acc + if (decide ((d : Int) < ((dg s i).toNat : Int)) && lastF m (laA s i) (d : Int)) = true then x else 0) := by
  have hs := h.1
  have hg := h.2 i hi
  have e : (bt s (i : Int) - 48) % 256 = dg s i := by unfold dg at hg ⊢; omega
  have et : ((dg s i).toNat : Int) = dg s i := by omega
  have hw : wrap64 (acc + x) = acc + x := w64 (by omega) (by omega)
  unfold rkStep
  rw [e, et, hw]
  by_cases h1 : (d : Int) < dg s i
  · rw [if_pos h1, decide_eq_true h1, Bool.true_and]
    by_cases h2 : i = 0
    · subst h2
      have hl : lastF m (laA s 0) (d : Int) = true := by unfold lastF laA; simp
      rw [if_pos (by simp), hl, if_pos rfl]
    · have hg1 := h.2 (i - 1) (by omega)
      have hw1 : wrap64 ((i : Int) - 1) = ((i - 1 : Nat) : Int) := by rw [w64 (by omega) (by omega)]; omega
      have e1 : (bt s ((i - 1 : Nat) : Int) - 48) % 256 = dg s (i - 1) := by unfold dg at hg1 ⊢; omega
      obtain ⟨t, ht, hn⟩ := l1Abs_near m (d : Int) (dg s (i - 1)) (by omega) (by omega)
      rw [if_neg (by omega), hw1, e1, ht, Option.bind_some]
      have hl : lastF m (laA s i) (d : Int) = near m (d : Int) (dg s (i - 1)) := by unfold lastF laA; rw [if_neg h2, if_neg (by omega)]
      rw [hl]
      by_cases hc : near m (d : Int) (dg s (i - 1)) = true
      · rw [if_pos (hn.mpr hc), if_pos hc]
      · rw [if_neg (fun h => hc (hn.mp h)), if_neg hc, Int.add_zero]
  · rw [if_neg h1, decide_eq_false h1, Bool.false_and, if_neg (by decide), Int.add_zero]
theorem rkIn_some (D : Nat) (hD : D ≤ 9) (m : Int) (s : ByteArray) (h : okD D s) (i : Nat) (hi : i < s.size) (p : Nat) (hp : p ≤ 6) : ∀ (b d : Nat) (acc : Int), d + b = D → 0 ≤ acc → acc + (sumF (fun x => decide (x < ((dg s i).toNat : Int)) && lastF m (laA s i) x) (waysL m D p) D - sumF (fun x => decide (x < ((dg s i).toNat : Int)) && lastF m (laA s i) x) (waysL m D p) d) ≤ 900000000 →
    rkIn s m (i : Int) d ((waysL m D p).drop d) acc = some (acc + (sumF (fun x => decide (x < ((dg s i).toNat : Int)) && lastF m (laA s i) x) (waysL m D p) D - sumF (fun x => decide (x < ((dg s i).toNat : Int)) && lastF m (laA s i) x) (waysL m D p) d)) := by
  have hl := waysL_length m D p
  intro b
  induction b with
  | zero =>
    intro d acc hd h0 h1
    obtain rfl : d = D := by omega
    rw [List.drop_eq_nil_of_le (by omega), rkIn]
    congr 1
    omega
  | succ b ih =>
    intro d acc hd h0 h1
    have hdl : d < (waysL m D p).length := by omega
    have hx := ways_small m D hD p (by omega) d (by omega)
    have hge : ∀ n, n ≤ D → sumF (fun x => decide (x < ((dg s i).toNat : Int)) && lastF m (laA s i) x) (waysL m D p) n ≤ sumF (fun x => decide (x < ((dg s i).toNat : Int)) && lastF m (laA s i) x) (waysL m D p) D := by
      have : ∀ (c a : Nat), a + c = D → sumF (fun x => decide (x < ((dg s i).toNat : Int)) && lastF m (laA s i) x) (waysL m D p) a ≤ sumF (fun x => decide (x < ((dg s i).toNat : Int)) && lastF m (laA s i) x) (waysL m D p) D := by
        intro c
        induction c with
        | zero => intro a ha; rw [show a = D by omega]; exact Int.le_refl _
        | succ c ihc =>
          intro a ha
          have h2 := ihc (a + 1) (by omega)
          have h3 := ways_small m D hD p (by omega) a (by omega)
          have e2 : sumF (fun x => decide (x < ((dg s i).toNat : Int)) && lastF m (laA s i) x) (waysL m D p) (a + 1) = sumF (fun x => decide (x < ((dg s i).toNat : Int)) && lastF m (laA s i) x) (waysL m D p) a + if (decide ((a : Int) < ((dg s i).toNat : Int)) && lastF m (laA s i) (a : Int)) = true then rd (waysL m D p) (a : Int) else 0 := rfl
          split at e2 <;> omega
      exact fun n hn => this (D - n) n (by omega)
    have hg := hge d (by omega)
    have hg1 := hge (d + 1) (by omega)
    have hst := rkStep_some D hD m s h i hi d (by omega) (rd (waysL m D p) (d : Int)) acc hx (by omega)
    have e2 : sumF (fun x => decide (x < ((dg s i).toNat : Int)) && lastF m (laA s i) x) (waysL m D p) (d + 1) = sumF (fun x => decide (x < ((dg s i).toNat : Int)) && lastF m (laA s i) x) (waysL m D p) d + if (decide ((d : Int) < ((dg s i).toNat : Int)) && lastF m (laA s i) (d : Int)) = true then rd (waysL m D p) (d : Int) else 0 := rfl
    rw [List.drop_eq_getElem_cons hdl, rkIn, ← rd_nat hdl, hst, Option.bind_some]
    generalize hy : (if (decide ((d : Int) < ((dg s i).toNat : Int)) && lastF m (laA s i) (d : Int)) = true then rd (waysL m D p) (d : Int) else 0) = y at e2
    have hy0 : 0 ≤ y := by rw [← hy]; split <;> omega
    rw [ih (d + 1) (acc + y) (by omega) (by omega) (by omega)]
    congr 1
    omega
theorem sumG_bd (m la : Int) (D : Nat) (hD : D ≤ 9) (p : Nat) (hp : p ≤ 6) (g : Nat) (hg : g ≤ D) : 0 ≤ sumF (lastF m la) (waysL m D p) g ∧ sumF (lastF m la) (waysL m D p) g ≤ 43046721 := sum_small (lastF m la) m D hD p (by omega) g hg
theorem rkOut_ev (D : Nat) (hD : D ≤ 9) (m : Int) (s : ByteArray) (h : okD D s) : ∀ (j i : Nat) (acc : Int), i + j = s.size → 0 ≤ acc → acc ≤ (i : Int) * 43046721 → Ev (fun K => rkOut K D m s j i acc) (rkT s m D j i acc) := by
  intro j
  induction j with
  | zero => intro i acc hi h0 h1; exact Ev.now _
  | succ j ih =>
    intro i acc hi h0 h1
    have hs := h.1
    have hg := h.2 i (by omega)
    have hb := sumG_bd m (laA s i) D hD j (by omega) (dg s i).toNat (by omega)
    have hc : ∀ n : Nat, sumF (fun x => decide (x < ((dg s i).toNat : Int)) && lastF m (laA s i) x) (waysL m D j) D = sumF (lastF m (laA s i)) (waysL m D j) (dg s i).toNat := by
      intro n
      rw [sumF_cut]
      congr 1
      split <;> omega
    have hin := rkIn_some D hD m s h i (by omega) j (by omega) D 0 acc (by omega) h0 (by rw [hc 0]; simp only [sumF]; omega)
    rw [hc 0, List.drop_zero] at hin
    simp only [sumF, Int.sub_zero] at hin
    refine Ev.congr (fun K => by rw [rkOut]) ?_
    rw [w64 (by omega) (by omega), show (s.size : Int) - (i : Int) = (j : Int) + 1 by omega]
    refine Ev.bind (keSmooth_ev m D hD j (by omega)) (Ev.pos (by rw [waysL_length]; omega) (Ev.let_ hin ?_))
    rw [rkT]
    exact ih (i + 1) _ (by omega) (by omega) (by omega)

/-! the program's sum -/
theorem implRank_l1 (D : Nat) (hD1 : 1 ≤ D) (hD : D ≤ 9) (m : Int) (s : ByteArray) (h : okD D s) (i j : Nat) (hij : i + (j + 1) = s.size) (acc0 : Int) (h0 : 0 ≤ acc0) (h1 : acc0 ≤ 500000000) (r : Int × Bool)
    (hk : Ev (fun K => impl_RankOfSmooth.l0 K m (dgs s) (acc0 + sumF (lastF m (laA s i)) (waysL m D j) (dg s i).toNat) (dgs s) (s.size : Int) ((i + 1 : Nat) : Int) D (List.replicate s.size (rangeI D))) r) :
    ∀ (b e : Nat), e + b = (dg s i).toNat → Ev (fun K => impl_RankOfSmooth.l1 K m (dgs s) (acc0 + sumF (lastF m (laA s i)) (waysL m D j) e) i (dgs s) (s.size : Int) i (dg s i) e D (List.replicate s.size (rangeI D))) r := by
  have hs := h.1
  have hg := h.2 i (by omega)
  intro b
  induction b with
  | zero =>
    intro e he
    refine Ev.step (fun k => by rw [impl_RankOfSmooth.l1]) (Ev.neg (by omega) ?_)
    rw [w64n (by omega), show e = (dg s i).toNat by omega]
    exact hk
  | succ b ih =>
    intro e he
    have hb := sumG_bd m (laA s i) D hD j (by omega) e (by omega)
    have hx := ways_small m D hD j (by omega) e (by omega)
    have hi := ih (e + 1) (by omega)
    have hsm := smooth_ev m (e : Int) (by omega) D hD1 hD s.size (by omega) hs (i + 1) (by omega)
    rw [smoothV_ways m D j e (by omega) s.size i hij] at hsm
    have hw : wrap64 (acc0 + sumF (lastF m (laA s i)) (waysL m D j) e + rd (waysL m D j) (e : Int)) = acc0 + sumF (lastF m (laA s i)) (waysL m D j) e + rd (waysL m D j) (e : Int) := w64 (by omega) (by omega)
    refine Ev.step (fun k => by rw [impl_RankOfSmooth.l1]) (Ev.pos (by omega) ?_)
    rw [w64n (i := i) (by omega), w64n (i := e) (by omega)]
    rw [sumF] at hi
    by_cases h2 : i = 0
    · have hl : lastF m (laA s i) (e : Int) = true := by subst h2; unfold lastF laA; simp
      rw [if_pos hl, ← Int.add_assoc] at hi
      refine Ev.pos (by omega) (Ev.bind hsm ?_)
      rw [hw]
      exact hi
    · have hg1 := h.2 (i - 1) (by omega)
      have hw1 : wrap64 ((i : Int) - 1) = ((i - 1 : Nat) : Int) := by rw [w64 (by omega) (by omega)]; omega
      have hl : lastF m (laA s i) (e : Int) = near m (e : Int) (dg s (i - 1)) := by unfold lastF laA; rw [if_neg h2, if_neg (by omega)]
      rw [hl] at hi
      obtain ⟨t, ht, hn⟩ := size_near m (e : Int) (dg s (i - 1)) (by omega) (by omega)
      rw [hw1]
      refine Ev.neg (by omega) (Ev.pos (by omega) (Ev.pos (by rw [dgs_length]; omega) ?_))
      rw [rd_dgs s (i - 1) (by omega)]
      refine Ev.let_ ht ?_
      by_cases hc : near m (e : Int) (dg s (i - 1)) = true
      · rw [if_pos hc, ← Int.add_assoc] at hi
        refine Ev.pos (hn.mpr hc) (Ev.bind hsm ?_)
        rw [hw]
        exact hi
      · rw [if_neg hc, Int.add_zero] at hi
        exact Ev.neg (fun h => hc (hn.mp h)) hi
theorem implRank_l0 (D : Nat) (hD1 : 1 ≤ D) (hD : D ≤ 9) (m : Int) (s : ByteArray) (h : okD D s) : ∀ (j i : Nat) (acc : Int), i + j = s.size → 0 ≤ acc → acc ≤ (i : Int) * 43046721 →
    Ev (fun K => impl_RankOfSmooth.l0 K m (dgs s) acc (dgs s) (s.size : Int) i D (List.replicate s.size (rangeI D))) (if smG s m j i = true then (rkT s m D j i acc, true) else (0, false)) := by
  intro j
  induction j with
  | zero =>
    intro i acc hi h0 h1
    rw [show (if smG s m 0 i = true then (rkT s m D 0 i acc, true) else ((0 : Int), false)) = (acc, true) from rfl]
    exact Ev.step (fun k => by rw [impl_RankOfSmooth.l0]) (Ev.neg (by omega) (Ev.now _))
  | succ j ih =>
    intro i acc hi h0 h1
    have hs := h.1
    have hg := h.2 i (by omega)
    have hb := sumG_bd m (laA s i) D hD j (by omega) (dg s i).toNat (by omega)
    have hnext := ih (i + 1) (acc + sumF (lastF m (laA s i)) (waysL m D j) (dg s i).toNat) (by omega) (by omega) (by omega)
    have hl1 := implRank_l1 D hD1 hD m s h i j hi acc h0 (by omega) _ hnext (dg s i).toNat 0 (by omega)
    have hl1' : Ev (fun K => impl_RankOfSmooth.l1 K m (dgs s) acc i (dgs s) (s.size : Int) i (dg s i) 0 D (List.replicate s.size (rangeI D))) (if smG s m j (i + 1) = true then (rkT s m D j (i + 1) (acc + sumF (lastF m (laA s i)) (waysL m D j) (dg s i).toNat), true) else (0, false)) := by
      have := hl1
      simp only [sumF, Int.add_zero] at this
      exact this
    refine Ev.step (fun k => by rw [impl_RankOfSmooth.l0]) (Ev.pos (by omega) (Ev.pos (by omega) (Ev.pos (by rw [dgs_length]; omega) ?_)))
    rw [rd_dgs s i (by omega), smG, rkT]
    by_cases h2 : i = 0
    · have hl : lastF m (laA s i) (dg s i) = true := by subst h2; unfold lastF laA; simp
      rw [hl, Bool.true_and]
      exact Ev.neg (by omega) (Ev.step (fun k => by rw [impl_RankOfSmooth.j2]) (Ev.neg (by decide) hl1'))
    · have hg1 := h.2 (i - 1) (by omega)
      have hw1 : wrap64 ((i : Int) - 1) = ((i - 1 : Nat) : Int) := by rw [w64 (by omega) (by omega)]; omega
      obtain ⟨t, ht, hn⟩ := size_near m (dg s i) (dg s (i - 1)) (by omega) (by omega)
      have hl : lastF m (laA s i) (dg s i) = near m (dg s i) (dg s (i - 1)) := by unfold lastF laA; rw [if_neg h2, if_neg (by omega)]
      rw [hw1, hl]
      refine Ev.pos (by omega) (Ev.pos (by omega) (Ev.pos (by rw [dgs_length]; omega) ?_))
      rw [rd_dgs s (i - 1) (by omega)]
      refine Ev.let_ ht (Ev.step (fun k => by rw [impl_RankOfSmooth.j2]) ?_)
      by_cases hc : near m (dg s i) (dg s (i - 1)) = true
      · rw [hc, Bool.true_and]
        exact Ev.neg (by have := hn.mpr hc; simp; omega) hl1'
      · rw [Bool.eq_false_iff.mpr hc, Bool.false_and, if_neg (by decide)]
        exact Ev.pos (by have : ¬ t ≤ m := fun h => hc (hn.mp h); simp; omega) (Ev.now _)
end Go.Proofs.Ytdkgclkkofmgkaa.Pure
