/- Chapter 8: the pins that a key opens alone: what both sides come to, and the marks in rows of one number. -/
import Derived.Test.YtdkgclkkofmgkaaWx0
import Derived.Test.YtdkgclkkofmgkaaWx1
import Derived.Test.YtdkgclkkofmgkaaWx2
import Derived.Test.YtdkgclkkofmgkaaKit
namespace Go.Proofs.Ytdkgclkkofmgkaa.Pure
open Go.RowKit Go.Proofs.Ytdkgclkkofmgkaa.W Go.Proofs.YtdkgclkkofmgkaaW.PrintWords Go.Proofs.YtdkgclkkofmgkaaW.PrintLast Go.Proofs.YtdkgclkkofmgkaaW.PrintMore
set_option linter.unusedVariables false

theorem rdL_nat {xs : List (List Int)} {i : Nat} (h : i < xs.length) : rd_L3 xs (i : Int) = xs[i] := by
  unfold rd_L3
  simp [h]
theorem eqIntS_refl_l0 (xs : List Int) (hn : xs.length < 1099511627776) : ∀ (d i : Nat), i + d = xs.length →
    Ev (fun k => laws_eqIntS.l0 k xs xs (i : Int)) true := by
  intro d
  induction d with
  | zero =>
    intro i hi
    refine Ev.step (fun k => by rw [laws_eqIntS.l0]) ?_
    exact Ev.neg (by omega) (Ev.now _)
  | succ d ih =>
    intro i hi
    have h1 : i < xs.length := by omega
    refine Ev.step (fun k => by rw [laws_eqIntS.l0]) ?_
    refine Ev.pos (by omega) (Ev.pos (by omega) (Ev.pos (by omega) (Ev.pos rfl ?_)))
    rw [w64n (by omega)]
    exact ih (i + 1) (by omega)
theorem eqIntS_refl (xs : List Int) (hn : xs.length < 1099511627776) : Ev (fun k => laws_eqIntS.f k xs xs) true := by
  unfold laws_eqIntS.f
  exact Ev.pos rfl (eqIntS_refl_l0 xs hn xs.length 0 (by omega))
theorem eqIntSS_refl_l0 (xs : List (List Int)) (hn : xs.length < 1099511627776) (hx : ∀ x ∈ xs, x.length < 1099511627776) : ∀ (d i : Nat), i + d = xs.length →
    Ev (fun k => laws_eqIntSS.l0 k xs xs (i : Int)) true := by
  intro d
  induction d with
  | zero =>
    intro i hi
    refine Ev.step (fun k => by rw [laws_eqIntSS.l0]) ?_
    exact Ev.neg (by omega) (Ev.now _)
  | succ d ih =>
    intro i hi
    have h1 : i < xs.length := by omega
    refine Ev.step (fun k => by rw [laws_eqIntSS.l0]) ?_
    refine Ev.pos (by omega) (Ev.pos (by omega) (Ev.pos (by omega) ?_))
    rw [w64n (by omega), rdL_nat h1]
    refine Ev.bind (eqIntS_refl _ (hx _ (List.getElem_mem h1))) (Ev.pos rfl ?_)
    exact ih (i + 1) (by omega)
theorem eqIntSS_refl (xs : List (List Int)) (hn : xs.length < 1099511627776) (hx : ∀ x ∈ xs, x.length < 1099511627776) : Ev (fun k => laws_eqIntSS.f k xs xs) true := by
  unfold laws_eqIntSS.f
  exact Ev.pos rfl (eqIntSS_refl_l0 xs hn hx xs.length 0 (by omega))
theorem eqPins_refl (a : Int) (xs : List (List Int)) (hn : xs.length ≤ 1048576) (hx : ∀ x ∈ xs, x.length ≤ 1048576) : Ev (fun k => laws_eqPins.f k a xs a xs) true := by
  unfold laws_eqPins.f
  exact Ev.pos rfl (Ev.bind (eqIntSS_refl xs (by omega) (fun x h => by have := hx x h; omega)) (Ev.pos rfl (Ev.now _)))

theorem within_some (a b c : Int) : impl_within.f a b c = some (decide (b ≤ a ∧ a ≤ c)) := by
  unfold impl_within.f
  by_cases h : b ≤ a
  · rw [if_pos h]; simp [h]
  · rw [if_neg h]; simp [h]
theorem bt_nat {s : ByteArray} {i : Nat} (h : i < s.size) : bt s (i : Int) = (s[i].toNat : Int) := by
  unfold bt
  simp [h]
theorem bt_lt {s : ByteArray} {i : Nat} (h : i < s.size) : 0 ≤ bt s (i : Int) ∧ bt s (i : Int) < 256 := by
  rw [bt_nat h]
  have := s[i].toNat_lt
  omega
theorem keyB_step {d : Int} {s : ByteArray} {i : Nat} (h : i < s.size) : keyB d (s.data.toList.drop i) = (decide (48 ≤ bt s (i : Int) ∧ bt s (i : Int) ≤ 47 + d) && keyB d (s.data.toList.drop (i + 1))) := by
  rw [keyB_bt s i h]
  unfold keyB
  rw [List.all_cons, bt_nat h]
  congr 1
  exact decide_eq_decide.mpr (by omega)
theorem keyB_all {d : Int} {s : ByteArray} (h : keyB d s.data.toList = true) (i : Nat) (hi : i < s.size) : 48 ≤ bt s (i : Int) ∧ bt s (i : Int) ≤ 47 + d := by
  have hm : s[i] ∈ s.data.toList := by
    have := List.getElem_mem (l := s.data.toList) (n := i) (by simpa using hi)
    exact this
  have := of_decide_eq_true ((List.all_eq_true.mp h) _ hm)
  rw [bt_nat hi]
  omega
def dgs (l : List UInt8) : List Int := l.map (fun b => ((b.toNat : Int) - 48) % 256)
theorem digits_l0 (s : ByteArray) (hs : s.size ≤ 1048576) : ∀ (e i : Nat) (acc : List Int), i + e = s.size → acc.length = i → Ev (fun k => impl_digits.l0 k s acc (s.size : Int) (i : Int)) (acc ++ dgs (s.data.toList.drop i)) := by
  intro e
  induction e with
  | zero =>
    intro i acc hi hl
    refine Ev.step (fun k => by rw [impl_digits.l0]) ?_
    refine Ev.neg (by omega) (Ev.val (Ev.now _) ?_)
    rw [List.drop_eq_nil_of_le (by have : s.data.toList.length = s.size := (by simp); omega)]
    simp [dgs]
  | succ e ih =>
    intro i acc hi hl
    have h1 : i < s.size := by omega
    refine Ev.step (fun k => by rw [impl_digits.l0]) ?_
    refine Ev.pos (by omega) (Ev.pos (by omega) (Ev.pos (by omega) (Ev.pos (by omega) ?_)))
    rw [w64n (by omega)]
    refine Ev.val (ih (i + 1) _ (by omega) (by simp [hl])) ?_
    rw [keyB_bt s i h1, bt_nat h1]
    simp [dgs]
theorem digits_ev (s : ByteArray) (hs : s.size ≤ 1048576) : Ev (fun k => impl_digits.f k s) (dgs s.data.toList) := by
  unfold impl_digits.f
  have := digits_l0 s hs s.size 0 [] (by omega) rfl
  rw [List.drop_zero] at this
  exact this
theorem rd_dgs {s : ByteArray} {i : Nat} (h : i < s.size) : rd (dgs s.data.toList) (i : Int) = (bt s (i : Int) - 48) % 256 := by
  have hl : i < (dgs s.data.toList).length := by simpa [dgs] using h
  rw [rd_nat hl, bt_nat h]
  simp only [dgs, List.getElem_map]
  rfl
def depOk (d : Int) (s : ByteArray) : Bool := decide ((1 ≤ d ∧ d ≤ 9) ∧ 1 ≤ (s.size : Int) ∧ (s.size : Int) ≤ 7)
theorem isDepthText_l0 (d : Int) (hd0 : -9223372036854775808 ≤ d ∧ d ≤ 9223372036854775807) (s : ByteArray) (hs : s.size ≤ 1048576) : ∀ (e i : Nat), i + e = s.size →
    Ev (fun k => impl_isDepthText.l0 k d s (s.size : Int) (i : Int)) (depOk d s && keyB d (s.data.toList.drop i)) := by
  intro e
  induction e with
  | zero =>
    intro i hi
    refine Ev.step (fun k => by rw [impl_isDepthText.l0]) ?_
    refine Ev.neg (by omega) ?_
    rw [List.drop_eq_nil_of_le (by have : s.data.toList.length = s.size := (by simp); omega), show keyB d [] = true from rfl, Bool.and_true]
    refine Ev.let_ (within_some _ _ _) ?_
    by_cases hd : 1 ≤ d ∧ d ≤ 9
    · refine Ev.pos (decide_eq_true hd) (Ev.let_ (within_some _ _ _) (Ev.val (Ev.now _) ?_))
      unfold depOk
      exact decide_eq_decide.mpr ⟨fun h => ⟨hd, h⟩, fun h => h.2⟩
    · refine Ev.neg (by rw [decide_eq_false hd]; decide) (Ev.val (Ev.now _) ?_)
      unfold depOk
      exact (decide_eq_false (fun h => hd h.1)).symm
  | succ e ih =>
    intro i hi
    have h1 : i < s.size := by omega
    have hb := bt_lt h1
    refine Ev.step (fun k => by rw [impl_isDepthText.l0]) ?_
    refine Ev.pos (by omega) (Ev.pos (by omega) (Ev.pos (by omega) ?_))
    rw [w64n (by omega), w64 (x := bt s (i : Int)) (by omega) (by omega)]
    refine Ev.let_ (within_some _ _ _) ?_
    rw [keyB_step h1]
    by_cases hd : 1 ≤ d ∧ d ≤ 9
    · rw [w64 (x := 48 + d) (by omega) (by omega), w64 (x := 48 + d - 1) (by omega) (by omega)]
      by_cases hc : 48 ≤ bt s (i : Int) ∧ bt s (i : Int) ≤ 48 + d - 1
      · refine Ev.pos (decide_eq_true hc) (Ev.val (ih (i + 1) (by omega)) ?_)
        rw [decide_eq_true (show 48 ≤ bt s (i : Int) ∧ bt s (i : Int) ≤ 47 + d by omega), Bool.true_and]
      · refine Ev.neg (by rw [decide_eq_false hc]; decide) (Ev.val (Ev.now _) ?_)
        rw [decide_eq_false (show ¬ (48 ≤ bt s (i : Int) ∧ bt s (i : Int) ≤ 47 + d) by omega), Bool.false_and, Bool.and_false]
    · have hf : depOk d s = false := decide_eq_false (fun h => hd h.1)
      have h2 := ih (i + 1) (by omega)
      rw [hf, Bool.false_and] at h2 ⊢
      by_cases hc : decide (48 ≤ bt s (i : Int) ∧ bt s (i : Int) ≤ wrap64 (wrap64 (48 + d) - 1)) = true
      · exact Ev.pos hc h2
      · exact Ev.neg hc (Ev.now _)
theorem isDepthText_ev (d : Int) (hd0 : -9223372036854775808 ≤ d ∧ d ≤ 9223372036854775807) (s : ByteArray) (hs : s.size ≤ 1048576) : Ev (fun k => impl_isDepthText.f k d s) (depOk d s && keyB d s.data.toList) := by
  unfold impl_isDepthText.f
  have := isDepthText_l0 d hd0 s hs s.size 0 (by omega)
  rw [List.drop_zero] at this
  exact this
theorem pins_l0 (d : Int) (s : ByteArray) (hs : s.size ≤ 7) (hk : ∀ i : Nat, i < s.size → 48 ≤ bt s (i : Int) ∧ bt s (i : Int) ≤ 57) : ∀ (e i : Nat), i + e = s.size →
    Ev (fun k => impl_PinsOfKey.l0 k (dgs s.data.toList) ((dgs s.data.toList).length : Int) (i : Int) d (pinRows s i)) (d, pinRows s s.size, true) := by
  have hl : (dgs s.data.toList).length = s.size := by simp [dgs]
  intro e
  induction e with
  | zero =>
    intro i hi
    refine Ev.step (fun k => by rw [impl_PinsOfKey.l0]) ?_
    refine Ev.neg (by omega) (Ev.val (Ev.now _) ?_)
    rw [show i = s.size by omega]
  | succ e ih =>
    intro i hi
    have h1 : i < s.size := by omega
    have hb := hk i h1
    refine Ev.step (fun k => by rw [impl_PinsOfKey.l0]) ?_
    refine Ev.pos (by omega) (Ev.pos (by omega) (Ev.pos (by omega) (Ev.pos (by simp [pinRows]; omega) ?_)))
    rw [w64n (by omega), rd_dgs h1, show (bt s (i : Int) - 48) % 256 = bt s (i : Int) - 48 by omega]
    have := ih (i + 1) (by omega)
    rw [show pinRows s (i + 1) = pinRows s i ++ [[bt s (i : Int) - 48]] by simp [pinRows, List.range_succ]] at this
    exact this
def pinsV (d : Int) (s : ByteArray) : Int × List (List Int) × Bool := if (depOk d s && keyB d s.data.toList) = true then (d, pinRows s s.size, true) else (0, [], false)
theorem implPins_ev (d : Int) (hd0 : -9223372036854775808 ≤ d ∧ d ≤ 9223372036854775807) (s : ByteArray) (hs : s.size ≤ 1048576) : Ev (fun k => impl_PinsOfKey.f k d s) (pinsV d s) := by
  unfold impl_PinsOfKey.f pinsV
  refine Ev.bind (isDepthText_ev d hd0 s hs) ?_
  by_cases h : (depOk d s && keyB d s.data.toList) = true
  · rw [if_pos h]
    rw [Bool.and_eq_true] at h
    have h1 := of_decide_eq_true h.1
    refine Ev.pos (by rw [h.1, h.2]; rfl) (Ev.bind (digits_ev s hs) ?_)
    exact pins_l0 d s (by omega) (fun i hi => by have := keyB_all h.2 i hi; omega) s.size 0 (by omega)
  · rw [if_neg h]
    exact Ev.neg h (Ev.now _)
theorem specPins_some (d : Int) (s : ByteArray) : spec_PinsOfKey.f d s = some (pinsV d s) := by
  unfold spec_PinsOfKey.f pinsV
  by_cases hd : 1 ≤ d ∧ d ≤ 9
  · rw [if_pos hd]
    by_cases hs : 1 ≤ (s.size : Int) ∧ (s.size : Int) ≤ 7
    · rw [if_pos hs]
      unfold spec_keKey.f
      rw [if_pos hd, show depOk d s = true from decide_eq_true ⟨hd, hs⟩, Bool.true_and]
      simp only [Option.bind_some]
      split <;> rfl
    · rw [if_neg hs, show depOk d s = false from decide_eq_false (fun h => hs h.2), Bool.false_and]
      rfl
  · rw [if_neg hd, show depOk d s = false from decide_eq_false (fun h => hd h.1), Bool.false_and]
    rfl
/-! marks in rows of one number -/
theorem mark1_ev (x m : Int) (hm : 0 ≤ m ∧ m ≤ 1000) : Ev (fun k => laws_markIntS.f k [x] m) (m + 1, [m]) := by
  unfold laws_markIntS.f
  refine Ev.step (fun k => by rw [laws_markIntS.l0]) ?_
  refine Ev.pos (by simp) (Ev.pos (by omega) ?_)
  rw [w64 (x := m + 1) (by omega) (by omega), show wrap64 (0 + 1) = 1 from (w64 (by omega) (by omega)).trans rfl]
  refine Ev.step (fun k => by rw [laws_markIntS.l0]) ?_
  exact Ev.neg (by simp) (Ev.now _)
theorem held1_ev (m : Int) (hm : 0 ≤ m ∧ m ≤ 1000) : Ev (fun k => laws_heldIntS.f k [m] m) (m + 1) := by
  unfold laws_heldIntS.f
  refine Ev.step (fun k => by rw [laws_heldIntS.l0]) ?_
  refine Ev.pos (by simp) (Ev.pos (by omega) (Ev.pos rfl ?_))
  rw [w64 (x := m + 1) (by omega) (by omega), show wrap64 (0 + 1) = 1 from (w64 (by omega) (by omega)).trans rfl]
  refine Ev.step (fun k => by rw [laws_heldIntS.l0]) ?_
  exact Ev.neg (by simp) (Ev.now _)
def marksR : Int → Nat → List (List Int)
  | _, 0 => []
  | m, n + 1 => [m] :: marksR (m + 1) n
theorem marksR_length : ∀ (n : Nat) (m : Int), (marksR m n).length = n
  | 0, _ => rfl
  | n + 1, m => by rw [marksR, List.length_cons, marksR_length n]
theorem marksR_get : ∀ (n : Nat) (m : Int) (i : Nat) (h : i < (marksR m n).length), (marksR m n)[i] = [m + (i : Int)]
  | 0, m, i, h => absurd h (by simp [marksR])
  | n + 1, m, 0, h => by simp [marksR]
  | n + 1, m, i + 1, h => by
    have := marksR_get n (m + 1) i (by simpa [marksR] using h)
    simp only [marksR, List.getElem_cons_succ]
    rw [this]
    congr 1
    omega
theorem markSS_ev : ∀ (xs : List (List Int)) (m : Int), (∀ x ∈ xs, ∃ y, x = [y]) → 0 ≤ m → m + xs.length ≤ 1000 → Ev (fun k => laws_markIntSS.f k xs m) (m + (xs.length : Int), marksR m xs.length)
  | [], m, _, _, _ => by
    refine Ev.congr (fun k => by rw [laws_markIntSS.f]) (Ev.val (Ev.now _) ?_)
    simp [marksR]
  | x :: xs, m, hx, h0, hm => by
    obtain ⟨y, rfl⟩ := hx x (by simp)
    simp only [List.length_cons] at hm ⊢
    refine Ev.congr (fun k => by rw [laws_markIntSS.f]) (Ev.bind (mark1_ev y m (by omega)) ?_)
    have ih := markSS_ev xs (m + 1) (fun z hz => hx z (by simp [hz])) (by omega) (by omega)
    obtain ⟨K, hK⟩ := ih
    refine ⟨K, fun n hn => ?_⟩
    show (laws_markIntSS.f n xs (m + 1)).map _ = _
    rw [show laws_markIntSS.f n xs (m + 1) = _ from hK n hn]
    show some (m + 1 + (xs.length : Int), [m] :: marksR (m + 1) xs.length) = some (m + ((xs.length + 1 : Nat) : Int), marksR m (xs.length + 1))
    rw [marksR, show m + 1 + (xs.length : Int) = m + ((xs.length + 1 : Nat) : Int) by omega]
theorem heldSS_l0 (n : Nat) (hn : n ≤ 900) : ∀ (d i : Nat), i + d = n → Ev (fun k => laws_heldIntSS.l0 k (marksR 1 n) (1 + (i : Int)) (i : Int)) (1 + (n : Int)) := by
  intro d
  induction d with
  | zero =>
    intro i hi
    refine Ev.step (fun k => by rw [laws_heldIntSS.l0]) ?_
    refine Ev.neg (by rw [marksR_length]; omega) (Ev.val (Ev.now _) (by omega))
  | succ d ih =>
    intro i hi
    have h1 : i < (marksR 1 n).length := by rw [marksR_length]; omega
    refine Ev.step (fun k => by rw [laws_heldIntSS.l0]) ?_
    refine Ev.pos (by rw [marksR_length]; omega) (Ev.pos (by omega) ?_)
    rw [rdL_nat h1, marksR_get n 1 i h1, w64n (by omega)]
    refine Ev.bind (held1_ev _ (by omega)) (Ev.neg (by omega) ?_)
    have := ih (i + 1) (by omega)
    rw [show 1 + ((i + 1 : Nat) : Int) = 1 + (i : Int) + 1 by omega] at this
    exact this
theorem heldSS_ev (n : Nat) (hn : n ≤ 900) : Ev (fun k => laws_heldIntSS.f k (marksR 1 n) 1) (1 + (n : Int)) := by
  unfold laws_heldIntSS.f
  have := heldSS_l0 n hn n 0 (by omega)
  simpa using this
end Go.Proofs.Ytdkgclkkofmgkaa.Pure
