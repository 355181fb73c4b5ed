/- What the two sides make of a key's text; for pins that are valid and texts as long as the pins. -/
import Derived.Test.YtdkgclkkofmgkaaQx0
import Derived.Test.YtdkgclkkofmgkaaQx4
import Derived.Test.YtdkgclkkofmgkaaQx5
import Derived.Test.YtdkgclkkofmgkaaQx6
import Derived.Test.YtdkgclkkofmgkaaKeyA
namespace Go.Proofs.Ytdkgclkkofmgkaa.Pure
open Go.RowKit Go.Proofs.Ytdkgclkkofmgkaa.Q Go.Proofs.YtdkgclkkofmgkaaW.PrintWords Go.Proofs.YtdkgclkkofmgkaaW.PrintLast Go.Proofs.YtdkgclkkofmgkaaW.PrintMore
set_option linter.unusedVariables false

theorem bt_nat {s : ByteArray} {i : Nat} (h : i < s.size) : bt s (i : Int) = (s[i].toNat : Int) := by
  unfold bt
  simp [h]
theorem bt_lt {s : ByteArray} {i : Nat} (h : i < s.size) : 0 ≤ bt s (i : Int) ∧ bt s (i : Int) < 256 := by
  rw [bt_nat h]
  have := s[i].toNat_lt
  omega
theorem keyB_step {d : Int} {s : ByteArray} {i : Nat} (h : i < s.size) : keyB d (s.data.toList.drop i) = (decide (48 ≤ bt s (i : Int) ∧ bt s (i : Int) ≤ 47 + d) && keyB d (s.data.toList.drop (i + 1))) := by
  rw [keyB_bt s i h]
  unfold keyB
  rw [List.all_cons, bt_nat h]
  congr 1
  exact decide_eq_decide.mpr (by omega)
theorem keyB_all {d : Int} {s : ByteArray} (h : keyB d s.data.toList = true) (i : Nat) (hi : i < s.size) : 48 ≤ bt s (i : Int) ∧ bt s (i : Int) ≤ 47 + d := by
  have hm : s[i] ∈ s.data.toList := by
    have := List.getElem_mem (l := s.data.toList) (n := i) (by simpa using hi)
    exact this
  have := of_decide_eq_true ((List.all_eq_true.mp h) _ hm)
  rw [bt_nat hi]
  omega
theorem isDepth_l0 (d : Int) (hd : 1 ≤ d ∧ d ≤ 9) (s : ByteArray) (hs : 1 ≤ s.size ∧ s.size ≤ 7) : ∀ (e i : Nat), i + e = s.size →
    Ev (fun k => impl_isDepthText.l0 k d s (s.size : Int) (i : Int)) (keyB d (s.data.toList.drop i)) := by
  intro e
  induction e with
  | zero =>
    intro i hi
    refine Ev.step (fun k => by rw [impl_isDepthText.l0]) ?_
    refine Ev.neg (by omega) ?_
    refine Ev.let_ (within_some _ _ _) (Ev.pos (decide_eq_true hd) (Ev.let_ (within_some _ _ _) (Ev.val (Ev.now _) ?_)))
    rw [List.drop_eq_nil_of_le (by have : s.data.toList.length = s.size := (by simp); omega), decide_eq_true (by omega)]
    rfl
  | succ e ih =>
    intro i hi
    have h1 : i < s.size := by omega
    have hb := bt_lt h1
    refine Ev.step (fun k => by rw [impl_isDepthText.l0]) ?_
    refine Ev.pos (by omega) (Ev.pos (by omega) (Ev.pos (by omega) ?_))
    rw [w64n (by omega), w64 (x := bt s (i : Int)) (by omega) (by omega), w64 (x := 48 + d) (by omega) (by omega), w64 (x := 48 + d - 1) (by omega) (by omega)]
    refine Ev.let_ (within_some _ _ _) ?_
    rw [keyB_step h1]
    by_cases hc : 48 ≤ bt s (i : Int) ∧ bt s (i : Int) ≤ 48 + d - 1
    · refine Ev.pos (decide_eq_true hc) (Ev.val (ih (i + 1) (by omega)) ?_)
      rw [decide_eq_true (show 48 ≤ bt s (i : Int) ∧ bt s (i : Int) ≤ 47 + d by omega), Bool.true_and]
    · refine Ev.neg (by rw [decide_eq_false hc]; decide) (Ev.val (Ev.now _) ?_)
      rw [decide_eq_false (show ¬ (48 ≤ bt s (i : Int) ∧ bt s (i : Int) ≤ 47 + d) by omega), Bool.false_and]
def keyOk (d : Int) (l : List (List Int)) (s : ByteArray) : Bool := decide (s.size = l.length) && keyB d s.data.toList
theorem pinsOk_1 {d : Int} {l : List (List Int)} (h : pinsOk d l = true) : (1 ≤ d ∧ d ≤ 9) ∧ 1 ≤ l.length ∧ l.length ≤ 7 := by
  unfold pinsOk at h
  rw [Bool.and_eq_true] at h
  exact of_decide_eq_true h.1
theorem isKey_ev (d : Int) (l : List (List Int)) (s : ByteArray) (h : pinsOk d l = true) : Ev (fun k => impl_Pins_isKey.f k d l s) (keyOk d l s) := by
  have hp := pinsOk_1 h
  unfold impl_Pins_isKey.f keyOk
  by_cases hl : (s.size : Int) = (l.length : Int)
  · have hl' : s.size = l.length := by omega
    refine Ev.pos hl (Ev.bind (a := keyB d s.data.toList) ?_ (Ev.val (Ev.now _) ?_))
    · unfold impl_isDepthText.f
      have := isDepth_l0 d hp.1 s (by omega) s.size 0 (by omega)
      rw [List.drop_zero] at this
      exact this
    · rw [decide_eq_true hl', Bool.true_and]
  · refine Ev.neg hl (Ev.val (Ev.now _) ?_)
    rw [decide_eq_false (show ¬ s.size = l.length by omega), Bool.false_and]
theorem keIs_some (d : Int) (l : List (List Int)) (s : ByteArray) (h : pinsOk d l = true) : spec_keIs.f d l s = some (keyOk d l s) := by
  have hp := pinsOk_1 h
  unfold spec_keIs.f keyOk spec_keKey.f
  by_cases hl : (s.size : Int) = (l.length : Int)
  · rw [if_pos hl, if_pos hp.1, decide_eq_true (show s.size = l.length by omega), Bool.true_and]
    rfl
  · rw [if_neg hl, decide_eq_false (show ¬ s.size = l.length by omega), Bool.false_and]

theorem has_l0 (l : List Int) (a : Int) (hn : l.length ≤ 1048576) : ∀ (e i : Nat), i + e = l.length → Ev (fun k => spec_l1Has.l0 k a l (l.length : Int) (i : Int)) (decide (a ∈ l.drop i)) := by
  intro e
  induction e with
  | zero =>
    intro i hi
    refine Ev.step (fun k => by rw [spec_l1Has.l0]) ?_
    refine Ev.neg (by omega) (Ev.val (Ev.now _) ?_)
    rw [List.drop_eq_nil_of_le (by omega)]
    simp
  | succ e ih =>
    intro i hi
    have h1 : i < l.length := by omega
    refine Ev.step (fun k => by rw [spec_l1Has.l0]) ?_
    refine Ev.pos (by omega) (Ev.pos (by omega) (Ev.pos (by omega) ?_))
    rw [rd_nat h1, w64n (by omega), List.drop_eq_getElem_cons h1]
    by_cases hc : l[i] = a
    · refine Ev.pos hc (Ev.val (Ev.now _) ?_)
      simp [hc]
    · refine Ev.neg hc (Ev.val (ih (i + 1) (by omega)) ?_)
      rw [decide_eq_decide, List.mem_cons]
      exact ⟨fun h => .inr h, fun h => h.resolve_left (fun hh => hc hh.symm)⟩
theorem has_ev (l : List Int) (a : Int) (hn : l.length ≤ 1048576) : Ev (fun k => spec_l1Has.f k l a) (decide (a ∈ l)) := by
  unfold spec_l1Has.f
  have := has_l0 l a hn l.length 0 (by omega)
  rw [List.drop_zero] at this
  exact this
theorem index_l0 (l : List Int) (a : Int) (hn : l.length ≤ 1048576) : ∀ (e i : Nat), i + e = l.length → ∃ v, Ev (fun k => slices_Index_int_int.l0 k l a (l.length : Int) (i : Int)) v ∧ decide (v ≥ 0) = decide (a ∈ l.drop i) := by
  intro e
  induction e with
  | zero =>
    intro i hi
    refine ⟨-1, ?_, ?_⟩
    · refine Ev.step (fun k => by rw [slices_Index_int_int.l0]) ?_
      exact Ev.neg (by omega) (Ev.now _)
    · rw [List.drop_eq_nil_of_le (by omega)]
      simp
  | succ e ih =>
    intro i hi
    have h1 : i < l.length := by omega
    by_cases hc : a = l[i]
    · refine ⟨(i : Int), ?_, ?_⟩
      · refine Ev.step (fun k => by rw [slices_Index_int_int.l0]) ?_
        refine Ev.pos (by omega) (Ev.pos (by omega) (Ev.pos (by omega) ?_))
        rw [rd_nat h1]
        exact Ev.pos hc (Ev.now _)
      · rw [List.drop_eq_getElem_cons h1, decide_eq_decide]
        exact ⟨fun _ => by rw [hc]; exact List.mem_cons_self, fun _ => by omega⟩
    · obtain ⟨v, hv, he⟩ := ih (i + 1) (by omega)
      refine ⟨v, ?_, ?_⟩
      · refine Ev.step (fun k => by rw [slices_Index_int_int.l0]) ?_
        refine Ev.pos (by omega) (Ev.pos (by omega) (Ev.pos (by omega) ?_))
        rw [rd_nat h1, w64n (by omega)]
        exact Ev.neg hc hv
      · rw [he, List.drop_eq_getElem_cons h1, decide_eq_decide, List.mem_cons]
        exact ⟨fun h => .inr h, fun h => h.resolve_left hc⟩
theorem contains_ev (l : List Int) (a : Int) (hn : l.length ≤ 1048576) : Ev (fun k => slices_Contains_int_int.f k l a) (decide (a ∈ l)) := by
  obtain ⟨v, hv, he⟩ := index_l0 l a hn l.length 0 (by omega)
  rw [List.drop_zero] at he
  unfold slices_Contains_int_int.f slices_Index_int_int.f
  exact Ev.bind hv (Ev.val (Ev.now _) he)
def dgs (l : List UInt8) : List Int := l.map (fun b => ((b.toNat : Int) - 48) % 256)
theorem digits_l0 (s : ByteArray) (hs : s.size ≤ 1048576) : ∀ (e i : Nat) (acc : List Int), i + e = s.size → acc.length = i → Ev (fun k => impl_digits.l0 k s acc (s.size : Int) (i : Int)) (acc ++ dgs (s.data.toList.drop i)) := by
  intro e
  induction e with
  | zero =>
    intro i acc hi hl
    refine Ev.step (fun k => by rw [impl_digits.l0]) ?_
    refine Ev.neg (by omega) (Ev.val (Ev.now _) ?_)
    rw [List.drop_eq_nil_of_le (by have : s.data.toList.length = s.size := (by simp); omega)]
    simp [dgs]
  | succ e ih =>
    intro i acc hi hl
    have h1 : i < s.size := by omega
    refine Ev.step (fun k => by rw [impl_digits.l0]) ?_
    refine Ev.pos (by omega) (Ev.pos (by omega) (Ev.pos (by omega) (Ev.pos (by omega) ?_)))
    rw [w64n (by omega)]
    refine Ev.val (ih (i + 1) _ (by omega) (by simp [hl])) ?_
    rw [keyB_bt s i h1, bt_nat h1]
    simp [dgs]
theorem digits_ev (s : ByteArray) (hs : s.size ≤ 1048576) : Ev (fun k => impl_digits.f k s) (dgs s.data.toList) := by
  unfold impl_digits.f
  have := digits_l0 s hs s.size 0 [] (by omega) rfl
  rw [List.drop_zero] at this
  exact this
theorem rd_dgs {s : ByteArray} {i : Nat} (h : i < s.size) : rd (dgs s.data.toList) (i : Int) = (bt s (i : Int) - 48) % 256 := by
  have hl : i < (dgs s.data.toList).length := by simpa [dgs] using h
  rw [rd_nat hl, bt_nat h]
  simp only [dgs, List.getElem_map]
  rfl
def opB (s : ByteArray) (l : List (List Int)) : Nat → Nat → Bool
  | 0, _ => true
  | e + 1, i => decide (bt s (i : Int) - 48 ∈ l.getD i []) && opB s l e (i + 1)
theorem opens_spec (l : List (List Int)) (s : ByteArray) (hl : s.size = l.length) (hn : l.length ≤ 7) (hx : ∀ x ∈ l, x.length ≤ 1048576) : ∀ (e i : Nat), i + e = l.length →
    Ev (fun k => spec_keOpens.l0 k s l (l.length : Int) (i : Int)) (opB s l e i) := by
  intro e
  induction e with
  | zero =>
    intro i hi
    refine Ev.step (fun k => by rw [spec_keOpens.l0]) ?_
    exact Ev.neg (by omega) (Ev.now _)
  | succ e ih =>
    intro i hi
    have h1 : i < l.length := by omega
    have hb := bt_lt (show i < s.size by omega)
    refine Ev.step (fun k => by rw [spec_keOpens.l0]) ?_
    refine Ev.pos (by omega) (Ev.pos (by omega) (Ev.pos (by omega) (Ev.pos (by omega) ?_)))
    rw [rdL_nat h1, w64n (by omega), w64 (x := bt s (i : Int)) (by omega) (by omega), w64 (x := bt s (i : Int) - 48) (by omega) (by omega)]
    refine Ev.bind (has_ev _ _ (hx _ (List.getElem_mem h1))) ?_
    rw [opB, show l.getD i [] = l[i] by simp [h1]]
    by_cases hc : bt s (i : Int) - 48 ∈ l[i]
    · refine Ev.pos (decide_eq_true hc) (Ev.val (ih (i + 1) (by omega)) ?_)
      rw [decide_eq_true hc, Bool.true_and]
    · refine Ev.neg (by rw [decide_eq_false hc]; decide) (Ev.val (Ev.now _) ?_)
      rw [decide_eq_false hc, Bool.false_and]
theorem opens_impl (d : Int) (hd : d ≤ 9) (l : List (List Int)) (s : ByteArray) (hl : s.size = l.length) (hn : l.length ≤ 7) (hx : ∀ x ∈ l, x.length ≤ 1048576) (hk : keyB d s.data.toList = true) : ∀ (e i : Nat), i + e = l.length →
    Ev (fun k => impl_DoesOpen.l0 k (dgs s.data.toList) ((dgs s.data.toList).length : Int) (i : Int) d l) (opB s l e i, true) := by
  have hlen : (dgs s.data.toList).length = s.size := by simp [dgs]
  rw [hlen]
  intro e
  induction e with
  | zero =>
    intro i hi
    refine Ev.step (fun k => by rw [impl_DoesOpen.l0]) ?_
    exact Ev.neg (by omega) (Ev.now _)
  | succ e ih =>
    intro i hi
    have h1 : i < l.length := by omega
    have hb := keyB_all hk i (by omega)
    refine Ev.step (fun k => by rw [impl_DoesOpen.l0]) ?_
    refine Ev.pos (by omega) (Ev.pos (by omega) (Ev.pos (by omega) (Ev.pos (by omega) ?_)))
    rw [rdL_nat h1, w64n (by omega), rd_dgs (show i < s.size by omega), show (bt s (i : Int) - 48) % 256 = bt s (i : Int) - 48 by omega]
    refine Ev.bind (contains_ev _ _ (hx _ (List.getElem_mem h1))) ?_
    rw [opB, show l.getD i [] = l[i] by simp [h1]]
    by_cases hc : bt s (i : Int) - 48 ∈ l[i]
    · refine Ev.pos (decide_eq_true hc) (Ev.val (ih (i + 1) (by omega)) ?_)
      rw [decide_eq_true hc, Bool.true_and]
    · refine Ev.neg (by rw [decide_eq_false hc]; decide) (Ev.val (Ev.now _) ?_)
      rw [decide_eq_false hc, Bool.false_and]
end Go.Proofs.Ytdkgclkkofmgkaa.Pure
