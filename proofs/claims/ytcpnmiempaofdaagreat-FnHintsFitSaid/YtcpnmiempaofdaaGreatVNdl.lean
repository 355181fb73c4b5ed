import Derived.Test.YtcpnmiempaofdaaGreatGx15
import Derived.Test.YtcpnmiempaofdaaGreatHintC
import Derived.Test.YtcpnmiempaofdaaGreatHintD
namespace Go.Proofs.YtcpnmiempaofdaaGreat.Pure
open Go.RowKit Go.Proofs.YtcpnmiempaofdaaGreat.G Go.Proofs.YtcpnmiempaofdaaGreatW.PrintWords Go.Proofs.YtcpnmiempaofdaaGreatW.PrintLast Go.Proofs.YtcpnmiempaofdaaGreatW.PrintMore
set_option linter.unusedVariables false
theorem okH_erase {n : Nat} {l : List S35} (h : okH n l) (i : Nat) : okH n (l.eraseIdx i) :=
 ⟨Nat.le_trans (List.length_eraseIdx_le l i) h.1, fun x hx => h.2 x (List.mem_of_mem_eraseIdx hx)⟩
def tstN (w d : Nat) (l : List S35) (n : Nat) (i : Nat) : Bool := decide ((fitC w d (l.eraseIdx i)).length = n)
theorem ndl_ev (w d : Nat) (hw1 : 1 ≤ w) (hw : w ≤ 6) (hd : 2 ≤ d ∧ d ≤ 10) (l : List S35) (hl : okH w l) (n : Nat) : ∀ (js : List Nat) (acc : List Int),
  Ev (fun K => foldO (ndlF K w d l n) acc js) (acc ++ (js.filter (tstN w d l n)).map (fun (i : Nat) => (i : Int)))
 | [], acc => Ev.val (Ev.now _) (by simp)
 | j :: js, acc => by
  refine Ev.congr (fun K => by rw [foldO]) ?_
  have h1 : Ev (fun K => ndlF K w d l n acc j) (if (fitC w d (l.eraseIdx j)).length = n then acc ++ [(j : Int)] else acc) := Ev.bind (fitting_ev w d hw1 hw hd _ (okH_erase hl j)) (Ev.now _)
  refine Ev.bind h1 ?_
  by_cases h : (fitC w d (l.eraseIdx j)).length = n
  ·refine Ev.val (ndl_ev w d hw1 hw hd l hl n js _) ?_
   rw [if_pos h, List.filter_cons, if_pos (show tstN w d l n j = true from decide_eq_true h)]
   simp
  ·refine Ev.val (ndl_ev w d hw1 hw hd l hl n js _) ?_
   rw [if_neg h, List.filter_cons, if_neg (show ¬ tstN w d l n j = true from fun h2 => h (of_decide_eq_true h2))]
theorem ndlSpec_l0 (w d : Nat) (hw1 : 1 ≤ w) (hw : w ≤ 6) (hd : 2 ≤ d ∧ d ≤ 10) (l : List S35) (hl : okH w l) (n : Nat) : ∀ (e i : Nat) (acc : List Int), i + e = l.length → acc.length ≤ i →
  Ev (fun K => spec_NeedlessHints.l0 K l acc (allC w d) (n : Int) (l.length : Int) i) (acc ++ (((List.range l.length).drop i).filter (tstN w d l n)).map (fun (i : Nat) => (i : Int)), true) := by
 have hp := pow_lock hw hd.1 hd.2
 have hL := hl.1
 intro e
 induction e with
 | zero =>
  intro i acc hi ha
  refine Ev.step (fun k => by rw [spec_NeedlessHints.l0]) ?_
  refine Ev.neg (by omega) (Ev.val (Ev.now _) ?_)
  rw [List.drop_eq_nil_of_le (by simp; omega)]
  simp
 | succ e ih =>
  intro i acc hi ha
  have h1 : i < l.length := by omega
  have hE : l.take i ++ l.drop (i + 1) = l.eraseIdx i := (List.eraseIdx_eq_take_drop_succ l i).symm
  refine Ev.step (fun k => by rw [spec_NeedlessHints.l0]) ?_
  refine Ev.pos (by omega) (Ev.let_ rfl (Ev.pos (by omega) (Ev.pos (by omega) (Ev.let_ rfl (Ev.pos (by simp; omega) (Ev.let_ rfl ?_))))))
  rw [w64n (by omega)]
  refine Ev.pos (by omega) (Ev.pos (by omega) (Ev.let_ rfl (Ev.pos (by simp; omega) ?_)))
  simp only [Int.toNat_natCast, List.nil_append]
  rw [hE]
  refine Ev.bind (hiFitting_ev w _ (okH_erase hl i) _ (by rw [allC_length]; omega) (fun c hc => by obtain ⟨n, _, rfl⟩ := allC_mem hc; exact codeT_size w d n)) ?_
  rw [List.drop_eq_getElem_cons (by simpa using h1), List.getElem_range, List.filter_cons]
  by_cases h : (fitC w d (l.eraseIdx i)).length = n
  ·rw [if_pos (show tstN w d l n i = true from decide_eq_true h)]
   refine Ev.pos (by unfold fitC at h; omega) (Ev.pos (by omega) (Ev.val (ih (i + 1) _ (by omega) (by simp; omega)) ?_))
   simp
  ·rw [if_neg (show ¬ tstN w d l n i = true from fun h2 => h (of_decide_eq_true h2))]
   exact Ev.neg (by unfold fitC at h; omega) (ih (i + 1) _ (by omega) (by omega))
def ndlV (a b : Int) (l : List S35) : List Int × Bool := if smallB a b 1000 = true ∧ hintsB a b l = true then (((List.range l.length).filter (tstN a.toNat b.toNat l (fitC a.toNat b.toNat l).length)).map (fun (i : Nat) => (i : Int)), true) else ([], false)
theorem ndlV_length (a b : Int) (l : List S35) : (ndlV a b l).1.length ≤ l.length := by
 unfold ndlV
 split
 ·have := List.length_filter_le (tstN a.toNat b.toNat l (fitC a.toNat b.toNat l).length) (List.range l.length)
  simpa using this
 ·simp
theorem implNdl_ev (a b : Int) (l : List S35) (hl : l.length < 1000000000) (hx : ∀ x ∈ l, x.f0.size < 9223372036854775808) : Ev (fun K => impl_NeedlessHints.f K a b l) (ndlV a b l) := by
 unfold impl_NeedlessHints.f
 refine Ev.bind (implAreHints_ev a b l hl hx) ?_
 by_cases h : smallB a b 1000 = true ∧ hintsB a b l = true
 ·have hk := small_lock h.1
  have ho := okH_of hk h.2
  obtain ⟨w, d, rfl, rfl, h3, h4, h5, h6⟩ := lock_nat hk
  rw [Int.toNat_natCast] at ho
  refine Ev.pos (by rw [h.1, h.2]; rfl) (Ev.pos ho.1 (Ev.bind (fitting_ev w d h3 h4 ⟨h5, h6⟩ l ho) ?_))
  obtain ⟨K, hK⟩ := ndl_ev w d h3 h4 ⟨h5, h6⟩ l ho (fitC w d l).length (List.range l.length) []
  refine ⟨K, fun k hk => ?_⟩
  show (foldO (ndlF k w d l (fitC w d l).length) [] (List.range l.length)).map _ = _
  rw [show foldO (ndlF k w d l (fitC w d l).length) [] (List.range l.length) = _ from hK k hk]
  unfold ndlV
  rw [if_pos h]
  simp only [Int.toNat_natCast, List.nil_append, Option.map_some]
 ·refine Ev.neg (by rw [Bool.and_eq_true]; exact h) (Ev.val (Ev.now _) ?_)
  unfold ndlV
  rw [if_neg h]
theorem specNdl_ev (a b : Int) (l : List S35) (hx : ∀ x ∈ l, x.f0.size < 9223372036854775808) : Ev (fun K => spec_NeedlessHints.f K a b l) (ndlV a b l) := by
 unfold spec_NeedlessHints.f
 refine Ev.bind (hiAsked_ev a b l hx) ?_
 by_cases h : smallB a b 1000 = true ∧ hintsB a b l = true
 ·have hk := small_lock h.1
  have ho := okH_of hk h.2
  obtain ⟨w, d, rfl, rfl, h3, h4, h5, h6⟩ := lock_nat hk
  rw [Int.toNat_natCast] at ho
  have hp := pow_lock h4 h5 h6
  refine Ev.pos (by rw [h.1, h.2]; rfl) (Ev.bind (hiAll_ev w d h3 h4 ⟨h5, h6⟩) (Ev.bind (hiFitting_ev w l ho _ (by rw [allC_length]; omega) (fun c hc => by obtain ⟨n, _, rfl⟩ := allC_mem hc; exact codeT_size w d n)) ?_))
  have := ndlSpec_l0 w d h3 h4 ⟨h5, h6⟩ l ho (fitC w d l).length l.length 0 [] (by omega) (by simp)
  refine Ev.val this ?_
  unfold ndlV
  rw [if_pos h]
  simp only [Int.toNat_natCast, List.nil_append, List.drop_zero]
 ·refine Ev.neg (by rw [Bool.and_eq_true]; exact h) (Ev.val (Ev.now _) ?_)
  unfold ndlV
  rw [if_neg h]
end Go.Proofs.YtcpnmiempaofdaaGreat.Pure
