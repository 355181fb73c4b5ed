import Derived.Test.YtcpnmiempaofdaaGreatHintC0
namespace Go.Proofs.YtcpnmiempaofdaaGreat.Pure
open Go.RowKit Go.Proofs.YtcpnmiempaofdaaGreat.G Go.Proofs.YtcpnmiempaofdaaGreatW.PrintWords Go.Proofs.YtcpnmiempaofdaaGreatW.PrintLast Go.Proofs.YtcpnmiempaofdaaGreatW.PrintMore
set_option linter.unusedVariables false
def toldB (a p o : Int) : Bool := decide ((0 ≤ p ∧ p ≤ a) ∧ 0 ≤ o ∧ o ≤ a - p)
theorem isTold_some (a b p o : Int) (ha : 0 ≤ a ∧ a ≤ 6) : impl_Lock_isTold.f a b p o = some (toldB a p o) := by
 unfold impl_Lock_isTold.f toldB
 rw [within_some]
 simp only [Option.bind_some]
 by_cases h : 0 ≤ p ∧ p ≤ a
 ·rw [if_pos (decide_eq_true h), w64 (by omega) (by omega), within_some]
  simp only [Option.bind_some]
  congr 1
  exact decide_eq_decide.mpr (by omega)
 ·rw [if_neg (by rw [decide_eq_false h]; decide)]
  congr 1
  exact (decide_eq_false (fun hc => h hc.1)).symm
theorem hiTold_some (a b p o : Int) (ha : 0 ≤ a ∧ a ≤ 6) : spec_hiTold.f a b p o = some (toldB a p o) := by
 unfold spec_hiTold.f toldB
 rw [l1In_some]
 simp only [Option.bind_some]
 by_cases h : 0 ≤ p ∧ p ≤ a
 ·rw [if_pos (decide_eq_true h), w64 (by omega) (by omega), l1In_some]
  simp only [Option.bind_some]
  congr 1
  exact decide_eq_decide.mpr (by omega)
 ·rw [if_neg (by rw [decide_eq_false h]; decide)]
  congr 1
  exact (decide_eq_false (fun hc => h hc.1)).symm
def hintB (a b : Int) (x : S35) : Bool := codeB a b x.f0 && toldB a x.f1 x.f2
def hintsB (a b : Int) (l : List S35) : Bool := decide (l.length ≤ 10) && l.all (hintB a b)
theorem areHints1_ev (a b : Int) (h : lockB a b = true) (x : S35) (hx : x.f0.size < 9223372036854775808) : Ev (fun K => areHints1 K a b x) (!hintB a b x) := by
 have hl := lockB_iff.mp h
 unfold areHints1 hintB
 refine Ev.bind (isCode_ev a b hl.2 x.f0 hx) ?_
 by_cases hc : codeB a b x.f0 = true
 ·rw [hc, Bool.true_and]
  exact Ev.pos rfl (Ev.eq (fun _ => by rw [isTold_some a b _ _ (by omega)]; rfl))
 ·rw [Bool.eq_false_iff.mpr hc, Bool.false_and]
  exact Ev.neg (by decide) (Ev.now _)
theorem implAreHints_ev (a b : Int) (l : List S35) (hl : l.length < 1000000000) (hx : ∀ x ∈ l, x.f0.size < 9223372036854775808) : Ev (fun K => impl_areHints.f K a b l) (smallB a b 1000 && hintsB a b l) := by
 unfold impl_areHints.f
 refine Ev.pos (by omega) ?_
 have h0 := isHinted_ev a b [] (by simp) (by simp)
 rw [List.all_nil, Bool.and_true] at h0
 refine Ev.bind h0 ?_
 by_cases h : smallB a b 1000 = true
 ·rw [h, Bool.true_and]
  refine Ev.pos rfl ?_
  unfold hintsB
  by_cases hL : l.length ≤ 10
  ·rw [decide_eq_true hL, Bool.true_and]
   refine Ev.pos hL ?_
   have h1 := anyO_ev (p := fun K => areHints1 K a b) (q := fun x => !hintB a b x) l (fun x hx' => areHints1_ev a b (small_lock h) x (hx x hx'))
   refine Ev.congr (f := fun K => (anyO (areHints1 K a b) l).bind fun b => some (!b)) (fun K => by rw [Option.map_eq_bind]; rfl) (Ev.bind h1 (Ev.val (Ev.now _) ?_))
   rw [← List.all_eq_not_any_not]
  ·rw [decide_eq_false hL, Bool.false_and]
   exact Ev.neg hL (Ev.now _)
 ·rw [Bool.eq_false_iff.mpr h, Bool.false_and]
  exact Ev.neg (by decide) (Ev.now _)
theorem hiGood_l0 (a b : Int) (h : lockB a b = true) (l : List S35) (hn : l.length ≤ 10) (hx : ∀ x ∈ l, x.f0.size < 9223372036854775808) : ∀ (d i : Nat), i + d = l.length → Ev (fun K => spec_hiGood.l0 K l (l.length : Int) i a b) ((l.drop i).all (hintB a b)) := by
 have hl := lockB_iff.mp h
 intro d
 induction d with
 | zero =>
  intro i hi
  refine Ev.step (fun k => by rw [spec_hiGood.l0]) ?_
  refine Ev.neg (by omega) (Ev.val (Ev.now _) ?_)
  rw [List.drop_eq_nil_of_le (by omega)]
  rfl
 | succ d ih =>
  intro i hi
  have h1 : i < l.length := by omega
  have hr : rd_T35 l (i : Int) = l[i] := by simp [rd_T35, List.getD, h1]
  refine Ev.step (fun k => by rw [spec_hiGood.l0]) ?_
  refine Ev.pos (by omega) (Ev.pos (by omega) (Ev.pos (by omega) ?_))
  rw [hr, w64n (by omega), List.drop_eq_getElem_cons h1, List.all_cons]
  refine Ev.bind (whCode_ev a b hl.2 _ (hx _ (List.getElem_mem h1))) ?_
  unfold hintB
  by_cases hc : codeB a b l[i].f0 = true
  ·rw [hc, Bool.true_and]
   refine Ev.pos rfl (Ev.let_ (hiTold_some a b _ _ (by omega)) ?_)
   by_cases ht : toldB a l[i].f1 l[i].f2 = true
   ·rw [ht, Bool.true_and]
    exact Ev.pos rfl (ih (i + 1) (by omega))
   ·rw [Bool.eq_false_iff.mpr ht, Bool.false_and]
    exact Ev.neg (by decide) (Ev.now _)
  ·rw [Bool.eq_false_iff.mpr hc, Bool.false_and, Bool.false_and]
   exact Ev.neg (by decide) (Ev.now _)
theorem hiGood_ev (a b : Int) (h : lockB a b = true) (l : List S35) (hx : ∀ x ∈ l, x.f0.size < 9223372036854775808) : Ev (fun K => spec_hiGood.f K a b l) (hintsB a b l) := by
 unfold spec_hiGood.f hintsB
 by_cases hL : l.length ≤ 10
 ·rw [decide_eq_true hL, Bool.true_and]
  refine Ev.neg (by omega) ?_
  have := hiGood_l0 a b h l hL hx l.length 0 (by omega)
  simpa using this
 ·rw [decide_eq_false hL, Bool.false_and]
  exact Ev.pos (by omega) (Ev.now _)
theorem hiAsked_ev (a b : Int) (l : List S35) (hx : ∀ x ∈ l, x.f0.size < 9223372036854775808) : Ev (fun K => spec_hiAsked.f K a b l) (smallB a b 1000 && hintsB a b l) := by
 unfold spec_hiAsked.f
 refine Ev.bind (hiLock_ev a b 1000) ?_
 by_cases h : smallB a b 1000 = true
 ·rw [h, Bool.true_and]
  exact Ev.pos rfl (Ev.bind (hiGood_ev a b (small_lock h) l hx) (Ev.now _))
 ·rw [Bool.eq_false_iff.mpr h, Bool.false_and]
  exact Ev.neg (by decide) (Ev.now _)
theorem okH_of {a b : Int} {l : List S35} (h : lockB a b = true) (hl : hintsB a b l = true) : okH a.toNat l := by
 unfold hintsB at hl
 rw [Bool.and_eq_true, decide_eq_true_iff, List.all_eq_true] at hl
 refine ⟨by omega, fun x hx => ?_⟩
 have := hl.2 x hx
 unfold hintB at this
 rw [Bool.and_eq_true] at this
 have h2 := (codeB_iff.mp this.1).1
 exact ⟨digs_code h this.1, by omega⟩
end Go.Proofs.YtcpnmiempaofdaaGreat.Pure
