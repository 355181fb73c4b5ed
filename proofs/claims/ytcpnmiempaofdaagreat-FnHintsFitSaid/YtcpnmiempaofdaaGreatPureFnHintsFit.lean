/- Hints that fit: hints told both ways are one another's, tables part the codes that fit, a hint less leaves no fewer, best guesses leave the fewest, at drawn inputs; no condition beyond the law's own. -/
import Derived.Test.YtcpnmiempaofdaaGreatGx17
import Derived.Test.YtcpnmiempaofdaaGreatHintF
import Derived.Test.YtcpnmiempaofdaaGreatHintM
import Derived.Test.YtcpnmiempaofdaaGreatHintK
import Derived.Test.YtcpnmiempaofdaaGreatVNdl
import Derived.Test.YtcpnmiempaofdaaGreatVHintOf
import Derived.Test.YtcpnmiempaofdaaGreatVFitsHints
import Derived.Test.YtcpnmiempaofdaaGreatVAreHints
import Derived.Test.YtcpnmiempaofdaaGreatVCountFitting
import Derived.Test.YtcpnmiempaofdaaGreatVFittingCodes
import Derived.Test.YtcpnmiempaofdaaGreatVWorstOfGuess
import Derived.Test.YtcpnmiempaofdaaGreatCurI
namespace Go.Proofs.YtcpnmiempaofdaaGreat.Pure
open Go.RowKit Go.Proofs.YtcpnmiempaofdaaGreat.G Go.Proofs.YtcpnmiempaofdaaGreatW.PrintWords Go.Proofs.YtcpnmiempaofdaaGreatW.PrintLast Go.Proofs.YtcpnmiempaofdaaGreatW.PrintMore
set_option linter.unusedVariables false
theorem eHas_ev (xs : List Int) (hn : xs.length < 9223372036854775808) (x : Int) : Ev (fun k => laws_eHas.f k xs x) (decide (x ∈ xs)) := by
 have key : ∀ (d i : Nat), i + d = xs.length → Ev (fun k => laws_eHas.l0 k x xs (xs.length : Int) (i : Int)) (decide (x ∈ xs.drop i)) := by
  intro d
  induction d with
  | zero =>
   intro i hi
   refine Ev.step (fun k => by rw [laws_eHas.l0]) ?_
   rw [List.drop_eq_nil_of_le (by omega)]
   exact Ev.neg (by omega) (Ev.val (Ev.now _) (by simp))
  | succ d ih =>
   intro i hi
   have h1 : i < xs.length := by omega
   have h2 := ih (i + 1) (by omega)
   refine Ev.step (fun k => by rw [laws_eHas.l0]) ?_
   rw [rd_nat h1, w64n (by omega), List.drop_eq_getElem_cons h1]
   refine Ev.pos (by omega) (Ev.pos (by omega) (Ev.pos (by omega) ?_))
   by_cases h : xs[i] = x
   ·exact Ev.pos h (Ev.val (Ev.now _) (by simp [h]))
   ·exact Ev.neg h (Ev.val h2 (decide_eq_decide.mpr ⟨fun hm => List.mem_cons_of_mem _ hm, fun hm => (List.mem_cons.mp hm).resolve_left (fun e => h e.symm)⟩))
 have := key xs.length 0 (by omega)
 unfold laws_eHas.f
 simpa using this
theorem eText_ev (xs : List ByteArray) (hn : xs.length < 9223372036854775808) (x : ByteArray) : Ev (fun k => laws_eText.f k xs x) (xs.any (fun y => decide (y.toList = x.toList))) := by
 have hg : ∀ (i : Nat) (h : i < xs.length), rdOf ByteArray.empty xs (i : Int) = xs[i] := fun i h => by unfold rdOf; simp [h]
 have key : ∀ (d i : Nat), i + d = xs.length → Ev (fun k => laws_eText.l0 k x xs (xs.length : Int) (i : Int)) ((xs.drop i).any (fun y => decide (y.toList = x.toList))) := by
  intro d
  induction d with
  | zero =>
   intro i hi
   refine Ev.step (fun k => by rw [laws_eText.l0]) ?_
   rw [List.drop_eq_nil_of_le (by omega)]
   exact Ev.neg (by omega) (Ev.val (Ev.now _) (by simp))
  | succ d ih =>
   intro i hi
   have h1 : i < xs.length := by omega
   have h2 := ih (i + 1) (by omega)
   refine Ev.step (fun k => by rw [laws_eText.l0]) ?_
   rw [hg i h1, w64n (by omega), List.drop_eq_getElem_cons h1, List.any_cons]
   refine Ev.pos (by omega) (Ev.pos (by omega) (Ev.pos (by omega) ?_))
   by_cases h : xs[i].toList = x.toList
   ·rw [decide_eq_true h, Bool.true_or]
    exact Ev.pos h (Ev.now _)
   ·rw [decide_eq_false h, Bool.false_or]
    exact Ev.neg h h2
 have := key xs.length 0 (by omega)
 unfold laws_eText.f
 simpa using this
theorem ffa_len (w d : Nat) (l : List S35) : (fitC w d l).length ≤ d ^ w := by
 have h := List.length_filter_le (fitsB l) (allC w d)
 rw [allC_length] at h
 exact h
theorem ffa_j8 (a b : Int) (l : List S35) (hl : l.length < 1000000000) (hx : ∀ x ∈ l, x.f0.size < 9223372036854775808) :
  Ev (fun K => laws_FnHintsFit.j7 K l (countFitV a b l).1 (bestV a b l).1 (bestV a b l).2.1 (bestV a b l).2.2 a b) true := by
 refine Ev.step (fun k => by rw [laws_FnHintsFit.j7]) ?_
 by_cases h : (smallB a b 256 = true ∧ hintsB a b l = true) ∧ (fitC a.toNat b.toNat l).length ≠ 0
 ·have eb : bestV a b l = ((bestL a.toNat b.toNat (fitC a.toNat b.toNat l) (b.toNat ^ a.toNat)).1, (bestL a.toNat b.toNat (fitC a.toNat b.toNat l) (b.toNat ^ a.toNat)).2, true) := by
   unfold bestV
   rw [if_pos h]
  have ec : countFitV a b l = (((fitC a.toNat b.toNat l).length : Int), true) := by
   unfold countFitV
   rw [if_pos ⟨small_up h.1.1, h.1.2⟩]
  obtain ⟨w, d, rfl, rfl, h3, h4, h5, h6⟩ := lock_nat (small_lock h.1.1)
  simp only [Int.toNat_natCast] at eb ec h
  have hpw : 0 < d ^ w := Nat.pow_pos (by omega)
  obtain ⟨i, hi, e1, e2⟩ := bestL_is w d (fitC w d l) (ffa_len w d l) (d ^ w - 1)
  rw [show d ^ w - 1 + 1 = d ^ w by omega] at e1 e2
  have hw := implWorstG_ev w d l (codeT w d i) hl hx (by rw [codeT_size]; omega)
  have ew : worstGV w d l (codeT w d i) = (worstV w (codeT w d i) (fitC w d l), true) := by
   unfold worstGV
   rw [if_pos ⟨⟨small_up h.1.1, h.1.2⟩, codeT_code w d i h4 ⟨h5, h6⟩⟩]
   simp only [Int.toNat_natCast]
  rw [ew] at hw
  rw [e1, e2] at eb
  rw [eb, ec]
  exact Ev.pos rfl (Ev.bind hw (Ev.pos rfl (Ev.pos rfl (Ev.neg (by simp only []; omega) (Ev.now _)))))
 ·have eb : bestV a b l = (⟨#[]⟩, 0, false) := by
   unfold bestV
   rw [if_neg h]
  rw [eb]
  exact Ev.neg (by simp) (Ev.now _)
theorem take_next {α : Type} (xs : List α) (i : Nat) (h : i < xs.length) : xs.take (i + 1) = xs.take i ++ [xs[i]] := by rw [List.take_add_one, List.getElem?_eq_getElem h]; rfl
theorem ffa_l1 (w d : Nat) (h3 : 1 ≤ w) (h4 : w ≤ 6) (hd : 2 ≤ d ∧ d ≤ 10) (hsm : smallB w d 1000 = true) (l : List S35) (hx : ∀ x ∈ l, x.f0.size < 9223372036854775808) (hB : hintsB w d l = true) (g : ByteArray) (hg : codeB w d g = true) (hl : l.length ≤ 10)
  (be : ByteArray) (le : Int) (nine : Bool) (hle : nine = true → le ≤ worstV w g (fitC w d l))
  (hj : Ev (fun K => laws_FnHintsFit.j7 K l ((fitC w d l).length : Int) be le nine w d) true) :
  ∀ (j i : Nat), i + j = (tabQ w g (fitC w d l)).length → Ev (fun K => laws_FnHintsFit.l1 K l g (tabV w g (fitC w d l)) (worstV w g (fitC w d l)) (fitC w d l) ((fitC w d l).length : Int) be le nine (fitsB l g)
   (sumL (((tabQ w g (fitC w d l)).take i).map (partsF w g (fitC w d l)))) ((((tabQ w g (fitC w d l)).take i).map (partsF w g (fitC w d l))).foldl max 0) (tabV w g (fitC w d l)) ((tabV w g (fitC w d l)).length : Int) (i : Int) w d) true := by
 have hgs : digsB g ∧ g.size = w := ⟨digs_code (lockB_iff.mpr ⟨by omega, by omega⟩) hg, by have := (codeB_iff.mp hg).1; omega⟩
 have hsum := tabQ_sum w h4 g hgs (fitC w d l)
 have hmost := tabQ_most w g (fitC w d l)
 have hrise := tabQ_rise w g (fitC w d l)
 have hmem : ∀ q ∈ tabQ w g (fitC w d l), 0 < partsF w g (fitC w d l) q := fun q hq => (tabQ_mem hq).2
 have hmem1 : ∀ q ∈ tabQ w g (fitC w d l), q < (w + 1) * (w + 1) := fun q hq => (tabQ_mem hq).1
 have hM : (w + 1) * (w + 1) ≤ 49 := Nat.mul_le_mul (show w + 1 ≤ 7 by omega) (show w + 1 ≤ 7 by omega)
 have hQl : (tabQ w g (fitC w d l)).length ≤ 49 := by
  have := List.length_filter_le (fun q => decide (0 < partsF w g (fitC w d l) q)) (List.range ((w + 1) * (w + 1)))
  rw [List.length_range] at this
  unfold tabQ
  omega
 have hin : (fitC w d l).any (fun y => decide (y.toList = g.toList)) = fitsB l g := by
  rw [Bool.eq_iff_iff, List.any_eq_true]
  constructor
  ·rintro ⟨y, hy, e⟩
   rw [toL_inj (of_decide_eq_true e)] at hy
   unfold fitC at hy
   exact (List.mem_filter.mp hy).2
  ·intro h
   exact ⟨g, List.mem_filter.mpr ⟨code_all w d h3 h4 hd hg, h⟩, decide_eq_true rfl⟩
 have hcl := ffa_len w d l
 have h1000 : d ^ w ≤ 1000000 := pow_lock h4 hd.1 hd.2
 have hpn := parts_nonneg w g (fitC w d l)
 have hbnd : ∀ q, partsF w g (fitC w d l) q ≤ ((fitC w d l).length : Int) := fun q => by
  unfold partsF
  have := List.length_filter_le (fun s => decide (ixW w g s = q)) (fitC w d l)
  omega
 have hone : ∀ q, q ∈ tabQ w g (fitC w d l) → l.length < 10 → Ev (fun K => impl_CountFitting.f K w d (l ++ [⟨g, ((q / (w + 1) : Nat) : Int), ((q % (w + 1) : Nat) : Int)⟩])) (partsF w g (fitC w d l) q, true) := by
  intro q hq h10
  have hB' := hintsB_snoc hB h10 hg (told_of w d h4 (fitC w d l) g hgs q (hmem q hq))
  have hc := implCountFit_ev w d (l ++ [⟨g, ((q / (w + 1) : Nat) : Int), ((q % (w + 1) : Nat) : Int)⟩]) (by simp; omega) (fun x hx' => by
   rcases List.mem_append.mp hx' with hx' | hx'
   ·exact hx x hx'
   ·rw [List.mem_singleton] at hx'
    subst hx'
    show g.size < _
    omega)
  refine Ev.val hc ?_
  unfold countFitV
  rw [if_pos ⟨hsm, hB'⟩]
  simp only [Int.toNat_natCast]
  rw [fitC_snoc w d h4 l g hgs q]
 rw [tabV_Q]
 generalize tabQ w g (fitC w d l) = Q at hsum hmost hrise hmem hmem1 hQl hone
 generalize hF : partsF w g (fitC w d l) = F at hsum hmost hmem hpn hbnd hone
 have hpre : ∀ i, 0 ≤ sumL ((Q.take i).map F) := by
  intro i
  have : ∀ ys : List Nat, 0 ≤ sumL (ys.map F) := by
   intro ys
   induction ys with
   | nil => simp [sumL]
   | cons y ys ih => have := hpn y; simp only [List.map_cons, sumL]; omega
  exact this _
 have hup : ∀ i, i ≤ Q.length → sumL ((Q.take i).map F) ≤ (i : Int) * 1000000 := by
  intro i
  induction i with
  | zero => intro _; simp [sumL]
  | succ i ih =>
   intro hi
   have h1 := ih (by omega)
   have h2 := hbnd Q[i]
   rw [take_next Q i (by omega), List.map_append, sumL_app]
   simp only [List.map_cons, List.map_nil, sumL]
   omega
 intro j
 induction j with
 | zero =>
  intro i hi
  have e : Q.take i = Q := List.take_of_length_le (by omega)
  rw [e, hsum, hmost]
  refine Ev.step (fun k => by rw [laws_FnHintsFit.l1]) ?_
  rw [List.length_map]
  refine Ev.neg (by omega) (Ev.pos rfl (Ev.pos rfl (Ev.bind (eText_ev (fitC w d l) (by omega) g) (Ev.neg ?_ ?_))))
  ·rw [hin]
   simp
  ·by_cases hn : nine = true
   ·exact Ev.pos hn (Ev.neg (by have := hle hn; omega) hj)
   ·exact Ev.neg hn hj
 | succ j ih =>
  intro i hi
  have h1 : i < Q.length := by omega
  have hq : Q[i] ∈ Q := List.getElem_mem h1
  have hF0 := hmem Q[i] hq
  have hFb := hbnd Q[i]
  have hs0 := hpre i
  have hs1 := hup i (by omega)
  have hnext := ih (i + 1) (by omega)
  rw [take_next Q i h1, List.map_append, List.foldl_append, sumL_app] at hnext
  simp only [List.map_cons, List.map_nil, sumL, List.foldl_cons, List.foldl_nil] at hnext
  rw [show F Q[i] + 0 = F Q[i] by omega] at hnext
  have hro : rd_L7 (Q.map (rowW w F)) (i : Int) = rowW w F Q[i] := by
   rw [rdRows_nat (by rw [List.length_map]; exact h1), List.getElem_map]
  have r0 : ∀ q, rd (rowW w F q) 0 = ((q / (w + 1) : Nat) : Int) := fun _ => rfl
  have r1 : ∀ q, rd (rowW w F q) 1 = ((q % (w + 1) : Nat) : Int) := fun _ => rfl
  have r2 : ∀ q, rd (rowW w F q) 2 = F q := fun _ => rfl
  have rl : ∀ q, (rowW w F q).length = 3 := fun _ => rfl
  generalize hS : sumL ((Q.take i).map F) = S at hnext hs0 hs1
  generalize hMx : ((Q.take i).map F).foldl max 0 = M at hnext
  have hj7 : ∀ most : Int, most = max M (F Q[i]) → Ev (fun K => laws_FnHintsFit.j6 K l g (Q.map (rowW w F)) (worstV w g (fitC w d l)) (fitC w d l) ((fitC w d l).length : Int) be le nine (fitsB l g) (S + F Q[i]) most (rowW w F Q[i]) (Q.map (rowW w F)) ((Q.map (rowW w F)).length : Int) (i : Int) w d) true := by
   intro most hm
   subst hm
   refine Ev.step (fun k => by rw [laws_FnHintsFit.j6]) ?_
   rw [w64n (by omega)]
   by_cases h10 : (l.length : Int) < 10
   ·refine Ev.pos h10 (Ev.let_ rfl (Ev.pos (by simp only [List.length_nil]; omega) (Ev.let_ rfl ?_)))
    rw [r0, r1, r2, rl]
    refine Ev.pos (by decide) (Ev.pos (by decide) (Ev.let_ rfl (Ev.pos (by simp; omega) ?_)))
    rw [List.nil_append]
    exact Ev.bind (hone Q[i] hq (by omega)) (Ev.pos rfl (Ev.pos (by decide) (Ev.pos rfl hnext)))
   ·exact Ev.neg h10 hnext
  have hj6 : Ev (fun K => laws_FnHintsFit.j5 K l g (Q.map (rowW w F)) (worstV w g (fitC w d l)) (fitC w d l) ((fitC w d l).length : Int) be le nine (fitsB l g) S M (rowW w F Q[i]) (Q.map (rowW w F)) ((Q.map (rowW w F)).length : Int) (i : Int) false w d) true := by
   refine Ev.step (fun k => by rw [laws_FnHintsFit.j5]) ?_
   rw [r2, rl, w64 (x := S + F Q[i]) (by omega) (by omega)]
   refine Ev.neg (by decide) (Ev.pos (by decide) ?_)
   by_cases hmx : F Q[i] > M
   ·exact Ev.pos hmx (hj7 _ (by omega))
   ·exact Ev.neg hmx (hj7 _ (by omega))
  refine Ev.step (fun k => by rw [laws_FnHintsFit.l1]) ?_
  rw [hro, r0, r1, r2, rl]
  refine Ev.pos (by rw [List.length_map]; omega) (Ev.pos (by omega) (Ev.pos (by rw [List.length_map]; omega) (Ev.pos (by decide) (Ev.pos (by decide) (Ev.neg (by omega) ?_)))))
  by_cases h0 : (i : Int) > 0
  ·obtain ⟨p, rfl⟩ : ∃ p, i = p + 1 := ⟨i - 1, by omega⟩
   have e1 : wrap64 (((p + 1 : Nat) : Int) - 1) = (p : Int) := by rw [w64 (by omega) (by omega)]; omega
   have hrp : rd_L7 (Q.map (rowW w F)) (p : Int) = rowW w F (Q[p]'(by omega)) := by
    rw [rdRows_nat (by rw [List.length_map]; omega), List.getElem_map]
   have hlt : Q[p]'(by omega) < Q[p + 1] := List.pairwise_iff_getElem.mp hrise p (p + 1) (by omega) h1 (by omega)
   have ho := row_order w _ _ hlt
   rw [e1, hrp, r0, r1, rl]
   refine Ev.pos h0 (Ev.pos (by omega) (Ev.pos (by rw [List.length_map]; omega) (Ev.pos (by decide) (Ev.pos (by decide) (Ev.neg (by omega) ?_)))))
   by_cases he : ((Q[p]'(by omega) / (w + 1) : Nat) : Int) = ((Q[p + 1] / (w + 1) : Nat) : Int)
   ·refine Ev.pos he (Ev.pos (by decide) (Ev.pos (by decide) ?_))
    rw [decide_eq_false (by omega)]
    exact hj6
   ·exact Ev.neg he hj6
  ·exact Ev.neg h0 hj6
theorem ffa_l0 (w d : Nat) (hsm : smallB w d 1000 = true) (l : List S35) (hx : ∀ x ∈ l, x.f0.size < 9223372036854775808) (hB : hintsB w d l = true) (hl : l.length ≤ 10) (g : ByteArray) (T : List (List Int)) (one : Bool) (wo : Int) (be : ByteArray) (le : Int) (nine fi : Bool)
  (hj : Ev (fun K => laws_FnHintsFit.j3 K l g T one wo (fitC w d l) ((fitC w d l).length : Int) be le nine fi w d) true) :
  ∀ (j i : Nat), i + j = l.length → Ev (fun K => laws_FnHintsFit.l0 K l g T one wo (fitC w d l) ((fitC w d l).length : Int) be le nine fi (ndlV w d l).1 (l.length : Int) (i : Int) w d) true := by
 have en : (ndlV w d l).1 = ((List.range l.length).filter (tstN w d l (fitC w d l).length)).map (fun (i : Nat) => (i : Int)) := by
  unfold ndlV
  rw [if_pos ⟨hsm, hB⟩]
  simp only [Int.toNat_natCast]
 intro j
 induction j with
 | zero =>
  intro i hi
  refine Ev.step (fun k => by rw [laws_FnHintsFit.l0]) ?_
  exact Ev.neg (by omega) hj
 | succ j ih =>
  intro i hi
  have h1 : i < l.length := by omega
  have hc := implCountFit_ev w d (l.eraseIdx i) (by have := List.length_eraseIdx_le l i; omega) (fun x h => hx x (List.mem_of_mem_eraseIdx h))
  have ec : countFitV w d (l.eraseIdx i) = (((fitC w d (l.eraseIdx i)).length : Int), true) := by
   unfold countFitV
   rw [if_pos ⟨hsm, hintsB_erase hB i⟩]
   simp only [Int.toNat_natCast]
  rw [ec] at hc
  have hle := fitC_erase_le w d l i
  have hmem : decide ((i : Int) ∈ (ndlV w d l).1) = (((fitC w d (l.eraseIdx i)).length : Int) == ((fitC w d l).length : Int)) := by
   rw [en, Bool.eq_iff_iff, decide_eq_true_iff, beq_iff_eq, List.mem_map]
   constructor
   ·rintro ⟨q, hq, e⟩
    have e' : q = i := by omega
    subst e'
    have := of_decide_eq_true (show decide ((fitC w d (l.eraseIdx q)).length = (fitC w d l).length) = true from (List.mem_filter.mp hq).2)
    omega
   ·intro e
    refine ⟨i, List.mem_filter.mpr ⟨List.mem_range.mpr h1, ?_⟩, rfl⟩
    unfold tstN
    exact decide_eq_true (by omega)
  refine Ev.step (fun k => by rw [laws_FnHintsFit.l0]) ?_
  rw [w64n (by omega)]
  refine Ev.pos (by omega) (Ev.let_ rfl (Ev.pos (by omega) (Ev.pos (by omega) (Ev.let_ rfl (Ev.pos (by simp; omega) (Ev.let_ rfl (Ev.pos (by omega) (Ev.pos (by omega) (Ev.let_ rfl (Ev.pos (by simp; omega) ?_))))))))))
  have er : [] ++ l.take ((i : Int)).toNat ++ l.drop (((i + 1 : Nat) : Int)).toNat = l.eraseIdx i := by
   rw [List.nil_append, Int.toNat_natCast, Int.toNat_natCast, List.eraseIdx_eq_take_drop_succ]
  rw [er]
  refine Ev.bind hc (Ev.pos rfl (Ev.neg (by simp only []; omega) (Ev.bind (eHas_ev _ (by have := ndlV_length w d l; omega) (i : Int)) (Ev.neg ?_ (ih (i + 1) (by omega))))))
  rw [hmem]
  simp
theorem ffa_j1 (l1 : List Int) (a b : Int) (l : List S35) (g : ByteArray) (hd : Ev (fun K => spec_DrawHintTable.f K l1) (a, b, l, g)) (T : List (List Int)) (one : Bool) (wo : Int) (cs : List ByteArray) (five : Bool) (n : Int) (be : ByteArray) (le : Int) (nine fi : Bool) (nd : List Int) (are okA : Bool)
  (t1 : Ev (fun K => impl_HintTable.f K a b l g) (T, one)) (t2 : Ev (fun K => spec_HintTable.f K a b l g) (T, one))
  (w1 : Ev (fun K => impl_WorstOfGuess.f K a b l g) (wo, one)) (w2 : Ev (fun K => spec_WorstOfGuess.f K a b l g) (wo, one))
  (f1 : Ev (fun K => impl_FittingCodes.f K a b l) (cs, five)) (f2 : Ev (fun K => spec_FittingCodes.f K a b l) (cs, five))
  (c1 : Ev (fun K => impl_CountFitting.f K a b l) (n, five)) (c2 : Ev (fun K => spec_CountFitting.f K a b l) (n, five))
  (b1 : Ev (fun K => impl_BestGuess.f K a b l) (be, le, nine)) (b2 : Ev (fun K => spec_BestGuess.f K a b l) (be, le, nine))
  (m1 : Ev (fun K => impl_FitsHints.f K a b l g) (fi, one)) (m2 : Ev (fun K => spec_FitsHints.f K a b l g) (fi, one))
  (n1 : Ev (fun K => impl_NeedlessHints.f K a b l) (nd, five)) (n2 : Ev (fun K => spec_NeedlessHints.f K a b l) (nd, five))
  (a1 : Ev (fun K => impl_AreHints.f K a b l) (are, okA)) (a2 : Ev (fun K => spec_AreHints.f K a b l) (are, okA))
  (hT : T.length ≤ 49 ∧ ∀ x ∈ T, x.length = 3) (hcs : cs.length ≤ 1000000) (hnd : nd.length ≤ l.length) (hl : l.length ≤ 10000)
  (h5 : five = (okA && are)) (h1 : one = true → five = true)
  (hj : Ev (fun K => laws_FnHintsFit.j1 K l g T one wo cs five n be le nine fi nd false a b) true) : Ev (fun K => laws_FnHintsFit.j0 K l1) true := by
 refine Ev.step (fun k => by rw [laws_FnHintsFit.j0]) ?_
 refine Ev.bind hd ?_
 refine Ev.bind t1 (Ev.bind t2 (Ev.bind w1 (Ev.bind w2 (Ev.bind f1 (Ev.bind f2 (Ev.bind c1 (Ev.bind c2 (Ev.bind b1 (Ev.bind b2 (Ev.bind m1 (Ev.bind m2 (Ev.bind n1 (Ev.bind n2 (Ev.bind a1 (Ev.bind a2 ?_)))))))))))))))
 refine Ev.neg (by simp) (Ev.bind (eRows_ev T (by omega) (fun x hx => by have := hT.2 x hx; omega)) (Ev.pos rfl (Ev.neg (by simp) (Ev.pos rfl (Ev.neg (by simp) (Ev.bind (eTexts_ev cs (by omega)) (Ev.pos rfl (Ev.neg (by simp) (Ev.pos rfl (Ev.neg (by simp) (Ev.pos rfl (Ev.pos rfl (Ev.neg (by simp) (Ev.neg (by simp) (Ev.neg (by simp) (Ev.bind (eSame_ev nd (by omega)) (Ev.pos rfl (Ev.neg (by simp) (Ev.neg (by simp) ?_)))))))))))))))))))
 have hend : ∀ c : Bool, c = false → Ev (fun n_ => if one = true then laws_FnHintsFit.j1 n_ l g T one wo cs five n be le nine fi nd (!five) a b else laws_FnHintsFit.j1 n_ l g T one wo cs five n be le nine fi nd false a b) true := by
  intro _ _
  by_cases ho : one = true
  ·have e : (!five) = false := by rw [h1 ho]; rfl
   rw [e]
   exact Ev.pos ho hj
  ·exact Ev.neg ho hj
 cases okA with
 | true => exact Ev.pos rfl (Ev.neg (by rw [h5]; simp) (Ev.neg (by simp) (Ev.neg (by simp) (Ev.neg (by simp) (Ev.neg (by simp) (hend false rfl))))))
 | false => exact Ev.neg (by simp) (Ev.neg (by rw [h5]; simp) (Ev.neg (by simp) (Ev.neg (by simp) (Ev.neg (by simp) (Ev.neg (by simp) (hend false rfl))))))
theorem ffa_all (l1 : List Int) (a b : Int) (l : List S35) (g : ByteArray) (hd : Ev (fun K => spec_DrawHintTable.f K l1) (a, b, l, g)) (hl : l.length ≤ 10000) (hx : ∀ x ∈ l, x.f0.size < 9223372036854775808) (hg : g.size < 9223372036854775808) : Ev (fun K => laws_FnHintsFit.j0 K l1) true := by
 have t1 := implTab_ev a b l g (by omega) hx hg
 have t2 := specTab_ev a b l g hx hg
 have w1 := implWorstG_ev a b l g (by omega) hx hg
 have w2 := specWorstG_ev a b l g hx hg
 have f1 := implFit_ev a b l (by omega) hx
 have f2 := specFit2_ev a b l hx
 have c1 := implCountFit_ev a b l (by omega) hx
 have c2 := specCountFit_ev a b l hx
 have b1 := implBest_ev a b l (by omega) hx
 have b2 := specBest_ev a b l hx
 have m1 := implFitsHints_ev a b l g (by omega) hx hg
 have m2 := specFitsHints_ev a b l g hx hg
 have n1 := implNdl_ev a b l (by omega) hx
 have n2 := specNdl_ev a b l hx
 have a1 := implAreHintsX_ev a b l (by omega) hx
 have a2 := specAreHints_ev a b l hx
 have hT := tableV_rows a b l g
 have hcs := fitV_length a b l
 have hnd := ndlV_length a b l
 have h8 := ffa_j8 a b l (by omega) hx
 by_cases hA : smallB a b 1000 = true ∧ hintsB a b l = true
 ·have ef : fitV a b l = (fitC a.toNat b.toNat l, true) := by unfold fitV; rw [if_pos hA]
  have ec : countFitV a b l = (((fitC a.toNat b.toNat l).length : Int), true) := by unfold countFitV; rw [if_pos hA]
  have en2 : (ndlV a b l) = ((ndlV a b l).1, true) := by unfold ndlV; rw [if_pos hA]
  have ea : areHintsV a b l = (true, true) := by unfold areHintsV; rw [if_pos hA.1, hA.2]
  rw [ef] at f1 f2 hcs
  rw [ec] at c1 c2 h8
  rw [en2] at n1 n2
  rw [ea] at a1 a2
  have hl10 : l.length ≤ 10 := by
   have h := hA.2
   unfold hintsB at h
   rw [Bool.and_eq_true, decide_eq_true_iff] at h
   exact h.1
  obtain ⟨w, d, rfl, rfl, h3, h4, h5, h6⟩ := lock_nat (small_lock hA.1)
  simp only [Int.toNat_natCast] at *
  have hsd := fitC_sorted w d ⟨h5, h6⟩ l
  have hfin : ∀ (T : List (List Int)) (one : Bool) (wo : Int) (fi : Bool), Ev (fun K => laws_FnHintsFit.j3 K l g T one wo (fitC w d l) ((fitC w d l).length : Int) (bestV w d l).1 (bestV w d l).2.1 (bestV w d l).2.2 fi w d) true →
    Ev (fun K => laws_FnHintsFit.j1 K l g T one wo (fitC w d l) true ((fitC w d l).length : Int) (bestV w d l).1 (bestV w d l).2.1 (bestV w d l).2.2 fi (ndlV w d l).1 false w d) true := by
   intro T one wo fi h
   refine Ev.step (fun k => by rw [laws_FnHintsFit.j1]) ?_
   exact Ev.neg (by decide) (Ev.pos rfl (Ev.pos rfl (Ev.bind (eSorted_ev _ (by omega) hsd) (Ev.pos rfl (ffa_l0 w d hA.1 l hx hA.2 hl10 g T one wo _ _ _ fi h l.length 0 (by omega))))))
  by_cases hC : codeB w d g = true
  ·have et : tableV w d l g = (tabV w g (fitC w d l), true) := by unfold tableV; rw [if_pos ⟨hA, hC⟩]; simp only [Int.toNat_natCast]
   have ew : worstGV w d l g = (worstV w g (fitC w d l), true) := by unfold worstGV; rw [if_pos ⟨hA, hC⟩]; simp only [Int.toNat_natCast]
   have em : fitsHintsV w d l g = (fitsB l g, true) := by unfold fitsHintsV; rw [if_pos ⟨hA, hC⟩]
   rw [et] at t1 t2 hT
   rw [ew] at w1 w2
   rw [em] at m1 m2
   refine ffa_j1 l1 w d l g hd _ true _ _ true _ _ _ _ _ _ true true t1 t2 w1 w2 f1 f2 c1 c2 b1 b2 m1 m2 n1 n2 a1 a2 hT hcs hnd hl rfl (fun _ => rfl) (hfin _ _ _ _ ?_)
   refine Ev.step (fun k => by rw [laws_FnHintsFit.j3]) ?_
   have hgi := allC_mem (code_all w d h3 h4 ⟨h5, h6⟩ hC)
   have hle : (bestV w d l).2.2 = true → (bestV w d l).2.1 ≤ worstV w g (fitC w d l) := by
    intro hb
    unfold bestV at hb ⊢
    split at hb
    ·rename_i hh
     rw [if_pos hh]
     simp only [Int.toNat_natCast]
     obtain ⟨i, hi, rfl⟩ := hgi
     exact bestL_le w d (fitC w d l) (d ^ w) i hi
    ·exact absurd hb (by simp)
   exact Ev.pos rfl (ffa_l1 w d h3 h4 ⟨h5, h6⟩ hA.1 l hx hA.2 g hC hl10 _ _ _ hle h8 (tabQ w g (fitC w d l)).length 0 (by omega))
  ·have et : tableV w d l g = ([], false) := by unfold tableV; rw [if_neg (fun h => hC h.2)]
   have ew : worstGV w d l g = (0, false) := by unfold worstGV; rw [if_neg (fun h => hC h.2)]
   have em : fitsHintsV w d l g = (false, false) := by unfold fitsHintsV; rw [if_neg (fun h => hC h.2)]
   rw [et] at t1 t2 hT
   rw [ew] at w1 w2
   rw [em] at m1 m2
   refine ffa_j1 l1 w d l g hd _ false _ _ true _ _ _ _ _ _ true true t1 t2 w1 w2 f1 f2 c1 c2 b1 b2 m1 m2 n1 n2 a1 a2 hT hcs hnd hl rfl (fun _ => rfl) (hfin _ _ _ _ ?_)
   refine Ev.step (fun k => by rw [laws_FnHintsFit.j3]) ?_
   exact Ev.neg (by decide) h8
 ·have ef : fitV a b l = ([], false) := by unfold fitV; rw [if_neg hA]
  have ec : countFitV a b l = (0, false) := by unfold countFitV; rw [if_neg hA]
  have en2 : ndlV a b l = ([], false) := by unfold ndlV; rw [if_neg hA]
  have et : tableV a b l g = ([], false) := by unfold tableV; rw [if_neg (fun h => hA h.1)]
  have ew : worstGV a b l g = (0, false) := by unfold worstGV; rw [if_neg (fun h => hA h.1)]
  have em : fitsHintsV a b l g = (false, false) := by unfold fitsHintsV; rw [if_neg (fun h => hA h.1)]
  have ea : ((areHintsV a b l).2 && (areHintsV a b l).1) = false := by
   unfold areHintsV
   split
   ·rename_i h
    have : hintsB a b l = false := by
     rw [← Bool.not_eq_true]
     exact fun hh => hA ⟨h, hh⟩
    rw [this]
    rfl
   ·rfl
  rw [ef] at f1 f2 hcs
  rw [ec] at c1 c2 h8
  rw [en2] at n1 n2 hnd
  rw [et] at t1 t2 hT
  rw [ew] at w1 w2
  rw [em] at m1 m2
  refine ffa_j1 l1 a b l g hd _ false _ _ false _ _ _ _ _ _ _ _ t1 t2 w1 w2 f1 f2 c1 c2 b1 b2 m1 m2 n1 n2 a1 a2 hT hcs hnd hl ea.symm (fun h => absurd h (by decide)) ?_
  refine Ev.step (fun k => by rw [laws_FnHintsFit.j1]) ?_
  refine Ev.neg (by decide) (Ev.neg (by decide) (Ev.step (fun k => by rw [laws_FnHintsFit.j3]) ?_))
  exact Ev.neg (by decide) h8
theorem ffa_j0 (l0 l1 : List Int) (a b : Int) (g c : ByteArray) (hd : Ev (fun K => spec_DrawHintOf.f K l0) (a, b, g, c)) (hg : g.size < 9223372036854775808) (hc : c.size < 9223372036854775808)
  (hj : Ev (fun K => laws_FnHintsFit.j0 K l1) true) : Ev (fun K => laws_FnHintsFit.f K l0 l1) true := by
 have h1 := implHintOf_ev a b g c hg hc
 have h2 := specHintOf_ev a b g c hg hc
 unfold laws_FnHintsFit.f
 obtain ⟨t, ht⟩ : ∃ t, laws_big.f l0 l1 = some t := by unfold laws_big.f; split <;> exact ⟨_, rfl⟩
 refine Ev.let_ ht ?_
 by_cases hb : t = true
 ·exact Ev.pos hb (Ev.now _)
 refine Ev.neg hb (Ev.bind hd ?_)
 refine Ev.bind h1 (Ev.bind h2 (Ev.neg (by simp) (Ev.pos rfl (Ev.pos rfl ?_))))
 by_cases h : smallB a b 1000 = true ∧ codeB a b g = true ∧ codeB a b c = true
 ·have eh : hintOfV a b g c = ((hintV g c).1, (hintV g c).2, true) := by unfold hintOfV; rw [if_pos h]
  have hs := code_size h.2.1 h.2.2
  have er : hintOfV a b c g = ((hintV g c).1, (hintV g c).2, true) := by unfold hintOfV; rw [if_pos ⟨h.1, h.2.2, h.2.1⟩, hintV_comm c g hs.symm]
  have h3 := implHintOf_ev a b c g hc hg
  rw [er] at h3
  have hlk := small_lock h.1
  have hdg := digs_code hlk h.2.1
  have hdc := digs_code hlk h.2.2
  have hga := (codeB_iff.mp h.2.1).1
  have hbd := hint_bd g c hdg
  have hlk' := lockB_iff.mp hlk
  have hm := implFitsHints_ev a b [⟨g, (hintV g c).1, (hintV g c).2⟩] c (by simp) (fun x hx => by rw [List.mem_singleton] at hx; subst hx; exact hg) hc
  have hB : hintsB a b [⟨g, (hintV g c).1, (hintV g c).2⟩] = true := by
   unfold hintsB hintB toldB
   simp only [List.all_cons, List.all_nil, Bool.and_true, Bool.and_eq_true, decide_eq_true_iff, List.length_singleton]
   exact ⟨by omega, h.2.1, by omega⟩
  have em : fitsHintsV a b [⟨g, (hintV g c).1, (hintV g c).2⟩] c = (true, true) := by
   unfold fitsHintsV
   rw [if_pos ⟨⟨h.1, hB⟩, h.2.2⟩]
   unfold fitsB fitB
   simp
  rw [em] at hm
  rw [eh]
  have hfull := hint_full g c hs
  have hbut := hint_but1 g c hdc hs
  refine Ev.pos rfl (Ev.bind h3 (Ev.bind hm (Ev.pos rfl (Ev.pos rfl (Ev.pos rfl (Ev.neg ?_ (Ev.neg ?_ ?_)))))))
  ·simp only []
   rw [w64 (by omega) (by omega)]
   omega
  ·have e1 : ((hintV g c).1 == a) = (g.toList == c.toList) := by
    rw [Bool.eq_iff_iff, beq_iff_eq, beq_iff_eq, ← hga, hfull]
    exact ⟨fun e => by rw [e], toL_inj⟩
   simp only []
   rw [e1]
   simp
  ·simp only []
   rw [w64 (x := a - 1) (by omega) (by omega)]
   by_cases hp : (hintV g c).1 = a - 1
   ·exact Ev.pos hp (Ev.neg (hbut (by omega)) (Ev.pos trivial (Ev.pos trivial hj)))
   ·exact Ev.neg hp (Ev.pos trivial (Ev.pos trivial hj))
 ·have eh : hintOfV a b g c = (0, 0, false) := by unfold hintOfV; rw [if_neg h]
  rw [eh]
  exact Ev.neg (by simp) hj
theorem hbyte (x : Int) (h : (Lit.int .u8 x).wf = true) : 0 ≤ x ∧ x ≤ 255 := by
 simp [Lit.wf, IntKind.min, IntKind.max, IntKind.signed, IntKind.bits] at h
 omega
theorem FnHintsFit : laws_FnHintsFit.Pure := by
 intro l0 l1 hl0 _ hb0 hl1 _ hb1
 unfold maxLen at hl0 hl1
 have hB0 : bytesL l0 := ⟨by omega, fun x hx => hbyte x (hb0 x hx)⟩
 have hB1 : bytesL l1 := ⟨by omega, fun x hx => hbyte x (hb1 x hx)⟩
 apply Ev.rounds
 obtain ⟨a, b, g, c, hd, hg, hc⟩ := drawHintOf_ok l0 hB0
 obtain ⟨e, f, hs, q, hd1, hh, hq⟩ := drawTable_ok l1 hB1
 exact ffa_j0 l0 l1 a b g c hd (by omega) (by omega) (ffa_all l1 e f hs q hd1 (by have := hh.1; omega) (fun x hx => by have := hh.2 x hx; omega) (by omega))
end Go.Proofs.YtcpnmiempaofdaaGreat.Pure
