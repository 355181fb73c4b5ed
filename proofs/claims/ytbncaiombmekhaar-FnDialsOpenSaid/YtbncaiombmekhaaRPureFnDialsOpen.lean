/- Opening turns stop at the numbers of their code when these pass as often as told, and codes are told by them again; no condition beyond the law's own. -/
import Derived.Test.YtbncaiombmekhaaRBx0
import Derived.Test.YtbncaiombmekhaaRBx1
import Derived.Test.YtbncaiombmekhaaRBx4
import Derived.Test.YtbncaiombmekhaaRBx7
import Derived.Test.YtbncaiombmekhaaRCurD
import Derived.Test.YtbncaiombmekhaaRDialO
namespace Go.Proofs.YtbncaiombmekhaaR.Pure
open Go.RowKit Go.Proofs.YtbncaiombmekhaaR.B Go.Proofs.YtbncaiombmekhaaRW.PrintWords Go.Proofs.YtbncaiombmekhaaRW.PrintLast Go.Proofs.YtbncaiombmekhaaRW.PrintMore
set_option linter.unusedVariables false
/-! the last part: what is an opening is told again -/
theorem fdo_j6 (m s : Int) (own l : List Int) (hl : own.length ≤ 10) (x : Bool) (hx : x = true → (isV m s own l).1 = true) : Ev (fun K => laws_FnDialsOpen.j6 K m s own l x) true := by
  refine Ev.step (fun k => by rw [laws_FnDialsOpen.j6]) ?_
  by_cases h : x = true
  · have h1 := hx h
    unfold isV at h1
    split at h1
    · rename_i h2
      have e : openL m 1 s own = l := of_decide_eq_true h1
      have ho := implOpeningTurns_ev m s own (by omega)
      unfold openingV at ho
      rw [if_pos ⟨h2.1, h2.2.1, h2.2.2.1, small_open m s own h2.1 hl⟩, e] at ho
      have hlen : l.length < 1099511627776 := by rw [← e, openL_length]; omega
      exact Ev.pos h (Ev.bind ho (Ev.pos rfl (Ev.bind (aSame_ev l hlen) (Ev.now _))))
    · exact absurd h1 (by decide)
  · exact Ev.neg h (Ev.now _)
theorem fdo_j5 (m s : Int) (own l : List Int) (hl : own.length ≤ 10) : Ev (fun K => laws_FnDialsOpen.j5 K m s own l (isV m s own l).1 (isV m s own l).2) true := by
  refine Ev.step (fun k => by rw [laws_FnDialsOpen.j5]) ?_
  by_cases h : (isV m s own l).2 = true
  · exact Ev.pos h (fdo_j6 m s own l hl _ (fun h => h))
  · exact Ev.neg h (fdo_j6 m s own l hl _ (fun h => absurd h (by decide)))
/-! the third part: all numbers together pass once for each mark -/
theorem fdo_j3 (m s d n p q : Int) (own l : List Int) (hl : own.length ≤ 10) : Ev (fun K => laws_FnDialsOpen.j3 K m s d (passesV m s d n).1 (passesV m s d n).2 p q own l (isV p q own l).1 (isV p q own l).2) true := by
  have h5 := fdo_j5 p q own l hl
  generalize isV p q own l = iv at h5
  refine Ev.step (fun k => by rw [laws_FnDialsOpen.j3]) ?_
  by_cases h : (2 ≤ m ∧ m ≤ 100) ∧ (0 ≤ s ∧ s ≤ m - 1) ∧ stepOk d = true ∧ 0 ≤ n ∧ n ≤ m - 1
  case neg =>
    have e : passesV m s d n = (0, false) := by unfold passesV; rw [if_neg h]
    rw [e]
    exact Ev.neg (by decide) h5
  obtain ⟨hm, hs, hd, hn⟩ := h
  have hd' := stepOk_iff.mp hd
  obtain ⟨b, hb0⟩ : ∃ b : Int, b = if d > 0 then 1 else -1 := ⟨_, rfl⟩
  have hb : b = 1 ∨ b = -1 := by rw [hb0]; split <;> simp
  obtain ⟨N, hN⟩ : ∃ N : Nat, N = (max d (-d)).toNat := ⟨_, rfl⟩
  have hNi : (N : Int) = max d (-d) := by omega
  have ev : ∀ i : Nat, (i : Int) < m → passesV m s d (i : Int) = (passN m b (i : Int) N s, true) := by
    intro i hi
    unfold passesV
    rw [if_pos ⟨hm, hs, hd, by omega, by omega⟩, ← hb0, ← hN]
  have e : passesV m s d n = (passN m b n N s, true) := by
    unfold passesV
    rw [if_pos ⟨hm, hs, hd, hn⟩, ← hb0, ← hN]
  rw [e]
  refine Ev.pos rfl ?_
  have hp := passN_div m b n hm.1 hb (by omega) N s
  have hpb := passN_bound m b n N s
  have hbd : ∀ i : Nat, 0 ≤ passN m b (i : Int) N s ∧ passN m b (i : Int) N s ≤ 1000 := fun i => by
    have := passN_bound m b (i : Int) N s
    omega
  obtain ⟨M, hM⟩ : ∃ M : Nat, m = (M : Int) := ⟨m.toNat, by omega⟩
  have key : ∀ (j i : Nat), i + j = M → Ev (fun K => laws_FnDialsOpen.l1 K m s d (passN m b n N s) p q own l iv.1 iv.2 (sumTo (fun i => passN m b (i : Int) N s) i) (i : Int)) true := by
    intro j
    induction j with
    | zero =>
      intro i hi
      have hi' : i = M := by omega
      subst hi'
      have hsum := passN_sum m b hm.1 N s
      rw [hM, Int.toNat_natCast] at hsum
      refine Ev.step (fun k => by rw [laws_FnDialsOpen.l1]) ?_
      refine Ev.neg (by omega) ?_
      have hsum' : sumTo (fun i_1 => passN m b (i_1 : Int) N s) i = (N : Int) := by rw [hM]; exact hsum
      rw [hsum']
      by_cases h0 : d < 0
      · exact Ev.pos h0 (Ev.pos (by rw [w64 (by omega) (by omega)]; omega) h5)
      · exact Ev.neg h0 (Ev.pos (by omega) h5)
    | succ j ih =>
      intro i hi
      have hlt : (i : Int) < m := by omega
      have hpi := passN_div m b (i : Int) hm.1 hb (by omega) N s
      have hbi := hbd i
      have hs := (sumTo_bd _ 1000 hbd i)
      have hi100 : (i : Int) * 1000 ≤ 100000 := by omega
      have hv := implPassesOf_ev m s d (i : Int)
      rw [ev i hlt] at hv
      refine Ev.step (fun k => by rw [laws_FnDialsOpen.l1]) ?_
      refine Ev.pos hlt (Ev.bind hv (Ev.pos rfl ?_))
      rw [w64 (x := passN m b (i : Int) N s - passN m b n N s) (by omega) (by omega), w64 (x := passN m b n N s - passN m b (i : Int) N s) (by omega) (by omega), w64 (x := sumTo (fun i => passN m b (i : Int) N s) i + passN m b (i : Int) N s) (by omega) (by omega), w64n (by omega)]
      exact Ev.neg (by omega) (Ev.neg (by omega) (ih (i + 1) (by omega)))
  have := key M 0 (by omega)
  simpa [sumTo] using this
/-! the second part: codes of turns -/
theorem fdo_j1 (l1 : List Int) (hl1 : bytesL l1) : Ev (fun K => laws_FnDialsOpen.j1 K l1) true := by
  refine Ev.step (fun k => by rw [laws_FnDialsOpen.j1]) ?_
  obtain ⟨a, b, ts, hd, hts⟩ := drawCode_ok l1 hl1
  obtain ⟨m, s, d, n, hp⟩ := drawPasses_ok l1 hl1
  obtain ⟨p, q, own, l, hi, hown, hl⟩ := drawIs_ok l1 hl1
  have h3 := fdo_j3 m s d n p q own l (by omega)
  have hiv1 := implIs_ev p q own l (by omega) (by omega)
  have hiv2 := specIs_ev p q own l (by omega) (by omega)
  generalize isV p q own l = iv at h3 hiv1 hiv2
  have hpv1 := implPassesOf_ev m s d n
  have hpv2 := specPassesOf_ev m s d n
  generalize passesV m s d n = pv at h3 hpv1 hpv2
  have hc1 := implCodeOfTurns_ev a b ts
  have hc2 := specCodeOfTurns_ev a b ts (by omega)
  have hs1 := implStopsOf_ev a b ts
  have hs2 := specStopsOf_ev a b ts (by omega)
  have hcl := codeOfV_length a b ts
  have hsl := stopsV_length a b ts
  refine Ev.bind hd (Ev.bind hc1 (Ev.bind hc2 (Ev.bind hs1 (Ev.bind hs2 (Ev.let_ hp (Ev.bind hpv1 (Ev.bind hpv2 (Ev.bind hi (Ev.bind hiv1 (Ev.bind hiv2 ?_))))))))))
  refine Ev.neg (by simp) (Ev.bind (aSame_ev _ (by omega)) (Ev.pos rfl (Ev.neg (by simp) (Ev.bind (aSame_ev _ (by omega)) (Ev.pos rfl (Ev.neg (by simp) (Ev.pos rfl (Ev.neg (by simp) (Ev.neg (by simp) ?_)))))))))
  by_cases h : (2 ≤ a ∧ a ≤ 100) ∧ (0 ≤ b ∧ b ≤ a - 1) ∧ stepsOk ts = true ∧ ts ≠ [] ∧ openL a 1 b (stopsP a b ts) = ts
  · have ec : codeOfV a b ts = (stopsP a b ts, true) := by unfold codeOfV; rw [if_pos h]
    have es : stopsV a b ts = (stopsP a b ts, true) := by unfold stopsV; rw [if_pos ⟨h.1, h.2.1, h.2.2.1⟩]
    rw [ec, es]
    refine Ev.pos rfl (Ev.step (fun k => by rw [laws_FnDialsOpen.j2]) ?_)
    have hts' := stepsOk_iff.mp h.2.2.1
    have hcode := stops_code a b ts h.1 h.2.2.1 h.2.2.2.1
    have hsm : smallAll (openL a 1 b (stopsP a b ts)) = true := by
      rw [h.2.2.2.2]
      unfold smallAll
      rw [List.all_eq_true]
      intro x hx
      have := hts'.2 x hx
      exact decide_eq_true (by omega)
    have ho := implOpeningTurns_ev a b (stopsP a b ts) (by rw [stopsP_length]; omega)
    unfold openingV at ho
    rw [if_pos ⟨h.1, h.2.1, hcode, hsm⟩, h.2.2.2.2] at ho
    exact Ev.neg (by simp) (Ev.pos rfl (Ev.bind ho (Ev.pos rfl (Ev.bind (aSame_ev ts (by omega)) (Ev.pos rfl (Ev.bind (aSame_ev _ (by rw [stopsP_length]; omega)) (Ev.pos rfl h3)))))))
  · have ec : codeOfV a b ts = ([], false) := by unfold codeOfV; rw [if_neg h]
    rw [ec]
    exact Ev.neg (by simp) (Ev.step (fun k => by rw [laws_FnDialsOpen.j2]) (Ev.neg (by decide) (Ev.neg (by decide) h3)))
/-! the first part: opening turns -/
theorem fdo_l0 (l1 : List Int) (hl1 : bytesL l1) (m : Int) (hm : 2 ≤ m ∧ m ≤ 100) (c t : List Int) (hc : ∀ x ∈ c, 0 ≤ x ∧ x ≤ m - 1) (hlen : t.length = c.length) (h12 : c.length ≤ 12) (hst : ∀ x ∈ t, stepOk x = true) :
    ∀ (j i : Nat) (s by_ : Int), i + j = c.length → t.drop i = openL m by_ s (c.drop i) → ((by_ = 1 ∧ i % 2 = 0) ∨ (by_ = -1 ∧ i % 2 = 1)) → 0 ≤ s ∧ s ≤ m - 1 → Ev (fun K => laws_FnDialsOpen.l0 K l1 m c s t (t.length : Int) (i : Int)) true := by
  intro j
  induction j with
  | zero =>
    intro i s by_ hi hd hb hs
    refine Ev.step (fun k => by rw [laws_FnDialsOpen.l0]) ?_
    exact Ev.neg (by omega) (fdo_j1 l1 hl1)
  | succ j ih =>
    intro i s by_ hi hd hb hs
    have h1 : i < c.length := by omega
    have h2 : i < t.length := by omega
    have hb' : by_ = 1 ∨ by_ = -1 := by omega
    rw [List.drop_eq_getElem_cons h1, List.drop_eq_getElem_cons h2, openL] at hd
    obtain ⟨e1, e2⟩ := List.cons.inj hd
    have hci := hc _ (List.getElem_mem h1)
    have hok := hst _ (List.getElem_mem h2)
    have hL : (c.drop (i + 1)).length = c.length - (i + 1) := List.length_drop
    have hps := passes_open m s c[i] by_ (c.drop (i + 1)).length hm hs hb' hci (by rw [← e1]; exact hok)
    have hsz := (step_size m s c[i] by_ (c.drop (i + 1)).length hm.1 hb').1
    have hv := implPassesOf_ev m s t[i] c[i]
    rw [← e1] at hps hsz
    rw [hps] at hv
    refine Ev.step (fun k => by rw [laws_FnDialsOpen.l0]) ?_
    rw [rd_nat h1, rd_nat h2, w64n (by omega)]
    refine Ev.pos (by omega) (Ev.pos (by omega) (Ev.pos (by omega) (Ev.pos (by omega) (Ev.bind hv (Ev.pos rfl (Ev.pos ?_ (Ev.neg ?_ (ih (i + 1) c[i] (-by_) (by omega) e2 (by omega) hci))))))))
    · simp only []
      rw [w64 (by omega) (by omega), hL]
      omega
    · have ht : Int.tmod (i : Int) 2 = ((i % 2 : Nat) : Int) := by rw [Int.tmod_eq_emod_of_nonneg (by omega)]; omega
      rw [ht]
      rcases hb with ⟨hb1, hb2⟩ | ⟨hb1, hb2⟩
      · have : t[i] > 0 := hsz.mpr hb1
        rw [hb2]
        simp [this]
      · have : ¬ t[i] > 0 := fun hc => by have := hsz.mp hc; omega
        rw [hb2]
        simp [this]
theorem FnDialsOpen : laws_FnDialsOpen.Pure := by
  intro l0 l1 hl0 _ hb0 hl1 _ hb1
  have hbyte : ∀ x : Int, (Lit.int .u8 x).wf = true → 0 ≤ x ∧ x ≤ 255 := by
    intro x hx
    simp [Lit.wf, IntKind.min, IntKind.max, IntKind.signed, IntKind.bits] at hx
    omega
  unfold maxLen at hl0 hl1
  have hB0 : bytesL l0 := ⟨by omega, fun x hx => hbyte x (hb0 x hx)⟩
  have hB1 : bytesL l1 := ⟨by omega, fun x hx => hbyte x (hb1 x hx)⟩
  apply Ev.rounds
  unfold laws_FnDialsOpen.f
  obtain ⟨t, ht⟩ : ∃ t, laws_big.f l0 l1 = some t := by unfold laws_big.f; split <;> exact ⟨_, rfl⟩
  refine Ev.let_ ht ?_
  by_cases h : t = true
  · exact Ev.pos h (Ev.now _)
  refine Ev.neg h ?_
  obtain ⟨m, s, c, hd, hc⟩ := drawOpening_ok l0 hB0
  have hj := fdo_j1 l1 hB1
  have ho1 := implOpeningTurns_ev m s c (by omega)
  have ho2 := specOpeningTurns_ev m s c (by omega)
  have hn1 := implOpeningLength_ev m s c (by omega)
  have hn2 := specOpeningLength_ev m s c (by omega)
  have hlen := openingV_length m s c
  refine Ev.bind hd (Ev.bind ho1 (Ev.bind ho2 (Ev.bind hn1 (Ev.bind hn2 ?_))))
  refine Ev.neg (by simp) (Ev.bind (aSame_ev _ (by omega)) (Ev.pos rfl (Ev.neg (by simp) (Ev.pos rfl ?_))))
  by_cases hv : (2 ≤ m ∧ m ≤ 100) ∧ (0 ≤ s ∧ s ≤ m - 1) ∧ codeOk m c = true ∧ smallAll (openL m 1 s c) = true
  · have ev : openingV m s c = (openL m 1 s c, true) := by unfold openingV; rw [if_pos hv]
    have eln : openLenV m s c = (lenP (openL m 1 s c), true) := by unfold openLenV; rw [ev]
    rw [ev, eln]
    have hcode := codeOk_iff.mp hv.2.2.1
    have hsteps : stepsOk (openL m 1 s c) = true := by rw [openL_ok m 1 s hv.1.1 (.inl rfl) c hcode.1.2]; exact hv.2.2.2
    have hstops := openL_stops m hv.1.1 c 1 s (.inl rfl) hcode.2
    have hcl := openL_length m c 1 s
    have hso := implStopsOf_ev m s (openL m 1 s c)
    have es : stopsV m s (openL m 1 s c) = (c, true) := by unfold stopsV; rw [if_pos ⟨hv.1, hv.2.1, hsteps⟩, hstops]
    rw [es] at hso
    have hco := implCodeOfTurns_ev m s (openL m 1 s c)
    have hne : openL m 1 s c ≠ [] := by intro e; rw [e] at hcl; simp at hcl; omega
    have ec : codeOfV m s (openL m 1 s c) = (c, true) := by unfold codeOfV; rw [if_pos ⟨hv.1, hv.2.1, hsteps, hne, by rw [hstops]⟩, hstops]
    rw [ec] at hco
    have hio := implIs_ev m s c (openL m 1 s c) (by omega) (by omega)
    have ei : isV m s c (openL m 1 s c) = (true, true) := by unfold isV; rw [if_pos ⟨hv.1, hv.2.1, hv.2.2.1, hsteps⟩]; simp
    rw [ei] at hio
    have hst := stepsOk_iff.mp hsteps
    have hl0' := fdo_l0 l1 hB1 m hv.1 c (openL m 1 s c) hcode.2 hcl hcode.1.2 (fun x hx => stepOk_iff.mpr (hst.2 x hx)) c.length 0 s 1 (by omega) rfl (.inl ⟨rfl, rfl⟩) hv.2.1
    have hsm : Ev (fun n => laws_aSum.f n (openL m 1 s c)) (lenP (openL m 1 s c)) := aSum_ev _ (by omega) (fun x hx => by have := hst.2 x hx; omega)
    refine Ev.neg (by simp) (Ev.pos rfl (Ev.bind hso (Ev.bind hco (Ev.bind hio ?_))))
    refine Ev.pos rfl (Ev.bind (aSame_ev c (by omega)) (Ev.pos rfl ?_))
    refine Ev.pos rfl (Ev.bind (aSame_ev c (by omega)) (Ev.pos rfl ?_))
    refine Ev.pos rfl (Ev.pos rfl (Ev.bind hsm (Ev.pos rfl ?_)))
    refine Ev.pos (by rw [hcl]) ?_
    exact hl0'
  · have ev : openingV m s c = ([], false) := by unfold openingV; rw [if_neg hv]
    have eln : openLenV m s c = (0, false) := by unfold openLenV; rw [ev]; rfl
    rw [ev, eln]
    exact Ev.neg (by simp) (Ev.neg (by simp) hj)
end Go.Proofs.YtbncaiombmekhaaR.Pure
