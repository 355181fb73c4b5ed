/- Chapter 5: orders, as both sides tell them. -/
import Derived.Test.YthpmpkmdjpaemaaGreatPx0
import Derived.Test.YthpmpkmdjpaemaaGreatPx13
import Derived.Test.YthpmpkmdjpaemaaGreatPx5
import Derived.Test.YthpmpkmdjpaemaaGreatPx6
import Derived.Test.YthpmpkmdjpaemaaGreatPx7
import Derived.Test.YthpmpkmdjpaemaaGreatPx8
import Derived.Test.YthpmpkmdjpaemaaGreatOrdB
namespace Go.Proofs.YthpmpkmdjpaemaaGreat.Pure
open Go.RowKit Go.Proofs.YthpmpkmdjpaemaaGreat.P Go.Proofs.YthpmpkmdjpaemaaGreatW.PrintWords Go.Proofs.YthpmpkmdjpaemaaGreatW.PrintLast Go.Proofs.YthpmpkmdjpaemaaGreatW.PrintMore
set_option linter.unusedVariables false

/-! the number of a code -/
def numN (d : Nat) (s : ByteArray) : Nat → Nat
  | 0 => 0
  | i + 1 => numN d s i * d + (dg s i).toNat
theorem numN_lt {w d : Nat} (hd : 2 ≤ d ∧ d ≤ 10) {s : ByteArray} (hs : codeB (w : Int) (d : Int) s = true) : ∀ n, n ≤ w → numN d s n < d ^ n
  | 0, _ => by simp [numN]
  | n + 1, h => by
    have h1 := numN_lt hd hs n (by omega)
    have h2 := code_dg hs (show n < w by omega)
    have h3 : (numN d s n + 1) * d ≤ d ^ n * d := Nat.mul_le_mul_right d h1
    rw [Nat.add_mul, Nat.one_mul] at h3
    rw [numN, Nat.pow_succ]
    omega
theorem numN_inj {w d : Nat} (hd : 2 ≤ d ∧ d ≤ 10) {s t : ByteArray} (hs : codeB (w : Int) (d : Int) s = true) (ht : codeB (w : Int) (d : Int) t = true) : ∀ n, n ≤ w → numN d s n = numN d t n → ∀ j, j < n → dg s j = dg t j
  | 0, _, _, j, hj => by omega
  | n + 1, h, e, j, hj => by
    have h1 := numN_inj hd hs ht n (by omega)
    have h2 := code_dg hs (show n < w by omega)
    have h3 := code_dg ht (show n < w by omega)
    rw [numN, numN] at e
    have e2 : numN d s n = numN d t n ∧ dg s n = dg t n := by
      generalize numN d s n = x at *
      generalize numN d t n = y at *
      rcases ten hd with rfl | rfl | rfl | rfl | rfl | rfl | rfl | rfl | rfl <;> omega
    by_cases hjn : j = n
    · subst hjn; exact e2.2
    · exact h1 e2.1 j (by omega)
theorem num_inj {w d : Nat} (hd : 2 ≤ d ∧ d ≤ 10) {s t : ByteArray} (hs : codeB (w : Int) (d : Int) s = true) (ht : codeB (w : Int) (d : Int) t = true) (h : numN d s w = numN d t w) : s = t :=
  code_ext hs ht (numN_inj hd hs ht w (Nat.le_refl _) h)
theorem whNumber_l0 {w d : Nat} (hw : w ≤ 6) (hd : 2 ≤ d ∧ d ≤ 10) {s : ByteArray} (hs : codeB (w : Int) (d : Int) s = true) : ∀ (j i : Nat), i + j = w → Ev (fun K => spec_whNumber.l0 K ((numN d s i : Nat) : Int) (dgL s) (w : Int) i w d) ((numN d s w : Nat) : Int) := by
  have h1 := code_size hs
  intro j
  induction j with
  | zero =>
    intro i hi
    refine Ev.step (fun k => by rw [spec_whNumber.l0]) (Ev.neg (by omega) (Ev.val (Ev.now _) ?_))
    rw [show i = w by omega]
  | succ j ih =>
    intro i hi
    have h2 := code_dg hs (show i < w by omega)
    have h3 := numN_lt hd hs i (by omega)
    have h4 := numN_lt hd hs (i + 1) (by omega)
    have h5 := pow_lock (w := i) (by omega) hd.1 hd.2
    have h6 := pow_lock (w := i + 1) (by omega) hd.1 hd.2
    have e : ((numN d s i : Nat) : Int) * (d : Int) + dg s i = ((numN d s (i + 1) : Nat) : Int) := by
      rw [numN, Int.natCast_add, Int.natCast_mul]
      omega
    refine Ev.step (fun k => by rw [spec_whNumber.l0]) (Ev.pos (by omega) (Ev.pos (by omega) (Ev.pos (by rw [dgL_length]; omega) ?_)))
    rw [rd_dgL s i (by omega), w64n (by omega), w64 (x := ((numN d s i : Nat) : Int) * (d : Int)) (by omega) (by omega), e, w64 (by omega) (by omega)]
    exact ih (i + 1) (by omega)
theorem whNumber_ev {w d : Nat} (hw : 1 ≤ w ∧ w ≤ 6) (hd : 2 ≤ d ∧ d ≤ 10) {s : ByteArray} (hs : codeB (w : Int) (d : Int) s = true) : Ev (fun K => spec_whNumber.f K w d s) ((numN d s w : Nat) : Int) := by
  unfold spec_whNumber.f
  refine Ev.bind (whDigits_ev s (code_digs hw hd hs)) ?_
  rw [dgL_length, code_size hs]
  exact whNumber_l0 hw.2 hd hs w 0 (by omega)
/-! orders -/
/-- Whether a code may stand behind those that were met (the last one first). -/
def lastOk (w d : Nat) (met : List ByteArray) (s : ByteArray) : Bool := match met with
  | [] => true
  | p :: _ => decide (distN d p s w = 1)
def goodR (w d : Nat) : List ByteArray → List ByteArray → Bool
  | _, [] => true
  | met, s :: rest => codeB (w : Int) (d : Int) s && (!hasB s met && (decide (met.length < 1000) && (lastOk w d met s && goodR w d (s :: met) rest)))
theorem lastOk_nil (w d : Nat) (s : ByteArray) : lastOk w d [] s = true := rfl
theorem lastOk_cons (w d : Nat) (p : ByteArray) (m : List ByteArray) (s : ByteArray) : lastOk w d (p :: m) s = decide (distN d p s w = 1) := rfl
/-- The turns of an order behind the last code. -/
def turnsC (w d : Nat) : ByteArray → List ByteArray → List S59
  | _, [] => []
  | p, s :: rest => turnV d p s w 0 :: turnsC w d s rest
def turnsO (w d : Nat) (met rest : List ByteArray) : List S59 := match met, rest with
  | _, [] => []
  | [], s :: rest => turnsC w d s rest
  | p :: _, s :: rest => turnsC w d p (s :: rest)
theorem turnsO_cons (w d : Nat) (p : ByteArray) (m rest : List ByteArray) : turnsO w d (p :: m) rest = turnsC w d p rest := by
  cases rest <;> rfl
def ordV (w d : Nat) (met rest : List ByteArray) (out : List S59) : List S59 × Bool :=
  if goodR w d met rest = true then (out ++ turnsO w d met rest, true) else ([], false)
theorem orderTurns_g {w d : Nat} (hw : 1 ≤ w ∧ w ≤ 6) (hd : 2 ≤ d ∧ d ≤ 10) : ∀ (rest met : List ByteArray) (out : List S59), (∀ s ∈ rest, s.size < 9223372036854775808) → (∀ s ∈ met, codeB (w : Int) (d : Int) s = true) →
    Ev (fun K => impl_Lock_orderTurns.g K w d met rest out) (ordV w d met rest out) := by
  intro rest
  induction rest with
  | nil =>
    intro met out _ _
    refine Ev.congr (f := fun K => some (out, true)) (fun K => by rw [impl_Lock_orderTurns.g.eq_def]; all_goals rfl) (Ev.val (Ev.now _) ?_)
    unfold ordV goodR
    rw [if_pos rfl]
    cases met <;> simp [turnsO]
  | cons s rest ih =>
    intro met out hr hm
    have hs := hr s List.mem_cons_self
    refine Ev.congr (f := fun K => (impl_Lock_isCode.f K w d s).bind fun c => if c = true then (if s.size ≤ 1000 then (if hasB s met = true then some ([], false) else if 1000 ≤ met.length then some ([], false) else (match met with
      | [] => impl_Lock_orderTurns.g K w d [s] rest out
      | p :: m => (impl_Lock_between.f K w d p s).bind fun t => if t.2.2 = true then impl_Lock_orderTurns.g K w d (s :: p :: m) rest (out ++ [⟨t.1, t.2.1⟩]) else some ([], false))) else none) else some ([], false)) (fun K => by rw [impl_Lock_orderTurns.g.eq_def]; all_goals rfl) ?_
    refine Ev.bind (isCode_ev w d (by omega) s hs) ?_
    unfold ordV
    rw [goodR]
    by_cases hc : codeB (w : Int) (d : Int) s = true
    case neg =>
      rw [Bool.eq_false_iff.mpr hc, Bool.false_and]
      exact Ev.neg (by decide) (Ev.now _)
    rw [hc, Bool.true_and]
    refine Ev.pos rfl (Ev.pos (by rw [code_size hc]; omega) ?_)
    by_cases hb : hasB s met = true
    · rw [hb, Bool.not_true, Bool.false_and]
      exact Ev.pos rfl (Ev.now _)
    rw [Bool.eq_false_iff.mpr hb, Bool.not_false, Bool.true_and]
    refine Ev.neg (by decide) ?_
    by_cases hl : met.length < 1000
    case neg =>
      rw [decide_eq_false hl, Bool.false_and]
      exact Ev.pos (by omega) (Ev.now _)
    rw [decide_eq_true hl, Bool.true_and]
    refine Ev.neg (by omega) ?_
    have hm2 : ∀ x ∈ s :: met, codeB (w : Int) (d : Int) x = true := fun x hx => by
      rcases List.mem_cons.mp hx with rfl | hx
      · exact hc
      · exact hm x hx
    have hr2 : ∀ x ∈ rest, x.size < 9223372036854775808 := fun x hx => hr x (List.mem_cons_of_mem _ hx)
    cases met with
    | nil =>
      refine Ev.val (ih [s] out hr2 hm2) ?_
      unfold ordV
      rw [lastOk_nil, Bool.true_and, turnsO_cons]
      rfl
    | cons p m =>
      have hp := hm p List.mem_cons_self
      have hbt := between_ev hw hd hp hc
      rw [lastOk_cons]
      by_cases h1 : distN d p s w = 1
      · rw [if_pos h1] at hbt
        rw [decide_eq_true h1, Bool.true_and]
        refine Ev.bind hbt (Ev.pos rfl (Ev.val (ih (s :: p :: m) _ hr2 hm2) ?_))
        unfold ordV
        rw [turnsO_cons, turnsO_cons]
        split
        · simp [turnsC]
        · rfl
      · rw [if_neg h1] at hbt
        rw [decide_eq_false h1, Bool.false_and]
        exact Ev.bind hbt (Ev.neg (by decide) (Ev.now _))
theorem orderTurns_ev {w d : Nat} (hw : 1 ≤ w ∧ w ≤ 6) (hd : 2 ≤ d ∧ d ≤ 10) (codes : List ByteArray) (hr : ∀ s ∈ codes, s.size < 9223372036854775808) : Ev (fun K => impl_Lock_orderTurns.f K w d codes) (ordV w d [] codes []) := by
  unfold impl_Lock_orderTurns.f
  exact orderTurns_g hw hd codes [] [] hr (fun _ h => by simp at h)
/-! the reference's -/
/-- The codes that were seen, by their numbers. -/
def seenL (w d : Nat) (met : List ByteArray) : List Bool := (List.range (d ^ w)).map fun n => met.any fun t => decide (numN d t w = n)
theorem seenL_len (w d : Nat) (met : List ByteArray) : (seenL w d met).length = d ^ w := by simp [seenL]
theorem seenL_nil (w d : Nat) : seenL w d [] = List.replicate (d ^ w) false := by
  unfold seenL
  rw [List.eq_replicate_iff]
  refine ⟨by simp, fun b hb => ?_⟩
  obtain ⟨n, _, rfl⟩ := List.mem_map.mp hb
  rfl
theorem seenL_set (w d : Nat) (met : List ByteArray) (s : ByteArray) (hs : numN d s w < d ^ w) : (seenL w d met).set (numN d s w) true = seenL w d (s :: met) := by
  apply List.ext_getElem?
  intro j
  by_cases hj : j < d ^ w
  · by_cases e : numN d s w = j
    · subst e
      rw [List.getElem?_set_self (by rw [seenL_len]; exact hj)]
      unfold seenL
      simp [hj]
    · rw [List.getElem?_set_ne e]
      unfold seenL
      simp [hj, e]
  · rw [List.getElem?_eq_none (by rw [List.length_set, seenL_len]; omega), List.getElem?_eq_none (by rw [seenL_len]; omega)]
theorem seenL_rd {w d : Nat} (hd : 2 ≤ d ∧ d ≤ 10) {met : List ByteArray} (hm : ∀ t ∈ met, codeB (w : Int) (d : Int) t = true) {s : ByteArray} (hs : codeB (w : Int) (d : Int) s = true) : rdOf false (seenL w d met) ((numN d s w : Nat) : Int) = hasB s met := by
  have h := numN_lt hd hs w (Nat.le_refl _)
  unfold rdOf seenL hasB
  rw [Int.toNat_natCast, List.getD_eq_getElem?_getD]
  simp only [List.getElem?_map, List.getElem?_range h, Option.map_some, Option.getD_some]
  rw [Bool.eq_iff_iff, List.any_eq_true, List.any_eq_true]
  constructor
  · rintro ⟨t, ht, e⟩
    refine ⟨t, ht, decide_eq_true ?_⟩
    rw [num_inj hd (hm t ht) hs (of_decide_eq_true e)]
  · rintro ⟨t, ht, e⟩
    refine ⟨t, ht, decide_eq_true ?_⟩
    rw [show t = s from (ByteArray.ext (Array.toList_inj.mp (of_decide_eq_true e))).symm]
theorem orGood_l0 {w d : Nat} (hw : 1 ≤ w ∧ w ≤ 6) (hd : 2 ≤ d ∧ d ≤ 10) (codes : List ByteArray) (hl : codes.length ≤ 1000) (hr : ∀ s ∈ codes, s.size < 9223372036854775808) :
    ∀ (rest met : List ByteArray), met.reverse ++ rest = codes → (∀ s ∈ met, codeB (w : Int) (d : Int) s = true) → Ev (fun K => spec_orGood.l0 K codes (seenL w d met) codes (codes.length : Int) (met.length : Int) w d) (goodR w d met rest) := by
  intro rest
  induction rest with
  | nil =>
    intro met he hm
    have hlen : met.length = codes.length := by rw [← he]; simp
    refine Ev.step (fun k => by rw [spec_orGood.l0]) (Ev.neg (by omega) ?_)
    exact Ev.now _
  | cons s rest ih =>
    intro met he hm
    have hlen : met.length + (rest.length + 1) = codes.length := by rw [← he]; simp
    have hget : rdOf ByteArray.empty codes (met.length : Int) = s := by
      rw [← he]
      unfold rdOf
      rw [Int.toNat_natCast, List.getD_eq_getElem?_getD, List.getElem?_append_right (by simp)]
      simp
    have hs : s ∈ codes := by rw [← he]; simp
    refine Ev.step (fun k => by rw [spec_orGood.l0]) (Ev.pos (by omega) (Ev.pos (by omega) (Ev.pos (by omega) ?_)))
    rw [hget, goodR]
    refine Ev.bind (whCode_ev w d (by omega) s (hr s hs)) ?_
    by_cases hc : codeB (w : Int) (d : Int) s = true
    case neg =>
      rw [Bool.eq_false_iff.mpr hc, Bool.false_and]
      exact Ev.neg (by decide) (Ev.now _)
    rw [hc, Bool.true_and]
    have hn := numN_lt hd hc w (Nat.le_refl _)
    refine Ev.pos rfl (Ev.bind (whNumber_ev hw hd hc) (Ev.pos (by omega) (Ev.pos (by rw [seenL_len]; omega) ?_)))
    rw [seenL_rd hd hm hc]
    by_cases hb : hasB s met = true
    · rw [hb, Bool.not_true, Bool.false_and]
      exact Ev.pos rfl (Ev.now _)
    rw [Bool.eq_false_iff.mpr hb, Bool.not_false, Bool.true_and, decide_eq_true (show met.length < 1000 by omega), Bool.true_and]
    refine Ev.neg (by decide) ?_
    have hm2 : ∀ x ∈ s :: met, codeB (w : Int) (d : Int) x = true := fun x hx => by
      rcases List.mem_cons.mp hx with rfl | hx
      · exact hc
      · exact hm x hx
    have hnext := ih (s :: met) (by rw [← he]; simp) hm2
    have hset := seenL_set w d met s hn
    cases met with
    | nil =>
      rw [lastOk_nil, Bool.true_and]
      refine Ev.neg (by simp) (Ev.bind (whNumber_ev hw hd hc) (Ev.pos (by omega) (Ev.pos (by rw [seenL_len]; omega) ?_)))
      rw [Int.toNat_natCast, hset, w64n (by simp)]
      exact hnext
    | cons p m =>
      have hp := hm p List.mem_cons_self
      have hgp : rdOf ByteArray.empty codes (m.length : Int) = p := by
        rw [← he]
        unfold rdOf
        rw [Int.toNat_natCast, List.getD_eq_getElem?_getD, List.reverse_cons, List.append_assoc, List.getElem?_append_right (by simp)]
        simp
      have hlm : (p :: m).length = m.length + 1 := rfl
      have e1 : wrap64 (((p :: m).length : Int) - 1) = (m.length : Int) := by rw [w64 (by omega) (by omega)]; omega
      refine Ev.pos (by omega) ?_
      rw [e1, hgp]
      refine Ev.pos (by omega) (Ev.pos (by omega) (Ev.bind (whDistance_ev hw hd hp hc) ?_))
      rw [lastOk_cons]
      by_cases h1 : distN d p s w = 1
      · rw [decide_eq_true h1, Bool.true_and]
        refine Ev.pos h1 (Ev.bind (whNumber_ev hw hd hc) (Ev.pos (by omega) (Ev.pos (by rw [seenL_len]; omega) ?_)))
        rw [Int.toNat_natCast, hset, w64n (by omega)]
        exact hnext
      · rw [decide_eq_false h1, Bool.false_and]
        exact Ev.neg h1 (Ev.now _)
theorem goodR_len (w d : Nat) : ∀ (rest met : List ByteArray), met.length ≤ 1000 → goodR w d met rest = true → met.length + rest.length ≤ 1000
  | [], met, h, _ => by simpa using h
  | s :: rest, met, h, hg => by
    rw [goodR] at hg
    simp only [Bool.and_eq_true, decide_eq_true_iff] at hg
    have := goodR_len w d rest (s :: met) (by simp; omega) hg.2.2.2.2
    simp at this ⊢
    omega
theorem orGood_ev {w d : Nat} (hw : 1 ≤ w ∧ w ≤ 6) (hd : 2 ≤ d ∧ d ≤ 10) (codes : List ByteArray) (hr : ∀ s ∈ codes, s.size < 9223372036854775808) : Ev (fun K => spec_orGood.f K w d codes) (goodR w d [] codes) := by
  unfold spec_orGood.f
  by_cases hl : codes.length ≤ 1000
  · have hp := pow_lock hw.2 hd.1 hd.2
    refine Ev.neg (by omega) (Ev.bind (whCount_ev w d hw.2 hd.1 hd.2) (Ev.pos (by omega) (Ev.pos (by omega) ?_)))
    rw [Int.toNat_natCast, ← seenL_nil]
    exact orGood_l0 hw hd codes hl hr codes [] rfl (fun _ h => by simp at h)
  · refine Ev.pos (by omega) (Ev.val (Ev.now _) ?_)
    cases h : goodR w d [] codes with
    | false => rfl
    | true =>
      have := goodR_len w d codes [] (by simp) h
      simp at this
      omega
/-! what an order has -/
theorem good_codes (w d : Nat) : ∀ (rest met : List ByteArray), goodR w d met rest = true → ∀ s ∈ rest, codeB (w : Int) (d : Int) s = true
  | [], _, _, s, h => by simp at h
  | x :: rest, met, hg, s, h => by
    rw [goodR] at hg
    simp only [Bool.and_eq_true] at hg
    rcases List.mem_cons.mp h with rfl | h
    · exact hg.1
    · exact good_codes w d rest (x :: met) hg.2.2.2.2 s h
/-- Codes each at the distance 1 of the one before. -/
def Chain (w d : Nat) : ByteArray → List ByteArray → Prop
  | _, [] => True
  | p, s :: rest => codeB (w : Int) (d : Int) s = true ∧ distN d p s w = 1 ∧ Chain w d s rest
theorem good_chain (w d : Nat) : ∀ (rest : List ByteArray) (p : ByteArray) (m : List ByteArray), goodR w d (p :: m) rest = true → Chain w d p rest
  | [], _, _, _ => trivial
  | s :: rest, p, m, hg => by
    rw [goodR] at hg
    simp only [Bool.and_eq_true] at hg
    exact ⟨hg.1, of_decide_eq_true hg.2.2.2.1, good_chain w d rest s (p :: m) hg.2.2.2.2⟩
theorem turnsC_len (w d : Nat) : ∀ (rest : List ByteArray) (p : ByteArray), (turnsC w d p rest).length = rest.length
  | [], _ => rfl
  | s :: rest, p => by simp [turnsC, turnsC_len w d rest s]
theorem turnsC_ok {w d : Nat} (hw : 1 ≤ w ∧ w ≤ 6) (hd : 2 ≤ d ∧ d ≤ 10) : ∀ (rest : List ByteArray) (p : ByteArray), codeB (w : Int) (d : Int) p = true → Chain w d p rest → ∀ t ∈ turnsC w d p rest, TurnOk w t
  | [], _, _, _, t, h => by simp [turnsC] at h
  | s :: rest, p, hp, hc, t, h => by
    simp only [turnsC, List.mem_cons] at h
    rcases h with rfl | h
    · exact (turnV_hit hw hd hp hc.1 hc.2.1).1
    · exact turnsC_ok hw hd rest s hc.1 hc.2.2 t h
/-- The code behind turns. -/
def turnedL (d : Nat) : ByteArray → List S59 → ByteArray
  | p, [] => p
  | p, t :: ts => turnedL d (turnT d p t.f0.toNat t.f1) ts
theorem turnedL_end {w d : Nat} (hw : 1 ≤ w ∧ w ≤ 6) (hd : 2 ≤ d ∧ d ≤ 10) : ∀ (rest : List ByteArray) (p : ByteArray), codeB (w : Int) (d : Int) p = true → Chain w d p rest → turnedL d p (turnsC w d p rest) = (p :: rest).getLast (by simp)
  | [], _, _, _ => rfl
  | s :: rest, p, hp, hc => by
    simp only [turnsC, turnedL]
    rw [(turnV_hit hw hd hp hc.1 hc.2.1).2, turnedL_end hw hd rest s hc.1 hc.2.2]
    exact (List.getLast_cons (List.cons_ne_nil s rest)).symm
theorem areTurns_l0 {w : Nat} (hw : 1 ≤ w ∧ w ≤ 6) (l : List S59) (hl : l.length ≤ 1000) (ho : ∀ t ∈ l, TurnOk w t) : ∀ (j i : Nat), i + j = l.length → Ev (fun K => impl_areTurns.l0 K l w l (l.length : Int) i) (decide ((l.length : Int) ≤ 200)) := by
  intro j
  induction j with
  | zero =>
    intro i hi
    exact Ev.step (fun k => by rw [impl_areTurns.l0]) (Ev.neg (by omega) (Ev.now _))
  | succ j ih =>
    intro i hi
    have h1 : i < l.length := by omega
    have hr : rd_T59 l (i : Int) = l[i] := by simp [rd_T59, List.getD, h1]
    have hk := ho _ (List.getElem_mem h1)
    have hk1 := hk.1
    refine Ev.step (fun k => by rw [impl_areTurns.l0]) (Ev.pos (by omega) (Ev.pos (by omega) (Ev.pos (by omega) ?_)))
    rw [hr, w64n (by omega), w64 (x := (w : Int) - 1) (by omega) (by omega)]
    refine Ev.let_ (within_some _ _ _) (Ev.pos (decide_eq_true (by omega)) ?_)
    rcases hk.2 with e | e
    · exact Ev.pos e (ih (i + 1) (by omega))
    · exact Ev.neg (by omega) (Ev.pos e (ih (i + 1) (by omega)))
theorem areTurns_ev {w : Nat} (hw : 1 ≤ w ∧ w ≤ 6) (l : List S59) (hl : l.length ≤ 1000) (ho : ∀ t ∈ l, TurnOk w t) : Ev (fun K => impl_areTurns.f K l w) (decide ((l.length : Int) ≤ 200)) := by
  unfold impl_areTurns.f
  exact areTurns_l0 hw l hl ho l.length 0 (by omega)
theorem TurnWheels_l0 {w d : Nat} (hw : 1 ≤ w ∧ w ≤ 6) (hd : 2 ≤ d ∧ d ≤ 10) (l : List S59) (hl : l.length ≤ 1000) (ho : ∀ t ∈ l, TurnOk w t) : ∀ (j i : Nat) (p : ByteArray), codeB (w : Int) (d : Int) p = true → i + j = l.length → Ev (fun K => impl_TurnWheels.l0 K p l (l.length : Int) i w d) (turnedL d p (l.drop i), true) := by
  intro j
  induction j with
  | zero =>
    intro i p hp hi
    refine Ev.step (fun k => by rw [impl_TurnWheels.l0]) (Ev.neg (by omega) (Ev.val (Ev.now _) ?_))
    rw [List.drop_eq_nil_of_le (by omega)]
    rfl
  | succ j ih =>
    intro i p hp hi
    have h1 : i < l.length := by omega
    have hr : rd_T59 l (i : Int) = l[i] := by simp [rd_T59, List.getD, h1]
    have hk := ho _ (List.getElem_mem h1)
    refine Ev.step (fun k => by rw [impl_TurnWheels.l0]) (Ev.pos (by omega) (Ev.pos (by omega) (Ev.pos (by omega) ?_)))
    rw [hr, w64n (by omega), List.drop_eq_getElem_cons h1, turnedL]
    obtain ⟨x, hx⟩ := Int.eq_ofNat_of_zero_le hk.1.1
    have e := turned_ev hw hd hp x (by have := hk.1.2; omega) _ hk.2
    rw [← hx] at e
    refine Ev.bind e ?_
    rw [hx, Int.toNat_natCast]
    exact ih (i + 1) _ (turnT_code hw hd hp x _) (by omega)
/-- What TurnWheels gives: nothing where the turns are too many. -/
def twV (d : Nat) (p : ByteArray) (l : List S59) : ByteArray × Bool := if (l.length : Int) ≤ 200 then (turnedL d p l, true) else (⟨#[]⟩, false)
theorem TurnWheels_ev {w d : Nat} (hw : 1 ≤ w ∧ w ≤ 6) (hd : 2 ≤ d ∧ d ≤ 10) (p : ByteArray) (hp : codeB (w : Int) (d : Int) p = true) (l : List S59) (hl : l.length ≤ 1000) (ho : ∀ t ∈ l, TurnOk w t) : Ev (fun K => impl_TurnWheels.f K w d p l) (twV d p l) := by
  unfold impl_TurnWheels.f twV
  have h1 := has_ev (w : Int) (d : Int) [p] (by simp) (fun s hs => by rw [List.mem_singleton.mp hs, code_size hp]; omega)
  rw [show lockB (w : Int) (d : Int) = true from lockB_iff.mpr ⟨by omega, by omega⟩, Bool.true_and, List.all_cons, hp, Bool.true_and, List.all_nil] at h1
  refine Ev.bind h1 (Ev.pos rfl (Ev.bind (areTurns_ev hw l hl ho) (Ev.step (fun k => by rw [impl_TurnWheels.j0]) ?_)))
  by_cases h2 : (l.length : Int) ≤ 200
  · rw [decide_eq_true h2, if_pos h2]
    refine Ev.neg (by decide) ?_
    have := TurnWheels_l0 hw hd l hl ho l.length 0 p hp (by omega)
    rw [List.drop_zero] at this
    exact this
  · rw [decide_eq_false h2, if_neg h2]
    exact Ev.pos rfl (Ev.now _)
end Go.Proofs.YthpmpkmdjpaemaaGreat.Pure
