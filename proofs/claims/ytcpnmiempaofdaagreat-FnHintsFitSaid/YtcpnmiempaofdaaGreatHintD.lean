import Derived.Test.YtcpnmiempaofdaaGreatHintC0
namespace Go.Proofs.YtcpnmiempaofdaaGreat.Pure
open Go.RowKit Go.Proofs.YtcpnmiempaofdaaGreat.G Go.Proofs.YtcpnmiempaofdaaGreatW.PrintWords Go.Proofs.YtcpnmiempaofdaaGreatW.PrintLast Go.Proofs.YtcpnmiempaofdaaGreatW.PrintMore
set_option linter.unusedVariables false
def txt (ds : List Int) : ByteArray := strOfNums (ds.map (fun x => 48 + x))
theorem strOf_app (xs ys : List Int) : strOfNums (xs ++ ys) = strOfNums xs ++ strOfNums ys := by
 unfold strOfNums
 apply ByteArray.ext
 simp
theorem txt_snoc (ds : List Int) (x : Int) : txt (ds ++ [x]) = txt ds ++ strOfNums [48 + x] := by
 unfold txt
 rw [List.map_append, strOf_app]
 rfl
theorem txt_size (ds : List Int) : (txt ds).size = ds.length := by
 unfold txt
 rw [strOfNums_size, List.length_map]
def digL (ds : List Int) : Prop := ds.length ≤ 6 ∧ ∀ x ∈ ds, 0 ≤ x ∧ x ≤ 9
theorem implText_l0 (ds : List Int) (hd : digL ds) : ∀ (d i : Nat), i + d = ds.length → Ev (fun K => impl_text.l0 K ((ds.take i).map (fun x => 48 + x)) ds (ds.length : Int) i) (txt ds) := by
 intro d
 induction d with
 | zero =>
  intro i hi
  refine Ev.step (fun k => by rw [impl_text.l0]) ?_
  refine Ev.neg (by omega) (Ev.val (Ev.now _) ?_)
  rw [List.take_of_length_le (by omega)]
  rfl
 | succ d ih =>
  intro i hi
  have h1 : i < ds.length := by omega
  have hx := hd.2 _ (List.getElem_mem h1)
  have hl := hd.1
  refine Ev.step (fun k => by rw [impl_text.l0]) ?_
  refine Ev.pos (by omega) (Ev.pos (by omega) (Ev.pos (by omega) (Ev.pos (by simp; omega) ?_)))
  rw [rd_nat h1, w64 (x := 48 + ds[i]) (by omega) (by omega), w64n (by omega), show (48 + ds[i]) % 256 = 48 + ds[i] by omega]
  have := ih (i + 1) (by omega)
  rw [List.take_succ_eq_append_getElem h1, List.map_append] at this
  exact this
theorem implText_ev (ds : List Int) (hd : digL ds) : Ev (fun K => impl_text.f K ds) (txt ds) := by
 unfold impl_text.f
 have := implText_l0 ds hd ds.length 0 (by omega)
 simpa using this
theorem l1Num_ev (x : Int) (hx : 0 ≤ x ∧ x ≤ 9) : Ev (fun K => spec_l1Num.f K x) (strOfNums [48 + x]) := by
 refine Ev.step (fun k => by rw [spec_l1Num.f]) ?_
 refine Ev.pos (by omega) (Ev.val (Ev.now _) ?_)
 rw [w64 (by omega) (by omega), show (48 + x) % 256 = 48 + x by omega]
theorem whText_l0 (ds : List Int) (hd : digL ds) : ∀ (d i : Nat), i + d = ds.length → Ev (fun K => spec_whText.l0 K (txt (ds.take i)) ds (ds.length : Int) i) (txt ds) := by
 intro d
 induction d with
 | zero =>
  intro i hi
  refine Ev.step (fun k => by rw [spec_whText.l0]) ?_
  refine Ev.neg (by omega) (Ev.val (Ev.now _) ?_)
  rw [List.take_of_length_le (by omega)]
 | succ d ih =>
  intro i hi
  have h1 : i < ds.length := by omega
  have hx := hd.2 _ (List.getElem_mem h1)
  have hl := hd.1
  refine Ev.step (fun k => by rw [spec_whText.l0]) ?_
  refine Ev.pos (by omega) (Ev.pos (by omega) (Ev.pos (by omega) ?_))
  rw [rd_nat h1, w64n (by omega)]
  refine Ev.bind (l1Num_ev _ hx) (Ev.pos ?_ ?_)
  ·rw [txt_size, strOfNums_size, List.length_take]
   simp only [List.length_cons, List.length_nil]
   omega
  ·have := ih (i + 1) (by omega)
   rw [List.take_succ_eq_append_getElem h1, txt_snoc] at this
   exact this
theorem whText_ev (ds : List Int) (hd : digL ds) : Ev (fun K => spec_whText.f K ds) (txt ds) := by
 unfold spec_whText.f
 have := whText_l0 ds hd ds.length 0 (by omega)
 simpa [txt, strOfNums] using this
theorem dcode_digL (d : Nat) (hd : 2 ≤ d ∧ d ≤ 10) (w n : Nat) (hw : w ≤ 6) : digL (dcode d w n) := by
 refine ⟨by rw [dcode_len]; exact hw, ?_⟩
 have key : ∀ k n, ∀ x ∈ dcode d k n, 0 ≤ x ∧ x ≤ (d : Int) - 1 := by
  intro k
  induction k with
  | zero => intro n x h; simp [dcode] at h
  | succ k ih =>
   intro n x h
   rw [dcode] at h
   rcases List.mem_append.mp h with h | h
   ·exact ih _ x h
   ·rw [List.mem_singleton] at h
    have := Nat.mod_lt n (show 0 < d by omega)
    omega
 intro x hx
 have := key w n x hx
 omega
def codeT (w d n : Nat) : ByteArray := txt (dcode d w n)
theorem codeT_size (w d n : Nat) : (codeT w d n).size = w := by unfold codeT; rw [txt_size, dcode_len]
theorem bt_txt (ds : List Int) (hd : ∀ x ∈ ds, 0 ≤ x ∧ x ≤ 9) (i : Nat) (h : i < ds.length) : bt (txt ds) (i : Int) = 48 + ds[i] := by
 have hs : i < (txt ds).size := by rw [txt_size]; exact h
 have e : bt (txt ds) (i : Int) = (((txt ds)[i]'hs).toNat : Int) := by unfold bt; simp [hs]
 have hx := hd _ (List.getElem_mem h)
 have e2 : ((txt ds)[i]'hs) = UInt8.ofNat (48 + ds[i]).toNat := by
  show (txt ds).data[i] = _
  simp [txt, strOfNums]
 rw [e, e2]
 have : (48 + ds[i]).toNat < 256 := by omega
 simp only [UInt8.toNat_ofNat']
 omega
theorem codeT_code (w d n : Nat) (hw : w ≤ 6) (hd : 2 ≤ d ∧ d ≤ 10) : codeB (w : Int) (d : Int) (codeT w d n) = true := by
 rw [codeB_iff]
 refine ⟨by rw [codeT_size], fun i hi => ?_⟩
 rw [codeT_size] at hi
 have key : ∀ k n, ∀ x ∈ dcode d k n, 0 ≤ x ∧ x ≤ (d : Int) - 1 := by
  intro k
  induction k with
  | zero => intro n x h; simp [dcode] at h
  | succ k ih =>
   intro n x h
   rw [dcode] at h
   rcases List.mem_append.mp h with h | h
   ·exact ih _ x h
   ·rw [List.mem_singleton] at h
    have := Nat.mod_lt n (show 0 < d by omega)
    omega
 have hl : i < (dcode d w n).length := by rw [dcode_len]; exact hi
 have hx := key w n _ (List.getElem_mem hl)
 unfold codeT
 rw [bt_txt _ (fun x hx => (dcode_digL d hd w n hw).2 x hx) i hl]
 omega
theorem codeT_digs (w d n : Nat) (hw : w ≤ 6) (hd : 2 ≤ d ∧ d ≤ 10) (hw1 : 1 ≤ w) : digsB (codeT w d n) := digs_code (lockB_iff.mpr ⟨by omega, by omega⟩) (codeT_code w d n hw hd)
theorem implCode_ev (w d n : Nat) (hw1 : 1 ≤ w) (hw : w ≤ 6) (hd : 2 ≤ d ∧ d ≤ 10) (hn : n ≤ 10000000) : Ev (fun K => impl_Lock_code.f K w d n) (codeT w d n) := by
 unfold impl_Lock_code.f
 refine Ev.pos ⟨by omega, by omega, by omega, by omega⟩ ?_
 simp only [Int.toNat_natCast]
 exact implText_ev _ (dcode_digL d hd w n hw)
theorem whOf_l0 (w d n : Nat) (hw1 : 1 ≤ w) (hw : w ≤ 6) (hd : 2 ≤ d ∧ d ≤ 10) (hn : n ≤ 10000000) : ∀ (j q : Nat) (tail : List Int), q ≤ 10000000 → j + tail.length = w → dcode d j q ++ tail = dcode d w n →
  Ev (fun K => spec_whOf.l0 K q (List.replicate j 0 ++ tail) ((j : Int) - 1) w d) (codeT w d n) := by
 intro j
 induction j with
 | zero =>
  intro q tail hq hl he
  refine Ev.step (fun k => by rw [spec_whOf.l0]) ?_
  refine Ev.neg (by omega) ?_
  have e : List.replicate 0 0 ++ tail = dcode d w n := by simpa [dcode] using he
  rw [e]
  exact Ev.bind (whText_ev _ (dcode_digL d hd w n hw)) (Ev.now _)
 | succ j ih =>
  intro q tail hq hl he
  have hdq : q / d ≤ q := Nat.div_le_self q d
  have e1 : Int.tdiv (q : Int) (d : Int) = ((q / d : Nat) : Int) := by rw [Int.tdiv_eq_ediv_of_nonneg (by omega)]; exact (Int.natCast_ediv q d).symm
  have e2 : Int.tmod (q : Int) (d : Int) = ((q % d : Nat) : Int) := by rw [Int.tmod_eq_emod_of_nonneg (by omega)]; exact (Int.natCast_emod q d).symm
  refine Ev.step (fun k => by rw [spec_whOf.l0]) ?_
  refine Ev.pos (by omega) (Ev.neg (by omega) (Ev.pos (by omega) (Ev.pos (by simp; omega) ?_)))
  have z1 : (0 : Int) ≤ ((q / d : Nat) : Int) := Int.natCast_nonneg _
  have z2 : ((q / d : Nat) : Int) ≤ 10000000 := Int.ofNat_le.mpr (Nat.le_trans hdq hq)
  rw [e1, e2, w64 (x := ((q / d : Nat) : Int)) (Int.le_trans (by decide) z1) (Int.le_trans z2 (by decide)), w64 (x := ((j + 1 : Nat) : Int) - 1 - 1) (by omega) (by omega)]
  have e3 : (List.replicate (j + 1) (0 : Int) ++ tail).set (((j + 1 : Nat) : Int) - 1).toNat ((q % d : Nat) : Int) = List.replicate j 0 ++ ((q % d : Nat) : Int) :: tail := by
   rw [show (((j + 1 : Nat) : Int) - 1).toNat = j by omega, List.replicate_succ', List.append_assoc, List.set_append_right _ _ (by simp)]
   simp
  rw [e3, show ((j + 1 : Nat) : Int) - 1 - 1 = (j : Int) - 1 by omega]
  refine ih (q / d) _ (by omega) (by simp; omega) ?_
  rw [dcode, List.append_assoc] at he
  exact he
theorem whOf_ev (w d n : Nat) (hw1 : 1 ≤ w) (hw : w ≤ 6) (hd : 2 ≤ d ∧ d ≤ 10) (hn : n ≤ 10000000) : Ev (fun K => spec_whOf.f K w d n) (codeT w d n) := by
 unfold spec_whOf.f
 refine Ev.pos (by omega) (Ev.pos (by omega) ?_)
 rw [w64 (by omega) (by omega), Int.toNat_natCast]
 have := whOf_l0 w d n hw1 hw hd hn w n [] hn (by simp) (by simp)
 simpa using this
def allC (w d : Nat) : List ByteArray := (List.range (d ^ w)).map (codeT w d)
theorem allC_length (w d : Nat) : (allC w d).length = d ^ w := by simp [allC]
theorem hiAll_l0 (w d : Nat) (hw1 : 1 ≤ w) (hw : w ≤ 6) (hd : 2 ≤ d ∧ d ≤ 10) : ∀ (j i : Nat), i + j = d ^ w → Ev (fun K => spec_hiAll.l0 K ((List.range i).map (codeT w d)) i w d) (allC w d) := by
 have hp := pow_lock hw hd.1 hd.2
 intro j
 induction j with
 | zero =>
  intro i hi
  refine Ev.step (fun k => by rw [spec_hiAll.l0]) ?_
  refine Ev.bind (whCount_ev w d hw hd.1 hd.2) (Ev.neg (by omega) (Ev.val (Ev.now _) ?_))
  unfold allC
  rw [show i = d ^ w by omega]
 | succ j ih =>
  intro i hi
  refine Ev.step (fun k => by rw [spec_hiAll.l0]) ?_
  refine Ev.bind (whCount_ev w d hw hd.1 hd.2) (Ev.pos (by omega) (Ev.bind (whOf_ev w d i hw1 hw hd (by omega)) (Ev.pos (by simp; omega) ?_)))
  rw [w64n (by omega)]
  have := ih (i + 1) (by omega)
  rw [List.range_succ, List.map_append] at this
  exact this
theorem hiAll_ev (w d : Nat) (hw1 : 1 ≤ w) (hw : w ≤ 6) (hd : 2 ≤ d ∧ d ≤ 10) : Ev (fun K => spec_hiAll.f K w d) (allC w d) := by
 unfold spec_hiAll.f
 exact hiAll_l0 w d hw1 hw hd (d ^ w) 0 (by omega)
theorem hiFitting_l0 (n : Nat) (l : List S35) (hl : okH n l) (cs : List ByteArray) (hn : cs.length ≤ 10000000) (hc : ∀ c ∈ cs, c.size = n) : ∀ (d i : Nat) (acc : List ByteArray), i + d = cs.length → acc.length ≤ i →
  Ev (fun K => spec_hiFitting.l0 K l acc cs (cs.length : Int) i) (acc ++ (cs.drop i).filter (fitsB l)) := by
 intro d
 induction d with
 | zero =>
  intro i acc hi ha
  refine Ev.step (fun k => by rw [spec_hiFitting.l0]) ?_
  refine Ev.neg (by omega) (Ev.val (Ev.now _) ?_)
  rw [List.drop_eq_nil_of_le (by omega)]
  simp
 | succ d ih =>
  intro i acc hi ha
  have h1 : i < cs.length := by omega
  have hr : rdOf ByteArray.empty cs (i : Int) = cs[i] := by unfold rdOf; simp [h1]
  refine Ev.step (fun k => by rw [spec_hiFitting.l0]) ?_
  refine Ev.pos (by omega) (Ev.pos (by omega) (Ev.pos (by omega) ?_))
  rw [hr, w64n (by omega), List.drop_eq_getElem_cons h1, List.filter_cons]
  refine Ev.bind (hiFits_ev n l hl _ (hc _ (List.getElem_mem h1))) ?_
  by_cases h : fitsB l cs[i] = true
  ·rw [if_pos h]
   refine Ev.pos h (Ev.pos (by omega) ?_)
   refine Ev.val (ih (i + 1) (acc ++ [cs[i]]) (by omega) (by simp; omega)) ?_
   rw [List.append_assoc]
   rfl
  ·rw [if_neg h]
   exact Ev.neg h (ih (i + 1) acc (by omega) (by omega))
theorem hiFitting_ev (n : Nat) (l : List S35) (hl : okH n l) (cs : List ByteArray) (hn : cs.length ≤ 10000000) (hc : ∀ c ∈ cs, c.size = n) : Ev (fun K => spec_hiFitting.f K cs l) (cs.filter (fitsB l)) := by
 unfold spec_hiFitting.f
 have := hiFitting_l0 n l hl cs hn hc cs.length 0 [] (by omega) (by simp)
 simpa using this
theorem allC_mem {w d : Nat} {c : ByteArray} (h : c ∈ allC w d) : ∃ n, n < d ^ w ∧ c = codeT w d n := by
 unfold allC at h
 obtain ⟨n, hn, rfl⟩ := List.mem_map.mp h
 exact ⟨n, List.mem_range.mp hn, rfl⟩
def fitC (w d : Nat) (l : List S35) : List ByteArray := (allC w d).filter (fitsB l)
theorem specFit_ev (w d : Nat) (hw1 : 1 ≤ w) (hw : w ≤ 6) (hd : 2 ≤ d ∧ d ≤ 10) (l : List S35) (hl : okH w l) {β : Type} (F : Nat → List ByteArray → Option β) (r : β) (h : Ev (fun K => F K (fitC w d l)) r) :
  Ev (fun K => (spec_hiAll.f K w d).bind fun t => (spec_hiFitting.f K t l).bind fun u => F K u) r := by
 have hp := pow_lock hw hd.1 hd.2
 refine Ev.bind (hiAll_ev w d hw1 hw hd) (Ev.bind (hiFitting_ev w l hl _ (by rw [allC_length]; omega) (fun c hc => by obtain ⟨n, _, rfl⟩ := allC_mem hc; exact codeT_size w d n)) h)
theorem fitting_l0 (w d : Nat) (hw1 : 1 ≤ w) (hw : w ≤ 6) (hd : 2 ≤ d ∧ d ≤ 10) (l : List S35) (hl : okH w l) : ∀ (j i : Nat) (acc : List ByteArray), i + j = d ^ w → acc.length ≤ i →
  Ev (fun K => impl_Lock_fitting.l0 K l acc ((d ^ w : Nat) : Int) i w d) (acc ++ ((allC w d).drop i).filter (fitsB l)) := by
 have hp := pow_lock hw hd.1 hd.2
 intro j
 induction j with
 | zero =>
  intro i acc hi ha
  refine Ev.step (fun k => by rw [impl_Lock_fitting.l0]) ?_
  refine Ev.neg (by omega) (Ev.val (Ev.now _) ?_)
  rw [List.drop_eq_nil_of_le (by rw [allC_length]; omega)]
  simp
 | succ j ih =>
  intro i acc hi ha
  have h1 : i < (allC w d).length := by rw [allC_length]; omega
  have hr : (allC w d)[i] = codeT w d i := by simp [allC]
  refine Ev.step (fun k => by rw [impl_Lock_fitting.l0]) ?_
  refine Ev.pos (by omega) ?_
  rw [w64n (by omega), List.drop_eq_getElem_cons h1, hr, List.filter_cons]
  refine Ev.bind (implCode_ev w d i hw1 hw hd (by omega)) (Ev.bind (implFits_ev w l hl _ (codeT_digs w d i hw hd hw1) (codeT_size w d i)) ?_)
  by_cases h : fitsB l (codeT w d i) = true
  ·rw [if_pos h]
   refine Ev.pos h (Ev.pos (by omega) ?_)
   refine Ev.val (ih (i + 1) (acc ++ [codeT w d i]) (by omega) (by simp; omega)) ?_
   rw [List.append_assoc]
   rfl
  ·rw [if_neg h]
   exact Ev.neg h (ih (i + 1) acc (by omega) (by omega))
theorem fitting_ev (w d : Nat) (hw1 : 1 ≤ w) (hw : w ≤ 6) (hd : 2 ≤ d ∧ d ≤ 10) (l : List S35) (hl : okH w l) : Ev (fun K => impl_Lock_fitting.f K w d l) (fitC w d l) := by
 unfold impl_Lock_fitting.f
 refine Ev.bind (count_ev w d hw hd.1 hd.2) ?_
 have := fitting_l0 w d hw1 hw hd l hl (d ^ w) 0 [] (by omega) (by simp)
 simpa [fitC] using this
theorem fitC_length (w d : Nat) (l : List S35) : (fitC w d l).length ≤ d ^ w := by
 have := List.length_filter_le (fitsB l) (allC w d)
 rw [allC_length] at this
 exact this
end Go.Proofs.YtcpnmiempaofdaaGreat.Pure
