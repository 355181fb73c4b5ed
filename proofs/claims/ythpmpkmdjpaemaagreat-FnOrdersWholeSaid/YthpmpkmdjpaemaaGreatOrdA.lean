/- Chapter 5: digits, texts of digits and remainders, as both sides tell them. -/
import Derived.Test.YthpmpkmdjpaemaaGreatPx0
import Derived.Test.YthpmpkmdjpaemaaGreatPx13
import Derived.Test.YthpmpkmdjpaemaaGreatPx3
import Derived.Test.YthpmpkmdjpaemaaGreatPx5
import Derived.Test.YthpmpkmdjpaemaaGreatHintA
namespace Go.Proofs.YthpmpkmdjpaemaaGreat.Pure
open Go.RowKit Go.Proofs.YthpmpkmdjpaemaaGreat.P Go.Proofs.YthpmpkmdjpaemaaGreatW.PrintWords Go.Proofs.YthpmpkmdjpaemaaGreatW.PrintLast Go.Proofs.YthpmpkmdjpaemaaGreatW.PrintMore
set_option linter.unusedVariables false

/-- Digits alone: what both hints ask of a text. -/
def digsB (s : ByteArray) : Prop := s.size ≤ 6 ∧ ∀ i : Nat, i < s.size → 48 ≤ bt s (i : Int) ∧ bt s (i : Int) ≤ 57
theorem digs_code {a b : Int} (h : lockB a b = true) {s : ByteArray} (hs : codeB a b s = true) : digsB s := by
  have h1 := lockB_iff.mp h
  have h2 := codeB_iff.mp hs
  exact ⟨by omega, fun i hi => by have := h2.2 i hi; omega⟩
def dgL (s : ByteArray) : List Int := (List.range s.size).map (fun (i : Nat) => bt s (i : Int) - 48)
theorem dgL_length (s : ByteArray) : (dgL s).length = s.size := by simp [dgL]
theorem digits_l0 (s : ByteArray) (hs : digsB s) : ∀ (d i : Nat), i + d = s.size → Ev (fun K => impl_digits.l0 K s ((List.range i).map (fun (i : Nat) => bt s (i : Int) - 48)) (s.size : Int) i) (dgL s) := by
  intro d
  induction d with
  | zero =>
    intro i hi
    refine Ev.step (fun k => by rw [impl_digits.l0]) ?_
    refine Ev.neg (by omega) (Ev.val (Ev.now _) ?_)
    unfold dgL
    rw [show i = s.size by omega]
  | succ d ih =>
    intro i hi
    have h1 : i < s.size := by omega
    have hb := hs.2 i h1
    have hs6 := hs.1
    refine Ev.step (fun k => by rw [impl_digits.l0]) ?_
    refine Ev.pos (by omega) (Ev.pos (by omega) (Ev.pos (by omega) (Ev.pos (by simp; omega) ?_)))
    rw [show (bt s (i : Int) - 48) % 256 = bt s (i : Int) - 48 by omega, w64n (by omega)]
    have := ih (i + 1) (by omega)
    rw [List.range_succ, List.map_append] at this
    exact this
theorem digits_ev (s : ByteArray) (hs : digsB s) : Ev (fun K => impl_digits.f K s) (dgL s) := by
  unfold impl_digits.f
  exact digits_l0 s hs s.size 0 (by omega)
def txt (ds : List Int) : ByteArray := strOfNums (ds.map (fun x => 48 + x))
theorem strOf_app (xs ys : List Int) : strOfNums (xs ++ ys) = strOfNums xs ++ strOfNums ys := by
  unfold strOfNums
  apply ByteArray.ext
  simp
theorem txt_snoc (ds : List Int) (x : Int) : txt (ds ++ [x]) = txt ds ++ strOfNums [48 + x] := by
  unfold txt
  rw [List.map_append, strOf_app]
  rfl
theorem txt_size (ds : List Int) : (txt ds).size = ds.length := by
  unfold txt
  rw [strOfNums_size, List.length_map]
/-- Digits: 0 to 9. -/
def digL (ds : List Int) : Prop := ds.length ≤ 6 ∧ ∀ x ∈ ds, 0 ≤ x ∧ x ≤ 9
theorem implText_l0 (ds : List Int) (hd : digL ds) : ∀ (d i : Nat), i + d = ds.length → Ev (fun K => impl_text.l0 K ((ds.take i).map (fun x => 48 + x)) ds (ds.length : Int) i) (txt ds) := by
  intro d
  induction d with
  | zero =>
    intro i hi
    refine Ev.step (fun k => by rw [impl_text.l0]) ?_
    refine Ev.neg (by omega) (Ev.val (Ev.now _) ?_)
    rw [List.take_of_length_le (by omega)]
    rfl
  | succ d ih =>
    intro i hi
    have h1 : i < ds.length := by omega
    have hx := hd.2 _ (List.getElem_mem h1)
    have hl := hd.1
    refine Ev.step (fun k => by rw [impl_text.l0]) ?_
    refine Ev.pos (by omega) (Ev.pos (by omega) (Ev.pos (by omega) (Ev.pos (by simp; omega) ?_)))
    rw [rd_nat h1, w64 (x := 48 + ds[i]) (by omega) (by omega), w64n (by omega), show (48 + ds[i]) % 256 = 48 + ds[i] by omega]
    have := ih (i + 1) (by omega)
    rw [List.take_succ_eq_append_getElem h1, List.map_append] at this
    exact this
theorem implText_ev (ds : List Int) (hd : digL ds) : Ev (fun K => impl_text.f K ds) (txt ds) := by
  unfold impl_text.f
  have := implText_l0 ds hd ds.length 0 (by omega)
  simpa using this
theorem l1Num_ev (x : Int) (hx : 0 ≤ x ∧ x ≤ 9) : Ev (fun K => spec_l1Num.f K x) (strOfNums [48 + x]) := by
  refine Ev.step (fun k => by rw [spec_l1Num.f]) ?_
  refine Ev.pos (by omega) (Ev.val (Ev.now _) ?_)
  rw [w64 (by omega) (by omega), show (48 + x) % 256 = 48 + x by omega]
theorem whText_l0 (ds : List Int) (hd : digL ds) : ∀ (d i : Nat), i + d = ds.length → Ev (fun K => spec_whText.l0 K (txt (ds.take i)) ds (ds.length : Int) i) (txt ds) := by
  intro d
  induction d with
  | zero =>
    intro i hi
    refine Ev.step (fun k => by rw [spec_whText.l0]) ?_
    refine Ev.neg (by omega) (Ev.val (Ev.now _) ?_)
    rw [List.take_of_length_le (by omega)]
  | succ d ih =>
    intro i hi
    have h1 : i < ds.length := by omega
    have hx := hd.2 _ (List.getElem_mem h1)
    have hl := hd.1
    refine Ev.step (fun k => by rw [spec_whText.l0]) ?_
    refine Ev.pos (by omega) (Ev.pos (by omega) (Ev.pos (by omega) ?_))
    rw [rd_nat h1, w64n (by omega)]
    refine Ev.bind (l1Num_ev _ hx) (Ev.pos ?_ ?_)
    · rw [txt_size, strOfNums_size, List.length_take]
      simp only [List.length_cons, List.length_nil]
      omega
    · have := ih (i + 1) (by omega)
      rw [List.take_succ_eq_append_getElem h1, txt_snoc] at this
      exact this
theorem whText_ev (ds : List Int) (hd : digL ds) : Ev (fun K => spec_whText.f K ds) (txt ds) := by
  unfold spec_whText.f
  have := whText_l0 ds hd ds.length 0 (by omega)
  simpa [txt, strOfNums] using this
theorem dcode_digL (d : Nat) (hd : 2 ≤ d ∧ d ≤ 10) (w n : Nat) (hw : w ≤ 6) : digL (dcode d w n) := by
  refine ⟨by rw [dcode_len]; exact hw, ?_⟩
  have key : ∀ k n, ∀ x ∈ dcode d k n, 0 ≤ x ∧ x ≤ (d : Int) - 1 := by
    intro k
    induction k with
    | zero => intro n x h; simp [dcode] at h
    | succ k ih =>
      intro n x h
      rw [dcode] at h
      rcases List.mem_append.mp h with h | h
      · exact ih _ x h
      · rw [List.mem_singleton] at h
        have := Nat.mod_lt n (show 0 < d by omega)
        omega
  intro x hx
  have := key w n x hx
  omega
def codeT (w d n : Nat) : ByteArray := txt (dcode d w n)
theorem codeT_size (w d n : Nat) : (codeT w d n).size = w := by unfold codeT; rw [txt_size, dcode_len]
theorem bt_txt (ds : List Int) (hd : ∀ x ∈ ds, 0 ≤ x ∧ x ≤ 9) (i : Nat) (h : i < ds.length) : bt (txt ds) (i : Int) = 48 + ds[i] := by
  have hs : i < (txt ds).size := by rw [txt_size]; exact h
  have e : bt (txt ds) (i : Int) = (((txt ds)[i]'hs).toNat : Int) := by unfold bt; simp [hs]
  have hx := hd _ (List.getElem_mem h)
  have e2 : ((txt ds)[i]'hs) = UInt8.ofNat (48 + ds[i]).toNat := by
    show (txt ds).data[i] = _
    simp [txt, strOfNums]
  rw [e, e2]
  have : (48 + ds[i]).toNat < 256 := by omega
  simp only [UInt8.toNat_ofNat']
  omega
theorem codeT_code (w d n : Nat) (hw : w ≤ 6) (hd : 2 ≤ d ∧ d ≤ 10) : codeB (w : Int) (d : Int) (codeT w d n) = true := by
  rw [codeB_iff]
  refine ⟨by rw [codeT_size], fun i hi => ?_⟩
  rw [codeT_size] at hi
  have key : ∀ k n, ∀ x ∈ dcode d k n, 0 ≤ x ∧ x ≤ (d : Int) - 1 := by
    intro k
    induction k with
    | zero => intro n x h; simp [dcode] at h
    | succ k ih =>
      intro n x h
      rw [dcode] at h
      rcases List.mem_append.mp h with h | h
      · exact ih _ x h
      · rw [List.mem_singleton] at h
        have := Nat.mod_lt n (show 0 < d by omega)
        omega
  have hl : i < (dcode d w n).length := by rw [dcode_len]; exact hi
  have hx := key w n _ (List.getElem_mem hl)
  unfold codeT
  rw [bt_txt _ (fun x hx => (dcode_digL d hd w n hw).2 x hx) i hl]
  omega
theorem codeT_digs (w d n : Nat) (hw : w ≤ 6) (hd : 2 ≤ d ∧ d ≤ 10) (hw1 : 1 ≤ w) : digsB (codeT w d n) := digs_code (lockB_iff.mpr ⟨by omega, by omega⟩) (codeT_code w d n hw hd)
theorem implCode_ev (w d n : Nat) (hw1 : 1 ≤ w) (hw : w ≤ 6) (hd : 2 ≤ d ∧ d ≤ 10) (hn : n ≤ 10000000) : Ev (fun K => impl_Lock_code.f K w d n) (codeT w d n) := by
  unfold impl_Lock_code.f
  refine Ev.pos ⟨by omega, by omega, by omega, by omega⟩ ?_
  simp only [Int.toNat_natCast]
  exact implText_ev _ (dcode_digL d hd w n hw)
theorem whOf_l0 (w d n : Nat) (hw1 : 1 ≤ w) (hw : w ≤ 6) (hd : 2 ≤ d ∧ d ≤ 10) (hn : n ≤ 10000000) : ∀ (j q : Nat) (tail : List Int), q ≤ 10000000 → j + tail.length = w → dcode d j q ++ tail = dcode d w n →
    Ev (fun K => spec_whOf.l0 K q (List.replicate j 0 ++ tail) ((j : Int) - 1) w d) (codeT w d n) := by
  intro j
  induction j with
  | zero =>
    intro q tail hq hl he
    refine Ev.step (fun k => by rw [spec_whOf.l0]) ?_
    refine Ev.neg (by omega) ?_
    have e : List.replicate 0 0 ++ tail = dcode d w n := by simpa [dcode] using he
    rw [e]
    exact Ev.bind (whText_ev _ (dcode_digL d hd w n hw)) (Ev.now _)
  | succ j ih =>
    intro q tail hq hl he
    have hdq : q / d ≤ q := Nat.div_le_self q d
    have e1 : Int.tdiv (q : Int) (d : Int) = ((q / d : Nat) : Int) := by rw [Int.tdiv_eq_ediv_of_nonneg (by omega)]; exact (Int.natCast_ediv q d).symm
    have e2 : Int.tmod (q : Int) (d : Int) = ((q % d : Nat) : Int) := by rw [Int.tmod_eq_emod_of_nonneg (by omega)]; exact (Int.natCast_emod q d).symm
    refine Ev.step (fun k => by rw [spec_whOf.l0]) ?_
    refine Ev.pos (by omega) (Ev.neg (by omega) (Ev.pos (by omega) (Ev.pos (by simp; omega) ?_)))
    have z1 : (0 : Int) ≤ ((q / d : Nat) : Int) := Int.natCast_nonneg _
    have z2 : ((q / d : Nat) : Int) ≤ 10000000 := Int.ofNat_le.mpr (Nat.le_trans hdq hq)
    rw [e1, e2, w64 (x := ((q / d : Nat) : Int)) (Int.le_trans (by decide) z1) (Int.le_trans z2 (by decide)), w64 (x := ((j + 1 : Nat) : Int) - 1 - 1) (by omega) (by omega)]
    have e3 : (List.replicate (j + 1) (0 : Int) ++ tail).set (((j + 1 : Nat) : Int) - 1).toNat ((q % d : Nat) : Int) = List.replicate j 0 ++ ((q % d : Nat) : Int) :: tail := by
      rw [show (((j + 1 : Nat) : Int) - 1).toNat = j by omega, List.replicate_succ', List.append_assoc, List.set_append_right _ _ (by simp)]
      simp
    rw [e3, show ((j + 1 : Nat) : Int) - 1 - 1 = (j : Int) - 1 by omega]
    refine ih (q / d) _ (by omega) (by simp; omega) ?_
    rw [dcode, List.append_assoc] at he
    exact he
theorem whOf_ev (w d n : Nat) (hw1 : 1 ≤ w) (hw : w ≤ 6) (hd : 2 ≤ d ∧ d ≤ 10) (hn : n ≤ 10000000) : Ev (fun K => spec_whOf.f K w d n) (codeT w d n) := by
  unfold spec_whOf.f
  refine Ev.pos (by omega) (Ev.pos (by omega) ?_)
  rw [w64 (by omega) (by omega), Int.toNat_natCast]
  have := whOf_l0 w d n hw1 hw hd hn w n [] hn (by simp) (by simp)
  simpa using this
/-- Remainders: both as the mathematical one, for small moduli. -/
theorem tmod_fix (a m : Int) (hm : 2 ≤ m) (hm2 : m ≤ 1000000) : Int.tmod (wrap64 (Int.tmod a m + m)) m = a % m := by
  have h1 : Int.tmod a m < m := Int.tmod_lt_of_pos a (by omega)
  have h2 : -m < Int.tmod a m := by
    have h0 : 0 ≤ a % m := Int.emod_nonneg _ (by omega)
    have h3 : a % m < m := Int.emod_lt_of_pos _ (by omega)
    rw [Int.tmod_eq_emod]
    split
    · simp only [Int.natCast_zero]; omega
    · rename_i hc
      have : a % m ≠ 0 := fun e => hc (.inr (Int.dvd_of_emod_eq_zero e))
      rw [Int.natAbs_of_nonneg (by omega)]
      omega
  rw [w64 (by omega) (by omega), Int.tmod_eq_emod_of_nonneg (by omega), Int.add_emod_right, Int.tmod_eq_emod]
  split
  · simp
  · rename_i hc
    rw [Int.sub_emod]
    have : ((m.natAbs : Int)) % m = 0 := by
      rw [Int.natAbs_of_nonneg (by omega)]; exact Int.emod_self
    rw [this]
    simp
theorem around_some (a m : Int) (hm : 2 ≤ m) (hm2 : m ≤ 1000000) : impl_around.f a m = some (a % m) := by
  unfold impl_around.f
  rw [if_neg (by omega), tmod_fix a m hm hm2]
theorem l1Mod_some (a m : Int) (hm : 2 ≤ m) (hm2 : m ≤ 1000000) : spec_l1Mod.f a m = some (a % m) := by
  unfold spec_l1Mod.f
  rw [if_neg (by omega), tmod_fix a m hm hm2]
end Go.Proofs.YthpmpkmdjpaemaaGreat.Pure
