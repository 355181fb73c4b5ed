import Derived.Test.YtcpnmiempaofdaaGreatHintO
namespace Go.Proofs.YtcpnmiempaofdaaGreat.Pure
open Go.RowKit Go.Proofs.YtcpnmiempaofdaaGreat.G Go.Proofs.YtcpnmiempaofdaaGreatW.PrintWords Go.Proofs.YtcpnmiempaofdaaGreatW.PrintLast Go.Proofs.YtcpnmiempaofdaaGreatW.PrintMore
set_option linter.unusedVariables false
def cntP (ix : Int × Int → Nat) (q : Nat) (S : List (Int × Int)) : Int := ((S.filter (fun s => decide (ix s = q))).length : Int)
theorem cntP_snoc (ix : Int × Int → Nat) (q : Nat) (S : List (Int × Int)) (x : Int × Int) : cntP ix q (S ++ [x]) = cntP ix q S + if ix x = q then 1 else 0 := by
 unfold cntP
 rw [List.filter_append, List.length_append]
 by_cases h : ix x = q
 ·simp [h]
 ·simp [h]
theorem cntP_zero (ix : Int × Int → Nat) (q : Nat) (S : List (Int × Int)) (h : ∀ s ∈ S, ix s ≠ q) : cntP ix q S = 0 := by
 unfold cntP
 rw [List.filter_eq_nil_iff.mpr (fun s hs => by simpa using h s hs)]
 rfl
theorem cntP_nonneg (ix : Int × Int → Nat) (q : Nat) (S : List (Int × Int)) : 0 ≤ cntP ix q S := by unfold cntP; omega
def tabN (ix : Int × Int → Nat) (un : Nat → Int × Int) (S : List (Int × Int)) : Nat → List ((Int × Int) × Int)
 | 0 => []
 | n + 1 => tabN ix un S n ++ if 0 < cntP ix n S then [(un n, cntP ix n S)] else []
theorem tabN_range (ix : Int × Int → Nat) (un : Nat → Int × Int) (S : List (Int × Int)) : ∀ n, tabN ix un S n = ((List.range n).filter (fun q => decide (0 < cntP ix q S))).map (fun q => (un q, cntP ix q S))
 | 0 => rfl
 | n + 1 => by
  rw [tabN, tabN_range ix un S n, List.range_succ, List.filter_append, List.map_append]
  by_cases h : 0 < cntP ix n S
  ·simp [h]
  ·simp [h]
theorem tabN_same (ix : Int × Int → Nat) (un : Nat → Int × Int) (S S' : List (Int × Int)) : ∀ n, (∀ q, q < n → cntP ix q S = cntP ix q S') → tabN ix un S n = tabN ix un S' n
 | 0, _ => rfl
 | n + 1, h => by rw [tabN, tabN, tabN_same ix un S S' n (fun q hq => h q (by omega)), h n (by omega)]
theorem tabN_stop (ix : Int × Int → Nat) (un : Nat → Int × Int) (S : List (Int × Int)) (m : Nat) : ∀ n, m ≤ n → (∀ q, m ≤ q → cntP ix q S = 0) → tabN ix un S n = tabN ix un S m
 | 0, h, _ => by rw [show m = 0 by omega]
 | n + 1, h, h0 => by
  by_cases e : m = n + 1
  ·rw [e]
  ·rw [tabN, h0 n (by omega), if_neg (by omega), List.append_nil, tabN_stop ix un S m n (by omega) h0]
theorem tabN_keys (ix : Int × Int → Nat) (un : Nat → Int × Int) (S : List (Int × Int)) : ∀ n, ∀ t ∈ tabN ix un S n, ∃ q, q < n ∧ t.1 = un q
 | 0, t, ht => by simp [tabN] at ht
 | n + 1, t, ht => by
  rw [tabN] at ht
  rcases List.mem_append.mp ht with h | h
  ·obtain ⟨q, hq, e⟩ := tabN_keys ix un S n t h
   exact ⟨q, by omega, e⟩
  ·by_cases hc : 0 < cntP ix n S
   ·rw [if_pos hc] at h
    rw [List.mem_singleton] at h
    exact ⟨n, by omega, by rw [h]⟩
   ·rw [if_neg hc] at h; simp at h
theorem tab_step (ix : Int × Int → Nat) (un : Nat → Int × Int) (M : Nat) (S : List (Int × Int)) (x : Int × Int) (hx : ix x < M) (hu : un (ix x) = x) (hun : ∀ q, q < ix x → un q ≠ x) (hS : ∀ s ∈ S, ix s ≤ ix x) :
  tabStep (fun z => z) (tabN ix un S M) x = tabN ix un (S ++ [x]) M := by
 have hz : ∀ q, ix x + 1 ≤ q → cntP ix q S = 0 := fun q hq => cntP_zero ix q S (fun s hs => by have := hS s hs; omega)
 have hz' : ∀ q, ix x + 1 ≤ q → cntP ix q (S ++ [x]) = 0 := fun q hq => by rw [cntP_snoc, hz q hq, if_neg (by omega)]; rfl
 rw [tabN_stop ix un S (ix x + 1) M (by omega) hz, tabN_stop ix un (S ++ [x]) (ix x + 1) M (by omega) hz', tabN, tabN]
 have hsame : tabN ix un (S ++ [x]) (ix x) = tabN ix un S (ix x) := tabN_same ix un _ _ _ (fun q hq => by rw [cntP_snoc, if_neg (by omega), Int.add_zero])
 have hc : cntP ix (ix x) (S ++ [x]) = cntP ix (ix x) S + 1 := by rw [cntP_snoc, if_pos rfl]
 have h0 := cntP_nonneg ix (ix x) S
 rw [hsame, hc, if_pos (show 0 < cntP ix (ix x) S + 1 by omega), hu]
 have hk := tabN_keys ix un S (ix x)
 generalize tabN ix un S (ix x) = A at hk
 by_cases hp : 0 < cntP ix (ix x) S
 ·rw [if_pos hp]
  unfold tabStep
  simp
 ·rw [if_neg hp, List.append_nil, show cntP ix (ix x) S + 1 = 1 by omega]
  unfold tabStep
  cases hl : A.getLast? with
  | none =>
   have : A = [] := by simpa using hl
   rw [this]; rfl
  | some t =>
   obtain ⟨y, c⟩ := t
   dsimp only
   have hm : (y, c) ∈ A := List.mem_of_getLast? hl
   obtain ⟨q, hq, e⟩ := hk _ hm
   rw [if_neg (fun he => hun q hq (by rw [← e]; exact he))]
theorem tab_all (ix : Int × Int → Nat) (un : Nat → Int × Int) (M : Nat) (hinj : ∀ q q', q < M → q' < M → un q = un q' → q = q') : ∀ (xs S : List (Int × Int)), (∀ s ∈ S ++ xs, ix s < M ∧ un (ix s) = s) → (S ++ xs).Pairwise (fun a b => ix a ≤ ix b) →
  xs.foldl (tabStep (fun z => z)) (tabN ix un S M) = tabN ix un (S ++ xs) M
 | [], S, _, _ => by simp
 | x :: xs, S, h, hp => by
  obtain ⟨hx, hu⟩ := h x (by simp)
  rw [List.foldl_cons, tab_step ix un M S x hx hu (fun q hq he => by have := hinj q (ix x) (by omega) hx (he.trans hu.symm); omega) (fun s hs => (List.pairwise_append.mp hp).2.2 s hs x (by simp))]
  have e : S ++ x :: xs = (S ++ [x]) ++ xs := by simp
  rw [e] at h hp ⊢
  exact tab_all ix un M hinj xs (S ++ [x]) h hp
def ixP (w : Nat) (s : Int × Int) : Nat := (s.1 * ((w : Int) + 1) + s.2).toNat
def unP (w : Nat) (q : Nat) : Int × Int := (((q / (w + 1) : Nat) : Int), ((q % (w + 1) : Nat) : Int))
theorem unP_inj (w q q' : Nat) (h : unP w q = unP w q') : q = q' := by
 have h1 : q / (w + 1) = q' / (w + 1) := Int.ofNat_inj.mp (congrArg Prod.fst h)
 have h2 : q % (w + 1) = q' % (w + 1) := Int.ofNat_inj.mp (congrArg Prod.snd h)
 rw [← Nat.div_add_mod q (w + 1), ← Nat.div_add_mod q' (w + 1), h1, h2]
def okP (w : Nat) (s : Int × Int) : Prop := 0 ≤ s.1 ∧ 0 ≤ s.2 ∧ s.1 + s.2 ≤ (w : Int)
theorem ixP_nat (w a b : Nat) : ixP w ((a : Int), (b : Int)) = a * (w + 1) + b := by
 unfold ixP
 have : (a : Int) * ((w : Int) + 1) + (b : Int) = ((a * (w + 1) + b : Nat) : Int) := by simp
 simp only [this, Int.toNat_natCast]
theorem okP_nat {w : Nat} {s : Int × Int} (h : okP w s) : ∃ a b : Nat, s = ((a : Int), (b : Int)) ∧ a + b ≤ w := by
 obtain ⟨h1, h2, h3⟩ := h
 exact ⟨s.1.toNat, s.2.toNat, Prod.ext (by omega) (by omega), by omega⟩
theorem ixP_lt {w : Nat} {s : Int × Int} (h : okP w s) : ixP w s < (w + 1) * (w + 1) := by
 obtain ⟨a, b, rfl, hab⟩ := okP_nat h
 rw [ixP_nat]
 have : (a + 1) * (w + 1) ≤ (w + 1) * (w + 1) := Nat.mul_le_mul_right _ (by omega)
 rw [Nat.add_mul, Nat.one_mul] at this
 omega
theorem unP_ix {w : Nat} {s : Int × Int} (h : okP w s) : unP w (ixP w s) = s := by
 obtain ⟨a, b, rfl, hab⟩ := okP_nat h
 rw [ixP_nat]
 unfold unP
 rw [Nat.mul_comm, Nat.mul_add_div (by omega), Nat.div_eq_of_lt (show b < w + 1 by omega), Nat.add_zero, Nat.mul_add_mod, Nat.mod_eq_of_lt (show b < w + 1 by omega)]
theorem ixP_le {w : Nat} {s t : Int × Int} (hs : okP w s) (ht : okP w t) (h : lexLe s t = true) : ixP w s ≤ ixP w t := by
 obtain ⟨a, b, rfl, hab⟩ := okP_nat hs
 obtain ⟨c, d, rfl, hcd⟩ := okP_nat ht
 rw [ixP_nat, ixP_nat]
 unfold lexLe lexLt at h
 rw [Bool.not_eq_true', decide_eq_false_iff_not] at h
 simp only at h
 by_cases e : a = c
 ·subst e; omega
 ·have h2 : a + 1 ≤ c := by omega
  have : (a + 1) * (w + 1) ≤ c * (w + 1) := Nat.mul_le_mul_right _ h2
  rw [Nat.add_mul, Nat.one_mul] at this
  omega
def tabV (w : Nat) (g : ByteArray) (codes : List ByteArray) : List (List Int) := ((List.range ((w + 1) * (w + 1))).filter (fun q => decide (0 < partsF w g codes q))).map (fun q => [((q / (w + 1) : Nat) : Int), ((q % (w + 1) : Nat) : Int), partsF w g codes q])
theorem tabP_eq (w : Nat) (g : ByteArray) (hg : digsB g ∧ g.size = w) (codes : List ByteArray) : tabP (codes.map (hintV g)) = tabV w g codes := by
 have hok : ∀ s ∈ codes.map (hintV g), okP w s := by
  intro s hs
  obtain ⟨c, _, rfl⟩ := List.mem_map.mp hs
  have := hint_bd g c hg.1
  rw [hg.2] at this
  exact this
 have hperm := List.mergeSort_perm (codes.map (hintV g)) lexLe
 have hok' : ∀ s ∈ (codes.map (hintV g)).mergeSort lexLe, okP w s := fun s hs => hok s (hperm.mem_iff.mp hs)
 have hle : ∀ a b : Int × Int, lexLe a b = true ↔ (a.1 < b.1 ∨ a.1 = b.1 ∧ a.2 ≤ b.2) := by
  intro a b
  unfold lexLe lexLt
  rw [Bool.not_eq_true', decide_eq_false_iff_not]
  omega
 have hpw : ((codes.map (hintV g)).mergeSort lexLe).Pairwise (fun x y => lexLe x y = true) := List.pairwise_mergeSort (le := lexLe) (fun a b c h1 h2 => by rw [hle] at *; omega) (fun a b => by rw [Bool.or_eq_true, hle, hle]; omega) _
 have hpi : ((codes.map (hintV g)).mergeSort lexLe).Pairwise (fun a b => ixP w a ≤ ixP w b) := hpw.imp_of_mem (fun {a b} ha hb h => ixP_le (hok' a ha) (hok' b hb) h)
 have hcnt : ∀ q, cntP (ixP w) q ((codes.map (hintV g)).mergeSort lexLe) = partsF w g codes q := by
  intro q
  unfold cntP partsF
  rw [(hperm.filter _).length_eq, List.filter_map, List.length_map]
  rfl
 unfold tabP tabOf
 have h0 : tabN (ixP w) (unP w) [] ((w + 1) * (w + 1)) = [] := tabN_stop _ _ _ 0 _ (Nat.zero_le _) (fun q _ => rfl)
 rw [← h0, tab_all (ixP w) (unP w) ((w + 1) * (w + 1)) (fun q q' _ _ h => unP_inj w q q' h) _ [] (by rw [List.nil_append]; exact fun s hs => ⟨ixP_lt (hok' s hs), unP_ix (hok' s hs)⟩) (by rw [List.nil_append]; exact hpi), List.nil_append, tabN_range, List.map_map]
 unfold tabV
 simp only [hcnt]
 rfl
theorem hintsL_ev (w : Nat) (g : ByteArray) (hg : digsB g ∧ g.size = w) : ∀ codes : List ByteArray, (∀ c ∈ codes, digsB c ∧ c.size = w) → Ev (fun K => hintsL K g codes) (codes.map (hintV g))
 | [], _ => Ev.now _
 | c :: cs, h => by
  have hc := h c (by simp)
  obtain ⟨K, hK⟩ := hintsL_ev w g hg cs (fun s hs => h s (by simp [hs]))
  obtain ⟨K1, hK1⟩ := implHint_ev g c hg.1 hc.1 (by rw [hg.2, hc.2])
  refine ⟨max K K1, fun k hk => ?_⟩
  show ((impl_hint.f k g c).bind fun r => (hintsL k g cs).map (fun l => r :: l)) = _
  rw [show impl_hint.f k g c = _ from hK1 k (by omega), show hintsL k g cs = _ from hK k (by omega)]
  rfl
theorem implTable_ev (w : Nat) (g : ByteArray) (hg : digsB g ∧ g.size = w) (codes : List ByteArray) (hn : codes.length ≤ 1000) (hc : ∀ c ∈ codes, digsB c ∧ c.size = w) : Ev (fun K => impl_table.f K codes g) (tabV w g codes) := by
 obtain ⟨K, hK⟩ := hintsL_ev w g hg codes hc
 refine ⟨K, fun k hk => ?_⟩
 show impl_table.f k codes g = _
 unfold impl_table.f
 rw [if_pos hn, show hintsL k g codes = _ from hK k hk, ← tabP_eq w g hg codes]
 rfl
theorem fitC_good (w d : Nat) (hw1 : 1 ≤ w) (hw : w ≤ 6) (hd : 2 ≤ d ∧ d ≤ 10) (l : List S35) : ∀ c ∈ fitC w d l, digsB c ∧ c.size = w := by
 intro c hc
 obtain ⟨n, _, rfl⟩ := allC_mem (List.mem_filter.mp hc).1
 exact ⟨codeT_digs w d n hw hd hw1, codeT_size w d n⟩
theorem fitC_len (w d : Nat) (l : List S35) : (fitC w d l).length ≤ d ^ w := by
 rw [← allC_length]
 exact List.length_filter_le _ _
theorem small_len {w d : Nat} {m : Int} (h : smallB w d m = true) : ((d ^ w : Nat) : Int) ≤ m := by
 unfold smallB at h
 rw [Bool.and_eq_true] at h
 have := of_decide_eq_true h.2
 simpa using this
end Go.Proofs.YtcpnmiempaofdaaGreat.Pure
