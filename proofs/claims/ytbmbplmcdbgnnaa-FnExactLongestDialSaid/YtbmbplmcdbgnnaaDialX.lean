/- Chapter 7: all codes of so many numbers, in order: as the numbers that count them, and as lists that are led on by a number each. -/
import Derived.Test.YtbmbplmcdbgnnaaQx0
import Derived.Test.YtbmbplmcdbgnnaaQx1
import Derived.Test.YtbmbplmcdbgnnaaQx2
import Derived.Test.YtbmbplmcdbgnnaaQx3
import Derived.Test.YtbmbplmcdbgnnaaQx6
import Derived.Test.YtbmbplmcdbgnnaaQx7
import Derived.Test.YtbmbplmcdbgnnaaDialG
import Derived.Test.YtbmbplmcdbgnnaaDialP
namespace Go.Proofs.Ytbmbplmcdbgnnaa.Pure
open Go.RowKit Go.Proofs.Ytbmbplmcdbgnnaa.Q Go.Proofs.YtbmbplmcdbgnnaaW.PrintWords Go.Proofs.YtbmbplmcdbgnnaaW.PrintLast Go.Proofs.YtbmbplmcdbgnnaaW.PrintMore
set_option linter.unusedVariables false

theorem dcode_length (m : Nat) : ∀ k n, (dcode m k n).length = k
  | 0, _ => rfl
  | k + 1, n => by rw [dcode, List.length_append, dcode_length m k]; rfl
theorem dcode_mem (m : Nat) (h0 : 0 < m) : ∀ k n, ∀ x ∈ dcode m k n, 0 ≤ x ∧ x ≤ (m : Int) - 1
  | 0, _, x, h => by simp [dcode] at h
  | k + 1, n, x, h => by
    rw [dcode] at h
    rcases List.mem_append.mp h with h | h
    · exact dcode_mem m h0 k _ x h
    · rw [List.mem_singleton] at h
      have := Nat.mod_lt n h0
      omega
theorem dall_mem {m k : Nat} (h0 : 0 < m) {c : List Int} (h : c ∈ dall m k) : c.length = k ∧ ∀ x ∈ c, 0 ≤ x ∧ x ≤ (m : Int) - 1 := by
  unfold dall at h
  obtain ⟨n, _, rfl⟩ := List.mem_map.mp h
  exact ⟨dcode_length m k n, dcode_mem m h0 k n⟩
theorem dall_length (m k : Nat) : (dall m k).length = m ^ k := by simp [dall]

theorem diAll_some (m n : Nat) (hm : 1 ≤ m ∧ m ≤ 12) (hn : n ≤ 3) : spec_diAll.f m n = some (dall m n) := by
  unfold spec_diAll.f
  rw [if_pos (by omega)]
  simp

/-! folds -/
theorem foldO_ev {σ α : Type} {f : Nat → σ → α → Option σ} (g : σ → α → σ) (P : Nat → σ → Prop) (N : Nat) : ∀ (l : List α) (i : Nat) (s : σ), P i s → i + l.length ≤ N → (∀ x ∈ l, ∀ i s, i < N → P i s → Ev (fun K => f K s x) (g s x) ∧ P (i + 1) (g s x)) → Ev (fun K => foldO (f K) s l) (l.foldl g s)
  | [], _, s, _, _, _ => Ev.now s
  | x :: xs, i, s, hs, hi, h => by
    rw [List.length_cons] at hi
    obtain ⟨h1, h2⟩ := h x List.mem_cons_self i s (by omega) hs
    exact Ev.bind h1 (foldO_ev g P N xs (i + 1) _ h2 (by omega) (fun y hy => h y (List.mem_cons_of_mem _ hy)))
theorem foldl_inv {σ α : Type} (g : σ → α → σ) (P : Nat → σ → Prop) : ∀ (l : List α) (i : Nat) (s : σ), P i s → (∀ x ∈ l, ∀ i s, P i s → P (i + 1) (g s x)) → P (i + l.length) (l.foldl g s)
  | [], _, s, hs, _ => hs
  | x :: xs, i, s, hs, h => by
    have := foldl_inv g P xs (i + 1) _ (h x List.mem_cons_self i s hs) (fun y hy => h y (List.mem_cons_of_mem _ hy))
    rw [List.length_cons, show i + (xs.length + 1) = i + 1 + xs.length by omega]
    exact this

/-! what both do with each code -/
def lenC (m s : Int) (c : List Int) : Int := lenP (openL m 1 s c)
theorem lenP_le (B : Int) : ∀ l : List Int, (∀ x ∈ l, -B ≤ x ∧ x ≤ B) → lenP l ≤ (l.length : Int) * B
  | [], _ => by simp [lenP]
  | x :: xs, h => by
    have h1 := h x List.mem_cons_self
    have h2 := lenP_le B xs (fun y hy => h y (List.mem_cons_of_mem _ hy))
    rw [lenP, List.length_cons]
    have e : ((xs.length + 1 : Nat) : Int) * B = (xs.length : Int) * B + B := by rw [Int.natCast_add, Int.add_mul]; omega
    omega
theorem small_code (m s : Int) (hm : 2 ≤ m ∧ m ≤ 12) (c : List Int) (hc : c.length ≤ 3) : smallAll (openL m 1 s c) = true ∧ (∀ x ∈ openL m 1 s c, -300 ≤ x ∧ x ≤ 300) ∧ 0 ≤ lenC m s c ∧ lenC m s c ≤ 900 := by
  have hb : ∀ x ∈ openL m 1 s c, -300 ≤ x ∧ x ≤ 300 := fun x hx => by
    have := openL_bound m (by omega) c 1 s (.inl rfl) x hx
    omega
  refine ⟨?_, hb, lenP_nonneg _, ?_⟩
  · unfold smallAll
    rw [List.all_eq_true]
    exact fun x hx => decide_eq_true (by have := hb x hx; omega)
  · have h1 := lenP_le 300 _ hb
    rw [openL_length] at h1
    have h2 : (c.length : Int) * 300 ≤ 3 * 300 := Int.mul_le_mul_of_nonneg_right (by omega) (by omega)
    unfold lenC
    omega
theorem code_ok {m : Nat} {k : Nat} (hm : 2 ≤ m) (hk : 1 ≤ k ∧ k ≤ 3) {c : List Int} (h : c ∈ dall m k) : codeOk (m : Int) c = true ∧ c.length ≤ 3 ∧ c ≠ [] := by
  obtain ⟨h1, h2⟩ := dall_mem (by omega) h
  exact ⟨codeOk_iff.mpr ⟨by omega, h2⟩, by omega, fun e => by rw [e] at h1; simp at h1; omega⟩
theorem open_len_ev (m s : Int) (hm : 2 ≤ m ∧ m ≤ 12) (hs : 0 ≤ s ∧ s ≤ m - 1) (c : List Int) (hc : codeOk m c = true) (h3 : c.length ≤ 3) {β : Type} (F : Nat → Int → Option β) (r : β) (h : Ev (fun K => F K (lenC m s c)) r) :
    Ev (fun K => (impl_opening.f K m s c).bind fun o => (impl_length.f K o.1).bind fun t => F K t) r := by
  obtain ⟨h1, h2, _⟩ := small_code m s hm c h3
  have ho := implOpening_ev m s (by omega) hs c hc
  rw [if_pos h1] at ho
  exact Ev.bind ho (Ev.bind (implLength_ev _ (by rw [openL_length]; omega) (fun x hx => by have := h2 x hx; omega)) h)
theorem spec_len_ev (m s : Int) (hm : 2 ≤ m ∧ m ≤ 12) (hs : 0 ≤ s ∧ s ≤ m - 1) (c : List Int) (hc : codeOk m c = true) (h3 : c.length ≤ 3) {β : Type} (F : Nat → Int → Option β) (r : β) (h : Ev (fun K => F K (lenC m s c)) r) :
    Ev (fun K => (spec_diOpen.f K m s c).bind fun o => (spec_diLength.f K o).bind fun t => F K t) r := by
  obtain ⟨h1, h2, _⟩ := small_code m s hm c h3
  exact Ev.bind (specOpen_ev m s (by omega) hs c hc) (Ev.bind (specLength_ev _ (by rw [openL_length]; omega) (fun x hx => by have := h2 x hx; omega)) h)
theorem diFew_some (m s n : Int) : spec_diFew.f m s n = some (decide (((2 ≤ m ∧ m ≤ 100) ∧ 0 ≤ s ∧ s ≤ m - 1) ∧ m ≤ 12 ∧ 1 ≤ n ∧ n ≤ 3)) := by
  unfold spec_diFew.f
  rw [diAsked_some, l1In_some]
  simp only [Option.bind_some]
  by_cases h1 : (2 ≤ m ∧ m ≤ 100) ∧ 0 ≤ s ∧ s ≤ m - 1
  · rw [if_pos (decide_eq_true h1)]
    by_cases h2 : m ≤ 12
    · rw [if_pos h2]
      congr 1
      exact decide_eq_decide.mpr (by omega)
    · rw [if_neg h2]
      congr 1
      symm
      rw [decide_eq_false_iff_not]
      omega
  · rw [if_neg (by rw [decide_eq_false h1]; decide)]
    congr 1
    symm
    rw [decide_eq_false_iff_not]
    exact fun hc => h1 hc.1
/-- The count of codes with a length. -/
def cntG (m s l : Int) (n : Int) (c : List Int) : Int := if lenC m s c = l then n + 1 else n
def cntV (m s k l : Int) : Int × Bool := if (((2 ≤ m ∧ m ≤ 100) ∧ 0 ≤ s ∧ s ≤ m - 1) ∧ m ≤ 12 ∧ 1 ≤ k ∧ k ≤ 3) ∧ 0 ≤ l ∧ l ≤ 10000 then ((dall m.toNat k.toNat).foldl (cntG m s l) 0, true) else (0, false)
theorem pow_few {m k : Nat} (hm : m ≤ 12) (hk : k ≤ 3) : m ^ k ≤ 1728 := by
  have h1 : m ^ k ≤ 12 ^ k := Nat.pow_le_pow_left hm k
  have h2 : 12 ^ k ≤ 12 ^ 3 := Nat.pow_le_pow_right (by omega) (by omega)
  omega
theorem implCount_ev (m s k l : Int) : Ev (fun K => impl_CountByLength.f K m s k l) (cntV m s k l) := by
  unfold impl_CountByLength.f cntV
  by_cases h : (((2 ≤ m ∧ m ≤ 100) ∧ 0 ≤ s ∧ s ≤ m - 1) ∧ m ≤ 12 ∧ 1 ≤ k ∧ k ≤ 3) ∧ 0 ≤ l ∧ l ≤ 10000
  · rw [if_pos h]
    obtain ⟨⟨⟨h1, h2⟩, h3, h4⟩, h5⟩ := h
    obtain ⟨M, rfl⟩ := Int.eq_ofNat_of_zero_le (show 0 ≤ m by omega)
    obtain ⟨n, rfl⟩ := Int.eq_ofNat_of_zero_le (show 0 ≤ k by omega)
    have hp := pow_few (m := M) (k := n) (by omega) (by omega)
    refine Ev.pos ⟨⟨h1, h2⟩, h3, h4, h5⟩ (Ev.bind (power_ev M n (by omega) (by omega) (by omega)) ?_)
    refine Ev.pos ⟨by simp, by omega⟩ ?_
    simp only [Int.toNat_natCast]
    have hf := foldO_ev (f := fun K => cblStep K (M : Int) s l) (cntG M s l) (fun i n => 0 ≤ n ∧ n ≤ (i : Int)) 2000 (dall M n) 0 0 (by omega) (by rw [dall_length]; omega) (by
      intro c hc i z hi hz
      obtain ⟨c1, c2, c3⟩ := code_ok (by omega) (by omega) hc
      refine ⟨?_, by unfold cntG; split <;> omega⟩
      unfold cblStep
      exact open_len_ev M s (by omega) h2 c c1 c2 _ _ (Ev.pos (by omega) (Ev.now _)))
    exact Ev.congr (fun K => rfl) (Ev.bind (f := fun _ p => some (p, true)) hf (Ev.now _) |> Ev.congr (fun K => by rw [Option.map_eq_bind]; rfl))
  · rw [if_neg h]
    exact Ev.neg (fun hc => h ⟨⟨hc.1, hc.2.1, hc.2.2.1⟩, hc.2.2.2⟩) (Ev.now _)
theorem specCount_l0 (m s l : Int) (hm : 2 ≤ m ∧ m ≤ 12) (hs : 0 ≤ s ∧ s ≤ m - 1) (xs : List (List Int)) (hn : xs.length ≤ 2000) (hx : ∀ c ∈ xs, codeOk m c = true ∧ c.length ≤ 3) : ∀ (d i : Nat) (z : Int), i + d = xs.length → 0 ≤ z ∧ z ≤ (i : Int) →
    Ev (fun K => spec_CountByLength.l0 K m s l z xs (xs.length : Int) i) ((xs.drop i).foldl (cntG m s l) z, true) := by
  intro d
  induction d with
  | zero =>
    intro i z hi hz
    refine Ev.step (fun k => by rw [spec_CountByLength.l0]) ?_
    refine Ev.neg (by omega) (Ev.val (Ev.now _) ?_)
    rw [List.drop_eq_nil_of_le (by omega)]
    rfl
  | succ d ih =>
    intro i z hi hz
    have h1 : i < xs.length := by omega
    have hr : rd_L1 xs (i : Int) = xs[i] := by
      unfold rd_L1
      simp [h1]
    have hc := hx _ (List.getElem_mem h1)
    refine Ev.step (fun k => by rw [spec_CountByLength.l0]) ?_
    refine Ev.pos (by omega) (Ev.pos (by omega) (Ev.pos (by omega) ?_))
    rw [hr, w64n (by omega), w64 (x := z + 1) (by omega) (by omega), List.drop_eq_getElem_cons h1, List.foldl_cons]
    refine spec_len_ev m s hm hs _ hc.1 hc.2 (fun K t => if t = l then spec_CountByLength.l0 K m s l (z + 1) xs (xs.length : Int) ((i + 1 : Nat) : Int) else spec_CountByLength.l0 K m s l z xs (xs.length : Int) ((i + 1 : Nat) : Int)) _ ?_
    unfold cntG
    by_cases he : lenC m s xs[i] = l
    · rw [if_pos he]
      exact Ev.pos he (ih (i + 1) _ (by omega) (by omega))
    · rw [if_neg he]
      exact Ev.neg he (ih (i + 1) _ (by omega) (by omega))
theorem specCount_ev (m s k l : Int) : Ev (fun K => spec_CountByLength.f K m s k l) (cntV m s k l) := by
  have no : ∀ x : Bool, x = true → Ev (fun K => spec_CountByLength.j0 K m s k l x) (0, false) := by
    intro x hx
    refine Ev.step (fun k => by rw [spec_CountByLength.j0]) ?_
    exact Ev.pos hx (Ev.now _)
  unfold spec_CountByLength.f cntV
  refine Ev.let_ (diFew_some m s k) ?_
  by_cases h1 : ((2 ≤ m ∧ m ≤ 100) ∧ 0 ≤ s ∧ s ≤ m - 1) ∧ m ≤ 12 ∧ 1 ≤ k ∧ k ≤ 3
  · refine Ev.pos (decide_eq_true h1) (Ev.let_ (l1In_some _ _ _) ?_)
    by_cases h2 : 0 ≤ l ∧ l ≤ 10000
    · rw [if_pos ⟨h1, h2⟩]
      obtain ⟨⟨h1, h4⟩, h3, h5⟩ := h1
      obtain ⟨M, rfl⟩ := Int.eq_ofNat_of_zero_le (show 0 ≤ m by omega)
      obtain ⟨n, rfl⟩ := Int.eq_ofNat_of_zero_le (show 0 ≤ k by omega)
      have hp := pow_few (m := M) (k := n) (by omega) (by omega)
      refine Ev.step (fun k => by rw [spec_CountByLength.j0]) ?_
      refine Ev.neg (by rw [decide_eq_true h2]; decide) (Ev.let_ (diAll_some M n (by omega) (by omega)) ?_)
      simp only [Int.toNat_natCast]
      have := specCount_l0 M s l (by omega) h4 (dall M n) (by rw [dall_length]; omega) (fun c hc => ⟨(code_ok (by omega) (by omega) hc).1, (code_ok (by omega) (by omega) hc).2.1⟩) (dall M n).length 0 0 (by omega) (by omega)
      simpa using this
    · rw [if_neg (fun hc => h2 hc.2)]
      exact no _ (by rw [decide_eq_false h2]; rfl)
  · rw [if_neg (fun hc => h1 hc.1)]
    exact Ev.neg (by rw [decide_eq_false h1]; decide) (no _ rfl)
end Go.Proofs.Ytbmbplmcdbgnnaa.Pure
