/- Chapter 8: how many smooth keys begin with a depth: what both sides come to. -/
import Derived.Test.YtdkgclkkofmgkaaTx0
import Derived.Test.YtdkgclkkofmgkaaTx1
import Derived.Test.YtdkgclkkofmgkaaTx2
import Derived.Test.YtdkgclkkofmgkaaTx3
import Derived.Test.YtdkgclkkofmgkaaTx4
import Derived.Test.YtdkgclkkofmgkaaKit
namespace Go.Proofs.Ytdkgclkkofmgkaa.Pure
open Go.RowKit Go.Proofs.Ytdkgclkkofmgkaa.T Go.Proofs.YtdkgclkkofmgkaaW.PrintWords Go.Proofs.YtdkgclkkofmgkaaW.PrintLast Go.Proofs.YtdkgclkkofmgkaaW.PrintMore
set_option linter.unusedVariables false

def near (m d e : Int) : Bool := decide (d - e ≤ m ∧ e - d ≤ m)
theorem near_comm (m d e : Int) : near m d e = near m e d := by
  unfold near
  exact decide_eq_decide.mpr ⟨fun h => ⟨h.2, h.1⟩, fun h => ⟨h.2, h.1⟩⟩
/-- The sum of those numbers whose places are asked for. -/
def sumF (f : Int → Bool) (ws : List Int) : Nat → Int
  | 0 => 0
  | e + 1 => sumF f ws e + if f (e : Int) = true then rd ws (e : Int) else 0
theorem sumF_bd (f : Int → Bool) (ws : List Int) (B : Int) : ∀ n : Nat, (∀ e : Nat, e < n → 0 ≤ rd ws (e : Int) ∧ rd ws (e : Int) ≤ B) → 0 ≤ B → 0 ≤ sumF f ws n ∧ sumF f ws n ≤ (n : Int) * B
  | 0, _, _ => by simp [sumF]
  | n + 1, h, hB => by
    have h1 := sumF_bd f ws B n (fun e he => h e (by omega)) hB
    have h2 := h n (by omega)
    have h3 : (((n + 1 : Nat) : Int)) * B = (n : Int) * B + B := by rw [Int.natCast_add, Int.add_mul]; simp
    rw [h3]
    unfold sumF
    split <;> omega
def rowW (m : Int) (D : Nat) (ws : List Int) : List Int := (List.range D).map (fun (d : Nat) => sumF (near m d) ws D)
/-- For each depth how many smooth keys of p + 1 places begin with it. -/
def waysL (m : Int) (D : Nat) : Nat → List Int
  | 0 => List.replicate D 1
  | p + 1 => rowW m D (waysL m D p)
theorem rowW_length (m : Int) (D : Nat) (ws : List Int) : (rowW m D ws).length = D := by simp [rowW]
theorem waysL_length (m : Int) (D : Nat) : ∀ p, (waysL m D p).length = D
  | 0 => by simp [waysL]
  | p + 1 => rowW_length _ _ _
theorem rd_row (m : Int) (D : Nat) (ws : List Int) (d : Nat) (h : d < D) : rd (rowW m D ws) (d : Int) = sumF (near m d) ws D := by
  rw [rd_nat (by rw [rowW_length]; exact h)]
  simp [rowW]
theorem rd_rep (D : Nat) (x : Int) (d : Nat) (h : d < D) : rd (List.replicate D x) (d : Int) = x := by
  rw [rd_nat (by simpa using h)]
  simp
theorem waysL_bd (m : Int) (D : Nat) (hD : D ≤ 9) : ∀ (p : Nat) (d : Nat), d < D → 0 ≤ rd (waysL m D p) (d : Int) ∧ rd (waysL m D p) (d : Int) ≤ ((9 ^ p : Nat) : Int)
  | 0, d, h => by rw [waysL, rd_rep D 1 d h]; simp
  | p + 1, d, h => by
    rw [waysL, rd_row m D _ d h]
    have h1 := sumF_bd (near m d) (waysL m D p) ((9 ^ p : Nat) : Int) D (fun e he => waysL_bd m D hD p e he) (Int.natCast_nonneg _)
    have h2 : ((D : Nat) : Int) * ((9 ^ p : Nat) : Int) ≤ ((9 ^ (p + 1) : Nat) : Int) := by
      rw [← Int.natCast_mul]
      apply Int.ofNat_le.mpr
      rw [Nat.pow_succ, Nat.mul_comm (9 ^ p) 9]
      exact Nat.mul_le_mul_right _ hD
    omega
theorem pow9 {p : Nat} (h : p ≤ 7) : 9 ^ p ≤ 4782969 := by
  have := Nat.pow_le_pow_right (show 0 < 9 by decide) h
  exact this
theorem ways_small (m : Int) (D : Nat) (hD : D ≤ 9) (p : Nat) (hp : p ≤ 7) (d : Nat) (h : d < D) : 0 ≤ rd (waysL m D p) (d : Int) ∧ rd (waysL m D p) (d : Int) ≤ 4782969 := by
  have := waysL_bd m D hD p d h
  have := pow9 hp
  omega
theorem sum_small (f : Int → Bool) (m : Int) (D : Nat) (hD : D ≤ 9) (p : Nat) (hp : p ≤ 7) (n : Nat) (hn : n ≤ D) : 0 ≤ sumF f (waysL m D p) n ∧ sumF f (waysL m D p) n ≤ 43046721 := by
  have h1 := sumF_bd f (waysL m D p) 4782969 n (fun e he => ways_small m D hD p hp e (by omega)) (by omega)
  have h2 : (n : Int) * 4782969 ≤ 9 * 4782969 := by omega
  omega
/-- A row on its way: d entries done, the next one at v. -/
def nxt (m : Int) (D : Nat) (ws : List Int) (d : Nat) (v : Int) : List Int := (List.range D).map (fun (i : Nat) => if i < d then sumF (near m i) ws D else if i = d then v else 0)
theorem nxt_length (m : Int) (D : Nat) (ws : List Int) (d : Nat) (v : Int) : (nxt m D ws d v).length = D := by simp [nxt]
theorem rd_nxt (m : Int) (D : Nat) (ws : List Int) (d : Nat) (v : Int) (h : d < D) : rd (nxt m D ws d v) (d : Int) = v := by
  rw [rd_nat (by rw [nxt_length]; exact h)]
  simp [nxt]
theorem nxt_get (m : Int) (D : Nat) (ws : List Int) (d : Nat) (v : Int) (i : Nat) (h : i < (nxt m D ws d v).length) : (nxt m D ws d v)[i] = if i < d then sumF (near m i) ws D else if i = d then v else 0 := by
  simp [nxt]
theorem nxt_set (m : Int) (D : Nat) (ws : List Int) (d : Nat) (v v' : Int) : (nxt m D ws d v).set d v' = nxt m D ws d v' := by
  apply List.ext_getElem
  · rw [List.length_set, nxt_length, nxt_length]
  · intro i h1 h2
    rw [List.getElem_set, nxt_get, nxt_get]
    by_cases h : d = i
    · subst h
      rw [if_pos rfl, if_neg (Nat.lt_irrefl _), if_pos rfl]
    · have h' : ¬ i = d := fun e => h e.symm
      rw [if_neg h]
      simp only [h', if_false]
theorem nxt_start (m : Int) (D : Nat) (ws : List Int) : List.replicate D 0 = nxt m D ws 0 0 := by
  apply List.ext_getElem
  · rw [List.length_replicate, nxt_length]
  · intro i h1 h2
    rw [nxt_get, List.getElem_replicate, if_neg (Nat.not_lt_zero _)]
    split <;> rfl
theorem nxt_next (m : Int) (D : Nat) (ws : List Int) (d : Nat) : nxt m D ws d (sumF (near m d) ws D) = nxt m D ws (d + 1) 0 := by
  apply List.ext_getElem
  · rw [nxt_length, nxt_length]
  · intro i h1 h2
    rw [nxt_get, nxt_get]
    by_cases h : i < d
    · rw [if_pos h, if_pos (by omega)]
    · rw [if_neg h]
      by_cases h3 : i = d
      · subst h3
        rw [if_pos rfl, if_pos (by omega)]
      · rw [if_neg h3, if_neg (by omega)]
        split <;> rfl
theorem nxt_end (m : Int) (D : Nat) (ws : List Int) : nxt m D ws D 0 = rowW m D ws := by
  apply List.ext_getElem
  · rw [nxt_length, rowW_length]
  · intro i h1 h2
    have : i < D := by rw [nxt_length] at h1; exact h1
    rw [nxt_get, if_pos this]
    simp [rowW]
theorem l1Abs_near (m d e : Int) (hd : -100 ≤ d ∧ d ≤ 100) (he : -100 ≤ e ∧ e ≤ 100) : ∃ t, spec_l1Abs.f (wrap64 (d - e)) = some t ∧ (t ≤ m ↔ near m d e = true) := by
  have h0 : wrap64 (d - e) = d - e := w64 (by omega) (by omega)
  have h1 : wrap64 (-(d - e)) = e - d := by rw [show -(d - e) = e - d by omega]; exact w64 (by omega) (by omega)
  unfold spec_l1Abs.f spec_l1Most.f near
  rw [h0, h1, decide_eq_true_iff]
  by_cases h : d - e > e - d
  · exact ⟨d - e, by rw [if_pos h]; rfl, by omega⟩
  · exact ⟨e - d, by rw [if_neg h]; rfl, by omega⟩
theorem size_near (m d e : Int) (hd : -100 ≤ d ∧ d ≤ 100) (he : -100 ≤ e ∧ e ≤ 100) : ∃ t, impl_size.f (wrap64 (d - e)) = some t ∧ (t ≤ m ↔ near m d e = true) := by
  have h0 : wrap64 (d - e) = d - e := w64 (by omega) (by omega)
  have h1 : wrap64 (-(d - e)) = e - d := by rw [show -(d - e) = e - d by omega]; exact w64 (by omega) (by omega)
  unfold impl_size.f mx near
  rw [h0, h1, decide_eq_true_iff]
  by_cases h : d - e < e - d
  · exact ⟨e - d, by rw [if_pos h], by omega⟩
  · exact ⟨d - e, by rw [if_neg h], by omega⟩
theorem ke_l3 (m : Int) (D : Nat) (hD : D ≤ 9) (p : Nat) (hp : p ≤ 6) (x1 : Int) (d : Nat) (hd : d < D) (r : List Int)
    (hk : Ev (fun K => spec_keSmooth.l2 K D x1 m (waysL m D p) (nxt m D (waysL m D p) (d + 1) 0) D ((d + 1 : Nat) : Int)) r) :
    ∀ (j e : Nat), e + j = D → Ev (fun K => spec_keSmooth.l3 K D x1 m (waysL m D p) (nxt m D (waysL m D p) d (sumF (near m d) (waysL m D p) e)) d D d (waysL m D p) D e) r := by
  have hl := waysL_length m D p
  intro j
  induction j with
  | zero =>
    intro e he
    obtain rfl : e = D := by omega
    refine Ev.step (fun k => by rw [spec_keSmooth.l3]) (Ev.neg (by omega) ?_)
    rw [w64n (by omega), nxt_next]
    exact hk
  | succ j ih =>
    intro e he
    obtain ⟨t, ht, hn⟩ := l1Abs_near m d e (by omega) (by omega)
    have hb := ways_small m D hD p (by omega) e (by omega)
    have hs := sum_small (near m d) m D hD p (by omega) e (by omega)
    have hi := ih (e + 1) (by omega)
    refine Ev.step (fun k => by rw [spec_keSmooth.l3]) ?_
    rw [w64n (i := e) (by omega)]
    refine Ev.pos (by omega) (Ev.pos (by omega) (Ev.pos (by omega) (Ev.let_ ht ?_)))
    rw [sumF] at hi
    by_cases h : near m d e = true
    · rw [if_pos h] at hi
      refine Ev.pos (hn.mpr h) (Ev.pos (by omega) (Ev.pos (by rw [nxt_length]; omega) ?_))
      rw [rd_nxt m D _ d _ hd, Int.toNat_natCast, nxt_set, w64 (by omega) (by omega)]
      exact hi
    · rw [if_neg h, Int.add_zero] at hi
      exact Ev.neg (fun hc => h (hn.mp hc)) hi
theorem ke_l2 (m : Int) (D : Nat) (hD : D ≤ 9) (p : Nat) (hp : p ≤ 6) (q : Nat) (hq : q ≤ 100) (r : List Int) (hk : Ev (fun K => spec_keSmooth.l1 K D ((q : Int) + 1) m (rowW m D (waysL m D p))) r) :
    ∀ (j d : Nat), d + j = D → Ev (fun K => spec_keSmooth.l2 K D ((q : Int) + 1 + 1) m (waysL m D p) (nxt m D (waysL m D p) d 0) D d) r := by
  intro j
  induction j with
  | zero =>
    intro d he
    obtain rfl : d = D := by omega
    refine Ev.step (fun k => by rw [spec_keSmooth.l2]) (Ev.neg (by omega) ?_)
    rw [w64 (by omega) (by omega), nxt_end, show (q : Int) + 1 + 1 - 1 = (q : Int) + 1 by omega]
    exact hk
  | succ j ih =>
    intro d he
    refine Ev.step (fun k => by rw [spec_keSmooth.l2]) (Ev.pos (by omega) ?_)
    have := ke_l3 m D hD p hp ((q : Int) + 1 + 1) d (by omega) r (ih (d + 1) (by omega)) D 0 (by omega)
    rw [waysL_length]
    exact this
theorem ke_l1 (m : Int) (D : Nat) (hD : D ≤ 9) : ∀ (q p : Nat), p + q ≤ 6 → Ev (fun K => spec_keSmooth.l1 K D ((q : Int) + 1) m (waysL m D p)) (waysL m D (p + q))
  | 0, p, h => by
    rw [Nat.add_zero]
    exact Ev.step (fun k => by rw [spec_keSmooth.l1]) (Ev.neg (by simp) (Ev.now _))
  | q + 1, p, h => by
    have h1 := ke_l1 m D hD q (p + 1) (by omega)
    rw [show p + 1 + q = p + (q + 1) by omega, waysL] at h1
    refine Ev.step (fun k => by rw [spec_keSmooth.l1]) (Ev.pos (by omega) (Ev.pos (by omega) (Ev.pos (by omega) (Ev.let_ rfl ?_))))
    rw [Int.toNat_natCast, List.length_replicate, nxt_start m D (waysL m D p), show (((q + 1 : Nat) : Int)) + 1 = (q : Int) + 1 + 1 by omega]
    exact ke_l2 m D hD p (by omega) q (by omega) _ h1 D 0 (by omega)
theorem ke_l0 (m : Int) (D : Nat) (hD : D ≤ 9) (q : Nat) (hq : q ≤ 6) : ∀ (j i : Nat), i + j = D → Ev (fun K => spec_keSmooth.l0 K D ((q : Int) + 1) m (List.replicate i 1 ++ List.replicate j 0) D i) (waysL m D q) := by
  intro j
  induction j with
  | zero =>
    intro i hi
    refine Ev.step (fun k => by rw [spec_keSmooth.l0]) (Ev.neg (by omega) ?_)
    have := ke_l1 m D hD q 0 (by omega)
    rw [Nat.zero_add, waysL] at this
    rw [List.replicate_zero, List.append_nil, show i = D by omega]
    exact this
  | succ j ih =>
    intro i hi
    refine Ev.step (fun k => by rw [spec_keSmooth.l0]) (Ev.pos (by omega) (Ev.pos (by omega) (Ev.pos (by simp; omega) ?_)))
    rw [w64n (by omega)]
    have e : (List.replicate i (1 : Int) ++ List.replicate (j + 1) 0).set ((i : Int)).toNat 1 = List.replicate (i + 1) 1 ++ List.replicate j 0 := by
      rw [Int.toNat_natCast, List.set_append_right _ _ (by simp), List.length_replicate, Nat.sub_self, List.replicate_succ (n := j), List.set_cons_zero, List.replicate_succ' (n := i), List.append_assoc]
      rfl
    rw [e]
    exact ih (i + 1) (by omega)
theorem keSmooth_ev (m : Int) (D : Nat) (hD : D ≤ 9) (q : Nat) (hq : q ≤ 6) : Ev (fun K => spec_keSmooth.f K D ((q : Int) + 1) m) (waysL m D q) := by
  unfold spec_keSmooth.f
  refine Ev.pos (by omega) (Ev.pos (by omega) (Ev.let_ rfl ?_))
  rw [Int.toNat_natCast, List.length_replicate]
  exact ke_l0 m D hD q hq D 0 (by omega)

/-! the program's side -/
def rangeI (D : Nat) : List Int := (List.range D).map (fun (i : Nat) => (i : Int))
theorem rangeI_length (D : Nat) : (rangeI D).length = D := by simp [rangeI]
theorem rd_rangeI (D i : Nat) (h : i < D) : rd (rangeI D) (i : Int) = i := by
  rw [rd_nat (by rw [rangeI_length]; exact h)]
  simp [rangeI]
theorem open_l0 (D n : Nat) (hD : D ≤ 9) (hn : n ≤ 7) : ∀ (j i : Nat), i + j = n → Ev (fun K => impl_open.l0 K D n i D (List.replicate i (rangeI D))) ((D : Int), List.replicate n (rangeI D)) := by
  intro j
  induction j with
  | zero =>
    intro i hi
    refine Ev.step (fun k => by rw [impl_open.l0]) (Ev.neg (by omega) (Ev.val (Ev.now _) (by rw [show i = n by omega])))
  | succ j ih =>
    intro i hi
    have h1 := ih (i + 1) (by omega)
    refine Ev.step (fun k => by rw [impl_open.l0]) (Ev.pos (by omega) ?_)
    have key : ∀ (b a : Nat), a + b = D → Ev (fun K => impl_open.l1 K D (rangeI a) n i D a D (List.replicate i (rangeI D))) ((D : Int), List.replicate n (rangeI D)) := by
      intro b
      induction b with
      | zero =>
        intro a ha
        obtain rfl : a = D := by omega
        refine Ev.step (fun k => by rw [impl_open.l1]) (Ev.neg (by omega) (Ev.pos (by simp; omega) ?_))
        rw [w64n (by omega), ← List.replicate_succ']
        exact h1
      | succ b ihb =>
        intro a ha
        refine Ev.step (fun k => by rw [impl_open.l1]) (Ev.pos (by omega) (Ev.pos (by rw [rangeI_length]; omega) ?_))
        rw [w64n (by omega)]
        have := ihb (a + 1) (by omega)
        unfold rangeI at this ⊢
        rw [List.range_succ, List.map_append] at this
        exact this
    exact key D 0 (by omega)
theorem open_ev (D n : Nat) (hD : D ≤ 9) (hn : n ≤ 7) : Ev (fun K => impl_open.f K D n) ((D : Int), List.replicate n (rangeI D)) := by
  unfold impl_open.f
  exact open_l0 D n hD hn n 0 (by omega)
theorem rd_cuts (D n i : Nat) (h : i < n) : rd_L3 (List.replicate n (rangeI D)) (i : Int) = rangeI D := by
  unfold rd_L3
  simp [List.getD, h]
theorem sm_l2 (m : Int) (D : Nat) (hD : D ≤ 9) (p : Nat) (hp : p ≤ 6) (pl la : Int) (n i : Nat) (hi : i < n) (d : Nat) (hd : d < D) (r : Int)
    (hk : Ev (fun K => impl_Pins_smooth.l1 K pl la m (waysL m D p) i (nxt m D (waysL m D p) (d + 1) 0) D ((d + 1 : Nat) : Int) D (List.replicate n (rangeI D))) r) :
    ∀ (j e : Nat), e + j = D → Ev (fun K => impl_Pins_smooth.l2 K pl la m (waysL m D p) i (nxt m D (waysL m D p) d (sumF (near m d) (waysL m D p) e)) d D d (rangeI D) D e D (List.replicate n (rangeI D))) r := by
  have hl := waysL_length m D p
  intro j
  induction j with
  | zero =>
    intro e he
    obtain rfl : e = D := by omega
    refine Ev.step (fun k => by rw [impl_Pins_smooth.l2]) (Ev.neg (by omega) ?_)
    rw [w64n (by omega), nxt_next]
    exact hk
  | succ j ih =>
    intro e he
    obtain ⟨t, ht, hn⟩ := size_near m d e (by omega) (by omega)
    have hb := ways_small m D hD p (by omega) e (by omega)
    have hs := sum_small (near m d) m D hD p (by omega) e (by omega)
    have hi := ih (e + 1) (by omega)
    refine Ev.step (fun k => by rw [impl_Pins_smooth.l2]) ?_
    rw [w64n (i := e) (by omega), rd_rangeI D e (by omega)]
    refine Ev.pos (by omega) (Ev.pos (by omega) (Ev.pos (by rw [rangeI_length]; omega) (Ev.let_ ht ?_)))
    rw [sumF] at hi
    by_cases h : near m d e = true
    · rw [if_pos h] at hi
      refine Ev.pos (hn.mpr h) (Ev.pos (by omega) (Ev.pos (by rw [nxt_length]; omega) (Ev.pos (by omega) (Ev.pos (by omega) ?_))))
      rw [rd_nxt m D _ d _ hd, Int.toNat_natCast, nxt_set, w64 (by omega) (by omega)]
      exact hi
    · rw [if_neg h, Int.add_zero] at hi
      exact Ev.neg (fun hc => h (hn.mp hc)) hi
theorem sm_l1 (m : Int) (D : Nat) (hD : D ≤ 9) (p : Nat) (hp : p ≤ 6) (pl la : Int) (n i : Nat) (hi : i < n) (hn : n ≤ 7) (r : Int)
    (hk : Ev (fun K => impl_Pins_smooth.l0 K pl la m (rowW m D (waysL m D p)) ((i : Int) - 1) D (List.replicate n (rangeI D))) r) :
    ∀ (j d : Nat), d + j = D → Ev (fun K => impl_Pins_smooth.l1 K pl la m (waysL m D p) i (nxt m D (waysL m D p) d 0) D d D (List.replicate n (rangeI D))) r := by
  intro j
  induction j with
  | zero =>
    intro d he
    obtain rfl : d = D := by omega
    refine Ev.step (fun k => by rw [impl_Pins_smooth.l1]) (Ev.neg (by omega) ?_)
    rw [w64 (by omega) (by omega), nxt_end]
    exact hk
  | succ j ih =>
    intro d he
    refine Ev.step (fun k => by rw [impl_Pins_smooth.l1]) (Ev.pos (by omega) (Ev.pos (by omega) (Ev.pos (by simp; omega) ?_)))
    have := sm_l2 m D hD p hp pl la n i hi d (by omega) r (ih (d + 1) (by omega)) D 0 (by omega)
    rw [rd_cuts D n i hi, rangeI_length]
    exact this
def lastF (m la : Int) (d : Int) : Bool := if la < 0 then true else near m d la
theorem sm_l3 (m la : Int) (hla : -1 ≤ la ∧ la ≤ 9) (D : Nat) (hD : D ≤ 9) (p : Nat) (hp : p ≤ 6) : ∀ (j d : Nat), d + j = D → Ev (fun K => impl_Pins_smooth.l3 K la m (waysL m D p) (sumF (lastF m la) (waysL m D p) d) (rangeI D) D d) (sumF (lastF m la) (waysL m D p) D) := by
  have hl := waysL_length m D p
  intro j
  induction j with
  | zero =>
    intro d hd
    obtain rfl : d = D := by omega
    exact Ev.step (fun k => by rw [impl_Pins_smooth.l3]) (Ev.neg (by omega) (Ev.now _))
  | succ j ih =>
    intro d hd
    have hi := ih (d + 1) (by omega)
    have hb := ways_small m D hD p (by omega) d (by omega)
    have hs := sum_small (lastF m la) m D hD p (by omega) d (by omega)
    refine Ev.step (fun k => by rw [impl_Pins_smooth.l3]) ?_
    rw [w64n (i := d) (by omega), rd_rangeI D d (by omega)]
    refine Ev.pos (by omega) (Ev.pos (by omega) (Ev.pos (by rw [rangeI_length]; omega) ?_))
    rw [sumF] at hi
    have hw : wrap64 (sumF (lastF m la) (waysL m D p) d + rd (waysL m D p) (d : Int)) = sumF (lastF m la) (waysL m D p) d + rd (waysL m D p) (d : Int) := w64 (by omega) (by omega)
    by_cases h0 : la < 0
    · have hf : lastF m la d = true := by unfold lastF; rw [if_pos h0]
      rw [if_pos hf] at hi
      refine Ev.pos h0 (Ev.pos (by omega) (Ev.pos (by omega) ?_))
      rw [hw]
      exact hi
    · obtain ⟨t, ht, hn⟩ := size_near m d la (by omega) (by omega)
      refine Ev.neg h0 (Ev.let_ ht ?_)
      have hf : lastF m la d = near m d la := by unfold lastF; rw [if_neg h0]
      rw [hf] at hi
      by_cases h : near m d la = true
      · rw [if_pos h] at hi
        refine Ev.pos (hn.mpr h) (Ev.pos (by omega) (Ev.pos (by omega) ?_))
        rw [hw]
        exact hi
      · rw [if_neg h, Int.add_zero] at hi
        exact Ev.neg (fun hc => h (hn.mp hc)) hi
theorem sm_l0 (m la : Int) (hla : -1 ≤ la ∧ la ≤ 9) (D : Nat) (hD : D ≤ 9) (n : Nat) (hn : n ≤ 7) (pl : Nat) (hpl : pl < n) : ∀ (q p : Nat), p + q ≤ 6 → pl + q < n → Ev (fun K => impl_Pins_smooth.l0 K pl la m (waysL m D p) ((pl + q : Nat) : Int) D (List.replicate n (rangeI D))) (sumF (lastF m la) (waysL m D (p + q)) D)
  | 0, p, h, h2 => by
    refine Ev.step (fun k => by rw [impl_Pins_smooth.l0]) (Ev.neg (by omega) (Ev.neg (by simp; omega) (Ev.pos (by omega) (Ev.pos (by simp; omega) ?_))))
    rw [rd_cuts D n pl hpl, rangeI_length]
    exact sm_l3 m la hla D hD p (by omega) D 0 (by omega)
  | q + 1, p, h, h2 => by
    have h1 := sm_l0 m la hla D hD n hn pl hpl q (p + 1) (by omega) (by omega)
    rw [show p + 1 + q = p + (q + 1) by omega, waysL] at h1
    refine Ev.step (fun k => by rw [impl_Pins_smooth.l0]) (Ev.pos (by omega) (Ev.pos (by omega) (Ev.pos (by omega) (Ev.let_ rfl ?_))))
    rw [Int.toNat_natCast, List.length_replicate, nxt_start m D (waysL m D p)]
    refine sm_l1 m D hD p (by omega) pl la n (pl + (q + 1)) h2 hn _ ?_ D 0 (by omega)
    rw [show ((pl + (q + 1) : Nat) : Int) - 1 = ((pl + q : Nat) : Int) by omega]
    exact h1
/-- How many smooth keys there are from a place on, behind a depth. -/
def smoothV (m la : Int) (D n pl : Nat) : Int := if pl < n then sumF (lastF m la) (waysL m D (n - 1 - pl)) D else 1
theorem smooth_ev (m la : Int) (hla : -1 ≤ la ∧ la ≤ 9) (D : Nat) (hD1 : 1 ≤ D) (hD : D ≤ 9) (n : Nat) (hn1 : 1 ≤ n) (hn : n ≤ 7) (pl : Nat) (hpl : pl ≤ n) : Ev (fun K => impl_Pins_smooth.f K D (List.replicate n (rangeI D)) pl la m) (smoothV m la D n pl) := by
  unfold impl_Pins_smooth.f
  have hr : slices_Repeat_int_int.f ([1] : List Int) (D : Int) = some (waysL m D 0) := by
    unfold slices_Repeat_int_int.f
    rw [if_pos ⟨by simp, by omega, by omega⟩, Int.toNat_natCast]
    rfl
  refine Ev.let_ hr ?_
  rw [List.length_replicate, w64 (by omega) (by omega)]
  unfold smoothV
  by_cases h : pl < n
  · rw [if_pos h]
    have := sm_l0 m la hla D hD n hn pl h (n - 1 - pl) 0 (by omega) (by omega)
    rw [Nat.zero_add, show pl + (n - 1 - pl) = n - 1 by omega] at this
    rw [show (n : Int) - 1 = ((n - 1 : Nat) : Int) by omega]
    exact this
  · rw [if_neg h]
    exact Ev.step (fun k => by rw [impl_Pins_smooth.l0]) (Ev.neg (by omega) (Ev.pos (by simp; omega) (Ev.now _)))
end Go.Proofs.Ytdkgclkkofmgkaa.Pure
