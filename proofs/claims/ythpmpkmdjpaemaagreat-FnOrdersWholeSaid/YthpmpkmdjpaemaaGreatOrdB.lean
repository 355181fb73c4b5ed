/- Chapter 5: distances and turns between two codes, as both sides tell them. -/
import Derived.Test.YthpmpkmdjpaemaaGreatPx0
import Derived.Test.YthpmpkmdjpaemaaGreatPx11
import Derived.Test.YthpmpkmdjpaemaaGreatPx2
import Derived.Test.YthpmpkmdjpaemaaGreatPx4
import Derived.Test.YthpmpkmdjpaemaaGreatPx6
import Derived.Test.YthpmpkmdjpaemaaGreatPx7
import Derived.Test.YthpmpkmdjpaemaaGreatPx9
import Derived.Test.YthpmpkmdjpaemaaGreatOrdA
namespace Go.Proofs.YthpmpkmdjpaemaaGreat.Pure
open Go.RowKit Go.Proofs.YthpmpkmdjpaemaaGreat.P Go.Proofs.YthpmpkmdjpaemaaGreatW.PrintWords Go.Proofs.YthpmpkmdjpaemaaGreatW.PrintLast Go.Proofs.YthpmpkmdjpaemaaGreatW.PrintMore
set_option linter.unusedVariables false

def dg (s : ByteArray) (i : Nat) : Int := bt s (i : Int) - 48
theorem code_size {w d : Nat} {s : ByteArray} (h : codeB (w : Int) (d : Int) s = true) : s.size = w := by have := (codeB_iff.mp h).1; omega
theorem code_dg {w d : Nat} {s : ByteArray} (h : codeB (w : Int) (d : Int) s = true) {i : Nat} (hi : i < w) : 0 ≤ dg s i ∧ dg s i < (d : Int) := by
  have h1 := code_size h
  have := (codeB_iff.mp h).2 i (by omega)
  unfold dg
  omega
theorem toList_iff (a b : ByteArray) : a.toList = b.toList ↔ a = b := by
  constructor
  · intro h
    rw [ByteArray.toList_eq, ByteArray.toList_eq] at h
    exact ByteArray.ext (Array.toList_inj.mp h)
  · intro h; rw [h]
theorem code_ext {w d : Nat} {a b : ByteArray} (ha : codeB (w : Int) (d : Int) a = true) (hb : codeB (w : Int) (d : Int) b = true) (h : ∀ j, j < w → dg a j = dg b j) : a = b := by
  have h1 := code_size ha
  have h2 := code_size hb
  apply ByteArray.ext
  apply Array.ext
  · exact h1.trans h2.symm
  · intro i hi hj
    have hi' : i < a.size := hi
    have hj' : i < b.size := hj
    have h3 := h i (by omega)
    have e1 : bt a (i : Int) = ((a[i]'hi').toNat : Int) := by unfold bt; simp [hi']
    have e2 : bt b (i : Int) = ((b[i]'hj').toNat : Int) := by unfold bt; simp [hj']
    have e3 : (a[i]'hi').toNat = (b[i]'hj').toNat := by unfold dg at h3; omega
    exact UInt8.toNat_inj.mp e3
theorem dgL_get (s : ByteArray) (i : Nat) (h : i < (dgL s).length) : (dgL s)[i] = dg s i := by simp [dgL, dg]
theorem rd_dgL (s : ByteArray) (i : Nat) (h : i < s.size) : rd (dgL s) (i : Int) = dg s i := by
  rw [rd_nat (by rw [dgL_length]; exact h), dgL_get]
theorem ten {d : Nat} (hd : 2 ≤ d ∧ d ≤ 10) : d = 2 ∨ d = 3 ∨ d = 4 ∨ d = 5 ∨ d = 6 ∨ d = 7 ∨ d = 8 ∨ d = 9 ∨ d = 10 := by omega
/-- The fewest turns between two digits. -/
def nearV (d : Nat) (x y : Int) : Int := mn ((y - x) % (d : Int)) ((d : Int) - (y - x) % (d : Int))
theorem near_bd {d : Nat} (hd : 2 ≤ d ∧ d ≤ 10) {x y : Int} (hx : 0 ≤ x ∧ x < (d : Int)) (hy : 0 ≤ y ∧ y < (d : Int)) : 0 ≤ nearV d x y ∧ nearV d x y ≤ 5 := by
  unfold nearV mn
  rcases ten hd with rfl | rfl | rfl | rfl | rfl | rfl | rfl | rfl | rfl <;> split <;> omega
theorem near_zero {d : Nat} (hd : 2 ≤ d ∧ d ≤ 10) {x y : Int} (hx : 0 ≤ x ∧ x < (d : Int)) (hy : 0 ≤ y ∧ y < (d : Int)) : nearV d x y = 0 ↔ x = y := by
  unfold nearV mn
  rcases ten hd with rfl | rfl | rfl | rfl | rfl | rfl | rfl | rfl | rfl <;> split <;> omega
theorem near_one {d : Nat} (hd : 2 ≤ d ∧ d ≤ 10) {x y : Int} (hx : 0 ≤ x ∧ x < (d : Int)) (hy : 0 ≤ y ∧ y < (d : Int)) : nearV d x y = 1 ↔ (x + 1) % (d : Int) = y ∨ (x + -1) % (d : Int) = y := by
  unfold nearV mn
  rcases ten hd with rfl | rfl | rfl | rfl | rfl | rfl | rfl | rfl | rfl <;> split <;> omega
theorem step_bd {d : Nat} (hd : 2 ≤ d ∧ d ≤ 10) (x : Int) : 0 ≤ x % (d : Int) ∧ x % (d : Int) < (d : Int) := ⟨Int.emod_nonneg _ (by omega), Int.emod_lt_of_pos _ (by omega)⟩
theorem near_impl (w : Int) {d : Nat} (hd : 2 ≤ d ∧ d ≤ 10) (a b : Int) (ha : 0 ≤ a ∧ a ≤ 255) (hb : 0 ≤ b ∧ b ≤ 255) : impl_Lock_near.f w d (wrap64 a) (wrap64 b) = some (nearV d (a - 48) (b - 48)) := by
  have h := step_bd hd (b - a)
  unfold impl_Lock_near.f impl_Lock_gap.f
  rw [w64 (x := a) (by omega) (by omega), w64 (x := b) (by omega) (by omega), w64 (x := b - a) (by omega) (by omega), around_some _ _ (by omega) (by omega)]
  simp only [Option.bind_some]
  rw [w64 (by omega) (by omega)]
  unfold nearV
  rw [show b - 48 - (a - 48) = b - a by omega]
theorem far_some (w : Int) {d : Nat} (hd : 2 ≤ d ∧ d ≤ 10) (x y : Int) (hx : 0 ≤ x ∧ x < (d : Int)) (hy : 0 ≤ y ∧ y < (d : Int)) : ((spec_whFar.f w d x y).bind fun r => spec_l1Least.f r.1 r.2) = some (nearV d x y) := by
  have h := step_bd hd (y - x)
  unfold spec_whFar.f
  rw [w64 (x := y - x) (by omega) (by omega), l1Mod_some _ _ (by omega) (by omega)]
  simp only [Option.bind_some]
  rw [if_neg (by omega), w64 (by omega) (by omega)]
  simp only [Option.bind_some]
  unfold spec_l1Least.f nearV mn
  rw [Int.tmod_eq_emod_of_nonneg (by omega)]
  generalize hz : (y - x) % (d : Int) = z at h
  by_cases h0 : z = 0
  · subst h0
    have e : ((d : Int) - 0) % (d : Int) = 0 := by rw [Int.sub_zero, Int.emod_self]
    rw [e, if_neg (by omega), if_neg (by omega)]
  · rw [Int.emod_eq_of_lt (by omega) (by omega)]
    by_cases h1 : z < (d : Int) - z
    · rw [if_pos h1, if_neg (by omega)]
    · rw [if_neg h1]
      congr 1
      split <;> omega
/-- The distance up to place n. -/
def distN (d : Nat) (p s : ByteArray) : Nat → Int
  | 0 => 0
  | i + 1 => distN d p s i + nearV d (dg p i) (dg s i)
theorem dist_bd {w d : Nat} (hd : 2 ≤ d ∧ d ≤ 10) {p s : ByteArray} (hp : codeB (w : Int) (d : Int) p = true) (hs : codeB (w : Int) (d : Int) s = true) : ∀ n, n ≤ w → 0 ≤ distN d p s n ∧ distN d p s n ≤ 5 * n
  | 0, _ => by simp [distN]
  | n + 1, h => by
    have h1 := dist_bd hd hp hs n (by omega)
    have h2 := near_bd hd (code_dg hp (show n < w by omega)) (code_dg hs (show n < w by omega))
    unfold distN
    omega
theorem distance_l0 {w d : Nat} (hw : w ≤ 6) (hd : 2 ≤ d ∧ d ≤ 10) {p s : ByteArray} (hp : codeB (w : Int) (d : Int) p = true) (hs : codeB (w : Int) (d : Int) s = true) : ∀ (j i : Nat), i + j = w → Ev (fun K => impl_Lock_distance.l0 K p s (distN d p s i) (w : Int) i w d) (distN d p s w) := by
  have h1 := code_size hp
  have h2 := code_size hs
  intro j
  induction j with
  | zero =>
    intro i hi
    refine Ev.step (fun k => by rw [impl_Lock_distance.l0]) (Ev.neg (by omega) (Ev.val (Ev.now _) ?_))
    rw [show i = w by omega]
  | succ j ih =>
    intro i hi
    refine Ev.step (fun k => by rw [impl_Lock_distance.l0]) (Ev.pos (by omega) (Ev.pos (by omega) (Ev.pos (by omega) (Ev.pos (by omega) ?_))))
    refine Ev.let_ (near_impl _ hd _ _ (bt_range p i) (bt_range s i)) ?_
    have h3 := dist_bd hd hp hs (i + 1) (by omega)
    rw [w64n (by omega), show distN d p s i + nearV d (bt p (i : Int) - 48) (bt s (i : Int) - 48) = distN d p s (i + 1) from rfl, w64 (by omega) (by omega)]
    exact ih (i + 1) (by omega)
theorem distance_ev {w d : Nat} (hw : w ≤ 6) (hd : 2 ≤ d ∧ d ≤ 10) {p s : ByteArray} (hp : codeB (w : Int) (d : Int) p = true) (hs : codeB (w : Int) (d : Int) s = true) : Ev (fun K => impl_Lock_distance.f K w d p s) (distN d p s w) := by
  unfold impl_Lock_distance.f
  rw [code_size hp]
  exact distance_l0 hw hd hp hs w 0 (by omega)
theorem whDigits_l0 (s : ByteArray) (hs : digsB s) : ∀ (d i : Nat), i + d = s.size → Ev (fun K => spec_whDigits.l0 K s ((List.range i).map (fun (i : Nat) => bt s (i : Int) - 48)) i) (dgL s) := by
  intro d
  induction d with
  | zero =>
    intro i hi
    refine Ev.step (fun k => by rw [spec_whDigits.l0]) ?_
    refine Ev.neg (by omega) (Ev.val (Ev.now _) ?_)
    unfold dgL
    rw [show i = s.size by omega]
  | succ d ih =>
    intro i hi
    have h1 : i < s.size := by omega
    have hb := hs.2 i h1
    have hs6 := hs.1
    refine Ev.step (fun k => by rw [spec_whDigits.l0]) ?_
    refine Ev.pos (by omega) (Ev.pos (by omega) (Ev.pos (by simp; omega) ?_))
    rw [show (bt s (i : Int) - 48) % 256 = bt s (i : Int) - 48 by omega, w64n (by omega)]
    have := ih (i + 1) (by omega)
    rw [List.range_succ, List.map_append] at this
    exact this
theorem whDigits_ev (s : ByteArray) (hs : digsB s) : Ev (fun K => spec_whDigits.f K s) (dgL s) := by
  unfold spec_whDigits.f
  exact whDigits_l0 s hs s.size 0 (by omega)
theorem code_digs {w d : Nat} (hw : 1 ≤ w ∧ w ≤ 6) (hd : 2 ≤ d ∧ d ≤ 10) {s : ByteArray} (hs : codeB (w : Int) (d : Int) s = true) : digsB s := digs_code (lockB_iff.mpr ⟨by omega, by omega⟩) hs
theorem whDistance_l0 {w d : Nat} (hw : w ≤ 6) (hd : 2 ≤ d ∧ d ≤ 10) {p s : ByteArray} (hp : codeB (w : Int) (d : Int) p = true) (hs : codeB (w : Int) (d : Int) s = true) : ∀ (j i : Nat), i + j = w → Ev (fun K => spec_whDistance.l0 K (dgL p) (dgL s) (distN d p s i) (w : Int) i w d) (distN d p s w) := by
  have h1 := code_size hp
  have h2 := code_size hs
  intro j
  induction j with
  | zero =>
    intro i hi
    refine Ev.step (fun k => by rw [spec_whDistance.l0]) (Ev.neg (by omega) (Ev.val (Ev.now _) ?_))
    rw [show i = w by omega]
  | succ j ih =>
    intro i hi
    refine Ev.step (fun k => by rw [spec_whDistance.l0]) (Ev.pos (by omega) (Ev.pos (by omega) (Ev.pos (by rw [dgL_length]; omega) (Ev.pos (by rw [dgL_length]; omega) ?_))))
    have h3 := dist_bd hd hp hs (i + 1) (by omega)
    rw [rd_dgL p i (by omega), rd_dgL s i (by omega)]
    have h4 := far_some (w : Int) hd _ _ (code_dg hp (show i < w by omega)) (code_dg hs (show i < w by omega))
    obtain ⟨r, hr, h5⟩ := Option.bind_eq_some_iff.mp h4
    refine Ev.let_ hr (Ev.let_ h5 ?_)
    rw [w64n (by omega), show distN d p s i + nearV d (dg p i) (dg s i) = distN d p s (i + 1) from rfl, w64 (by omega) (by omega)]
    exact ih (i + 1) (by omega)
theorem whDistance_ev {w d : Nat} (hw : 1 ≤ w ∧ w ≤ 6) (hd : 2 ≤ d ∧ d ≤ 10) {p s : ByteArray} (hp : codeB (w : Int) (d : Int) p = true) (hs : codeB (w : Int) (d : Int) s = true) : Ev (fun K => spec_whDistance.f K w d p s) (distN d p s w) := by
  unfold spec_whDistance.f
  refine Ev.bind (whDigits_ev p (code_digs hw hd hp)) (Ev.bind (whDigits_ev s (code_digs hw hd hs)) ?_)
  rw [dgL_length, code_size hp]
  exact whDistance_l0 hw.2 hd hp hs w 0 (by omega)
theorem dist_zero {w d : Nat} (hd : 2 ≤ d ∧ d ≤ 10) {p s : ByteArray} (hp : codeB (w : Int) (d : Int) p = true) (hs : codeB (w : Int) (d : Int) s = true) : ∀ n, n ≤ w → (distN d p s n = 0 ↔ ∀ j, j < n → dg p j = dg s j)
  | 0, _ => by simp [distN]
  | n + 1, h => by
    have h0 := dist_zero hd hp hs n (by omega)
    have h1 := dist_bd hd hp hs n (by omega)
    have hx := code_dg hp (show n < w by omega)
    have hy := code_dg hs (show n < w by omega)
    have h2 := near_bd hd hx hy
    have h3 := near_zero hd hx hy
    unfold distN
    constructor
    · intro e j hj
      by_cases hjn : j = n
      · subst hjn; exact h3.mp (by omega)
      · exact h0.mp (by omega) j (by omega)
    · intro e
      have e1 := h0.mpr (fun j hj => e j (by omega))
      have e2 := h3.mpr (e n (by omega))
      omega
/-- The one place at which two codes at distance 1 are apart. -/
def DiffAt (d : Nat) (p s : ByteArray) (n i : Nat) : Prop := i < n ∧ nearV d (dg p i) (dg s i) = 1 ∧ ∀ j, j < n → j ≠ i → dg p j = dg s j
theorem dist_one {w d : Nat} (hd : 2 ≤ d ∧ d ≤ 10) {p s : ByteArray} (hp : codeB (w : Int) (d : Int) p = true) (hs : codeB (w : Int) (d : Int) s = true) : ∀ n, n ≤ w → (distN d p s n = 1 ↔ ∃ i, DiffAt d p s n i)
  | 0, _ => by
    constructor
    · intro h; simp [distN] at h
    · rintro ⟨i, h, _⟩; omega
  | n + 1, h => by
    have h0 := dist_one hd hp hs n (by omega)
    have hz := dist_zero hd hp hs n (by omega)
    have h1 := dist_bd hd hp hs n (by omega)
    have hx := code_dg hp (show n < w by omega)
    have hy := code_dg hs (show n < w by omega)
    have h2 := near_bd hd hx hy
    have h3 := near_zero hd hx hy
    unfold distN
    constructor
    · intro e
      by_cases hn : nearV d (dg p n) (dg s n) = 0
      · obtain ⟨i, hi, hi1, hi2⟩ := h0.mp (by omega)
        refine ⟨i, by omega, hi1, fun j hj hne => ?_⟩
        by_cases hjn : j = n
        · subst hjn; exact h3.mp hn
        · exact hi2 j (by omega) hne
      · have e0 := hz.mp (by omega)
        exact ⟨n, by omega, by omega, fun j hj hne => e0 j (by omega)⟩
    · rintro ⟨i, hi, hi1, hi2⟩
      by_cases hin : i = n
      · subst hin
        have := hz.mpr (fun j hj => hi2 j (by omega) (by omega))
        omega
      · have e1 := h0.mpr ⟨i, by omega, hi1, fun j hj hne => hi2 j (by omega) hne⟩
        have e2 := h3.mpr (hi2 n (by omega) (fun e => hin e.symm))
        omega
/-! turns -/
def turnT (d : Nat) (p : ByteArray) (i : Nat) (b : Int) : ByteArray := txt ((dgL p).set i ((dg p i + b) % (d : Int)))
theorem set_bd {w d : Nat} (hw : 1 ≤ w ∧ w ≤ 6) (hd : 2 ≤ d ∧ d ≤ 10) {p : ByteArray} (hp : codeB (w : Int) (d : Int) p = true) (i : Nat) (x : Int) (hx : 0 ≤ x ∧ x < (d : Int)) : digL ((dgL p).set i x) := by
  refine ⟨by rw [List.length_set, dgL_length, code_size hp]; omega, fun y hy => ?_⟩
  rcases List.mem_or_eq_of_mem_set hy with h | h
  · obtain ⟨j, hj, e⟩ := List.mem_iff_getElem.mp h
    have hj' : j < w := by rw [dgL_length, code_size hp] at hj; exact hj
    rw [dgL_get] at e
    have := code_dg hp hj'
    omega
  · omega
theorem turnT_size {w d : Nat} {p : ByteArray} (hp : codeB (w : Int) (d : Int) p = true) (i : Nat) (b : Int) : (turnT d p i b).size = w := by
  unfold turnT
  rw [txt_size, List.length_set, dgL_length, code_size hp]
theorem turnT_dg {w d : Nat} (hw : 1 ≤ w ∧ w ≤ 6) (hd : 2 ≤ d ∧ d ≤ 10) {p : ByteArray} (hp : codeB (w : Int) (d : Int) p = true) (i : Nat) (b : Int) (j : Nat) (hj : j < w) : dg (turnT d p i b) j = if j = i then (dg p i + b) % (d : Int) else dg p j := by
  have hx := step_bd hd (dg p i + b)
  have hl : j < ((dgL p).set i ((dg p i + b) % (d : Int))).length := by rw [List.length_set, dgL_length, code_size hp]; exact hj
  have h := bt_txt _ (set_bd hw hd hp i _ hx).2 j hl
  unfold turnT dg at *
  rw [h, List.getElem_set]
  by_cases e : j = i
  · subst e; rw [if_pos rfl, if_pos rfl]; omega
  · rw [if_neg (fun x => e x.symm), if_neg e, dgL_get]
    unfold dg
    omega
theorem turnT_code {w d : Nat} (hw : 1 ≤ w ∧ w ≤ 6) (hd : 2 ≤ d ∧ d ≤ 10) {p : ByteArray} (hp : codeB (w : Int) (d : Int) p = true) (i : Nat) (b : Int) : codeB (w : Int) (d : Int) (turnT d p i b) = true := by
  have hs := turnT_size hp i b
  rw [codeB_iff]
  refine ⟨by rw [hs], fun j hj => ?_⟩
  have hj' : j < w := by omega
  have h1 := turnT_dg hw hd hp i b j hj'
  have h2 := code_dg hp hj'
  have h3 := step_bd hd (dg p i + b)
  have h4 : 0 ≤ dg (turnT d p i b) j ∧ dg (turnT d p i b) j < (d : Int) := by
    rw [h1]; split <;> omega
  unfold dg at h4
  omega
theorem turned_ev {w d : Nat} (hw : 1 ≤ w ∧ w ≤ 6) (hd : 2 ≤ d ∧ d ≤ 10) {p : ByteArray} (hp : codeB (w : Int) (d : Int) p = true) (i : Nat) (hi : i < w) (b : Int) (hb : b = 1 ∨ b = -1) : Ev (fun K => impl_Lock_turned.f K w d p i b) (turnT d p i b) := by
  unfold impl_Lock_turned.f
  have hs := code_size hp
  have h1 := code_dg hp hi
  refine Ev.bind (digits_ev p (code_digs hw hd hp)) (Ev.pos (by omega) (Ev.pos (by rw [dgL_length]; omega) ?_))
  rw [rd_dgL p i (by omega), w64 (by omega) (by omega), Int.toNat_natCast]
  refine Ev.let_ (around_some _ _ (by omega) (by omega)) (Ev.bind (implText_ev _ (set_bd hw hd hp i _ (step_bd hd _))) (Ev.now _))
theorem hit_iff {w d : Nat} (hw : 1 ≤ w ∧ w ≤ 6) (hd : 2 ≤ d ∧ d ≤ 10) {p s : ByteArray} (hp : codeB (w : Int) (d : Int) p = true) (hs : codeB (w : Int) (d : Int) s = true) (i : Nat) (hi : i < w) (b : Int) :
    turnT d p i b = s ↔ (dg p i + b) % (d : Int) = dg s i ∧ ∀ j, j < w → j ≠ i → dg p j = dg s j := by
  constructor
  · rintro rfl
    refine ⟨by rw [turnT_dg hw hd hp i b i hi, if_pos rfl], fun j hj hne => by rw [turnT_dg hw hd hp i b j hj, if_neg hne]⟩
  · rintro ⟨h1, h2⟩
    refine code_ext (turnT_code hw hd hp i b) hs (fun j hj => ?_)
    rw [turnT_dg hw hd hp i b j hj]
    by_cases e : j = i
    · subst e; rw [if_pos rfl, h1]
    · rw [if_neg e, h2 j hj e]
/-- The turns of the wheels from i on. -/
def turnsR : Nat → Nat → List S59
  | 0, _ => []
  | n + 1, i => ⟨(i : Int), 1⟩ :: ⟨(i : Int), -1⟩ :: turnsR n (i + 1)
theorem turnsR_len : ∀ n i, (turnsR n i).length = 2 * n
  | 0, _ => rfl
  | n + 1, i => by simp [turnsR, turnsR_len n (i + 1)]; omega
theorem turns_l0 (w : Nat) (hw : w ≤ 6) : ∀ (n i : Nat) (acc : List S59), i + n = w → acc.length ≤ 2 * i → Ev (fun K => impl_turns.l0 K acc (w : Int) i) (acc ++ turnsR n i) := by
  intro n
  induction n with
  | zero =>
    intro i acc hi ha
    refine Ev.step (fun k => by rw [impl_turns.l0]) (Ev.neg (by omega) (Ev.val (Ev.now _) ?_))
    simp [turnsR]
  | succ n ih =>
    intro i acc hi ha
    refine Ev.step (fun k => by rw [impl_turns.l0]) (Ev.pos (by omega) ?_)
    refine Ev.let_ (v := [⟨(i : Int), 1⟩, ⟨(i : Int), -1⟩]) rfl ?_
    refine Ev.pos (by simp only [List.length_cons, List.length_nil]; omega) ?_
    rw [w64n (by omega)]
    have := ih (i + 1) (acc ++ [⟨(i : Int), 1⟩, ⟨(i : Int), -1⟩]) (by omega) (by simp; omega)
    refine Ev.val this ?_
    simp [turnsR]
theorem turns_ev (w : Nat) (hw : w ≤ 6) : Ev (fun K => impl_turns.f K w) (turnsR w 0) := by
  unfold impl_turns.f
  have := turns_l0 w hw w 0 [] (by omega) (by simp)
  simpa using this
/-- The first of the turns that leads from p to s. -/
def btwR (d : Nat) (p s : ByteArray) : List S59 → Int × Int × Bool
  | [] => (0, 0, false)
  | t :: ts => if turnT d p t.f0.toNat t.f1 = s then (t.f0, t.f1, true) else btwR d p s ts
def TurnOk (w : Nat) (t : S59) : Prop := (0 ≤ t.f0 ∧ t.f0 < (w : Int)) ∧ (t.f1 = 1 ∨ t.f1 = -1)
theorem turnsR_ok (w : Nat) : ∀ n i, i + n ≤ w → ∀ t ∈ turnsR n i, TurnOk w t
  | 0, _, _, t, h => by simp [turnsR] at h
  | n + 1, i, hi, t, h => by
    simp only [turnsR, List.mem_cons] at h
    rcases h with rfl | rfl | h
    · exact ⟨⟨by simp, by simp; omega⟩, .inl rfl⟩
    · exact ⟨⟨by simp, by simp; omega⟩, .inr rfl⟩
    · exact turnsR_ok w n (i + 1) (by omega) t h
theorem between_l0 {w d : Nat} (hw : 1 ≤ w ∧ w ≤ 6) (hd : 2 ≤ d ∧ d ≤ 10) {p s : ByteArray} (hp : codeB (w : Int) (d : Int) p = true) (l : List S59) (hl : l.length < 1000) (ho : ∀ t ∈ l, TurnOk w t) :
    ∀ (j i : Nat), i + j = l.length → Ev (fun K => impl_Lock_between.l0 K p s l (l.length : Int) i w d) (btwR d p s (l.drop i)) := by
  intro j
  induction j with
  | zero =>
    intro i hi
    refine Ev.step (fun k => by rw [impl_Lock_between.l0]) (Ev.neg (by omega) (Ev.val (Ev.now _) ?_))
    rw [List.drop_eq_nil_of_le (by omega)]
    rfl
  | succ j ih =>
    intro i hi
    have h1 : i < l.length := by omega
    have hr : rd_T59 l (i : Int) = l[i] := by simp [rd_T59, List.getD, h1]
    have hk := ho _ (List.getElem_mem h1)
    refine Ev.step (fun k => by rw [impl_Lock_between.l0]) (Ev.pos (by omega) (Ev.pos (by omega) (Ev.pos (by omega) ?_)))
    rw [hr, w64n (by omega), List.drop_eq_getElem_cons h1, btwR]
    obtain ⟨x, hx⟩ := Int.eq_ofNat_of_zero_le hk.1.1
    have e := turned_ev hw hd hp x (by have := hk.1.2; omega) _ hk.2
    rw [← hx] at e
    refine Ev.bind e ?_
    rw [hx, Int.toNat_natCast]
    by_cases h : turnT d p x l[i].f1 = s
    · rw [if_pos h]
      exact Ev.pos ((toList_iff _ _).mpr h) (Ev.now _)
    · rw [if_neg h]
      exact Ev.neg (fun e => h ((toList_iff _ _).mp e)) (ih (i + 1) (by omega))
/-- The turn that leads from one code to one at the distance 1. -/
def turnV (d : Nat) (p s : ByteArray) : Nat → Nat → S59
  | 0, _ => ⟨0, 0⟩
  | n + 1, i => if dg p i = dg s i then turnV d p s n (i + 1) else if (dg p i + 1) % (d : Int) = dg s i then ⟨(i : Int), 1⟩ else ⟨(i : Int), -1⟩
theorem turnV_at {w d : Nat} (hd : 2 ≤ d ∧ d ≤ 10) {p s : ByteArray} (hp : codeB (w : Int) (d : Int) p = true) (hs : codeB (w : Int) (d : Int) s = true) {q : Nat} (hq : DiffAt d p s w q) : ∀ n i, i + n = w → i ≤ q → turnV d p s n i = if (dg p q + 1) % (d : Int) = dg s q then ⟨(q : Int), 1⟩ else ⟨(q : Int), -1⟩
  | 0, i, hi, hiq => by have := hq.1; omega
  | n + 1, i, hi, hiq => by
    unfold turnV
    by_cases e : i = q
    · subst e
      have h1 := near_zero hd (code_dg hp hq.1) (code_dg hs hq.1)
      rw [if_neg (fun x => by have h2 := h1.mpr x; have := hq.2.1; omega)]
    · rw [if_pos (hq.2.2 i (by have := hq.1; omega) e)]
      exact turnV_at hd hp hs hq n (i + 1) (by omega) (by omega)
theorem btwR_at {w d : Nat} (hw : 1 ≤ w ∧ w ≤ 6) (hd : 2 ≤ d ∧ d ≤ 10) {p s : ByteArray} (hp : codeB (w : Int) (d : Int) p = true) (hs : codeB (w : Int) (d : Int) s = true) {q : Nat} (hq : DiffAt d p s w q) : ∀ n i, i + n = w → i ≤ q → btwR d p s (turnsR n i) = if (dg p q + 1) % (d : Int) = dg s q then ((q : Int), 1, true) else ((q : Int), -1, true)
  | 0, i, hi, hiq => by have := hq.1; omega
  | n + 1, i, hi, hiq => by
    have hiw : i < w := by omega
    have a1 := hit_iff hw hd hp hs i hiw 1
    have a2 := hit_iff hw hd hp hs i hiw (-1)
    unfold turnsR btwR
    simp only [Int.toNat_natCast]
    rw [show btwR d p s (⟨(i : Int), -1⟩ :: turnsR n (i + 1)) = if turnT d p i (-1) = s then ((i : Int), -1, true) else btwR d p s (turnsR n (i + 1)) by rw [btwR]; simp only [Int.toNat_natCast]]
    by_cases e : i = q
    · subst e
      have h1 := (near_one hd (code_dg hp hq.1) (code_dg hs hq.1)).mp hq.2.1
      by_cases h2 : (dg p i + 1) % (d : Int) = dg s i
      · rw [if_pos (a1.mpr ⟨h2, hq.2.2⟩), if_pos h2]
      · rw [if_neg (fun x => h2 (a1.mp x).1), if_neg h2, if_pos (a2.mpr ⟨h1.resolve_left h2, hq.2.2⟩)]
    · have hne : dg p q ≠ dg s q := fun x => by
        have h1 := (near_zero hd (code_dg hp hq.1) (code_dg hs hq.1)).mpr x
        have := hq.2.1; omega
      rw [if_neg (fun x => hne ((a1.mp x).2 q hq.1 (fun y => e y.symm))), if_neg (fun x => hne ((a2.mp x).2 q hq.1 (fun y => e y.symm)))]
      exact btwR_at hw hd hp hs hq n (i + 1) (by omega) (by omega)
theorem hit_dist {w d : Nat} (hw : 1 ≤ w ∧ w ≤ 6) (hd : 2 ≤ d ∧ d ≤ 10) {p s : ByteArray} (hp : codeB (w : Int) (d : Int) p = true) (hs : codeB (w : Int) (d : Int) s = true) {t : S59} (ht : TurnOk w t) (h : turnT d p t.f0.toNat t.f1 = s) : distN d p s w = 1 := by
  have hi : t.f0.toNat < w := by have := ht.1; omega
  have h1 := (hit_iff hw hd hp hs _ hi _).mp h
  refine (dist_one hd hp hs w (Nat.le_refl _)).mpr ⟨t.f0.toNat, hi, ?_, h1.2⟩
  refine (near_one hd (code_dg hp hi) (code_dg hs hi)).mpr ?_
  rcases ht.2 with e | e
  · rw [e] at h1; exact .inl h1.1
  · rw [e] at h1; exact .inr h1.1
theorem btwR_none {w d : Nat} (hw : 1 ≤ w ∧ w ≤ 6) (hd : 2 ≤ d ∧ d ≤ 10) {p s : ByteArray} (hp : codeB (w : Int) (d : Int) p = true) (hs : codeB (w : Int) (d : Int) s = true) (hn : ¬ distN d p s w = 1) : ∀ l : List S59, (∀ t ∈ l, TurnOk w t) → btwR d p s l = (0, 0, false)
  | [], _ => rfl
  | t :: ts, h => by
    rw [btwR, if_neg (fun x => hn (hit_dist hw hd hp hs (h t List.mem_cons_self) x))]
    exact btwR_none hw hd hp hs hn ts (fun x hx => h x (List.mem_cons_of_mem _ hx))
theorem between_ev {w d : Nat} (hw : 1 ≤ w ∧ w ≤ 6) (hd : 2 ≤ d ∧ d ≤ 10) {p s : ByteArray} (hp : codeB (w : Int) (d : Int) p = true) (hs : codeB (w : Int) (d : Int) s = true) :
    Ev (fun K => impl_Lock_between.f K w d p s) (if distN d p s w = 1 then ((turnV d p s w 0).f0, (turnV d p s w 0).f1, true) else (0, 0, false)) := by
  unfold impl_Lock_between.f
  refine Ev.bind (turns_ev w hw.2) ?_
  have ho := turnsR_ok w w 0 (by omega)
  refine Ev.val (between_l0 hw hd hp (turnsR w 0) (by rw [turnsR_len]; omega) ho _ 0 (Nat.zero_add _)) ?_
  rw [List.drop_zero]
  by_cases h : distN d p s w = 1
  · rw [if_pos h]
    obtain ⟨q, hq⟩ := (dist_one hd hp hs w (Nat.le_refl _)).mp h
    rw [btwR_at hw hd hp hs hq w 0 (by omega) (by omega), turnV_at hd hp hs hq w 0 (by omega) (by omega)]
    split <;> rfl
  · rw [if_neg h]
    exact btwR_none hw hd hp hs h _ ho
theorem turnV_hit {w d : Nat} (hw : 1 ≤ w ∧ w ≤ 6) (hd : 2 ≤ d ∧ d ≤ 10) {p s : ByteArray} (hp : codeB (w : Int) (d : Int) p = true) (hs : codeB (w : Int) (d : Int) s = true) (h : distN d p s w = 1) :
    TurnOk w (turnV d p s w 0) ∧ turnT d p (turnV d p s w 0).f0.toNat (turnV d p s w 0).f1 = s := by
  obtain ⟨q, hq⟩ := (dist_one hd hp hs w (Nat.le_refl _)).mp h
  have hq1 := hq.1
  have h1 := (near_one hd (code_dg hp hq.1) (code_dg hs hq.1)).mp hq.2.1
  rw [turnV_at hd hp hs hq w 0 (by omega) (by omega)]
  by_cases h2 : (dg p q + 1) % (d : Int) = dg s q
  · rw [if_pos h2]
    exact ⟨⟨⟨by simp, by simp; omega⟩, .inl rfl⟩, by simp only [Int.toNat_natCast]; exact (hit_iff hw hd hp hs q hq.1 1).mpr ⟨h2, hq.2.2⟩⟩
  · rw [if_neg h2]
    exact ⟨⟨⟨by simp, by simp; omega⟩, .inr rfl⟩, by simp only [Int.toNat_natCast]; exact (hit_iff hw hd hp hs q hq.1 (-1)).mpr ⟨h1.resolve_left h2, hq.2.2⟩⟩
theorem orTurn_l0 {w d : Nat} (hw : 1 ≤ w ∧ w ≤ 6) (hd : 2 ≤ d ∧ d ≤ 10) {p s : ByteArray} (hp : codeB (w : Int) (d : Int) p = true) (hs : codeB (w : Int) (d : Int) s = true) :
    ∀ (n i : Nat), i + n = w → Ev (fun K => spec_orTurn.l0 K (dgL p) (dgL s) (w : Int) i w d) ((turnV d p s n i).f0, (turnV d p s n i).f1) := by
  have h1 := code_size hp
  have h2 := code_size hs
  intro n
  induction n with
  | zero =>
    intro i hi
    refine Ev.step (fun k => by rw [spec_orTurn.l0]) (Ev.neg (by omega) (Ev.val (Ev.now _) ?_))
    rfl
  | succ n ih =>
    intro i hi
    have hx := code_dg hp (show i < w by omega)
    refine Ev.step (fun k => by rw [spec_orTurn.l0]) (Ev.pos (by omega) (Ev.pos (by omega) (Ev.pos (by rw [dgL_length]; omega) (Ev.pos (by rw [dgL_length]; omega) ?_))))
    rw [rd_dgL p i (by omega), rd_dgL s i (by omega), w64n (by omega), w64 (x := dg p i + 1) (by omega) (by omega)]
    unfold turnV
    by_cases e : dg p i = dg s i
    · rw [if_pos e]
      exact Ev.pos e (ih (i + 1) (by omega))
    · rw [if_neg e]
      refine Ev.neg e (Ev.let_ (l1Mod_some _ _ (by omega) (by omega)) ?_)
      by_cases e2 : (dg p i + 1) % (d : Int) = dg s i
      · exact Ev.pos e2 (Ev.val (Ev.now _) (by rw [if_pos e2]))
      · exact Ev.neg e2 (Ev.val (Ev.now _) (by rw [if_neg e2]))
theorem orTurn_ev {w d : Nat} (hw : 1 ≤ w ∧ w ≤ 6) (hd : 2 ≤ d ∧ d ≤ 10) {p s : ByteArray} (hp : codeB (w : Int) (d : Int) p = true) (hs : codeB (w : Int) (d : Int) s = true) :
    Ev (fun K => spec_orTurn.f K w d p s) ((turnV d p s w 0).f0, (turnV d p s w 0).f1) := by
  unfold spec_orTurn.f
  refine Ev.bind (whDigits_ev p (code_digs hw hd hp)) (Ev.bind (whDigits_ev s (code_digs hw hd hs)) ?_)
  rw [dgL_length, code_size hp]
  exact orTurn_l0 hw hd hp hs w 0 (by omega)
end Go.Proofs.YthpmpkmdjpaemaaGreat.Pure
