-- Printed by hp.py, a program of this session: a machine's side of laws, out of the translation; Lean checks it.
import Derived.Test.YthikcnbjfnkglaaVx0
import Derived.Test.YthikcnbjfnkglaaVx2
import Derived.Test.YthikcnbjfnkglaaVx3
namespace Go.Proofs.Ythikcnbjfnkglaa.V
open Go.RowKit Go.Proofs.YthikcnbjfnkglaaW.PrintWords Go.Proofs.YthikcnbjfnkglaaW.PrintLast Go.Proofs.YthikcnbjfnkglaaW.PrintMore
attribute [local go_sem] max2_int min2_int max_two min_two max_three min_three max_four min_four   -- for this text's walks alone
set_option linter.unusedVariables false
set_option linter.unusedSimpArgs false

/-! ### cmp_Or_int: function 86 -/
def orI (x y : Int) : Int := if x ≠ 0 then x else y
set_option maxHeartbeats 4000000 in
set_option maxRecDepth 100000 in
theorem orI_calls (g c : Nat) (x y : Int) (w : World) (h0 : w.cell? ⟨g, 0, none⟩ = some (.int .i64 x)) (h1 : w.cell? ⟨g, 1, none⟩ = some (.int .i64 y)) :
    Calls Try.prog 86 #[.slice (some ⟨g, 0, none⟩) 2 c] w fun e w' => e = .returned (.int .i64 (orI x y)) ∧ w' = w := by
  go_enter Try.func86, Try.ntmps86
  go_wp2
  go_loopg [8] 2 (fun gg v8 wr => wr = w ∧ ((v8 = .int .i64 0 ∧ 2 ≤ gg) ∨ (v8 = .int .i64 1 ∧ x = 0 ∧ 1 ≤ gg) ∨ (v8 = .int .i64 2 ∧ x = 0 ∧ y = 0)))
  case atStart => exact ⟨rfl, .inl ⟨rfl, Nat.le_refl _⟩⟩
  case round =>
    obtain ⟨rfl, h⟩ := hrel
    rcases h with ⟨rfl, hg⟩ | ⟨rfl, hx, hg⟩ | ⟨rfl, hx, hy⟩
    · by_cases hx : x = 0
      · have hb : (x != 0) = false := by simp [hx]
        have HX := Aside0.mk hx
        clear hx
        go_wp2
        go_roundg 1
        case measure => omega
        case rel => exact ⟨rfl, .inr (.inl ⟨rfl, HX.out, Nat.le_refl _⟩)⟩
      · have hb : (x != 0) = true := by simp [hx]
        have HX := Aside0.mk hx
        clear hx
        go_wp2
        go_ret
        exact ⟨by rw [show orI x y = x from if_pos HX.out]; rfl, rfl⟩
    · have HX := Aside0.mk hx
      clear hx
      by_cases hy : y = 0
      · have hb : (y != 0) = false := by simp [hy]
        have HY := Aside0.mk hy
        clear hy
        go_wp2
        go_roundg 0
        case measure => omega
        case rel => exact ⟨rfl, .inr (.inr ⟨rfl, HX.out, HY.out⟩)⟩
      · have hb : (y != 0) = true := by simp [hy]
        clear hy
        go_wp2
        go_ret
        exact ⟨by rw [show orI x y = y from if_neg (fun h => h HX.out)]; rfl, rfl⟩
    · have HX := Aside0.mk hx
      have HY := Aside0.mk hy
      clear hx hy
      go_wp2
      go_ret
      exact ⟨by rw [show orI x y = y from if_neg (fun h => h HX.out), HY.out]; rfl, rfl⟩


/-! ### cmp_Compare_int: function 87 -/
set_option maxHeartbeats 1000000 in
theorem cmpI_calls (x y : Int) (w : World) : Calls Try.prog 87 #[.int .i64 x, .int .i64 y] w fun e w' => e = .returned (.int .i64 (Lib.compareInt x y)) ∧ w' = w := by
  go_enter Try.func87, Try.ntmps87
  go_wp2
  all_goals (go_ret; refine ⟨?_, rfl⟩; unfold Lib.compareInt; (repeat' split) <;> first | rfl | (exfalso; omega))


/-! ### impl_PossibleHints_1: function 85 -/
def lexI (p o q r : Int) : Int := orI (Lib.compareInt p q) (Lib.compareInt o r)
set_option maxHeartbeats 4000000 in
set_option maxRecDepth 100000 in
theorem ph1_calls (g1 g2 c1 c2 : Nat) (p o q r : Int) (w : World) (h0 : w.cell? ⟨g1, 0, none⟩ = some (.int .i64 p)) (h1 : w.cell? ⟨g1, 1, none⟩ = some (.int .i64 o)) (h2 : w.cell? ⟨g2, 0, none⟩ = some (.int .i64 q)) (h3 : w.cell? ⟨g2, 1, none⟩ = some (.int .i64 r)) :
    Calls Try.prog 85 #[.slice (some ⟨g1, 0, none⟩) 2 c1, .slice (some ⟨g2, 0, none⟩) 2 c2] w fun e w' => e = .returned (.int .i64 (lexI p o q r)) ∧ ∃ n os, w' = Sort.grow (w.drewN n) os := by
  go_enter Try.func85, Try.ntmps85
  go_wp2
  go_region_held3 (fun w' => w'.cell? ⟨g1, 0, none⟩ = some (.int .i64 p) ∧ w'.cell? ⟨g1, 1, none⟩ = some (.int .i64 o) ∧ w'.cell? ⟨g2, 0, none⟩ = some (.int .i64 q) ∧ w'.cell? ⟨g2, 1, none⟩ = some (.int .i64 r)) (first | go_keep)
    (first | (go_at_call 87; refine (cmpI_calls _ _ _).mono ?_; rintro e w' ⟨rfl, rfl⟩) | (go_at_call 86; refine (orI_calls _ _ (Lib.compareInt p q) (Lib.compareInt o r) _ ?ha ?hb).mono ?_; (case ha => simp); (case hb => simp); rintro e w' ⟨rfl, rfl⟩))
  go_wp2
  go_ret
  exact ⟨rfl, 1, #[.cells #[.int .i64 (Lib.compareInt p q), .int .i64 (Lib.compareInt o r)] 3 (0, 0)], by rw [← Sort.alloc_eq_grow]; rfl⟩


/-! ### slices_SortFunc_int_int: function 84 -/
def sortL_ren : Go.Shelf.Ren := ⟨fun | 6 => 84 | 15 => 105 | 14 => 104 | 28 => 120 | 29 => 121 | 20 => 112 | 21 => 113 | 22 => 114 | 23 => 115 | 24 => 116 | 25 => 117 | 26 => 118 | 27 => 119 | 46 => 122 | 47 => 123 | 48 => 124 | 49 => 125 | 50 => 126 | 57 => 127 | n => n, fun | 22 => 61 | 24 => 56 | 25 => 100 | 3 => 3 | 39 => 115 | 0 => 0 | 53 => 127 | 55 => 129 | 4 => 4 | 46 => 121 | 45 => 120 | 50 => 37 | 5 => 5 | 9 => 9 | 66 => 130 | 70 => 134 | 76 => 136 | 77 => 68 | n => n, fun | n => n⟩
theorem sortL : Go.Proofs.SlLaysF.n6 Try.prog sortL_ren := {
  mixed := by kernel_rfl,
  f6 := ⟨Try.f84.name, by decide, Try.func84.trans (congrArg some (by kernel_rfl))⟩,
  f14 := ⟨Try.f104.name, by decide, Try.func104.trans (congrArg some (by kernel_rfl))⟩,
  f15 := Try.func105.trans (congrArg some (by kernel_rfl)),
  f20 := ⟨Try.f112.name, by decide, Try.func112.trans (congrArg some (by kernel_rfl))⟩,
  f21 := ⟨Try.f113.name, by decide, Try.func113.trans (congrArg some (by kernel_rfl))⟩,
  f22 := ⟨Try.f114.name, by decide, Try.func114.trans (congrArg some (by kernel_rfl))⟩,
  f23 := ⟨Try.f115.name, by decide, Try.func115.trans (congrArg some (by kernel_rfl))⟩,
  f24 := ⟨Try.f116.name, by decide, Try.func116.trans (congrArg some (by kernel_rfl))⟩,
  f25 := ⟨Try.f117.name, by decide, Try.func117.trans (congrArg some (by kernel_rfl))⟩,
  f26 := ⟨Try.f118.name, by decide, Try.func118.trans (congrArg some (by kernel_rfl))⟩,
  f27 := ⟨Try.f119.name, by decide, Try.func119.trans (congrArg some (by kernel_rfl))⟩,
  f28 := Try.func120.trans (congrArg some (by kernel_rfl)),
  f29 := Try.func121.trans (congrArg some (by kernel_rfl)),
  f46 := ⟨Try.f122.name, by decide, Try.func122.trans (congrArg some (by kernel_rfl))⟩,
  f47 := Try.func123.trans (congrArg some (by kernel_rfl)),
  f48 := Try.func124.trans (congrArg some (by kernel_rfl)),
  f49 := ⟨Try.f125.name, by decide, Try.func125.trans (congrArg some (by kernel_rfl))⟩,
  f50 := ⟨Try.f126.name, by decide, Try.func126.trans (congrArg some (by kernel_rfl))⟩,
  f57 := ⟨Try.f127.name, by decide, Try.func127.trans (congrArg some (by kernel_rfl))⟩,
  t0 := Try.underlying0,
  a0 := Try.isAgg0,
  z0 := Try.sizeOf0,
  v0 := Try.zeroValue0,
  t3 := Try.underlying3,
  a3 := Try.isAgg3,
  z3 := Try.sizeOf3,
  v3 := Try.zeroValue3,
  t4 := Try.underlying4,
  a4 := Try.isAgg4,
  z4 := Try.sizeOf4,
  v4 := Try.zeroValue4,
  t5 := Try.underlying5,
  a5 := Try.isAgg5,
  z5 := Try.sizeOf5,
  v5 := Try.zeroValue5,
  t9 := Try.underlying9,
  a9 := Try.isAgg9,
  z9 := Try.sizeOf9,
  v9 := Try.zeroValue9,
  t22 := Try.underlying61,
  a22 := Try.isAgg61,
  z22 := Try.sizeOf61,
  v22 := Try.zeroValue61,
  a24 := Try.isAgg56,
  z24 := Try.sizeOf56,
  t25 := Try.underlying100,
  a25 := Try.isAgg100,
  z25 := Try.sizeOf100,
  v25 := Try.zeroValue100,
  t39 := Try.underlying115,
  a39 := Try.isAgg115,
  z39 := Try.sizeOf115,
  v39 := Try.zeroValue115,
  t45 := Try.underlying120,
  a45 := Try.isAgg120,
  z45 := Try.sizeOf120,
  v45 := Try.zeroValue120,
  t46 := Try.underlying121,
  a46 := Try.isAgg121,
  z46 := Try.sizeOf121,
  v46 := Try.zeroValue121,
  t50 := Try.underlying37,
  a50 := Try.isAgg37,
  z50 := Try.sizeOf37,
  v50 := Try.zeroValue37,
  t53 := Try.underlying127,
  a53 := Try.isAgg127,
  z53 := Try.sizeOf127,
  v53 := Try.zeroValue127,
  t55 := Try.underlying129,
  a55 := Try.isAgg129,
  z55 := Try.sizeOf129,
  v55 := Try.zeroValue129,
  t66 := Try.underlying130,
  a66 := Try.isAgg130,
  z66 := Try.sizeOf130,
  v66 := Try.zeroValue130,
  t70 := Try.underlying134,
  a70 := Try.isAgg134,
  z70 := Try.sizeOf134,
  v70 := Try.zeroValue134,
  t76 := Try.underlying136,
  a76 := Try.isAgg136,
  z76 := Try.sizeOf136,
  v76 := Try.zeroValue136,
  t77 := Try.underlying68,
  a77 := Try.isAgg68,
  z77 := Try.sizeOf68,
  v77 := Try.zeroValue68 }
theorem cI_lt {x y : Int} (h : x < y) : Lib.compareInt x y = -1 := if_pos h
theorem cI_gt {x y : Int} (h : y < x) : Lib.compareInt x y = 1 := (if_neg (by omega)).trans (if_pos h)
theorem cI_eq (x : Int) : Lib.compareInt x x = 0 := (if_neg (Int.lt_irrefl x)).trans (if_neg (Int.lt_irrefl x))
theorem lexI_lt {p o q r : Int} (h : p < q ∨ p = q ∧ o < r) : lexI p o q r = -1 := by
  unfold lexI
  rcases h with h | ⟨rfl, h⟩
  · rw [cI_lt h]; rfl
  · rw [cI_eq, cI_lt h]; rfl
theorem lexI_gt {p o q r : Int} (h : q < p ∨ q = p ∧ r < o) : lexI p o q r = 1 := by
  unfold lexI
  rcases h with h | ⟨rfl, h⟩
  · rw [cI_gt h]; rfl
  · rw [cI_eq, cI_gt h]; rfl
theorem lexI_eq (p o : Int) : lexI p o p o = 0 := by
  unfold lexI
  rw [cI_eq, cI_eq]; rfl
set_option maxHeartbeats 4000000 in
theorem sortRR_calls (g n c : Nat) (rows : List (List Int)) (W : World) (base : Nat) (ok : Nat → Prop) (hS : Kd.S (Kd.slice 3 (Kd.int .i64)) 56 W base ok (.slice (some ⟨g, 0, none⟩) n c) rows) (P O : Nat → Int)
    (hrow : ∀ (i : Nat) (h : i < rows.length), rows[i] = [P i, O i]) (hasc : ∀ i j : Nat, i < j → j < n → P i < P j ∨ P i = P j ∧ O i < O j) (h0 : 0 < n) (hn : n ≤ 1000) :
    Calls Try.prog 84 #[.slice (some ⟨g, 0, none⟩) n c, .func (.func 85) #[] #[]] W fun e w' => e = .returned (.tuple #[]) ∧ Below W.heap.size W w' := by
  have hlen : n = rows.length := (Kd.S_reads' hS).1
  have hgl : g < W.heap.size := Kd.S_lt hS g rfl
  have hh : ∀ i : Fin n, ∃ v : Value, ∃ b cp, v = .slice (some ⟨b, 0, none⟩) 2 cp ∧ b ≠ g ∧ b < W.heap.size ∧ W.cell? ⟨g, i.val, none⟩ = some v ∧ W.cell? ⟨b, 0, none⟩ = some (.int .i64 (P i.val)) ∧ W.cell? ⟨b, 1, none⟩ = some (.int .i64 (O i.val)) := by
    intro i
    have hi := i.2
    obtain ⟨cs, hcl, hM, hcell⟩ := Kd.S_get hS [] (i.val : Int) (by omega) (by omega)
    have hget : rows.getD ((i.val : Int)).toNat [] = [P i.val, O i.val] := by
      rw [Int.toNat_natCast, List.getD_eq_getElem?_getD, List.getElem?_eq_getElem (by omega), Option.getD_some]
      exact hrow i.val (by omega)
    rw [hget] at hM
    obtain ⟨v, rfl, hR⟩ := hM
    obtain ⟨b, cp, ev, _, hb2, _⟩ := Kd.R_form hR (by simp)
    subst ev
    have hC := (Kd.R_reads' hR).2.2
    obtain ⟨a0, e0, c0⟩ := Kd.at_int hC 0 (by omega) (by simp)
    obtain ⟨a1, e1, c1⟩ := Kd.at_int hC 1 (by omega) (by simp)
    injection e0 with e0
    injection e1 with e1
    subst e0 e1
    have hne : b ≠ g := fun he => (hR.1 b rfl).2 (by rw [he]; rfl)
    have hc := hcell 0 _ rfl
    rw [show (Kd.slice 3 (Kd.int .i64)).sz = 1 from rfl, Nat.mul_one, Nat.add_zero, Int.toNat_natCast, add_plain] at hc
    rw [add_plain] at c0 c1
    exact ⟨_, b, cp, rfl, hne, hb2, hc, c0, c1⟩
  obtain ⟨f, hf⟩ := Classical.axiomOfChoice hh
  haveI : Inhabited (Fin n) := ⟨⟨0, h0⟩⟩
  obtain ⟨d, hd⟩ : ∃ d : Array (Fin n), d = Array.ofFn (fun i => i) := ⟨_, rfl⟩
  have hds : d.size = n := by rw [hd, Array.size_ofFn]
  have hdi : ∀ (j : Nat) (h : j < n), d[j]! = ⟨j, h⟩ := by
    intro j h
    rw [getElem!_pos d j (by omega)]
    subst hd
    simp
  have key : ∀ x y : Fin n, ltOf (fun x y : Fin n => lexI (P x.val) (O x.val) (P y.val) (O y.val)) x y = decide (x.val < y.val) := by
    intro x y
    unfold ltOf
    show decide (lexI (P x.val) (O x.val) (P y.val) (O y.val) < 0) = decide (x.val < y.val)
    rcases Nat.lt_trichotomy x.val y.val with h | h | h
    · rw [lexI_lt (hasc x.val y.val h y.2), decide_eq_true h]; rfl
    · rw [h, lexI_eq]; simp
    · rw [lexI_gt (hasc y.val x.val h x.2)]; simp; omega
  have hO : Sort.SWO (ltOf (fun x y : Fin n => lexI (P x.val) (O x.val) (P y.val) (O y.val))) := by
    refine ⟨fun x => ?_, fun x y z h1 h2 => ?_, fun x y z h1 h2 => ?_⟩
    · rw [key, decide_eq_false (Nat.lt_irrefl _)]
    · rw [key] at h1 h2 ⊢
      have := of_decide_eq_true h1
      have := of_decide_eq_true h2
      exact decide_eq_true (by omega)
    · rw [key] at h1 h2 ⊢
      have := of_decide_eq_false h1
      have := of_decide_eq_false h2
      exact decide_eq_false (by omega)
  have hT : ∀ x y : Fin n, ltOf (fun x y : Fin n => lexI (P x.val) (O x.val) (P y.val) (O y.val)) x y = false → ltOf (fun x y : Fin n => lexI (P x.val) (O x.val) (P y.val) (O y.val)) y x = false → x = y := by
    intro x y h1 h2
    rw [key] at h1 h2
    have := of_decide_eq_false h1
    have := of_decide_eq_false h2
    exact Fin.ext (by omega)
  have h1 : OneCell f := by
    intro x
    obtain ⟨b, cp, e, _⟩ := hf x
    rw [e]
    rfl
  have hHw : ∀ W' : World, W'.heap = W.heap → Sort.Holds f W' g 0 d := by
    intro W' hW j hj
    rw [hds] at hj
    rw [hdi j hj, Nat.zero_add]
    obtain ⟨b, cp, e, _, _, hc, _⟩ := hf ⟨j, hj⟩
    constructor
    · have : W'.cell? ⟨g, j, none⟩ = W.cell? ⟨g, j, none⟩ := by simp only [World.cell?, hW]
      rw [this]; exact hc
    · obtain ⟨cells, hb⟩ := Kd.S_typed hS g rfl
      have := blk_frozen hb j
      have e2 : W'.frozen? ⟨g, j, none⟩ = W.frozen? ⟨g, j, none⟩ := by simp only [World.frozen?, hW]
      rw [e2]; exact this
  have hcmp : CmpLays1 Try.prog 85 #[] f (fun x y : Fin n => lexI (P x.val) (O x.val) (P y.val) (O y.val)) g 0 d.size W := by
    intro m os dk hs x y
    obtain ⟨b1, p1, e1, n1, l1, _, c10, c11⟩ := hf x
    obtain ⟨b2, p2, e2, n2, l2, _, c20, c21⟩ := hf y
    have mv : ∀ (b j : Nat) (v : Value), b ≠ g → b < W.heap.size → W.cell? ⟨b, j, none⟩ = some v → (sortWorld f W g 0 m dk os).cell? ⟨b, j, none⟩ = some v := by
      intro b j v hne hlt hc
      unfold sortWorld
      rw [Sort.cell?_grow _ _ _ (by simpa [Sort.putRow, Sort.mapBlock, Sort.ahead] using hlt), Sort.cell?_putRow_other _ _ _ _ _ _ (.inl hne)]
      exact hc
    rw [e1, e2]
    exact ph1_calls b1 b2 p1 p2 (P x.val) (O x.val) (P y.val) (O y.val) _ (mv b1 0 _ n1 l1 c10) (mv b1 1 _ n1 l1 c11) (mv b2 0 _ n2 l2 c20) (mv b2 1 _ n2 l2 c21)
  have hmain := Any.slices_SortFunc_total sortL f h1 _ hO 85 #[] g 0 c d W (enters_of Try.func85 (by kernel_rfl) rfl) hcmp (hHw W rfl) hgl (by omega) hT
  rw [hds] at hmain
  refine hmain.mono ?_
  rintro e w' ⟨rfl, k, os, rfl⟩
  refine ⟨rfl, ?_⟩
  have hms : (d.toList.mergeSort fun x y => !(ltOf (fun x y : Fin n => lexI (P x.val) (O x.val) (P y.val) (O y.val))) y x).toArray = d := by
    have : (d.toList.mergeSort fun x y => !(ltOf (fun x y : Fin n => lexI (P x.val) (O x.val) (P y.val) (O y.val))) y x) = d.toList := by
      apply List.mergeSort_of_pairwise
      rw [List.pairwise_iff_getElem]
      intro i j hi hj hij
      have hi' : i < n := by simpa [hds] using hi
      have hj' : j < n := by simpa [hds] using hj
      have ei : d.toList[i] = ⟨i, hi'⟩ := by subst hd; simp
      have ej : d.toList[j] = ⟨j, hj'⟩ := by subst hd; simp
      rw [ei, ej, key]
      simp
      omega
    rw [this]
  rw [hms]
  unfold sortWorld
  rw [Sort.putRow_self f (Sort.ahead W k) g 0 d (hHw _ rfl)]
  exact ⟨rfl, rfl, rfl, by simp [Sort.grow, Sort.ahead], fun q hq => by rw [Sort.heap_grow_old _ _ (by simpa [Sort.ahead] using hq)]; rfl⟩


/-! ### impl_PossibleHints: function 50 -/
theorem ph_store {w W : World} {g t : Nat} (zs ys : List Value) (hl : ys.length = zs.length) (hb : W.heap[g]? = some (.cells zs.toArray t (0, 0))) (hB : Below w.heap.size w W) (hg : w.heap.size ≤ g) :
    (W.setCells g 0 ys).heap[g]? = some (.cells ys.toArray t (0, 0)) ∧ Below w.heap.size w (W.setCells g 0 ys) := by
  obtain ⟨cur', h3, h4, h5⟩ := setCells_row ys 0 W zs.toArray hb (by simp; omega)
  obtain ⟨s1, s2, s3, s4⟩ := setCells_same g ys 0 W
  have e : cur' = ys.toArray := by
    apply Array.toList_inj.mp
    rw [h5]
    simp [hl]
  rw [e] at h3
  exact ⟨h3, s1.trans hB.os, s2.trans hB.tape, s3.trans hB.output, by rw [s4]; exact hB.size, fun k hk => (setCells_far ys 0 k (by omega)).trans (hB.block k hk)⟩
theorem ph_there {W : World} {g t : Nat} {zs : List Value} (hb : W.heap[g]? = some (.cells zs.toArray t (0, 0))) (n : Nat) (hn : n = zs.length) : W.there g 0 n := by
  subst hn
  intro j hj
  rw [Nat.zero_add]
  refine ⟨?_, blk_frozen hb j⟩
  rw [blk_cell hb j]
  simp [hj]
theorem ph_range {W : World} {g t : Nat} {zs : List Value} (hb : W.heap[g]? = some (.cells zs.toArray t (0, 0))) : W.rangeAt g 0 zs := by
  intro j v hv
  rw [Nat.zero_add, blk_cell hb j, List.getElem?_toArray]
  exact hv
theorem ph_idx96 (mt : List Bool) (x : Int) (i : Nat) (hx : x = (i : Int)) (hi : i < 7) (hl : mt.length = 49) (w : World) :
    (Instr.index 96 (.agg (mt.map Value.bool).toArray) (.int .i64 x)).run Try.prog w = .ok (.agg (((mt.drop (i * 7)).take 7).map Value.bool).toArray) w := by
  subst hx
  have h1 : (mt.map Value.bool).toArray.extract (i * 7) (i * 7 + 7) = (((mt.drop (i * 7)).take 7).map Value.bool).toArray := by
    apply Array.toList_inj.mp
    simp [List.map_take, List.map_drop, List.extract]
  have h2 : (0 : Int) ≤ (i : Int) ∧ (i : Int) < 7 := by omega
  simp [Instr.index, asIntOf, run_underlying Try.underlying96, part, Try.isAgg95, Try.sizeOf95, h2, hi, h1]
theorem ph_idx95 (l : List Bool) (y : Int) (j : Nat) (hy : y = (j : Int)) (hj : j < 7) (hl : l.length = 7) (w : World) :
    (Instr.index 95 (.agg (l.map Value.bool).toArray) (.int .i64 y)).run Try.prog w = .ok (.bool (l.getD j false)) w := by
  subst hy
  have h2 : (0 : Int) ≤ (j : Int) ∧ (j : Int) < 7 := by omega
  simp [Instr.index, asIntOf, run_underlying Try.underlying95, part, Try.isAgg4, Try.sizeOf4, h2, hj, List.getElem?_eq_getElem (show j < l.length by omega)]
theorem ph_one (l : List Bool) : (l.map Value.bool).toArray.all (·.oneCell') = true := all_oneCell_toArray (fun v hv => by obtain ⟨b, _, rfl⟩ := List.mem_map.mp hv; rfl)
def phMet (k : Nat) (g : ByteArray) (met : List Bool) (s : ByteArray) : Option (List Bool) :=
  (impl_hint.f k g s).bind fun t => if (0 ≤ t.1 ∧ t.1 < 7) ∧ 0 ≤ t.2 ∧ t.2 < 7 then some (met.set (t.1.toNat * 7 + t.2.toNat) true) else none
def phIn (k : Nat) (codes : List ByteArray) (met : List Bool) (g : ByteArray) : Option (List Bool) := foldO (phMet k g) met codes
def phRows (met : List Bool) (q : Nat) : List (List Int) := ((List.range q).filter (fun q => met.getD q false)).map (fun q => [((q / 7 : Nat) : Int), ((q % 7 : Nat) : Int)])
def impl_PossibleHints.f (k : Nat) (a b : Int) : Option (List (List Int) × Bool) :=
  (impl_isSmall.f k a b 256).bind fun t => if t = true then
    (impl_Lock_fitting.f k a b []).bind fun codes => if codes.length ≤ 1000 then
      (foldO (phIn k codes) (List.replicate 49 false) codes).bind fun met => if 0 < (phRows met 49).length then some (phRows met 49, true) else none
    else none
  else some ([], false)
theorem impl_PossibleHints.mono : ∀ a b k, LeO (impl_PossibleHints.f k a b) (impl_PossibleHints.f (k + 1) a b) := fun a b k =>
  LeO.bind (impl_isSmall.mono _ _ _ _) (fun t => LeO.ite (LeO.bind (impl_Lock_fitting.mono _ _ _ _) (fun codes => LeO.ite (LeO.bind (foldO_mono (fun s x => foldO_mono (fun s x => LeO.bind (impl_hint.mono _ _ _) (fun _ => LeO.refl _)) _ _) _ _) (fun _ => LeO.refl _)) (LeO.refl _))) (LeO.refl _))
theorem phRows_true (mt : List Bool) (i j : Nat) (hj : j < 7) (h : mt.getD (i * 7 + j) false = true) : phRows mt (i * 7 + (j + 1)) = phRows mt (i * 7 + j) ++ [[(i : Int), (j : Int)]] := by
  unfold phRows
  rw [← Nat.add_assoc, List.range_succ, List.filter_append, List.map_append, List.filter_cons, if_pos h]
  simp only [List.filter_nil, List.map_cons, List.map_nil]
  rw [show (i * 7 + j) / 7 = i by omega, show (i * 7 + j) % 7 = j by omega]
theorem phRows_false (mt : List Bool) (i j : Nat) (h : mt.getD (i * 7 + j) false = false) : phRows mt (i * 7 + (j + 1)) = phRows mt (i * 7 + j) := by
  unfold phRows
  rw [← Nat.add_assoc, List.range_succ, List.filter_append, List.map_append, List.filter_cons, if_neg (by rw [h]; decide)]
  simp
theorem phRows_le (mt : List Bool) (q : Nat) : (phRows mt q).length ≤ q := by
  unfold phRows
  have := List.length_filter_le (fun q => mt.getD q false) (List.range q)
  simpa using this
theorem ph_bit (mt : List Bool) (i j : Nat) (hi : i < 7) (hj : j < 7) (hl : mt.length = 49) : ((mt.drop (i * 7)).take 7).getD j false = mt.getD (i * 7 + j) false := by
  simp only [List.getD_eq_getElem?_getD, List.getElem?_take, List.getElem?_drop, if_pos hj]
theorem phRows_two (mt : List Bool) (q i : Nat) (h : i < (phRows mt q).length) : (phRows mt q)[i] = [((phRows mt q).getD i []).getD 0 0, ((phRows mt q).getD i []).getD 1 0] := by
  have : (phRows mt q).getD i [] = (phRows mt q)[i] := by rw [List.getD_eq_getElem?_getD, List.getElem?_eq_getElem h, Option.getD_some]
  rw [this]
  simp [phRows]
theorem phRows_asc (mt : List Bool) (q i j : Nat) (hij : i < j) (h : j < (phRows mt q).length) :
    ((phRows mt q).getD i []).getD 0 0 < ((phRows mt q).getD j []).getD 0 0 ∨ ((phRows mt q).getD i []).getD 0 0 = ((phRows mt q).getD j []).getD 0 0 ∧ ((phRows mt q).getD i []).getD 1 0 < ((phRows mt q).getD j []).getD 1 0 := by
  have hi : i < (phRows mt q).length := by omega
  have e1 : (phRows mt q).getD i [] = (phRows mt q)[i] := by rw [List.getD_eq_getElem?_getD, List.getElem?_eq_getElem hi, Option.getD_some]
  have e2 : (phRows mt q).getD j [] = (phRows mt q)[j] := by rw [List.getD_eq_getElem?_getD, List.getElem?_eq_getElem h, Option.getD_some]
  rw [e1, e2]
  have hp : ((List.range q).filter (fun q => mt.getD q false)).Pairwise (· < ·) := List.Pairwise.filter _ List.pairwise_lt_range
  have hlen : (phRows mt q).length = ((List.range q).filter (fun q => mt.getD q false)).length := by simp [phRows]
  have := List.pairwise_iff_getElem.mp hp i j (by omega) (by omega) hij
  simp only [phRows, List.getElem_map, List.getD_cons_zero, List.getD_cons_succ]
  generalize ((List.range q).filter (fun q => mt.getD q false))[i]'(by omega) = a at *
  generalize ((List.range q).filter (fun q => mt.getD q false))[j]'(by omega) = b at *
  omega
set_option maxHeartbeats 8000000 in
set_option maxRecDepth 100000 in
theorem impl_PossibleHints.calls (k : Nat) (a b : Int) (r : List (List Int)) (r2 : Bool) (w : World) (h : impl_PossibleHints.f k a b = some (r, r2)) :
    Calls Try.prog 50 #[.agg #[.int .i64 a, .int .i64 b]] w fun e w' => ∃ v0_ : Value, e = .returned (.tuple #[v0_, .bool r2]) ∧ Kd.S (Kd.slice 3 (Kd.int .i64)) 56 w' w.heap.size (fun _ => True) v0_ r ∧ Below w.heap.size w w' := by
  have hu26 := Try.underlying26
  unfold impl_PossibleHints.f at h
  obtain ⟨t, ht, h⟩ := Option.bind_eq_some_iff.mp h
  have hsm : ∀ W, Calls Try.prog 76 #[.agg #[.int .i64 a, .int .i64 b], .int .i64 256] W _ := fun W => impl_isSmall.calls k a b 256 t W ht
  clear ht
  cases t with
  | false =>
    rw [if_neg (by decide)] at h
    obtain ⟨rfl, rfl⟩ : [] = r ∧ false = r2 := by simpa using h
    clear h
    go_enter Try.func50, Try.ntmps50
    go_wp2_with (go_at_call 76; refine (hsm _).mono ?_; rintro e w1 ⟨rfl, hb⟩; have HB := Aside0.mk hb; clear hb)
    go_ret2
    exact ⟨_, rfl, Kd.S_nil _ _ _ _ _, below_then (below_alloc (Below.refl _ _) _) (by simp) HB.out⟩
  | true =>
  rw [if_pos rfl] at h
  obtain ⟨codes, hc, h⟩ := Option.bind_eq_some_iff.mp h
  have hfit : ∀ W, Calls Try.prog 69 #[.agg #[.int .i64 a, .int .i64 b], .slice none 0 0] W _ := fun W => impl_Lock_fitting.calls k a b none 0 [] codes W (Kd.C_nil _ _) (by simp) hc
  by_cases hl : codes.length ≤ 1000
  case neg => rw [if_neg hl] at h; exact absurd h (by simp)
  rw [if_pos hl] at h
  obtain ⟨met, hm, h⟩ := Option.bind_eq_some_iff.mp h
  by_cases hp : 0 < (phRows met 49).length
  case neg => rw [if_neg hp] at h; exact absurd h (by simp)
  rw [if_pos hp] at h
  obtain ⟨h1, h2⟩ : phRows met 49 = r ∧ true = r2 := by simpa using h
  subst h1 h2
  have HM := Aside0.mk hm
  have HL := Aside0.mk hl
  have HP := Aside0.mk hp
  clear h hc hm hl hp
  go_enter Try.func50, Try.ntmps50
  have hi96 : (Try.prog.info? 96).map (·.size) = some 49 := by kernel_rfl
  have HI96 := Aside0.mk hi96
  clear hi96
  go_wp2_with (first
    | (go_at_call 76; refine (hsm _).mono ?_; rintro e w1 ⟨rfl, hb⟩; have HB := Aside0.mk (below_then (below_alloc (Below.refl w.heap.size w) _) (by simp) hb); have BX := Aside0.mk (blk_below (blk_new w _) hb); have hc0 : w1.cell? ⟨w.heap.size, 0, none⟩ = some (.int .i64 a) := (blk_cell BX.out 0).trans rfl; have hc1 : w1.cell? ⟨w.heap.size, 1, none⟩ = some (.int .i64 b) := (blk_cell BX.out 1).trans rfl; clear hb)
    | ((with_reducible refine gate_dst (N := 4) rfl ?_); refine box_event ?hg (N := 4) ?hd (cs := ((List.replicate 49 false).map Value.bool).toArray) (t := 96) ?hr ?_; (case hd => rfl); (case hg => rfl); (case hr => first | (go_simp; done) | (go_simp; rfl)); intro g4 hg w4 hbox hb; have BK4 := Aside0.mk hbox; have n0 := Aside0.mk (blk_below BX.out hb); have n1 := Aside0.mk (below_then HB.out HB.out.size hb); have GE4 : Aside0 (w.heap.size ≤ g4) := ⟨by rw [hg]; exact HB.out.size⟩; have NX : Aside0 (w.heap.size ≠ g4) := ⟨by rw [hg]; exact Nat.ne_of_lt (blk_lt BX.out)⟩; clear hbox hb hg BX HB hc0 hc1; have BX := n0; have HB := n1; clear n0 n1)
    | ((with_reducible refine gate_store (t := 96) (p := 4) rfl ?_); refine wpList_store_mid rfl 96 (.tmp 4) (.tmp 20) rfl g4 0 ((List.replicate 49 false).map Value.bool).toArray rfl rfl (ph_there BK4.out _ rfl) HI96.out (ph_one _) ?_; obtain ⟨W5, hW5⟩ : ∃ W5, W5 = w4.setCells g4 0 ((List.replicate 49 false).map Value.bool).toArray.toList := ⟨_, rfl⟩; have hst := ph_store (w := w) ((List.replicate 49 false).map Value.bool) ((List.replicate 49 false).map Value.bool).toArray.toList rfl BK4.out HB.out GE4.out; have hbx := (setCells_far ((List.replicate 49 false).map Value.bool).toArray.toList 0 (w := w4) w.heap.size NX.out).trans BX.out; rw [← hW5] at hst hbx ⊢; have n0 := Aside0.mk hst.1; have n1 := Aside0.mk hst.2; have hc0 : W5.cell? ⟨w.heap.size, 0, none⟩ = some (.int .i64 a) := (blk_cell hbx 0).trans rfl; have hc1 : W5.cell? ⟨w.heap.size, 1, none⟩ = some (.int .i64 b) := (blk_cell hbx 1).trans rfl; clear BK4 HB hst hW5 hbx BX; have BK4 := n0; have HB := n1; clear n0 n1)
    | (go_at_call 69; refine (hfit _).mono ?_; rintro e w5 ⟨vc, rfl, hr, hb⟩; obtain ⟨Ac, cc, ec⟩ := Kd.R_slice hr; subst ec; have n0 := Aside0.mk (blk_below BK4.out hb); have n1 := Aside0.mk (below_then HB.out HB.out.size hb); have HC : Aside0 (Kd.R Kd.string 9 w5 w.heap.size (fun k_ => k_ ≠ g4) (.slice Ac codes.length cc) codes) := ⟨Kd.R_lower (Kd.R_mono (Kd.R_bound hr) (fun q hq => by have := hq.2.1; have := blk_lt BK4.out; omega)) HB.out.size⟩; clear hr hb hc0 hc1 HB BK4; have BK4 := n0; have HB := n1; clear n0 n1))
  clear hsm hfit
  go_loopg [25] codes.length (fun gg v25 wr => ∃ (i : Nat) (mt : List Bool), v25 = .int .i64 (i : Int) ∧ i ≤ codes.length ∧ codes.length - i ≤ gg ∧ Aside0 (foldO (phIn k codes) mt (codes.drop i) = some met) ∧ Aside0 (mt.length = 49) ∧ Aside0 (wr.heap[g4]? = some (.cells (mt.map Value.bool).toArray 96 (0, 0))) ∧ Aside0 (Kd.R Kd.string 9 wr w.heap.size (fun k_ => k_ ≠ g4) (.slice Ac codes.length cc) codes) ∧ Aside0 (Below w.heap.size w wr))
  case atStart => exact ⟨0, List.replicate 49 false, rfl, by omega, by omega, by simpa using HM, ⟨by simp⟩, BK4, HC, HB⟩
  case round =>
    clear HM BK4 HC HB
    obtain ⟨i, mt, rfl, hi, hg, HM, HLM, BK4, HC, HB⟩ := hrel
    obtain ⟨x, hx⟩ : ∃ x : Int, x = (i : Int) := ⟨_, rfl⟩
    have HXI := Aside0.mk hx
    rw [← hx]
    by_cases hlt : i < codes.length
    · have hxlt : decide (x < (codes.length : Int)) = true := decide_eq_true (by omega)
      have H0 := HM.out
      rw [List.drop_eq_getElem_cons hlt, foldO] at H0
      obtain ⟨mt9, hin, H⟩ := Option.bind_eq_some_iff.mp H0
      unfold phIn at hin
      obtain ⟨g, hgd⟩ : ∃ g, g = codes[i] := ⟨_, rfl⟩
      rw [← hgd] at hin
      obtain ⟨gc, cc', ev, _, _, _⟩ := Kd.R_form HC.out (by omega)
      injection ev with ea en ec
      subst ea ec
      clear en
      obtain ⟨cx, _⟩ := Kd.R_celln ByteArray.empty HC.out x (by omega) (by omega)
      have hrd : rdOf ByteArray.empty codes x = g := by rw [hgd, hx]; unfold rdOf; simp [hlt]
      rw [hrd] at cx
      have q0 : (0 ≤ x) = True := eq_true (by omega)
      have q1 : (x < (codes.length : Int)) = True := eq_true (by omega)
      have HNX : Aside0 (wrap64 (x + 1) = ((i + 1 : Nat) : Int)) := ⟨by have := HL.out; unfold wrap64; omega⟩
      have HIN := Aside0.mk hin
      have HM2 := Aside0.mk H
      have HLT := Aside0.mk hlt
      have HG := Aside0.mk hg
      clear H H0 hin HM hrd hi hg
      clear hgd hx hlt
      go_wp2
      go_loopg [31] codes.length (fun gg v31 wx => ∃ (j : Nat) (m2 : List Bool), v31 = .int .i64 (j : Int) ∧ j ≤ codes.length ∧ codes.length - j ≤ gg ∧ Aside0 (foldO (phMet k g) m2 (codes.drop j) = some mt9) ∧ Aside0 (m2.length = 49) ∧ Aside0 (wx.heap[g4]? = some (.cells (m2.map Value.bool).toArray 96 (0, 0))) ∧ Aside0 (Kd.R Kd.string 9 wx w.heap.size (fun k_ => k_ ≠ g4) (.slice (some ⟨gc, 0, none⟩) codes.length cc) codes) ∧ Aside0 (Below w.heap.size w wx))
      case atStart => exact ⟨0, mt, rfl, by omega, by omega, by simpa using HIN, HLM, BK4, HC, HB⟩
      case round =>
        clear HIN HLM BK4 HC HB cx q0 q1
        obtain ⟨j, m2, rfl, hj, hgj, HM3, HLM, BK4, HC, HB⟩ := hrel
        obtain ⟨y, hy⟩ : ∃ y : Int, y = (j : Int) := ⟨_, rfl⟩
        have HYJ := Aside0.mk hy
        rw [← hy]
        by_cases hltj : j < codes.length
        · have hylt : decide (y < (codes.length : Int)) = true := decide_eq_true (by omega)
          have H0 := HM3.out
          rw [List.drop_eq_getElem_cons hltj, foldO] at H0
          obtain ⟨m3, hst0, H⟩ := Option.bind_eq_some_iff.mp H0
          unfold phMet at hst0
          obtain ⟨⟨p, o⟩, hh, hst⟩ := Option.bind_eq_some_iff.mp hst0
          obtain ⟨s, hs⟩ : ∃ s, s = codes[j] := ⟨_, rfl⟩
          rw [← hs] at hh
          dsimp only at hst
          by_cases hpo : (0 ≤ p ∧ p < 7) ∧ 0 ≤ o ∧ o < 7
          case neg => rw [if_neg hpo] at hst; exact absurd hst (by simp)
          rw [if_pos hpo] at hst
          have HST := Aside0.mk (Option.some.inj hst)
          obtain ⟨cx, _⟩ := Kd.R_celln ByteArray.empty HC.out y (by omega) (by omega)
          have hrd : rdOf ByteArray.empty codes y = s := by rw [hs, hy]; unfold rdOf; simp [hltj]
          rw [hrd] at cx
          have q0 : (0 ≤ y) = True := eq_true (by omega)
          have q1 : (y < (codes.length : Int)) = True := eq_true (by omega)
          have HNY : Aside0 (wrap64 (y + 1) = ((j + 1 : Nat) : Int)) := ⟨by have := HL.out; unfold wrap64; omega⟩
          have hhint : ∀ W, Calls Try.prog 58 #[.string g, .string s] W fun e w' => e = .returned (.tuple #[.int .i64 p, .int .i64 o]) ∧ Below W.heap.size W w' := fun W => impl_hint.calls k g s p o W hh
          have p0 : (0 ≤ p) = True := eq_true hpo.1.1
          have p1 : (p < 7) = True := eq_true hpo.1.2
          have o0 : (0 ≤ o) = True := eq_true hpo.2.1
          have o1 : (o < 7) = True := eq_true hpo.2.2
          have HPO := Aside0.mk hpo
          have HM4 := Aside0.mk H
          have HLTJ := Aside0.mk hltj
          have HGJ := Aside0.mk hgj
          clear H H0 HM3 hst hst0 hh hpo hrd hj hgj
          clear hs hy hltj
          go_wp2_with (go_at_call 58; go_loud (refine (hhint _).mono ?_; rintro e w6 ⟨rfl, hb⟩; have n0 := Aside0.mk (blk_below BK4.out hb); have n1 := Aside0.mk (below_then HB.out HB.out.size hb); have n2 := Aside0.mk (Kd.R_below HC.out hb); clear BK4 HB HC cx hb; have BK4 := n0; have HB := n1; have HC := n2; clear n0 n1 n2; obtain ⟨bv, hbv⟩ : ∃ bv, w6.cell? ⟨g4, p.toNat * 7 + o.toNat, none⟩ = some bv := ⟨_, (blk_cell BK4.out _).trans (Array.getElem?_eq_getElem (by simp only [List.size_toArray, List.length_map, HLM.out]; have := HPO.out; omega))⟩; have hfv := blk_frozen BK4.out (p.toNat * 7 + o.toNat)))
          go_roundg (codes.length - (j + 1))
          case measure => have := HGJ.out; have := HLTJ.out; omega
          case rel => exact ⟨j + 1, m3, by rw [HNY.out], by have := HLTJ.out; omega, Nat.le_refl _, HM4, ⟨by rw [← HST.out, List.length_set]; exact HLM.out⟩, ⟨blk_put BK4.out (p.toNat * 7 + o.toNat) (.bool true) (by rw [← HST.out]; simp [List.map_set])⟩, ⟨Kd.R_far (p := ⟨g4, p.toNat * 7 + o.toNat, none⟩) HC.out (fun _ hk => hk) _⟩, ⟨below_set HB.out GE4.out⟩⟩
        · have hde : j = codes.length := by omega
          have hylt : decide (y < (codes.length : Int)) = false := decide_eq_false (by omega)
          have he : m2 = mt9 := by
            have := HM3.out
            rw [hde, List.drop_eq_nil_of_le (Nat.le_refl _), foldO] at this
            exact Option.some.inj this
          subst he
          clear HM3 hy hltj hde hj hgj
          go_wp2
          go_roundg (codes.length - (i + 1))
          case measure => have := HG.out; have := HLT.out; omega
          case rel => exact ⟨i + 1, m2, by rw [HNX.out], by have := HLT.out; omega, Nat.le_refl _, HM2, HLM, BK4, HC, HB⟩
    · have hde : i = codes.length := by omega
      have hxlt : decide (x < (codes.length : Int)) = false := decide_eq_false (by omega)
      have he : mt = met := by
        have := HM.out
        rw [hde, List.drop_eq_nil_of_le (Nat.le_refl _), foldO] at this
        exact Option.some.inj this
      subst he
      clear HM hx hlt hde hi hg
      have hu96 := Try.underlying96
      have hu95 := Try.underlying95
      have HIN56 : Aside0 ((Try.prog.info? 56).map (fun i => (i.zero, i.size, i.bytes)) = some (some (.slice none 0 0), 1, 24)) := ⟨by kernel_rfl⟩
      have HU96 := Aside0.mk hu96
      have HU95 := Aside0.mk hu95
      have hi95 : (Try.prog.info? 95).map (·.size) = some 7 := by kernel_rfl
      have HI95 := Aside0.mk hi95
      clear hu96 hu95 hi95
      go_wp2_with ((with_reducible refine gate_dst (N := 48) rfl ?_); refine wpList_load_mid rfl 96 (.tmp 4) rfl g4 0 rfl (mt.map Value.bool) (.array 7 95) (ph_range (blk_alloc BK4.out _)) HU96.out rfl (by rw [List.length_map, HLM.out]; exact HI96.out) ?_)
      have HS0 : Aside0 (Kd.S (Kd.slice 3 (Kd.int .i64)) 56 (wr.alloc (.cells #[] 56)) w.heap.size (fun _ => True) (.slice (some ⟨wr.heap.size, 0, none⟩) 0 0) (phRows mt 0)) := ⟨⟨fun _ => 0, hw_R_lit (Kd.tag (fun _ => 0) (Kd.slice 3 (Kd.int .i64))) wr 56 w.heap.size wr.heap.size (xs := ([] : List (List Int)).zipIdx) (inner := []) (ok := fun _ => True) (okp := fun _ => False) rfl (Reps.none _ _) (fun _ h => h.elim) trivial HB.out.size (by simp)⟩⟩
      have n1 := Aside0.mk (below_alloc HB.out (.cells #[] 56))
      clear HB BK4 HC
      have HB := n1
      clear n1
      obtain ⟨W3, hW3⟩ : ∃ W3, W3 = wr.alloc (.cells #[] 56) := ⟨_, rfl⟩
      rw [← hW3] at HS0 HB ⊢
      clear hW3
      go_loopg [12, 49] 7 (fun gg v12 v49 wx => ∃ i : Nat, v49 = .int .i64 (i : Int) ∧ i ≤ 7 ∧ 7 - i ≤ gg ∧ Aside0 (Kd.S (Kd.slice 3 (Kd.int .i64)) 56 wx w.heap.size (fun _ => True) v12 (phRows mt (i * 7))) ∧ Aside0 (Below w.heap.size w wx))
      case atStart => exact ⟨0, rfl, by omega, by omega, HS0, HB⟩
      case round =>
        clear HS0 HB
        obtain ⟨i, rfl, hi, hg, HS, HB⟩ := hrel
        obtain ⟨x, hx⟩ : ∃ x : Int, x = (i : Int) := ⟨_, rfl⟩
        have HXI := Aside0.mk hx
        rw [← hx]
        obtain ⟨A2, c2, e2⟩ := Kd.S_slice HS.out
        subst e2
        by_cases hlt : i < 7
        · have hxlt : decide (x < 7) = true := decide_eq_true (by omega)
          have HLT := Aside0.mk hlt
          have HG := Aside0.mk hg
          have HNX : Aside0 (wrap64 (x + 1) = ((i + 1 : Nat) : Int)) := ⟨by unfold wrap64; omega⟩
          obtain ⟨rv, hrv⟩ : ∃ rv : Array Value, rv = (((mt.drop (i * 7)).take 7).map Value.bool).toArray := ⟨_, rfl⟩
          have hidx : ∀ W, (Instr.index 96 (.agg (mt.map Value.bool).toArray) (.int .i64 x)).run Try.prog W = .ok (.agg rv) W := fun W => by rw [hrv]; exact ph_idx96 mt x i HXI.out HLT.out HLM.out W
          have HRV := Aside0.mk hrv
          have HRS : Aside0 (rv.size = 7) := ⟨by rw [hrv]; simp [HLM.out]; have := HLT.out; omega⟩
          clear hrv
          clear hi hg hlt hx
          go_wp2_with (first
            | ((with_reducible refine gate_dst (N := 14) rfl ?_); go_loud (refine box_event ?hg (N := 14) ?hd (cs := ((List.replicate 7 false).map Value.bool).toArray) (t := 95) ?hr ?_; (case hd => rfl); (case hg => rfl); (case hr => first | (go_simp; done) | (go_simp; rfl)); intro g14 hg w4 hbox hb; have BK14 := Aside0.mk hbox; have n0 := Aside0.mk (Kd.S_below HS.out hb); have n1 := Aside0.mk (below_then HB.out HB.out.size hb); have GE14 : Aside0 (w.heap.size ≤ g14) := ⟨by rw [hg]; exact HB.out.size⟩; clear hbox hb hg HS HB; have HS := n0; have HB := n1; clear n0 n1))
            | ((with_reducible refine gate_store (t := 95) (p := 14) rfl ?_); go_loud (refine wpList_store_mid rfl 95 (.tmp 14) (.tmp 52) rfl g14 0 rv rfl rfl (ph_there BK14.out _ (by rw [HRS.out]; simp)) (by rw [HI95.out, HRS.out]) (by rw [HRV.out]; exact ph_one _) ?_; obtain ⟨W5, hW5⟩ : ∃ W5, W5 = w4.setCells g14 0 rv.toList := ⟨_, rfl⟩; have hst := ph_store (w := w) ((List.replicate 7 false).map Value.bool) rv.toList (by rw [Array.length_toList, HRS.out]; simp) BK14.out HB.out GE14.out; have hss := Kd.S_step (w1 := w4.setCells g14 0 rv.toList) (Kd.S_types HS.out BK14.out (by decide)) (fun q hq _ => setCells_far _ 0 q hq.2); rw [← hW5] at hst hss ⊢; have n0 := Aside0.mk hst.1; have n1 := Aside0.mk hst.2; have n2 := Aside0.mk (Kd.S_mono hss (ok' := fun _ => True) (fun _ _ => trivial)); clear BK14 HB HS hst hss hW5; have BK14 := n0; have HB := n1; have HS := n2; clear n0 n1 n2))
            | ((with_reducible refine gate_dst (N := 53) rfl ?_); refine wpList_load_mid rfl 95 (.tmp 14) rfl g14 0 rfl rv.toList (.array 7 4) (ph_range BK14.out) HU95.out rfl (by rw [HI95.out, Array.length_toList, HRS.out]) ?_))
          go_loopg [12, 54] 7 (fun gg v12 v54 wz => ∃ j : Nat, v54 = .int .i64 (j : Int) ∧ j ≤ 7 ∧ 7 - j ≤ gg ∧ Aside0 (Kd.S (Kd.slice 3 (Kd.int .i64)) 56 wz w.heap.size (fun _ => True) v12 (phRows mt (i * 7 + j))) ∧ Aside0 (Below w.heap.size w wz))
          case atStart => exact ⟨0, rfl, by omega, by omega, HS, HB⟩
          case round =>
            clear HS HB
            obtain ⟨j, rfl, hj, hgj, HS, HB⟩ := hrel
            obtain ⟨y, hy⟩ : ∃ y : Int, y = (j : Int) := ⟨_, rfl⟩
            have HYJ := Aside0.mk hy
            rw [← hy]
            obtain ⟨A5, c5, e5⟩ := Kd.S_slice HS.out
            subst e5
            by_cases hltj : j < 7
            · have hylt : decide (y < 7) = true := decide_eq_true (by omega)
              have HLTJ := Aside0.mk hltj
              have HGJ := Aside0.mk hgj
              have HNY : Aside0 (wrap64 (y + 1) = ((j + 1 : Nat) : Int)) := ⟨by unfold wrap64; omega⟩
              clear hj hgj hltj hy
              skip
              by_cases hbt : mt.getD (i * 7 + j) false = true
              · have HBT := Aside0.mk hbt
                clear hbt
                have hix : ∀ W, (Instr.index 95 (.agg rv) (.int .i64 y)).run Try.prog W = .ok (.bool true) W := fun W => by rw [HRV.out, ph_idx95 _ y j HYJ.out HLTJ.out (by simp [HLM.out]; have := HLT.out; omega), ph_bit mt i j HLT.out HLTJ.out HLM.out, HBT.out]
                go_wp2_with ((with_reducible refine gate_builtin (b := .append) (xs := #[.tmp 59, .tmp 63]) rfl ?_); at_builtin; refine Kd.S_append (Kd.slice 3 (Kd.int .i64)) (w0 := w) (W := wr.alloc (.cells #[.int .i64 x, .int .i64 y] 3)) w.heap.size rfl (.tmp 59) (.tmp 63) 61 56 (.slice none 0 0) 24 rfl Try.underlying61 HIN56.out rfl (by decide) (by omega) (.slice A5 (phRows mt (i * 7 + j)).length c5) (phRows mt (i * 7 + j)) [x, y] [.slice (some ⟨wr.heap.size, 0, none⟩) 2 2] (fun _ => True) (fun k_ => k_ = wr.heap.size) rfl (by first | rfl | (go_simp; done)) ?aP ?aK (fun _ _ => trivial) ?aO ?aB ?aS ?aL ?_; (case aP => exact ⟨_, rfl, hw_R_lit (Kd.int .i64) wr 3 w.heap.size wr.heap.size (xs := [x, y]) (inner := [.int .i64 x, .int .i64 y]) (ok := fun k_ => k_ = wr.heap.size) (okp := fun _ => False) rfl (Reps.one rfl (Reps.one rfl (Reps.none _ _))) (fun _ h => h.elim) rfl HB.out.size (by simp)⟩); (case aK => intro q hq; refine ⟨trivial, fun he => ?_⟩; have := Kd.S_lt HS.out q he.symm; omega); (case aO => exact Kd.S_mono (Kd.S_alloc (Kd.S_bound HS.out) _) (fun q hq => ⟨trivial, fun he => by have := hq.2.2.1; omega⟩)); (case aB => exact below_alloc HB.out _); (case aS => have := HB.out.size; have := World.size_alloc wr (.cells #[.int .i64 x, .int .i64 y] 3); omega); (case aL => have := phRows_le mt (i * 7 + j); have := HLT.out; have := HLTJ.out; omega); intro v1 w9 ho hb hg hat; have HS9 := Aside0.mk ho; have HB9 := Aside0.mk hb; clear ho hb hg hat)
                go_roundg (7 - (j + 1))
                case measure => have := HGJ.out; have := HLTJ.out; omega
                case rel => exact ⟨j + 1, by rw [HNY.out], by have := HLTJ.out; omega, Nat.le_refl _, ⟨by rw [phRows_true mt i j HLTJ.out HBT.out, ← HXI.out, ← HYJ.out]; exact HS9.out⟩, HB9⟩
              · have HBT := Aside0.mk (Bool.eq_false_iff.mpr hbt)
                clear hbt
                have hix : ∀ W, (Instr.index 95 (.agg rv) (.int .i64 y)).run Try.prog W = .ok (.bool false) W := fun W => by rw [HRV.out, ph_idx95 _ y j HYJ.out HLTJ.out (by simp [HLM.out]; have := HLT.out; omega), ph_bit mt i j HLT.out HLTJ.out HLM.out, HBT.out]
                go_wp2
                go_roundg (7 - (j + 1))
                case measure => have := HGJ.out; have := HLTJ.out; omega
                case rel => exact ⟨j + 1, by rw [HNY.out], by have := HLTJ.out; omega, Nat.le_refl _, ⟨by rw [phRows_false mt i j HBT.out]; exact HS.out⟩, HB⟩
            · have hde : j = 7 := by omega
              have hylt : decide (y < 7) = false := decide_eq_false (by omega)
              have HS7 : Aside0 (Kd.S (Kd.slice 3 (Kd.int .i64)) 56 wr w.heap.size (fun _ => True) (.slice A5 (phRows mt (i * 7 + j)).length c5) (phRows mt ((i + 1) * 7))) := ⟨by rw [show (i + 1) * 7 = i * 7 + j by omega]; exact HS.out⟩
              clear HS hj hgj hltj hy hde
              go_wp2
              go_roundg (7 - (i + 1))
              case measure => have := HG.out; have := HLT.out; omega
              case rel => exact ⟨i + 1, by rw [HNX.out], by have := HLT.out; omega, Nat.le_refl _, HS7, HB⟩
        · have hde : i = 7 := by omega
          have hxlt : decide (x < 7) = false := decide_eq_false (by omega)
          have HS49 : Aside0 (Kd.S (Kd.slice 3 (Kd.int .i64)) 56 wr w.heap.size (fun _ => True) (.slice A2 (phRows mt (i * 7)).length c2) (phRows mt 49)) := ⟨by have h := HS.out; rw [show i * 7 = 49 by omega] at h ⊢; exact h⟩
          have hn0 : (phRows mt (i * 7)).length = (phRows mt 49).length := by rw [show i * 7 = 49 by omega]
          clear HS hi hg hlt hx hde
          generalize (phRows mt (i * 7)).length = n9 at HS49 hn0 ⊢
          have hn9' : n9 = (phRows mt 49).length := hn0
          clear hn0
          obtain ⟨gs, cs, es, _, _, _⟩ := Kd.S_form HS49.out HP.out
          injection es with es e92 e93
          clear e92 e93
          subst es
          have HN9 := Aside0.mk hn9'
          have hsort := sortRR_calls gs n9 c2 (phRows mt 49) wr w.heap.size (fun _ => True) HS49.out (fun i => ((phRows mt 49).getD i []).getD 0 0) (fun i => ((phRows mt 49).getD i []).getD 1 0) (fun i h => phRows_two mt 49 i h) (fun i j hij hj => phRows_asc mt 49 i j hij (by rw [← hn9']; exact hj)) (by rw [hn9']; exact HP.out) (by have := phRows_le mt 49; omega)
          clear hn9'
          go_wp2_with (go_at_call 84; refine hsort.mono ?_; rintro e w9 ⟨rfl, hb⟩; have HB9 := Aside0.mk hb; clear hb)
          go_ret2
          exact ⟨_, rfl, Kd.S_below HS49.out HB9.out, below_then HB.out HB.out.size HB9.out⟩


/-! ### laws_eqIntS: function 46 -/
def laws_eqIntS.l0 : Nat → List Int → List Int → Int → Option (Bool)
  | 0, _, _, _ => none
  | k + 1, x0, x1, x5 => if x5 < (x0.length : Int) then (if 0 ≤ x5 then (if x5 < (x1.length : Int) then (if (rd x0 x5) = (rd x1 x5) then (laws_eqIntS.l0 k x0 x1 (wrap64 (x5 + 1))) else (some false)) else (none)) else (none)) else (some true)
def laws_eqIntS.f (k : Nat) (l0 : List Int) (l1 : List Int) : Option (Bool) := if (l0.length : Int) = (l1.length : Int) then (laws_eqIntS.l0 k l0 l1 0) else (some false)
theorem laws_eqIntS.mono_l : ∀ k, (∀ y0 y1 y2, LeO (laws_eqIntS.l0 k y0 y1 y2) (laws_eqIntS.l0 (k + 1) y0 y1 y2))
  | 0 => fun _ _ _ r h => by simp [laws_eqIntS.l0] at h
  | k + 1 => by
    have ih0 := laws_eqIntS.mono_l k
    · intro y0 y1 y2
      unfold laws_eqIntS.l0
      repeat' first
      | (with_reducible exact ih0 _ _ _)
      | (with_reducible exact LeO.refl _)
      | (with_reducible exact LeO.none _)
      | (with_reducible refine LeO.ite ?_ ?_)
      | (with_reducible refine LeO.bind ?_ (fun _ => ?_))
      | exact ih0 _ _ _
      | exact LeO.none _
      | refine LeO.ite ?_ ?_
      | refine LeO.bind ?_ (fun _ => ?_)
theorem laws_eqIntS.mono : ∀ a0 a1 k, LeO (laws_eqIntS.f k a0 a1) (laws_eqIntS.f (k + 1) a0 a1) := by
  intro a0 a1 k
  have ih0 := laws_eqIntS.mono_l k
  unfold laws_eqIntS.f
  repeat' first
      | (with_reducible exact ih0 _ _ _)
      | (with_reducible exact LeO.refl _)
      | (with_reducible exact LeO.none _)
      | (with_reducible refine LeO.ite ?_ ?_)
      | (with_reducible refine LeO.bind ?_ (fun _ => ?_))
      | exact ih0 _ _ _
      | exact LeO.none _
      | refine LeO.ite ?_ ?_
      | refine LeO.bind ?_ (fun _ => ?_)
set_option maxHeartbeats 8000000 in
set_option maxRecDepth 100000 in
theorem laws_eqIntS.calls (k : Nat) (A0 : Option Addr) (c0 : Nat) (l0 : List Int) (A1 : Option Addr) (c1 : Nat) (l1 : List Int) (r : Bool) (w : World) (hr0 : Kd.C (Kd.int .i64) w A0 l0.length l0) (hc0 : l0.length ≤ c0) (hr1 : Kd.C (Kd.int .i64) w A1 l1.length l1) (hc1 : l1.length ≤ c1) (h : laws_eqIntS.f k l0 l1 = some r) :
    Calls Try.prog 46 #[.slice A0 l0.length c0, .slice A1 l1.length c1] w fun e w' => e = .returned (.bool r) ∧ Drawn0 w w' := by
  have HR0 := Aside0.mk hr0
  have HC0 := Aside0.mk hc0
  clear hr0 hc0
  have HR1 := Aside0.mk hr1
  have HC1 := Aside0.mk hc1
  clear hr1 hc1
  have H : (if (l0.length : Int) = (l1.length : Int) then (laws_eqIntS.l0 k l0 l1 0) else (some false)) = some r := h
  clear h
  by_cases c3 : (l0.length : Int) = (l1.length : Int)
  · rw [if_pos c3] at H
    have c3b0 : ((l0.length : Int) == (l1.length : Int)) = true := beq_iff_eq.mpr c3
    have c3b1 : ((l0.length : Int) != (l1.length : Int)) = false := bne_eq_false_iff_eq.mpr c3
    have c3b2 : (l0.length == l1.length) = true := by first | simpa using c3 | (simp at c3 ⊢; omega)
    clear c3
    have H' := Aside0.mk H
    clear H
    go_enter Try.func46, Try.ntmps46
    go_wp2
    repeat (go_quiet (fail); try go_wp2)
    go_loopg [5] k (fun kq v5 w' => ∃ (x5_1 : Int), v5 = .int .i64 x5_1 ∧ Aside0 (laws_eqIntS.l0 kq l0 l1 x5_1 = some r) ∧ Aside0 (kq ≤ k) ∧ Drawn0 w w')
    case atStart => exact ⟨(0), (by first | rfl | (simp; done) | (simp [*]; done)), H', ⟨Nat.le_refl _⟩, by repeat (first | exact Drawn0.refl _ | apply Drawn0.step)⟩
    case round =>
      clear H'
      try clear c1
      try clear p2
      try clear c3
      try clear c3b0
      try clear c3b1
      try clear c3b2
      obtain ⟨x5_1, rfl, HA, HK1, ⟨m1, rfl⟩⟩ := hrel
      cases gk with
      | zero => exact absurd HA.out (by simp [laws_eqIntS.l0])
      | succ k1 =>
        have H := HA.out
        clear HA
        simp only [laws_eqIntS.l0] at H
        by_cases c4 : x5_1 < (l0.length : Int)
        · rw [if_pos c4] at H
          have c4b0 : decide (x5_1 < (l0.length : Int)) = true := decide_eq_true c4
          clear c4
          by_cases c5 : 0 ≤ x5_1
          · rw [if_pos c5] at H
            have c5b0 : decide (0 ≤ x5_1) = true := decide_eq_true c5
            clear c5
            by_cases c6 : x5_1 < (l1.length : Int)
            · rw [if_pos c6] at H
              have c6b0 : decide (x5_1 < (l1.length : Int)) = true := decide_eq_true c6
              clear c6
              by_cases c7 : (rd l0 x5_1) = (rd l1 x5_1)
              · rw [if_pos c7] at H
                have c7b0 : ((rd l0 x5_1) == (rd l1 x5_1)) = true := beq_iff_eq.mpr c7
                have c7b1 : ((rd l0 x5_1) != (rd l1 x5_1)) = false := bne_eq_false_iff_eq.mpr c7
                clear c7
                have H' := Aside0.mk H
                clear H
                have p207 : 0 ≤ (x5_1 : Int) := of_decide_eq_true (by first | (with_reducible assumption) | assumption)
                have q207 : x5_1 < (l0.length : Int) := of_decide_eq_true (by first | (with_reducible assumption) | assumption)
                obtain ⟨ad207, e207, hx207_0⟩ := Kd.at_int HR0.out x5_1 p207 q207
                cases e207
                replace p207 := eq_true p207
                replace q207 := eq_true q207
                have p208 : 0 ≤ (x5_1 : Int) := of_decide_eq_true (by first | (with_reducible assumption) | assumption)
                have q208 : x5_1 < (l1.length : Int) := of_decide_eq_true (by first | (with_reducible assumption) | assumption)
                obtain ⟨ad208, e208, hx208_0⟩ := Kd.at_int HR1.out x5_1 p208 q208
                cases e208
                replace p208 := eq_true p208
                replace q208 := eq_true q208
                go_wp2
                repeat (go_quiet (fail); try go_wp2)
                go_roundg k1
                case measure => have := HK1.out; omega
                case rel => exact ⟨(wrap64 (x5_1 + 1)), (by first | rfl | (simp; done) | (simp [*]; done)), H', ⟨by have := HK1.out; omega⟩, by repeat (first | exact Drawn0.refl _ | apply Drawn0.step)⟩
              · rw [if_neg c7] at H
                have c7b0 : ((rd l0 x5_1) == (rd l1 x5_1)) = false := beq_eq_false_iff_ne.mpr c7
                have c7b1 : ((rd l0 x5_1) != (rd l1 x5_1)) = true := bne_iff_ne.mpr c7
                obtain rfl := Option.some.inj H
                have p207 : 0 ≤ (x5_1 : Int) := of_decide_eq_true (by first | (with_reducible assumption) | assumption)
                have q207 : x5_1 < (l0.length : Int) := of_decide_eq_true (by first | (with_reducible assumption) | assumption)
                obtain ⟨ad207, e207, hx207_0⟩ := Kd.at_int HR0.out x5_1 p207 q207
                cases e207
                replace p207 := eq_true p207
                replace q207 := eq_true q207
                have p208 : 0 ≤ (x5_1 : Int) := of_decide_eq_true (by first | (with_reducible assumption) | assumption)
                have q208 : x5_1 < (l1.length : Int) := of_decide_eq_true (by first | (with_reducible assumption) | assumption)
                obtain ⟨ad208, e208, hx208_0⟩ := Kd.at_int HR1.out x5_1 p208 q208
                cases e208
                replace p208 := eq_true p208
                replace q208 := eq_true q208
                go_wp2
                repeat (go_quiet (fail); try go_wp2)
                go_ret
                exact ⟨by first | rfl | (simp; done) | (simp [*]; done), by repeat (first | exact Drawn0.refl _ | apply Drawn0.step)⟩
            · rw [if_neg c6] at H
              exact absurd H (by simp)
          · rw [if_neg c5] at H
            exact absurd H (by simp)
        · rw [if_neg c4] at H
          have c4b0 : decide (x5_1 < (l0.length : Int)) = false := decide_eq_false c4
          clear c4
          obtain rfl := Option.some.inj H
          go_wp2
          repeat (go_quiet (fail); try go_wp2)
          go_ret
          exact ⟨by first | rfl | (simp; done) | (simp [*]; done), by repeat (first | exact Drawn0.refl _ | apply Drawn0.step)⟩
  · rw [if_neg c3] at H
    have c3b0 : ((l0.length : Int) == (l1.length : Int)) = false := beq_eq_false_iff_ne.mpr c3
    have c3b1 : ((l0.length : Int) != (l1.length : Int)) = true := bne_iff_ne.mpr c3
    have c3b2 : (l0.length == l1.length) = false := by first | simpa using c3 | (simp at c3 ⊢; omega)
    obtain rfl := Option.some.inj H
    go_enter Try.func46, Try.ntmps46
    go_wp2
    repeat (go_quiet (fail); try go_wp2)
    go_ret
    exact ⟨by first | rfl | (simp; done) | (simp [*]; done), by repeat (first | exact Drawn0.refl _ | apply Drawn0.step)⟩

end Go.Proofs.Ythikcnbjfnkglaa.V
